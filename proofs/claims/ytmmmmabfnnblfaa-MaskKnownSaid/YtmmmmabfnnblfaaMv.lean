/-
  Walk of the law MaskMoves.
-/
import Derived.Test.YtmmmmabfnnblfaaRc
import Derived.Deep.RegionWith
import Derived.Deep.DeepCutAuto
set_option linter.unusedVariables false
set_option linter.unusedSimpArgs false
namespace Go.Proofs.Ytmmmmabfnnblfaa
open Go.RowKit

theorem and_low (M z : Nat) (h : z < 256) : M &&& z = M % 256 &&& z := by
  have h1 : 255 &&& z = z := and255 z h
  have h2 : M &&& 255 = M % 256 := Nat.and_two_pow_sub_one_eq_mod M 8
  rw [← h2, Nat.and_assoc, h1]
theorem tr1_ch8 {x y : Int} (M : Nat) (hM : M < 18446744073709551616) (hx : 0 ≤ x ∧ x ≤ 255) (hy : 0 ≤ y ∧ y ≤ 255) : tr1 M x y = ch8 M y x := by
  obtain ⟨X, rfl, hX⟩ := B8.nat hx
  obtain ⟨Y, rfl, hY⟩ := B8.nat hy
  rw [tr1_nat M X Y hX hY]
  unfold ch8
  rw [pk_nat M Y X hM (by omega) (by omega)]
  have h : pkN M Y X = swN (M % 256) X Y := by
    unfold pkN swN
    rw [Nat.xor_comm Y X, and_low M _ (Nat.xor_lt_two_pow (n := 8) hX hY)]
  have := swN8 (M % 256) X Y hX hY
  rw [h]; omega
theorem tr2_ch8 {x y : Int} (M : Nat) (hM : M < 18446744073709551616) (hx : 0 ≤ x ∧ x ≤ 255) (hy : 0 ≤ y ∧ y ≤ 255) : tr2 M x y = ch8 M x y := by
  obtain ⟨X, rfl, hX⟩ := B8.nat hx
  obtain ⟨Y, rfl, hY⟩ := B8.nat hy
  rw [tr2_nat M X Y hX hY]
  unfold ch8
  rw [pk_nat M X Y hM (by omega) (by omega)]
  have h : pkN M X Y = pkN (M % 256) X Y := by
    unfold pkN
    rw [and_low M _ (Nat.xor_lt_two_pow (n := 8) hX hY)]
  have := pkN8 (M % 256) X Y hX hY
  rw [h]; omega
theorem z_congr (f g : Int → Int → Int) : ∀ (xs ys : List Int), B8 xs → B8 ys → (∀ x y, (0 ≤ x ∧ x ≤ 255) → (0 ≤ y ∧ y ≤ 255) → f x y = g x y) → List.zipWith f xs ys = List.zipWith g xs ys
  | [], _, _, _, _ => rfl
  | _ :: _, [], _, _, _ => rfl
  | x :: xs, y :: ys, hx, hy, H => by
    simp only [List.zipWith_cons_cons]
    rw [H x y (hx x List.mem_cons_self) (hy y List.mem_cons_self), z_congr f g xs ys (fun a ha => hx a (List.mem_cons_of_mem _ ha)) (fun a ha => hy a (List.mem_cons_of_mem _ ha)) H]
theorem tr1_cpl (M : Nat) (hM : M < 18446744073709551616) (xs ys : List Int) (bx : B8 xs) (yb : B8 ys) : List.zipWith (tr1 M) xs ys = cpl M xs ys :=
  z_congr _ _ xs ys bx yb (fun x y hx hy => tr1_ch8 M hM hx hy)
theorem tr2_cpl (M : Nat) (hM : M < 18446744073709551616) (xs ys : List Int) (bx : B8 xs) (yb : B8 ys) : List.zipWith (tr2 M) xs ys = cpl M ys xs := by
  have h : List.zipWith (tr2 M) xs ys = List.zipWith (fun x y => ch8 M x y) xs ys := z_congr _ _ xs ys bx yb (fun x y hx hy => tr2_ch8 M hM hx hy)
  rw [h, cpl, List.zipWith_comm]

/-- What is lent lies so: the head g, the marks behind. -/
structure Lt (w0 w : World) (g c : Nat) (xs : List Int) : Prop where
  own : Own w w0.heap.size 5 .u8 (.slice (some ⟨g, 0, none⟩) (xs.length + 64) c) (lentL xs)
  bel : Below w0.heap.size w0 w
theorem Lt.blk {w0 w : World} {g c : Nat} {xs : List Int} (h : Lt w0 w g c xs) : ∃ rest, Blk w g 5 (xs.map (Value.int .u8) ++ ((marks 64).map (Value.int .u8) ++ rest)) ∧ xs.length + 64 + rest.length = c ∧ w0.heap.size ≤ g ∧ c ≤ maxLen := by
  rcases h.own.form with ⟨h1, _⟩ | ⟨g', c', rest, h1, hb, hB, hc, hm⟩
  · cases h1
  · have e1 := h1
    injection e1 with e1 _ e3
    injection e1 with e1
    injection e1 with e1
    subst e1 e3
    refine ⟨rest, by simpa [lentL] using hB, by rw [lentL_len] at hc; omega, hb, hm⟩
theorem Lt.mk' {w0 w : World} {g c : Nat} {xs : List Int} {rest : List Value} (hB : Blk w g 5 (xs.map (Value.int .u8) ++ ((marks 64).map (Value.int .u8) ++ rest))) (hc : xs.length + 64 + rest.length = c) (hg : w0.heap.size ≤ g) (hm : c ≤ maxLen) (hb : Below w0.heap.size w0 w) : Lt w0 w g c xs :=
  ⟨by have := Own.mk (k := .u8) (T := 5) (w := w) (base := w0.heap.size) (g := g) (c := c) (xs := lentL xs) (rest := rest) hg (by simpa [lentL] using hB) (by rw [lentL_len]; omega) hm; rw [lentL_len] at this; exact this, hb⟩

/-- Copy into the head of what is lent. -/
theorem Lt.copy (M : Nat) {w0 w : World} {g1 c1 g2 c2 : Nat} {xs ys : List Int} (h1 : Lt w0 w g1 c1 xs) (h2 : Lt w0 w g2 c2 ys) (hne : g1 ≠ g2) (hl : xs.length = ys.length) (bx : B8 xs) (yb : B8 ys) :
    Calls Try.prog 34 #[.int .u64 M, .slice (some ⟨g1, 0, none⟩) xs.length c1, .slice (some ⟨g2, 0, none⟩) ys.length c2] w fun e w' => e = .returned (.int .i64 0) ∧ Lt w0 w' g1 c1 (cpl M xs ys) ∧ Lt w0 w' g2 c2 ys ∧ Fr (fun k => k = g1) w w' := by
  obtain ⟨rest, hB, hc, hg, hm⟩ := h1.blk
  have hR : Rd w .u8 (some ⟨g2, 0, none⟩) ys := by
    obtain ⟨A2, c3, h3, _, _, hr, _⟩ := h2.own.slice
    injection h3 with h3
    subst h3
    have := hr.take ys.length
    rwa [lentL_take] at this
  refine (copy_blk M g1 c1 c2 _ xs ys _ w hB hR (fun a ha => by cases ha; exact fun e => hne e.symm) hl (by unfold maxLen at hm; omega) (fun i _ => bx.bytes i) (fun i _ => yb.bytes i)).mono ?_
  rintro e w' ⟨rfl, k1, hf⟩
  have hb' : Below w0.heap.size w0 w' := h1.bel.trans (hf.below h1.bel.size (fun k hk => by subst hk; exact hg))
  have hlen := cpl_len M xs ys hl
  exact ⟨rfl, Lt.mk' k1 (by rw [hlen]; exact hc) hg hm hb', ⟨h2.own.fr hf (fun g hg1 hk => by subst hk; simp [Value.ownBlock] at hg1; exact hne hg1.symm), hb'⟩, hf⟩
theorem Lt.trade (M : Nat) (hM : M < 18446744073709551616) {w0 w : World} {g1 c1 g2 c2 : Nat} {xs ys : List Int} (h1 : Lt w0 w g1 c1 xs) (h2 : Lt w0 w g2 c2 ys) (hne : g1 ≠ g2) (hl : xs.length = ys.length) (bx : B8 xs) (yb : B8 ys) :
    Calls Try.prog 37 #[.int .u64 M, .slice (some ⟨g1, 0, none⟩) xs.length c1, .slice (some ⟨g2, 0, none⟩) ys.length c2] w fun e w' => e = .returned (.int .i64 0) ∧ Lt w0 w' g1 c1 (cpl M xs ys) ∧ Lt w0 w' g2 c2 (cpl M ys xs) ∧ Fr (fun k => k = g1 ∨ k = g2) w w' := by
  obtain ⟨rest, hB, hc, hg, hm⟩ := h1.blk
  obtain ⟨rest2, hB2, hc2, hg2, hm2⟩ := h2.blk
  refine (trade_blk M g1 g2 c1 c2 xs ys _ _ w hB hB2 hne hl (by unfold maxLen at hm; omega) (by omega)).mono ?_
  rintro e w' ⟨rfl, k1, k2, hf⟩
  rw [tr1_cpl M hM xs ys bx yb] at k1
  rw [tr2_cpl M hM xs ys bx yb] at k2
  have hb' : Below w0.heap.size w0 w' := h1.bel.trans (hf.below h1.bel.size (fun k hk => by rcases hk with hk | hk <;> subst hk <;> assumption))
  have hlen := cpl_len M xs ys hl
  have hlen2 := cpl_len M ys xs hl.symm
  exact ⟨rfl, Lt.mk' k1 (by rw [hlen]; exact hc) hg hm hb', Lt.mk' k2 (by rw [hlen2]; exact hc2) hg2 hm2 hb', hf⟩
theorem Lt.kept {w0 w : World} {g c c2 : Nat} {A : Option Addr} {xs : List Int} {n m : Nat} (hn : n = xs.length + 64) (hmm : m = xs.length) (h : Lt w0 w g c xs) (hy : Rd w .u8 A xs) (hm : xs.length ≤ 140737488351232) :
    Calls Try.prog 35 #[.slice (some ⟨g, 0, none⟩) n c, .slice A m c2] w fun e w' => e = .returned (.bool true) ∧ Below w.heap.size w w' := by
  subst hn hmm
  refine (kept_own h.own hy hm).mono ?_
  rintro e w' ⟨rfl, hb⟩
  exact ⟨by simp, hb⟩
theorem Lt.later {w0 w w' : World} {g c : Nat} {xs : List Int} (h : Lt w0 w g c xs) (hb : Below w.heap.size w w') : Lt w0 w' g c xs := ⟨h.own.below hb, h.bel.trans (hb.mono h.bel.size)⟩
theorem Lt.of_made {w0 w1 w : World} {v : Value} {xs : List Int} (h : Own w w1.heap.size 5 .u8 v (lentL xs)) (h1 : Below w1.heap.size w1 w) (hb : Below w0.heap.size w0 w1) : ∃ g c, v = .slice (some ⟨g, 0, none⟩) (xs.length + 64) c ∧ w1.heap.size ≤ g ∧ g < w.heap.size ∧ xs.length + 64 ≤ c ∧ c ≤ 9223372036854775807 ∧ Lt w0 w g c xs := by
  obtain ⟨g, c, rfl, hg, h2, h3, _⟩ := lent_form h
  exact ⟨g, c, rfl, hg, (h.base_le (by simp [Value.ownBlock])).2, h2, h3, ⟨h.lower hb.size, hb.trans (h1.mono hb.size)⟩⟩

theorem Lt.drew {w0 w : World} {g c : Nat} {xs : List Int} (h : Lt w0 w g c xs) : Lt w0 w.drew g c xs := ⟨h.own, h.bel.drew⟩
theorem Lt.lt {w0 w : World} {g c : Nat} {xs : List Int} (h : Lt w0 w g c xs) : g < w.heap.size := (h.own.base_le (by simp [Value.ownBlock])).2
theorem Rd.draw1 {w : World} {k : IntKind} {A : Option Addr} {xs : List Int} (h : Rd w k A xs) : Rd w.drew k A xs := h
theorem cpl_B8 (M : Nat) (xs ys : List Int) : B8 (cpl M xs ys) := by
  induction xs generalizing ys with
  | nil => intro x hx; simp [cpl] at hx
  | cons a xs ih =>
    cases ys with
    | nil => intro x hx; simp [cpl] at hx
    | cons b ys =>
      intro x hx
      simp only [cpl, List.zipWith_cons_cons, List.mem_cons] at hx
      rcases hx with rfl | hx
      · unfold ch8; omega
      · exact ih ys x hx

set_option maxRecDepth 20000 in
set_option maxHeartbeats 4000000 in
theorem moves_walk (M : Nat) (A B : Option Addr) (c d : Nat) (xs ys : List Int) (w : World) (hM : M < 18446744073709551616) (hx : Rd w .u8 A xs) (hy : Rd w .u8 B ys) (bx : B8 xs) (yb : B8 ys) (lx : xs.length ≤ 140737488351232) (ly : ys.length ≤ 140737488351232) :
    Calls Try.prog 6 #[.int .u64 M, .slice A xs.length c, .slice B ys.length d] w fun e w' => e = .returned (.bool true) ∧ Below w.heap.size w w' := by
  have HX := Lib.hid hx
  have HYY := Lib.hid hy
  have BX := Lib.hid bx
  have BY := Lib.hid yb
  clear hx hy bx yb
  by_cases hl : xs.length = ys.length
  · have HL := Lib.hid hl
    clear hl
    go_enter Try.func6, Try.ntmps6
    go_wp2_with fail
    refine (lent_any A c xs w HX.out (by omega)).mono ?_
    rintro e w1 ⟨v1, rfl, o1, bw1⟩
    obtain ⟨g1, k1, rfl, hg1, hg1', hk1, hm1, L1⟩ := Lt.of_made o1 bw1 (Below.refl _ _)
    have T1 := Lib.hid L1
    clear o1 bw1 L1
    go_wp2_with fail
    refine (lent_any B d ys w1 (HYY.out.below T1.out.bel) (by omega)).mono ?_
    rintro e w2 ⟨v2, rfl, o2, bw2⟩
    obtain ⟨g2, k2, rfl, hg2, hg2', hk2, hm2, L2⟩ := Lt.of_made o2 bw2 T1.out.bel
    have T2 := Lib.hid L2
    have S1 := Lib.hid (T1.out.later bw2)
    have hne : g1 ≠ g2 := by omega
    have HNE := Lib.hid hne
    clear o2 bw2 L2 T1 hne
    go_wp2_with fail
    refine (rcopy_any M A B c d xs ys w2 hM (HX.out.below S1.out.bel) (HYY.out.below S1.out.bel) BX.out BY.out lx HL.out).mono ?_
    rintro e w3 ⟨v3, rfl, o3, bw3⟩
    have hcl := cpl_len M xs ys HL.out
    obtain ⟨A3, k3, rfl, _, _, r3, hA3⟩ := o3.slice
    have HA3 : Hid (∀ a, A3 = some a → ¬ (a.block = g1)) := Lib.hid (fun a ha e => by have := hA3 a ha; omega)
    clear hA3
    rw [hcl]
    have R3 := Lib.hid r3
    have W1 := Lib.hid (S1.out.later bw3)
    have W2 := Lib.hid (T2.out.later bw3)
    clear o3 bw3 r3 S1 T2
    go_wp2_with fail
    go_cut [50] (fun v50 wx => v50 = .bool false ∧ Lt w wx g2 k2 ys)
    case first =>
      go_region_with (first
        | (go_at_call 34; refine (Lt.copy M (w0 := w) W1.out.drew W2.out.drew HNE.out HL.out BX.out BY.out).mono ?_; rintro e w4 ⟨rfl, q1, q2, hf⟩; have C1 := Lib.hid q1; have C2 := Lib.hid q2; have R4 := Lib.hid (R3.out.draw1.fr hf HA3.out); clear q1 q2 hf)
        | (have zz := D2.out; clear zz; go_at_call 35; refine (Lt.kept rfl rfl D2.out (HYY.out.below D2.out.bel) ly).mono ?_; rintro e w6 ⟨rfl, hb6⟩; have E2 := Lib.hid (D2.out.later hb6); clear hb6)
        | (go_at_call 35; refine (Lt.kept (by rw [hcl]) hcl.symm C1.out R4.out (by rw [hcl]; exact lx)).mono ?_; rintro e w5 ⟨rfl, hb5⟩; have D1 := Lib.hid (C1.out.later hb5); have D2 := Lib.hid (C2.out.later hb5); clear hb5))
      all_goals
        go_wp2_with fail
        go_meet
        exact ⟨rfl, E2.out⟩
    case rest =>
      obtain ⟨rfl, hcut⟩ := hcut
      have F2 := Lib.hid hcut
      clear hcut
      go_wp2_with fail
      refine (lent_any A c xs _ (HX.out.below F2.out.bel) (by omega)).mono ?_
      rintro e w7 ⟨v7, rfl, o7, bw7⟩
      obtain ⟨g7, k7, rfl, hg7, hg7', hk7, hm7, L7⟩ := Lt.of_made o7 bw7 F2.out.bel
      have T7 := Lib.hid L7
      have S7 := Lib.hid (F2.out.later bw7)
      clear o7 bw7 L7
      go_wp2_with fail
      refine (rtrade_any M A B c d xs ys _ hM (HX.out.below S7.out.bel) (HYY.out.below S7.out.bel) BX.out BY.out lx HL.out).mono ?_
      rintro e w8 ⟨v4, v5, rfl, o4, o5, bw8⟩
      have hcl2 := cpl_len M ys xs HL.out.symm
      obtain ⟨A4, k4, rfl, _, _, r4, hA4⟩ := o4.slice
      obtain ⟨A5, k5, rfl, _, _, r5, hA5⟩ := o5.slice
      have hg2w : g2 < w7.heap.size := S7.out.lt
      have hg2c := F2.out.lt
      have HA4 : Hid (∀ a, A4 = some a → ¬ (a.block = g7 ∨ a.block = g2)) := Lib.hid (fun a ha e => by have := hA4 a ha; omega)
      have HA5 : Hid (∀ a, A5 = some a → ¬ (a.block = g7 ∨ a.block = g2)) := Lib.hid (fun a ha e => by have := hA5 a ha; omega)
      rw [hcl, hcl2]
      have R8 := Lib.hid r4
      have R9 := Lib.hid r5
      have U1 := Lib.hid (T7.out.later bw8)
      have U2 := Lib.hid (S7.out.later bw8)
      have HNE7 : Hid (g7 ≠ g2) := Lib.hid (by omega)
      clear o4 o5 bw8 r4 r5 hA4 hA5
      go_wp2_with fail
      go_region_with (first
        | (go_at_call 23; refine (works_any _).mono ?_; rintro e w12 ⟨rfl, hb12⟩; have FIN := Lib.hid (Y2.out.bel.trans (hb12.mono Y2.out.bel.size)); clear hb12)
        | (go_at_call 37; refine (Lt.trade M hM (w0 := w) U1.out.drew U2.out.drew HNE7.out HL.out BX.out BY.out).mono ?_; rintro e w9 ⟨rfl, q1, q2, hf⟩; have V1 := Lib.hid q1; have V2 := Lib.hid q2; have P8 := Lib.hid (R8.out.draw1.fr hf HA4.out); have P9 := Lib.hid (R9.out.draw1.fr hf HA5.out); clear q1 q2 hf)
        | (have zz := X2.out; clear zz; go_at_call 35; refine (Lt.kept (by rw [hcl2]) hcl2.symm X2.out Q9.out (by rw [hcl2]; exact ly)).mono ?_; rintro e w11 ⟨rfl, hb11⟩; have Y2 := Lib.hid (X2.out.later hb11); clear hb11)
        | (go_at_call 35; refine (Lt.kept (by rw [hcl]) hcl.symm V1.out P8.out (by rw [hcl]; exact lx)).mono ?_; rintro e w10 ⟨rfl, hb10⟩; have X2 := Lib.hid (V2.out.later hb10); have Q9 := Lib.hid (P9.out.below hb10); clear hb10))
      all_goals
        go_wp2_with fail
        go_ret
        exact ⟨rfl, FIN.out⟩
  · have HL := Lib.hid hl
    go_enter Try.func6, Try.ntmps6
    go_wp2_with fail
    refine (lent_any A c xs w HX.out (by omega)).mono ?_
    rintro e w1 ⟨v1, rfl, o1, bw1⟩
    obtain ⟨g1, k1, rfl, hg1, hg1', hk1, hm1, L1⟩ := Lt.of_made o1 bw1 (Below.refl _ _)
    have T1 := Lib.hid L1
    clear o1 bw1 L1 hl
    go_wp2_with fail
    refine (lent_any B d ys w1 (HYY.out.below T1.out.bel) (by omega)).mono ?_
    rintro e w2 ⟨v2, rfl, o2, bw2⟩
    obtain ⟨g2, k2, rfl, hg2, hg2', hk2, hm2, L2⟩ := Lt.of_made o2 bw2 T1.out.bel
    have T2 := Lib.hid L2
    have S1 := Lib.hid (T1.out.later bw2)
    clear o2 bw2 L2 T1
    go_wp2_with fail
    refine (rcopy_long M A B xs.length ys.length c d w2 HL.out).mono ?_
    rintro e w3 ⟨rfl, rfl⟩
    go_wp2_with fail
    go_cut [50] (fun v50 wx => v50 = .bool false ∧ Lt w wx g2 k2 ys)
    case first =>
      go_region_with (first
        | (go_at_call 34; refine (copy_long M _ _ xs.length ys.length k1 k2 _ HL.out).mono ?_; rintro e w4 ⟨rfl, rfl⟩; have C1 := Lib.hid S1.out.drew; have C2 := Lib.hid T2.out.drew)
        | (have zz := D2.out; clear zz; go_at_call 35; refine (Lt.kept rfl rfl D2.out (HYY.out.below D2.out.bel) ly).mono ?_; rintro e w6 ⟨rfl, hb6⟩; have E2 := Lib.hid (D2.out.later hb6); clear hb6)
        | (go_at_call 35; refine (Lt.kept rfl rfl C1.out (HX.out.below C1.out.bel) lx).mono ?_; rintro e w5 ⟨rfl, hb5⟩; have D1 := Lib.hid (C1.out.later hb5); have D2 := Lib.hid (C2.out.later hb5); clear hb5))
      all_goals
        go_wp2_with fail
        go_meet
        exact ⟨rfl, E2.out⟩
    case rest =>
      obtain ⟨rfl, hcut⟩ := hcut
      have F2 := Lib.hid hcut
      clear hcut
      go_wp2_with fail
      refine (lent_any A c xs _ (HX.out.below F2.out.bel) (by omega)).mono ?_
      rintro e w7 ⟨v7, rfl, o7, bw7⟩
      obtain ⟨g7, k7, rfl, hg7, hg7', hk7, hm7, L7⟩ := Lt.of_made o7 bw7 F2.out.bel
      have T7 := Lib.hid L7
      have S7 := Lib.hid (F2.out.later bw7)
      clear o7 bw7 L7
      go_wp2_with fail
      refine (rtrade_long M A B xs.length ys.length c d _ HL.out).mono ?_
      rintro e w8 ⟨rfl, rfl⟩
      go_wp2_with fail
      go_region_with (first
        | (go_at_call 23; refine (works_any _).mono ?_; rintro e w12 ⟨rfl, hb12⟩; have FIN := Lib.hid (Y2.out.bel.trans (hb12.mono Y2.out.bel.size)); clear hb12)
        | (go_at_call 37; refine (trade_long M _ _ xs.length ys.length k7 k2 _ HL.out).mono ?_; rintro e w9 ⟨rfl, rfl⟩; have V1 := Lib.hid T7.out.drew; have V2 := Lib.hid S7.out.drew)
        | (have zz := X2.out; clear zz; go_at_call 35; refine (Lt.kept rfl rfl X2.out (HYY.out.below X2.out.bel) ly).mono ?_; rintro e w11 ⟨rfl, hb11⟩; have Y2 := Lib.hid (X2.out.later hb11); clear hb11)
        | (go_at_call 35; refine (Lt.kept rfl rfl V1.out (HX.out.below V1.out.bel) lx).mono ?_; rintro e w10 ⟨rfl, hb10⟩; have X2 := Lib.hid (V2.out.later hb10); clear hb10))
      all_goals
        go_wp2_with fail
        go_ret
        exact ⟨rfl, FIN.out⟩
end Go.Proofs.Ytmmmmabfnnblfaa

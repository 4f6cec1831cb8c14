/-
  Walk: the law StreamPieces.
-/
import Derived.Test.YtldbmjkecmmmjaaTe
set_option linter.unusedVariables false
set_option linter.unusedSimpArgs false
namespace Go.Proofs.Ytldbmjkecmmmjaa
open Go.RowKit

theorem lay_cut (ks ns : List Int) (p : Nat) (xs : List Int) (a m : Nat) : ((lay ks ns p xs).drop a).take m = lay ks ns (p + a) ((xs.drop a).take m) := by
  apply list_ext0
  · rw [List.length_take, List.length_drop, lay_len, lay_len, List.length_take, List.length_drop]
  · intro j hj
    rw [List.length_take, List.length_drop, lay_len] at hj
    have h1 : j < m := by omega
    rw [lay_at _ _ _ _ _ (by rw [List.length_take, List.length_drop]; omega), List.getD_eq_getElem?_getD, List.getElem?_take_of_lt h1, List.getElem?_drop, ← List.getD_eq_getElem?_getD, lay_at _ _ _ _ _ (by omega)]
    congr 1
    · rw [List.getD_eq_getElem?_getD, List.getD_eq_getElem?_getD, List.getElem?_take_of_lt h1, List.getElem?_drop]
    · rw [Nat.add_assoc]
theorem tmod_lo (z : Int) (d : Nat) (hd : 0 < d) : -(d : Int) < Int.tmod z d := by
  have h3 := Int.tmod_lt_of_pos (-z) (b := (d : Int)) (by omega)
  rw [Int.neg_tmod] at h3
  omega

set_option maxRecDepth 100000 in
set_option maxHeartbeats 16000000 in
theorem pieces_law (A : Option Addr) (n cap : Nat) (xs : List Int) (C : Option Addr) (K kap : Nat) (zs ks ns : List Int) (c : Nat) (w : World) (hn : n = xs.length) (hr : Rd w .u8 A xs) (hB : B8 xs) (hl : xs.length ≤ 140737488351232) (hcap : n ≤ cap) (hcap2 : cap ≤ 9223372036854775807)
    (hK : K = zs.length) (hr2 : Rd w .i64 C zs) (hz : ∀ i, -9223372036854775808 ≤ zs.getD i 0 ∧ zs.getD i 0 ≤ 9223372036854775807) (hK2 : K ≤ 140737488355328)
    (hk : ks.length = 32) (hns : ns.length = 12) (bk : B8 ks) (bn : B8 ns) (hc : c < 4294967296) (OC : OurC ks ns c) :
    Calls Try.prog 11 #[.agg (BG ks ns c), .slice A n cap, .slice C K kap] w fun e w' => e = .returned (.bool true) ∧ Below w.heap.size w w' := by
  have HOC := Lib.hid OC
  have HR := Lib.hid hr
  have HN := Lib.hid hn
  have HB := Lib.hid hB
  have HR2 := Lib.hid hr2
  have HKE := Lib.hid hK
  have HZ := Lib.hid hz
  have HNEW : Hid (∀ W, Calls Try.prog 27 #[.agg (AY .u8 ks), .agg (AY .u8 ns), .int .u32 (c : Int)] W fun e w' => ∃ g, e = .returned (.pointer (some ⟨g, 0, none⟩)) ∧ W.heap.size ≤ g ∧ Blk w' g 87 (SGl ks ns (64 * c)) ∧ Below W.heap.size W w') := Lib.hid (fun W => new_any ks ns c W hk hns hc)
  have HSKP : Hid (∀ g (z p : Nat) W, z ≤ 274877906944 → Blk W g 87 (SGl ks ns p) → p + z ≤ 274877906944 → Calls Try.prog 31 #[.pointer (some ⟨g, 0, none⟩), .int .i64 (z : Int)] W fun e w' => e = .returned (.int .i64 0) ∧ Blk w' g 87 (SGl ks ns (p + z)) ∧ Fr (fun j => j = g) W w') := Lib.hid (fun g z p W hz hg hf => (skip_any g z ks ns p W (by omega) hg (by omega) hk hns).mono (fun e w' h => by
    obtain ⟨h1, h2, h3⟩ := h
    have e1 : skE p (z : Int) = 0 := by unfold skE; rw [if_neg (by omega), if_neg (by omega)]
    have e2 : skP p (z : Int) = p + z := by unfold skP; rw [if_neg (by omega), if_neg (by omega)]; simp
    rw [e1] at h1; rw [e2] at h2
    exact ⟨h1, h2, h3⟩))
  have HXOR : Hid (∀ g (A : Option Addr) m cap ys W p, m = ys.length → Rd W .u8 A ys → B8 ys → (∀ a, A = some a → a.block ≠ g) → Blk W g 87 (SGl ks ns p) → p + m ≤ 274877906944 → Calls Try.prog 28 #[.pointer (some ⟨g, 0, none⟩), .slice A m cap] W fun e w' => ∃ v, e = .returned (.tuple #[v, .int .i64 0]) ∧ Own w' W.heap.size 5 .u8 v (lay ks ns p ys) ∧ Blk w' g 87 (SGl ks ns (p + m)) ∧ Fr (fun j => j = g) W w') := Lib.hid (fun g A m cap ys W p hm hr hB hA hg hp => (xor_any g A m cap ys ks ns p W hm hr hB (fun _ => hA) (by omega) hg (by omega) hk hns bk bn).mono (fun e w' h => by
    rcases h with ⟨h1, _⟩ | ⟨_, v, h1, h2, h3, h4⟩
    · exact absurd h1 (by omega)
    · exact ⟨v, h1, h2, by rw [hm]; exact h3, h4⟩))
  have HAT : Hid (∀ g p W, Blk W g 87 (SGl ks ns p) → Calls Try.prog 29 #[.pointer (some ⟨g, 0, none⟩)] W fun e w' => e = .returned (.int .u64 (p : Int)) ∧ w' = W) := Lib.hid (fun g p W hg => at_any g ks ns p W hg hk hns)
  have I31 : Hid ((Try.prog.info? 31).map (·.size) = some ks.length) := Lib.hid (by rw [info31, hk])
  have I33 : Hid ((Try.prog.info? 33).map (·.size) = some ns.length) := Lib.hid (by rw [info33, hns])
  have hn47 : n ≤ 140737488351232 := by omega
  obtain ⟨D, hD⟩ : ∃ D, D = w.heap.size := ⟨_, rfl⟩
  have HR3 : Hid (∀ W, Blk W D 35 (BGl ks ns c) → W.rangeAt D 0 (ks.map (Value.int .u8)) ∧ W.rangeAt D 32 (ns.map (Value.int .u8)) ∧ W.cell? ⟨D, 44, none⟩ = some (.int .u32 (c : Int))) := Lib.hid (fun W h => BGl_range h hk hns)
  obtain ⟨w0, hw0⟩ : ∃ w0, w0 = w.alloc (.cells (BG ks ns c) 35) := ⟨_, rfl⟩
  have HXw0 : Hid (Blk w0 D 35 (BGl ks ns c)) := Lib.hid (by rw [hw0, hD, BG_eq]; exact Blk.new w 35 _)
  have B0 : Hid (Below D w w0) := Lib.hid (by rw [hw0, hD]; exact (Below.refl _ w).alloc (Nat.le_refl _) _)
  have HDE := Lib.hid hD
  have RW : Hid (∀ W, Below D w W → Rd W .u8 A xs ∧ Rd W .i64 C zs) := Lib.hid (fun W h => ⟨HR.out.below (by rw [← HDE.out]; exact h), HR2.out.below (by rw [← HDE.out]; exact h)⟩)
  obtain ⟨M, hM⟩ : ∃ M, M = 274877906944 - 64 * c := ⟨_, rfl⟩
  have HMM := Lib.hid hM
  have HLF : Hid (∀ W, Calls Try.prog 26 #[.int .u32 (c : Int)] W fun e w' => e = .returned (.int .u64 (M : Int)) ∧ W = w') := Lib.hid (fun W => by rw [hM]; exact (lleft_any c W hc).mono (fun e w' h => ⟨h.1, h.2.symm⟩))
  clear hk hns hr hB hl hn OC hr2 hz hK hM bk bn
  go_enter Try.func11, Try.ntmps11
  go_upto_region 1 with fail
  rw [← hD, ← hw0]
  clear hD hw0
  go_wp2_with fail
  refine (awake_any w0).mono ?_
  rintro e w1 ⟨rfl, b1⟩
  have HXw1 : Hid (Blk w1 D 35 (BGl ks ns c)) := Lib.hid (HXw0.out.below b1 HXw0.out.lt)
  have B1 : Hid (Below D w w1) := Lib.hid (B0.out.trans (b1.mono (Nat.le_of_lt HXw0.out.lt)))
  clear b1 HXw0 B0
  have hcx : w1.cell? ⟨D, 44, none⟩ = some (.int .u32 (c : Int)) := (HR3.out w1 HXw1.out).2.2
  go_wp2_with (first
    | (show wpList _ _ _ ({ dst := some 19, op := _, type := _, pos := _, after := _, guard := _ } :: _) _ _; refine wpList_load_AY rfl 31 _ rfl D 0 rfl .u8 ks _ (HR3.out w1 HXw1.out).1 Try.underlying31 rfl I31.out ?_)
    | (show wpList _ _ _ ({ dst := some 21, op := _, type := _, pos := _, after := _, guard := _ } :: _) _ _; refine wpList_load_AY rfl 33 _ rfl D 32 rfl .u8 ns _ (HR3.out w1 HXw1.out).2.1 Try.underlying33 rfl I33.out ?_))
  clear hcx
  refine (HNEW.out w1).mono ?_
  rintro e w2 ⟨g, rfl, hg, hbg, b2⟩
  have HXw2 : Hid (Blk w2 D 35 (BGl ks ns c)) := Lib.hid (HXw1.out.below b2 HXw1.out.lt)
  have B2 : Hid (Below D w w2) := Lib.hid (B1.out.trans (b2.mono (Nat.le_of_lt HXw1.out.lt)))
  have HDG : Hid (D < g) := Lib.hid (Nat.lt_of_lt_of_le HXw1.out.lt hg)
  have HG2 := Lib.hid hbg
  clear hg hbg b2 B1 HXw1
  go_upto_region 4 with fail
  refine wp_region_held_drew (S := fun w' => w'.heap[D]? = w2.heap[D]?) (by kernel_rfl) (rfl) (fun hHeld => ?_)
  have HHd := Lib.hid hHeld
  clear hHeld
  refine wpAnyH_take (i := 0) (oi := ⟨some 26, _, _, _, _, _⟩) (v := (.pointer (some ⟨D, 0, none⟩))) rfl (by kernel_rfl) (by kernel_rfl) (by kernel_rfl) (fun _ _ _ h => h) (Or.inl ⟨by rfl, ?_⟩) HHd.out ?_
  · intro w' hS; go_simp; try with_reducible rfl
  simp only [Act.put, List.setIfInBounds_toArray, List.set_cons_zero, List.set_cons_succ]
  refine wpAnyH_take (i := 1) (oi := ⟨some 27, _, _, _, _, _⟩) (v := (.agg (AY .u8 ks))) rfl (by kernel_rfl) (by kernel_rfl) (by kernel_rfl) (fun _ _ _ h => h) (Or.inl ⟨by rfl, ?_⟩) HHd.out ?_
  · intro w' hS; exact exec_load_AY 31 _ rfl D 0 (by rfl) .u8 ks _ (range_of_block (HR3.out w2 HXw2.out).1 hS) Try.underlying31 rfl I31.out
  simp only [Act.put, List.setIfInBounds_toArray, List.set_cons_zero, List.set_cons_succ]
  refine wpAnyH_take (i := 2) (oi := ⟨some 28, _, _, _, _, _⟩) (v := (.pointer (some ⟨D, 32, none⟩))) rfl (by kernel_rfl) (by kernel_rfl) (by kernel_rfl) (fun _ _ _ h => h) (Or.inl ⟨by rfl, ?_⟩) HHd.out ?_
  · intro w' hS; go_simp; try with_reducible rfl
  simp only [Act.put, List.setIfInBounds_toArray, List.set_cons_zero, List.set_cons_succ]
  refine wpAnyH_take (i := 3) (oi := ⟨some 29, _, _, _, _, _⟩) (v := (.agg (AY .u8 ns))) rfl (by kernel_rfl) (by kernel_rfl) (by kernel_rfl) (fun _ _ _ h => h) (Or.inl ⟨by rfl, ?_⟩) HHd.out ?_
  · intro w' hS; exact exec_load_AY 33 _ rfl D 32 (by rfl) .u8 ns _ (range_of_block (HR3.out w2 HXw2.out).2.1 hS) Try.underlying33 rfl I33.out
  simp only [Act.put, List.setIfInBounds_toArray, List.set_cons_zero, List.set_cons_succ]
  refine wpAnyH_take (i := 4) (oi := ⟨some 30, _, _, _, _, _⟩) (v := (.pointer (some ⟨D, 44, none⟩))) rfl (by kernel_rfl) (by kernel_rfl) (by kernel_rfl) (fun _ _ _ h => h) (Or.inl ⟨by rfl, ?_⟩) HHd.out ?_
  · intro w' hS; go_simp; try with_reducible rfl
  simp only [Act.put, List.setIfInBounds_toArray, List.set_cons_zero, List.set_cons_succ]
  refine wpAnyH_take (i := 5) (oi := ⟨some 31, _, _, _, _, _⟩) (v := (.int .u32 (c : Int))) rfl (by kernel_rfl) (by kernel_rfl) (by kernel_rfl) (fun _ _ _ h => h) (Or.inl ⟨by rfl, ?_⟩) HHd.out ?_
  · intro w' hS; have z0 : w'.cell? ⟨D, 44, none⟩ = some (.int .u32 (c : Int)) := (World.cell?_of_block (w := w2) (w' := w') hS).trans (HR3.out w2 HXw2.out).2.2; go_simp; try with_reducible rfl
  simp only [Act.put, List.setIfInBounds_toArray, List.set_cons_zero, List.set_cons_succ]
  refine wpAnyH_take (i := 6) (oi := ⟨some 32, _, _, _, _, _⟩) (v := (.slice A n cap)) rfl (by kernel_rfl) (by kernel_rfl) (by kernel_rfl) (fun _ _ _ h => h) (Or.inl ⟨by rfl, ?_⟩) HHd.out ?_
  · intro w' hS; go_simp; try with_reducible rfl
  simp only [Act.put, List.setIfInBounds_toArray, List.set_cons_zero, List.set_cons_succ]
  refine wpAnyH_ready (rs := [7]) (by kernel_rfl) (by simp) ?_
  refine AllReadyH.cons (o := ⟨some 33, _, _, _, _, _⟩) rfl (fun K hK => ?_) AllReadyH.nil
  rw [if_pos (by rfl)]
  go_simp
  refine (copied_any A n cap xs w2.drew HN.out ((RW.out w2 B2.out).1) (by have := HN.out; omega)).mono ?_
  rintro e wk ⟨v1, rfl, o1, b1⟩
  (try simp only [Act.put, List.setIfInBounds_toArray, List.set_cons_zero, List.set_cons_succ])
  refine hK.out _ _ ((b1.block D HXw2.out.lt).trans HHd.out) (fun hHeld => ?_)
  clear hK K
  have HH1 := Lib.hid hHeld
  clear hHeld HHd
  obtain ⟨A1, n1, c1, hv1⟩ : ∃ A n c, v1 = .slice A n c := by obtain ⟨A, c, h, _⟩ := o1.slice; exact ⟨A, _, c, h⟩
  subst hv1
  have HO1 : Hid (Rd wk .u8 A1 (xs) ∧ n1 = (xs).length) := Lib.hid (own_rd o1)
  have HB1 : Hid (Below w2.heap.size w2 wk) := Lib.hid ((⟨rfl, rfl, rfl, Nat.le_refl _, fun _ _ => rfl⟩ : Below w2.heap.size w2 w2.drew).trans b1)
  clear o1 b1
  refine wpAnyH_ready (rs := [8]) (by kernel_rfl) (by simp) ?_
  refine AllReadyH.cons (o := ⟨some 34, _, _, _, _, _⟩) rfl (fun K hK => ?_) AllReadyH.nil
  rw [if_pos (by rfl)]
  go_simp
  refine (HOC.out.one A1 n1 c1 (xs) wk HO1.out.2 HO1.out.1 HB.out (by have := HN.out; omega)).mono ?_
  rintro e w3 ⟨v2, rfl, o2, b2⟩
  (try simp only [Act.put, List.setIfInBounds_toArray, List.set_cons_zero, List.set_cons_succ])
  refine hK.out _ _ ((b2.block D (Nat.lt_of_lt_of_le HXw2.out.lt HB1.out.size)).trans HH1.out) (fun hHeld => ?_)
  clear hK K
  have HH2 := Lib.hid hHeld
  clear hHeld HH1
  have Bw3 : Hid (Below w2.heap.size w2 w3) := Lib.hid (HB1.out.trans (b2.mono HB1.out.size))
  have Ow3 : Hid (Own w3 w2.heap.size 5 .u8 v2 (ansL ks ns (64 * c) (xs))) := Lib.hid (o2.lower HB1.out.size)
  have HXw3 : Hid (Blk w3 D 35 (BGl ks ns c)) := Lib.hid (HXw2.out.below Bw3.out HXw2.out.lt)
  clear o2 b2 HB1 HO1
  obtain ⟨Aa, na, ca, hva⟩ : ∃ A n c, v2 = .slice A n c := by obtain ⟨A, c, h, _⟩ := Ow3.out.slice; exact ⟨A, _, c, h⟩
  subst hva
  refine wpAnyH_take (i := 9) (oi := ⟨some 25, _, _, _, _, _⟩) (v := (.tuple #[(.slice Aa na ca), (.int .i64 (ansE (64 * c) (xs).length))])) rfl (by kernel_rfl) (by kernel_rfl) (by kernel_rfl) (fun _ _ _ h => h) (Or.inl ⟨by rfl, ?_⟩) HH2.out ?_
  · intro w' hS; go_simp; try with_reducible rfl
  simp only [Act.put, List.setIfInBounds_toArray, List.set_cons_zero, List.set_cons_succ]
  refine wpAnyH_take (i := 10) (oi := ⟨some 35, _, _, _, _, _⟩) (v := (.slice Aa na ca)) rfl (by kernel_rfl) (by kernel_rfl) (by kernel_rfl) (fun _ _ _ h => h) (Or.inl ⟨by rfl, ?_⟩) HH2.out ?_
  · intro w' hS; go_simp; try with_reducible rfl
  simp only [Act.put, List.setIfInBounds_toArray, List.set_cons_zero, List.set_cons_succ]
  refine wpAnyH_take (i := 11) (oi := ⟨some 36, _, _, _, _, _⟩) (v := (.int .i64 (ansE (64 * c) (xs).length))) rfl (by kernel_rfl) (by kernel_rfl) (by kernel_rfl) (fun _ _ _ h => h) (Or.inl ⟨by rfl, ?_⟩) HH2.out ?_
  · intro w' hS; go_simp; try with_reducible rfl
  simp only [Act.put, List.setIfInBounds_toArray, List.set_cons_zero, List.set_cons_succ]
  refine wpAnyH_take (i := 12) (oi := ⟨some 8, _, _, _, _, _⟩) (v := (.slice Aa na ca)) rfl (by kernel_rfl) (by kernel_rfl) (by kernel_rfl) (fun _ _ _ h => h) (Or.inl ⟨by rfl, ?_⟩) HH2.out ?_
  · intro w' hS; go_simp; try with_reducible rfl
  simp only [Act.put, List.setIfInBounds_toArray, List.set_cons_zero, List.set_cons_succ]
  refine wpAnyH_take (i := 13) (oi := ⟨some 9, _, _, _, _, _⟩) (v := (.int .i64 (ansE (64 * c) (xs).length))) rfl (by kernel_rfl) (by kernel_rfl) (by kernel_rfl) (fun _ _ _ h => h) (Or.inl ⟨by rfl, ?_⟩) HH2.out ?_
  · intro w' hS; go_simp; try with_reducible rfl
  simp only [Act.put, List.setIfInBounds_toArray, List.set_cons_zero, List.set_cons_succ]
  refine wpAnyH_done (by kernel_rfl) ?_ _
  have BA : Hid (Below D w w3) := Lib.hid (B2.out.trans (Bw3.out.mono (Nat.le_of_lt HXw2.out.lt)))
  have HG3 : Hid (Blk w3 g 87 (SGl ks ns (64 * c + 0))) := Lib.hid (HG2.out.below Bw3.out HG2.out.lt)
  have HGW : Hid (g < w2.heap.size) := Lib.hid HG2.out.lt
  rw [← HN.out]
  by_cases hfa : n ≤ M
  · have hE : ansE (64 * c) n = 0 := by unfold ansE; rw [if_pos (by have := HMM.out; omega)]
    have hL : ansL ks ns (64 * c) xs = lay ks ns (64 * c) xs := by unfold ansL; rw [if_pos (by have := HMM.out; have := HN.out; omega)]
    rw [hE]
    rw [hL] at Ow3
    have hna : na = n := by rw [(own_rd Ow3.out).2, lay_len, HN.out]
    subst hna
    clear hE hL HG2 B2 HXw2
    have hcw : na ≤ ca ∧ ca ≤ 9223372036854775807 := by
      obtain ⟨A', c', h, h1, h2, _⟩ := Ow3.out.slice
      injection h with h3 h4 h5
      unfold maxLen at h2
      rw [lay_len, ← HN.out] at h1
      omega
    go_wp2_with fail
    go_loopw [10, 11] (fun av iv wr => ∃ a i : Nat, a ≤ na ∧ i ≤ K + 1 ∧ av = .int .i64 a ∧ iv = .int .i64 i ∧ Hid (Blk wr g 87 (SGl ks ns (64 * c + a))) ∧ Hid (Fr (fun j => j = g) w3 wr)) (fun _ iv _ => K + 1 - (intOf iv).toNat)
    case atStart => exact ⟨0, 0, Nat.zero_le _, Nat.zero_le _, rfl, rfl, HG3, Lib.hid (Fr.refl _ _)⟩
    case round =>
      clear HG3
      obtain ⟨a, i, han, hiK, rfl, rfl, HG, HF⟩ := hrel
      have HWr : Hid (Below D w wr) := Lib.hid (BA.out.trans (HF.out.below (by have := HXw3.out.lt; omega) (fun j hj => by have := HDG.out; omega)))
      by_cases hgo : i ≤ K ∧ a < na
      · obtain ⟨hik, hlt⟩ := hgo
        have hd1 : decide ((i : Int) ≤ (K : Int)) = true := by simp; omega
        have hd2 : decide ((a : Int) < (na : Int)) = true := by simp; omega
        obtain ⟨d, hd⟩ : ∃ d, d = na - a := ⟨_, rfl⟩
        have hwd : IntKind.i64.wrap ((na : Int) - (a : Int)) = (d : Int) := by
          have : (na : Int) - (a : Int) = (d : Int) := by omega
          rw [this]; simp [IntKind.wrap, IntKind.bits, IntKind.signed]; omega
        have hwd0 : (na : Int) - (a : Int) = (d : Int) := by omega
        have hd1' : 1 ≤ d := by omega
        have HDD := Lib.hid hd
        have hwd1 : IntKind.i64.wrap ((d : Int) + 1) = (d : Int) + 1 := by simp [IntKind.wrap, IntKind.bits, IntKind.signed]; omega
        have HXr : Hid (Blk wr D 35 (BGl ks ns c)) := Lib.hid (HXw3.out.fr HF.out (by have := HDG.out; omega))
        obtain ⟨ab, ao, x0, hA0, -, -⟩ := (RW.out wr HWr.out).1.at a (by rw [← HN.out]; exact hlt)
        obtain ⟨gw, cw, rw', hvw, -, -, -, -⟩ := made_bk Ow3.out (by rw [lay_len, ← HN.out]; omega)
        rw [lay_len, ← HN.out] at hvw
        injection hvw with hvw1 hvw2 hvw3
        clear hvw2 cw rw' hvw3
        subst hvw1
        subst hA0
        have HOWr : Hid (Own wr w2.heap.size 5 .u8 (.slice (some ⟨gw, 0, none⟩) na ca) (lay ks ns (64 * c) xs)) := Lib.hid (Ow3.out.fr HF.out (fun gg h1 h2 => by
          have := (Ow3.out.base_le h1).1
          have h3 : gg = g := h2
          have := HGW.out
          omega))
        have hca : ¬ (cap = a) := by omega
        have hcaw : ¬ (ca = a) := by omega
        clear hd
        by_cases hiK2 : i < K
        · have hd3 : decide ((i : Int) < (K : Int)) = true := by simp; omega
          obtain ⟨cb, co, z, hC0, hcz, HZK⟩ := (RW.out wr HWr.out).2.at i (by rw [← HKE.out]; exact hiK2)
          subst hC0
          have hz64 : -9223372036854775808 ≤ z ∧ z ≤ 9223372036854775807 := by rw [HZK.out]; exact HZ.out i
          obtain ⟨t, ht⟩ : ∃ t, t = Int.tmod z ((d : Int) + 1) := ⟨_, rfl⟩
          have h1 := Int.tmod_lt_of_pos z (b := (d : Int) + 1) (by omega)
          have h2 := tmod_lo z (d + 1) (by omega)
          rw [Int.natCast_add, Int.natCast_one] at h2
          rw [← ht] at h1 h2
          have htt := ht.symm
          clear ht
          have hd10 : ((d : Int) + 1 == 0) = false := by simp; omega
          have hwt : IntKind.i64.wrap t = t := by simp [IntKind.wrap, IntKind.bits, IntKind.signed]; omega
          by_cases htn : t < 0
          · have hd4 : decide (t < 0) = true := by simpa using htn
            obtain ⟨m, hm⟩ : ∃ m : Nat, (m : Int) = -t := ⟨(-t).toNat, by omega⟩
            have hwm : IntKind.i64.wrap (-t) = (m : Int) := by rw [← hm]; simp [IntKind.wrap, IntKind.bits, IntKind.signed]; omega
            have hm0 : -t = (m : Int) := hm.symm
            have hmd : m ≤ d := by omega
            have ham : a + m ≤ na := by have := HDD.out; omega
            clear hm
            go_wp2_with fail
            refine (HSKP.out g m (64 * c + a) wr (by have := HMM.out; omega) HG.out (by have := HMM.out; omega)).mono ?_
            rintro e wz ⟨rfl, hbz, fz⟩
            have HGz : Hid (Blk wz g 87 (SGl ks ns (64 * c + (a + m)))) := Lib.hid (by rw [← Nat.add_assoc]; exact hbz)
            have HFz : Hid (Fr (fun j => j = g) w3 wz) := Lib.hid (HF.out.trans fz)
            have HXz : Hid (Blk wz D 35 (BGl ks ns c)) := Lib.hid (HXr.out.fr fz (by have := HDG.out; omega))
            clear hbz fz hd1 hd2 hd3 hd4 hwd hwd0 hwd1 htt hwt hd10 hcz
            go_upto_region 24 with fail
            have hcxz : wz.cell? ⟨D, 44, none⟩ = some (.int .u32 (c : Int)) := (HR3.out wz HXz.out).2.2
            have HCX := Lib.hid hcxz
            have hwc : IntKind.u64.wrap (c : Int) = (c : Int) := by simp [IntKind.wrap, IntKind.bits, IntKind.signed]; omega
            have hwc2 : IntKind.u64.wrap (64 * (c : Int)) = 64 * (c : Int) := by simp [IntKind.wrap, IntKind.bits, IntKind.signed]; omega
            obtain ⟨a2, ha2⟩ : ∃ a2, a2 = a + m := ⟨_, rfl⟩
            have HA2 := Lib.hid ha2
            rw [← ha2] at HGz
            have ha2n : a2 ≤ na := by omega
            have hwa : IntKind.i64.wrap ((a : Int) + (m : Int)) = (a2 : Int) := by rw [ha2]; simp [IntKind.wrap, IntKind.bits, IntKind.signed]; omega
            have hwa0 : (a : Int) + (m : Int) = (a2 : Int) := by omega
            clear ha2
            obtain ⟨p2, hp2⟩ : ∃ p2, p2 = 64 * c + a2 := ⟨_, rfl⟩
            have HP2 := Lib.hid hp2
            have hwa2 : IntKind.u64.wrap (a2 : Int) = (a2 : Int) := by simp [IntKind.wrap, IntKind.bits, IntKind.signed]; omega
            have hwp : IntKind.u64.wrap (64 * (c : Int) + (a2 : Int)) = (p2 : Int) := by rw [hp2]; simp [IntKind.wrap, IntKind.bits, IntKind.signed]; have := HMM.out; omega
            clear hp2
            have hpp : ((p2 : Int) != (p2 : Int)) = false := by simp
            clear hcxz
            simp only [hwa, hwa0]
            refine wp_region_held_drew (S := fun w' => w'.heap[D]? = wz.heap[D]?) (by kernel_rfl) (rfl) (fun hHeld => ?_)
            have HHd := Lib.hid hHeld
            clear hHeld
            refine wpAnyH_take (i := 0) (oi := ⟨some 121, _, _, _, _, _⟩) (v := (.pointer (some ⟨g, 0, none⟩))) rfl (by kernel_rfl) (by kernel_rfl) (by kernel_rfl) (fun _ _ _ h => h) (Or.inl ⟨by rfl, ?_⟩) HHd.out ?_
            · intro w' hS; go_simp; try with_reducible rfl
            simp only [Act.put, List.setIfInBounds_toArray, List.set_cons_zero, List.set_cons_succ]
            refine wpAnyH_take (i := 2) (oi := ⟨some 123, _, _, _, _, _⟩) (v := (.pointer (some ⟨D, 44, none⟩))) rfl (by kernel_rfl) (by kernel_rfl) (by kernel_rfl) (fun _ _ _ h => h) (Or.inl ⟨by rfl, ?_⟩) HHd.out ?_
            · intro w' hS; go_simp; try with_reducible rfl
            simp only [Act.put, List.setIfInBounds_toArray, List.set_cons_zero, List.set_cons_succ]
            refine wpAnyH_take (i := 3) (oi := ⟨some 124, _, _, _, _, _⟩) (v := (.int .u32 (c : Int))) rfl (by kernel_rfl) (by kernel_rfl) (by kernel_rfl) (fun _ _ _ h => h) (Or.inl ⟨by rfl, ?_⟩) HHd.out ?_
            · intro w' hS; have z0 : w'.cell? ⟨D, 44, none⟩ = some (.int .u32 (c : Int)) := (World.cell?_of_block (w := wz) (w' := w') hS).trans HCX.out; go_simp; try with_reducible rfl
            simp only [Act.put, List.setIfInBounds_toArray, List.set_cons_zero, List.set_cons_succ]
            refine wpAnyH_take (i := 4) (oi := ⟨some 125, _, _, _, _, _⟩) (v := (.int .u64 (c : Int))) rfl (by kernel_rfl) (by kernel_rfl) (by kernel_rfl) (fun _ _ _ h => h) (Or.inl ⟨by rfl, ?_⟩) HHd.out ?_
            · intro w' hS; go_simp; try with_reducible rfl
            simp only [Act.put, List.setIfInBounds_toArray, List.set_cons_zero, List.set_cons_succ]
            refine wpAnyH_take (i := 5) (oi := ⟨some 126, _, _, _, _, _⟩) (v := (.int .u64 (64 * (c : Int)))) rfl (by kernel_rfl) (by kernel_rfl) (by kernel_rfl) (fun _ _ _ h => h) (Or.inl ⟨by rfl, ?_⟩) HHd.out ?_
            · intro w' hS; go_simp; try with_reducible rfl
            simp only [Act.put, List.setIfInBounds_toArray, List.set_cons_zero, List.set_cons_succ]
            refine wpAnyH_take (i := 6) (oi := ⟨some 127, _, _, _, _, _⟩) (v := (.int .i64 (a2 : Int))) rfl (by kernel_rfl) (by kernel_rfl) (by kernel_rfl) (fun _ _ _ h => h) (Or.inl ⟨by rfl, ?_⟩) HHd.out ?_
            · intro w' hS; go_simp; try with_reducible rfl
            simp only [Act.put, List.setIfInBounds_toArray, List.set_cons_zero, List.set_cons_succ]
            refine wpAnyH_take (i := 7) (oi := ⟨some 128, _, _, _, _, _⟩) (v := (.int .u64 (a2 : Int))) rfl (by kernel_rfl) (by kernel_rfl) (by kernel_rfl) (fun _ _ _ h => h) (Or.inl ⟨by rfl, ?_⟩) HHd.out ?_
            · intro w' hS; go_simp; try with_reducible rfl
            simp only [Act.put, List.setIfInBounds_toArray, List.set_cons_zero, List.set_cons_succ]
            refine wpAnyH_take (i := 8) (oi := ⟨some 129, _, _, _, _, _⟩) (v := (.int .u64 (p2 : Int))) rfl (by kernel_rfl) (by kernel_rfl) (by kernel_rfl) (fun _ _ _ h => h) (Or.inl ⟨by rfl, ?_⟩) HHd.out ?_
            · intro w' hS; go_simp; try with_reducible rfl
            simp only [Act.put, List.setIfInBounds_toArray, List.set_cons_zero, List.set_cons_succ]
            refine wpAnyH_ready (rs := [1]) (by kernel_rfl) (by simp) ?_
            refine AllReadyH.cons (o := ⟨some 122, _, _, _, _, _⟩) rfl (fun K hK => ?_) AllReadyH.nil
            rw [if_pos (by rfl)]
            go_simp
            refine (HAT.out g p2 wz.drew (by rw [HP2.out]; exact HGz.out)).mono ?_
            rintro e wq ⟨rfl, hwq⟩
            (try simp only [Act.put, List.setIfInBounds_toArray, List.set_cons_zero, List.set_cons_succ])
            refine hK.out _ _ (by rw [hwq]; exact HHd.out) (fun hHeld => ?_)
            clear hK K
            have HH1 := Lib.hid hHeld
            clear hHeld HHd
            have HGq : Hid (Blk wq g 87 (SGl ks ns (64 * c + a2))) := Lib.hid (by rw [hwq]; exact HGz.out)
            have HFq : Hid (Fr (fun j => j = g) w3 wq) := Lib.hid (by rw [hwq]; exact HFz.out.drew)
            clear hwq
            refine wpAnyH_take (i := 9) (oi := ⟨some 130, _, _, _, _, _⟩) (v := (.bool false)) rfl (by kernel_rfl) (by kernel_rfl) (by kernel_rfl) (fun _ _ _ h => h) (Or.inl ⟨by rfl, ?_⟩) HH1.out ?_
            · intro w' hS; go_simp; try with_reducible rfl
            simp only [Act.put, List.setIfInBounds_toArray, List.set_cons_zero, List.set_cons_succ]
            refine wpAnyH_done (by kernel_rfl) ?_ _
            go_wp2_with fail
            go_roundw
            case rel => exact ⟨a2, i + 1, ha2n, by omega, rfl, by go_num, HGq, HFq⟩
            case measure => simp [intOf]; omega
          · have hd4 : decide (t < 0) = false := by simpa using htn
            obtain ⟨m, hm⟩ : ∃ m : Nat, (m : Int) = t := ⟨t.toNat, by omega⟩
            subst hm
            have hmd : m ≤ d := by omega
            have ham : a + m ≤ na := by have := HDD.out; omega
            have hs0 : (0 : Int) ≤ (a : Int) := by omega
            have hs1 : (a : Int) ≤ (a : Int) + (m : Int) := by omega
            have hs2 : (a : Int) + (m : Int) ≤ (cap : Int) := by omega
            have hs2w : (a : Int) + (m : Int) ≤ (ca : Int) := by omega
            have hs3 : ((a : Int) + (m : Int)).toNat = a + m := by omega
            have hs4 : a + m - a = m := by omega
            have hwam : IntKind.i64.wrap ((a : Int) + (m : Int)) = (a : Int) + (m : Int) := by simp [IntKind.wrap, IntKind.bits, IntKind.signed]; omega
            have HYL : Hid (((xs.drop a).take m).length = m) := Lib.hid (by have := HN.out; rw [List.length_take, List.length_drop]; omega)
            have HYB : Hid (B8 ((xs.drop a).take m)) := Lib.hid ((HB.out.drop _).take _)
            have HYR : Hid (Rd wr .u8 (some ⟨ab, ao + a, none⟩) ((xs.drop a).take m)) := Lib.hid (((RW.out wr HWr.out).1.drop a (A' := some ⟨ab, ao + a, none⟩) (fun b off h _ => by injection h with h; injection h with h1 h2; subst h1 h2; rfl)).take m)
            go_wp2_with fail
            refine (copied_any (some ⟨ab, ao + a, none⟩) m _ ((xs.drop a).take m) wr HYL.out.symm HYR.out (by rw [HYL.out]; omega)).mono ?_
            rintro e wk ⟨vk, rfl, ok, bk⟩
            obtain ⟨Ak, nk, ck, hvk⟩ : ∃ A n c, vk = .slice A n c := by obtain ⟨A, c, h, _⟩ := ok.slice; exact ⟨A, _, c, h⟩
            subst hvk
            have hnk : nk = m := by rw [(own_rd ok).2, HYL.out]
            subst hnk
            have HOK := Lib.hid ok
            have HBK := Lib.hid bk
            have HGk : Hid (Blk wk g 87 (SGl ks ns (64 * c + a))) := Lib.hid (HG.out.below bk HG.out.lt)
            have HGwr : Hid (g < wr.heap.size) := Lib.hid HG.out.lt
            clear ok bk
            go_wp2_with fail
            refine (HXOR.out g Ak nk ck ((xs.drop a).take nk) wk (64 * c + a) HYL.out.symm (own_rd HOK.out).1 HYB.out (fun aa ha he => by
              subst ha
              have := (HOK.out.base_le (g := aa.block) rfl).1
              have := HGwr.out
              omega) HGk.out (by have := HMM.out; omega)).mono ?_
            rintro e wx ⟨vx, rfl, ox, hbx, fx⟩
            obtain ⟨Ax, nx, cx, hvx⟩ : ∃ A n c, vx = .slice A n c := by obtain ⟨A, c, h, _⟩ := ox.slice; exact ⟨A, _, c, h⟩
            subst hvx
            have HOX := Lib.hid ox
            have HFx : Hid (Fr (fun j => j = g) w3 wx) := Lib.hid ((HF.out.trans (Fr.of_below HBK.out _)).trans fx)
            have HGx : Hid (Blk wx g 87 (SGl ks ns (64 * c + (a + nk)))) := Lib.hid (by rw [← Nat.add_assoc]; exact hbx)
            have HOWx : Hid (Own wx w2.heap.size 5 .u8 (.slice (some ⟨gw, 0, none⟩) na ca) (lay ks ns (64 * c) xs)) := Lib.hid ((HOWr.out.below HBK.out).fr fx (fun gg h1 h2 => by
              have := (HOWr.out.base_le h1).1
              have h3 : gg = g := h2
              have := HGW.out
              omega))
            have HXx : Hid (Blk wx D 35 (BGl ks ns c)) := Lib.hid (HXw3.out.fr HFx.out (by have := HDG.out; omega))
            have HLC : Hid (((lay ks ns (64 * c) xs).drop a).take nk = lay ks ns (64 * c + a) ((xs.drop a).take nk)) := Lib.hid (lay_cut ks ns (64 * c) xs a nk)
            have HLL : Hid ((lay ks ns (64 * c + a) ((xs.drop a).take nk)).length = nk) := Lib.hid (by rw [lay_len, HYL.out])
            clear ox hbx fx HOK HBK HGk HOWr
            go_wp2_with fail
            refine (same_any Ax (some ⟨gw, a, none⟩) nx nk cx (ca - a) (lay ks ns (64 * c + a) ((xs.drop a).take nk)) (((lay ks ns (64 * c) xs).drop a).take nk) wx (own_rd HOX.out).2 (by rw [HLC.out, HLL.out]) (own_rd HOX.out).1 ((own_rd HOWx.out).1.cut a nk) (by rw [HLL.out]; omega) (by rw [HLC.out, HLL.out]; omega)).mono ?_
            rintro e w' ⟨q, rfl, rfl⟩
            rw [decide_eq_true HLC.out.symm]
            have HGz : Hid (Blk (wx.drewN q) g 87 (SGl ks ns (64 * c + (a + nk)))) := HGx
            have HFz : Hid (Fr (fun j => j = g) w3 (wx.drewN q)) := Lib.hid (HFx.out.drewN _)
            have HXz : Hid (Blk (wx.drewN q) D 35 (BGl ks ns c)) := HXx
            generalize wx.drewN q = wz at *
            clear HGx HFx HXx HOX HOWx HLC HLL HYL HYB HYR hs0 hs1 hs2 hs2w hs3 hs4 hwam hd1 hd2 hd3 hwd hwd0
            go_upto_region 24 with fail
            have hcxz : wz.cell? ⟨D, 44, none⟩ = some (.int .u32 (c : Int)) := (HR3.out wz HXz.out).2.2
            have HCX := Lib.hid hcxz
            have hwc : IntKind.u64.wrap (c : Int) = (c : Int) := by simp [IntKind.wrap, IntKind.bits, IntKind.signed]; omega
            have hwc2 : IntKind.u64.wrap (64 * (c : Int)) = 64 * (c : Int) := by simp [IntKind.wrap, IntKind.bits, IntKind.signed]; omega
            obtain ⟨a2, ha2⟩ : ∃ a2, a2 = a + nk := ⟨_, rfl⟩
            have HA2 := Lib.hid ha2
            rw [← ha2] at HGz
            have ha2n : a2 ≤ na := by omega
            have hwa : IntKind.i64.wrap ((a : Int) + (nk : Int)) = (a2 : Int) := by rw [ha2]; simp [IntKind.wrap, IntKind.bits, IntKind.signed]; omega
            have hwa0 : (a : Int) + (nk : Int) = (a2 : Int) := by omega
            clear ha2
            obtain ⟨p2, hp2⟩ : ∃ p2, p2 = 64 * c + a2 := ⟨_, rfl⟩
            have HP2 := Lib.hid hp2
            have hwa2 : IntKind.u64.wrap (a2 : Int) = (a2 : Int) := by simp [IntKind.wrap, IntKind.bits, IntKind.signed]; omega
            have hwp : IntKind.u64.wrap (64 * (c : Int) + (a2 : Int)) = (p2 : Int) := by rw [hp2]; simp [IntKind.wrap, IntKind.bits, IntKind.signed]; have := HMM.out; omega
            clear hp2
            have hpp : ((p2 : Int) != (p2 : Int)) = false := by simp
            clear hcxz
            simp only [hwa, hwa0]
            refine wp_region_held_drew (S := fun w' => w'.heap[D]? = wz.heap[D]?) (by kernel_rfl) (rfl) (fun hHeld => ?_)
            have HHd := Lib.hid hHeld
            clear hHeld
            refine wpAnyH_take (i := 0) (oi := ⟨some 121, _, _, _, _, _⟩) (v := (.pointer (some ⟨g, 0, none⟩))) rfl (by kernel_rfl) (by kernel_rfl) (by kernel_rfl) (fun _ _ _ h => h) (Or.inl ⟨by rfl, ?_⟩) HHd.out ?_
            · intro w' hS; go_simp; try with_reducible rfl
            simp only [Act.put, List.setIfInBounds_toArray, List.set_cons_zero, List.set_cons_succ]
            refine wpAnyH_take (i := 2) (oi := ⟨some 123, _, _, _, _, _⟩) (v := (.pointer (some ⟨D, 44, none⟩))) rfl (by kernel_rfl) (by kernel_rfl) (by kernel_rfl) (fun _ _ _ h => h) (Or.inl ⟨by rfl, ?_⟩) HHd.out ?_
            · intro w' hS; go_simp; try with_reducible rfl
            simp only [Act.put, List.setIfInBounds_toArray, List.set_cons_zero, List.set_cons_succ]
            refine wpAnyH_take (i := 3) (oi := ⟨some 124, _, _, _, _, _⟩) (v := (.int .u32 (c : Int))) rfl (by kernel_rfl) (by kernel_rfl) (by kernel_rfl) (fun _ _ _ h => h) (Or.inl ⟨by rfl, ?_⟩) HHd.out ?_
            · intro w' hS; have z0 : w'.cell? ⟨D, 44, none⟩ = some (.int .u32 (c : Int)) := (World.cell?_of_block (w := wz) (w' := w') hS).trans HCX.out; go_simp; try with_reducible rfl
            simp only [Act.put, List.setIfInBounds_toArray, List.set_cons_zero, List.set_cons_succ]
            refine wpAnyH_take (i := 4) (oi := ⟨some 125, _, _, _, _, _⟩) (v := (.int .u64 (c : Int))) rfl (by kernel_rfl) (by kernel_rfl) (by kernel_rfl) (fun _ _ _ h => h) (Or.inl ⟨by rfl, ?_⟩) HHd.out ?_
            · intro w' hS; go_simp; try with_reducible rfl
            simp only [Act.put, List.setIfInBounds_toArray, List.set_cons_zero, List.set_cons_succ]
            refine wpAnyH_take (i := 5) (oi := ⟨some 126, _, _, _, _, _⟩) (v := (.int .u64 (64 * (c : Int)))) rfl (by kernel_rfl) (by kernel_rfl) (by kernel_rfl) (fun _ _ _ h => h) (Or.inl ⟨by rfl, ?_⟩) HHd.out ?_
            · intro w' hS; go_simp; try with_reducible rfl
            simp only [Act.put, List.setIfInBounds_toArray, List.set_cons_zero, List.set_cons_succ]
            refine wpAnyH_take (i := 6) (oi := ⟨some 127, _, _, _, _, _⟩) (v := (.int .i64 (a2 : Int))) rfl (by kernel_rfl) (by kernel_rfl) (by kernel_rfl) (fun _ _ _ h => h) (Or.inl ⟨by rfl, ?_⟩) HHd.out ?_
            · intro w' hS; go_simp; try with_reducible rfl
            simp only [Act.put, List.setIfInBounds_toArray, List.set_cons_zero, List.set_cons_succ]
            refine wpAnyH_take (i := 7) (oi := ⟨some 128, _, _, _, _, _⟩) (v := (.int .u64 (a2 : Int))) rfl (by kernel_rfl) (by kernel_rfl) (by kernel_rfl) (fun _ _ _ h => h) (Or.inl ⟨by rfl, ?_⟩) HHd.out ?_
            · intro w' hS; go_simp; try with_reducible rfl
            simp only [Act.put, List.setIfInBounds_toArray, List.set_cons_zero, List.set_cons_succ]
            refine wpAnyH_take (i := 8) (oi := ⟨some 129, _, _, _, _, _⟩) (v := (.int .u64 (p2 : Int))) rfl (by kernel_rfl) (by kernel_rfl) (by kernel_rfl) (fun _ _ _ h => h) (Or.inl ⟨by rfl, ?_⟩) HHd.out ?_
            · intro w' hS; go_simp; try with_reducible rfl
            simp only [Act.put, List.setIfInBounds_toArray, List.set_cons_zero, List.set_cons_succ]
            refine wpAnyH_ready (rs := [1]) (by kernel_rfl) (by simp) ?_
            refine AllReadyH.cons (o := ⟨some 122, _, _, _, _, _⟩) rfl (fun K hK => ?_) AllReadyH.nil
            rw [if_pos (by rfl)]
            go_simp
            refine (HAT.out g p2 wz.drew (by rw [HP2.out]; exact HGz.out)).mono ?_
            rintro e wq ⟨rfl, hwq⟩
            (try simp only [Act.put, List.setIfInBounds_toArray, List.set_cons_zero, List.set_cons_succ])
            refine hK.out _ _ (by rw [hwq]; exact HHd.out) (fun hHeld => ?_)
            clear hK K
            have HH1 := Lib.hid hHeld
            clear hHeld HHd
            have HGq : Hid (Blk wq g 87 (SGl ks ns (64 * c + a2))) := Lib.hid (by rw [hwq]; exact HGz.out)
            have HFq : Hid (Fr (fun j => j = g) w3 wq) := Lib.hid (by rw [hwq]; exact HFz.out.drew)
            clear hwq
            refine wpAnyH_take (i := 9) (oi := ⟨some 130, _, _, _, _, _⟩) (v := (.bool false)) rfl (by kernel_rfl) (by kernel_rfl) (by kernel_rfl) (fun _ _ _ h => h) (Or.inl ⟨by rfl, ?_⟩) HH1.out ?_
            · intro w' hS; go_simp; try with_reducible rfl
            simp only [Act.put, List.setIfInBounds_toArray, List.set_cons_zero, List.set_cons_succ]
            refine wpAnyH_done (by kernel_rfl) ?_ _
            go_wp2_with fail
            go_roundw
            case rel => exact ⟨a2, i + 1, ha2n, by omega, rfl, by go_num, HGq, HFq⟩
            case measure => simp [intOf]; omega
        · have hd3 : decide ((i : Int) < (K : Int)) = false := by simp; omega
          obtain ⟨m, hm⟩ : ∃ m, m = d := ⟨_, rfl⟩
          subst hm
          have hmd : m ≤ m := Nat.le_refl _
          have ham : a + m ≤ na := by have := HDD.out; omega
          have hs0 : (0 : Int) ≤ (a : Int) := by omega
          have hs1 : (a : Int) ≤ (a : Int) + (m : Int) := by omega
          have hs2 : (a : Int) + (m : Int) ≤ (cap : Int) := by omega
          have hs2w : (a : Int) + (m : Int) ≤ (ca : Int) := by omega
          have hs3 : ((a : Int) + (m : Int)).toNat = a + m := by omega
          have hs4 : a + m - a = m := by omega
          have hwam : IntKind.i64.wrap ((a : Int) + (m : Int)) = (a : Int) + (m : Int) := by simp [IntKind.wrap, IntKind.bits, IntKind.signed]; omega
          have HYL : Hid (((xs.drop a).take m).length = m) := Lib.hid (by have := HN.out; rw [List.length_take, List.length_drop]; omega)
          have HYB : Hid (B8 ((xs.drop a).take m)) := Lib.hid ((HB.out.drop _).take _)
          have HYR : Hid (Rd wr .u8 (some ⟨ab, ao + a, none⟩) ((xs.drop a).take m)) := Lib.hid (((RW.out wr HWr.out).1.drop a (A' := some ⟨ab, ao + a, none⟩) (fun b off h _ => by injection h with h; injection h with h1 h2; subst h1 h2; rfl)).take m)
          go_wp2_with fail
          refine (copied_any (some ⟨ab, ao + a, none⟩) m _ ((xs.drop a).take m) wr HYL.out.symm HYR.out (by rw [HYL.out]; omega)).mono ?_
          rintro e wk ⟨vk, rfl, ok, bk⟩
          obtain ⟨Ak, nk, ck, hvk⟩ : ∃ A n c, vk = .slice A n c := by obtain ⟨A, c, h, _⟩ := ok.slice; exact ⟨A, _, c, h⟩
          subst hvk
          have hnk : nk = m := by rw [(own_rd ok).2, HYL.out]
          subst hnk
          have HOK := Lib.hid ok
          have HBK := Lib.hid bk
          have HGk : Hid (Blk wk g 87 (SGl ks ns (64 * c + a))) := Lib.hid (HG.out.below bk HG.out.lt)
          have HGwr : Hid (g < wr.heap.size) := Lib.hid HG.out.lt
          clear ok bk
          go_wp2_with fail
          refine (HXOR.out g Ak nk ck ((xs.drop a).take nk) wk (64 * c + a) HYL.out.symm (own_rd HOK.out).1 HYB.out (fun aa ha he => by
            subst ha
            have := (HOK.out.base_le (g := aa.block) rfl).1
            have := HGwr.out
            omega) HGk.out (by have := HMM.out; omega)).mono ?_
          rintro e wx ⟨vx, rfl, ox, hbx, fx⟩
          obtain ⟨Ax, nx, cx, hvx⟩ : ∃ A n c, vx = .slice A n c := by obtain ⟨A, c, h, _⟩ := ox.slice; exact ⟨A, _, c, h⟩
          subst hvx
          have HOX := Lib.hid ox
          have HFx : Hid (Fr (fun j => j = g) w3 wx) := Lib.hid ((HF.out.trans (Fr.of_below HBK.out _)).trans fx)
          have HGx : Hid (Blk wx g 87 (SGl ks ns (64 * c + (a + nk)))) := Lib.hid (by rw [← Nat.add_assoc]; exact hbx)
          have HOWx : Hid (Own wx w2.heap.size 5 .u8 (.slice (some ⟨gw, 0, none⟩) na ca) (lay ks ns (64 * c) xs)) := Lib.hid ((HOWr.out.below HBK.out).fr fx (fun gg h1 h2 => by
            have := (HOWr.out.base_le h1).1
            have h3 : gg = g := h2
            have := HGW.out
            omega))
          have HXx : Hid (Blk wx D 35 (BGl ks ns c)) := Lib.hid (HXw3.out.fr HFx.out (by have := HDG.out; omega))
          have HLC : Hid (((lay ks ns (64 * c) xs).drop a).take nk = lay ks ns (64 * c + a) ((xs.drop a).take nk)) := Lib.hid (lay_cut ks ns (64 * c) xs a nk)
          have HLL : Hid ((lay ks ns (64 * c + a) ((xs.drop a).take nk)).length = nk) := Lib.hid (by rw [lay_len, HYL.out])
          clear ox hbx fx HOK HBK HGk HOWr
          go_wp2_with fail
          refine (same_any Ax (some ⟨gw, a, none⟩) nx nk cx (ca - a) (lay ks ns (64 * c + a) ((xs.drop a).take nk)) (((lay ks ns (64 * c) xs).drop a).take nk) wx (own_rd HOX.out).2 (by rw [HLC.out, HLL.out]) (own_rd HOX.out).1 ((own_rd HOWx.out).1.cut a nk) (by rw [HLL.out]; omega) (by rw [HLC.out, HLL.out]; omega)).mono ?_
          rintro e w' ⟨q, rfl, rfl⟩
          rw [decide_eq_true HLC.out.symm]
          have HGz : Hid (Blk (wx.drewN q) g 87 (SGl ks ns (64 * c + (a + nk)))) := HGx
          have HFz : Hid (Fr (fun j => j = g) w3 (wx.drewN q)) := Lib.hid (HFx.out.drewN _)
          have HXz : Hid (Blk (wx.drewN q) D 35 (BGl ks ns c)) := HXx
          generalize wx.drewN q = wz at *
          clear HGx HFx HXx HOX HOWx HLC HLL HYL HYB HYR hs0 hs1 hs2 hs2w hs3 hs4 hwam hd1 hd2 hd3 hwd hwd0
          go_upto_region 24 with fail
          have hcxz : wz.cell? ⟨D, 44, none⟩ = some (.int .u32 (c : Int)) := (HR3.out wz HXz.out).2.2
          have HCX := Lib.hid hcxz
          have hwc : IntKind.u64.wrap (c : Int) = (c : Int) := by simp [IntKind.wrap, IntKind.bits, IntKind.signed]; omega
          have hwc2 : IntKind.u64.wrap (64 * (c : Int)) = 64 * (c : Int) := by simp [IntKind.wrap, IntKind.bits, IntKind.signed]; omega
          obtain ⟨a2, ha2⟩ : ∃ a2, a2 = a + nk := ⟨_, rfl⟩
          have HA2 := Lib.hid ha2
          rw [← ha2] at HGz
          have ha2n : a2 ≤ na := by omega
          have hwa : IntKind.i64.wrap ((a : Int) + (nk : Int)) = (a2 : Int) := by rw [ha2]; simp [IntKind.wrap, IntKind.bits, IntKind.signed]; omega
          have hwa0 : (a : Int) + (nk : Int) = (a2 : Int) := by omega
          clear ha2
          obtain ⟨p2, hp2⟩ : ∃ p2, p2 = 64 * c + a2 := ⟨_, rfl⟩
          have HP2 := Lib.hid hp2
          have hwa2 : IntKind.u64.wrap (a2 : Int) = (a2 : Int) := by simp [IntKind.wrap, IntKind.bits, IntKind.signed]; omega
          have hwp : IntKind.u64.wrap (64 * (c : Int) + (a2 : Int)) = (p2 : Int) := by rw [hp2]; simp [IntKind.wrap, IntKind.bits, IntKind.signed]; have := HMM.out; omega
          clear hp2
          have hpp : ((p2 : Int) != (p2 : Int)) = false := by simp
          clear hcxz
          simp only [hwa, hwa0]
          refine wp_region_held_drew (S := fun w' => w'.heap[D]? = wz.heap[D]?) (by kernel_rfl) (rfl) (fun hHeld => ?_)
          have HHd := Lib.hid hHeld
          clear hHeld
          refine wpAnyH_take (i := 0) (oi := ⟨some 121, _, _, _, _, _⟩) (v := (.pointer (some ⟨g, 0, none⟩))) rfl (by kernel_rfl) (by kernel_rfl) (by kernel_rfl) (fun _ _ _ h => h) (Or.inl ⟨by rfl, ?_⟩) HHd.out ?_
          · intro w' hS; go_simp; try with_reducible rfl
          simp only [Act.put, List.setIfInBounds_toArray, List.set_cons_zero, List.set_cons_succ]
          refine wpAnyH_take (i := 2) (oi := ⟨some 123, _, _, _, _, _⟩) (v := (.pointer (some ⟨D, 44, none⟩))) rfl (by kernel_rfl) (by kernel_rfl) (by kernel_rfl) (fun _ _ _ h => h) (Or.inl ⟨by rfl, ?_⟩) HHd.out ?_
          · intro w' hS; go_simp; try with_reducible rfl
          simp only [Act.put, List.setIfInBounds_toArray, List.set_cons_zero, List.set_cons_succ]
          refine wpAnyH_take (i := 3) (oi := ⟨some 124, _, _, _, _, _⟩) (v := (.int .u32 (c : Int))) rfl (by kernel_rfl) (by kernel_rfl) (by kernel_rfl) (fun _ _ _ h => h) (Or.inl ⟨by rfl, ?_⟩) HHd.out ?_
          · intro w' hS; have z0 : w'.cell? ⟨D, 44, none⟩ = some (.int .u32 (c : Int)) := (World.cell?_of_block (w := wz) (w' := w') hS).trans HCX.out; go_simp; try with_reducible rfl
          simp only [Act.put, List.setIfInBounds_toArray, List.set_cons_zero, List.set_cons_succ]
          refine wpAnyH_take (i := 4) (oi := ⟨some 125, _, _, _, _, _⟩) (v := (.int .u64 (c : Int))) rfl (by kernel_rfl) (by kernel_rfl) (by kernel_rfl) (fun _ _ _ h => h) (Or.inl ⟨by rfl, ?_⟩) HHd.out ?_
          · intro w' hS; go_simp; try with_reducible rfl
          simp only [Act.put, List.setIfInBounds_toArray, List.set_cons_zero, List.set_cons_succ]
          refine wpAnyH_take (i := 5) (oi := ⟨some 126, _, _, _, _, _⟩) (v := (.int .u64 (64 * (c : Int)))) rfl (by kernel_rfl) (by kernel_rfl) (by kernel_rfl) (fun _ _ _ h => h) (Or.inl ⟨by rfl, ?_⟩) HHd.out ?_
          · intro w' hS; go_simp; try with_reducible rfl
          simp only [Act.put, List.setIfInBounds_toArray, List.set_cons_zero, List.set_cons_succ]
          refine wpAnyH_take (i := 6) (oi := ⟨some 127, _, _, _, _, _⟩) (v := (.int .i64 (a2 : Int))) rfl (by kernel_rfl) (by kernel_rfl) (by kernel_rfl) (fun _ _ _ h => h) (Or.inl ⟨by rfl, ?_⟩) HHd.out ?_
          · intro w' hS; go_simp; try with_reducible rfl
          simp only [Act.put, List.setIfInBounds_toArray, List.set_cons_zero, List.set_cons_succ]
          refine wpAnyH_take (i := 7) (oi := ⟨some 128, _, _, _, _, _⟩) (v := (.int .u64 (a2 : Int))) rfl (by kernel_rfl) (by kernel_rfl) (by kernel_rfl) (fun _ _ _ h => h) (Or.inl ⟨by rfl, ?_⟩) HHd.out ?_
          · intro w' hS; go_simp; try with_reducible rfl
          simp only [Act.put, List.setIfInBounds_toArray, List.set_cons_zero, List.set_cons_succ]
          refine wpAnyH_take (i := 8) (oi := ⟨some 129, _, _, _, _, _⟩) (v := (.int .u64 (p2 : Int))) rfl (by kernel_rfl) (by kernel_rfl) (by kernel_rfl) (fun _ _ _ h => h) (Or.inl ⟨by rfl, ?_⟩) HHd.out ?_
          · intro w' hS; go_simp; try with_reducible rfl
          simp only [Act.put, List.setIfInBounds_toArray, List.set_cons_zero, List.set_cons_succ]
          refine wpAnyH_ready (rs := [1]) (by kernel_rfl) (by simp) ?_
          refine AllReadyH.cons (o := ⟨some 122, _, _, _, _, _⟩) rfl (fun K hK => ?_) AllReadyH.nil
          rw [if_pos (by rfl)]
          go_simp
          refine (HAT.out g p2 wz.drew (by rw [HP2.out]; exact HGz.out)).mono ?_
          rintro e wq ⟨rfl, hwq⟩
          (try simp only [Act.put, List.setIfInBounds_toArray, List.set_cons_zero, List.set_cons_succ])
          refine hK.out _ _ (by rw [hwq]; exact HHd.out) (fun hHeld => ?_)
          clear hK K
          have HH1 := Lib.hid hHeld
          clear hHeld HHd
          have HGq : Hid (Blk wq g 87 (SGl ks ns (64 * c + a2))) := Lib.hid (by rw [hwq]; exact HGz.out)
          have HFq : Hid (Fr (fun j => j = g) w3 wq) := Lib.hid (by rw [hwq]; exact HFz.out.drew)
          clear hwq
          refine wpAnyH_take (i := 9) (oi := ⟨some 130, _, _, _, _, _⟩) (v := (.bool false)) rfl (by kernel_rfl) (by kernel_rfl) (by kernel_rfl) (fun _ _ _ h => h) (Or.inl ⟨by rfl, ?_⟩) HH1.out ?_
          · intro w' hS; go_simp; try with_reducible rfl
          simp only [Act.put, List.setIfInBounds_toArray, List.set_cons_zero, List.set_cons_succ]
          refine wpAnyH_done (by kernel_rfl) ?_ _
          go_wp2_with fail
          go_roundw
          case rel => exact ⟨a2, i + 1, ha2n, by omega, rfl, by go_num, HGq, HFq⟩
          case measure => simp [intOf]; omega
      · by_cases h1 : i ≤ K
        · have hd1 : decide ((i : Int) ≤ (K : Int)) = true := by simp; omega
          have hd2 : decide ((a : Int) < (na : Int)) = false := by simp; omega
          go_wp2_with fail
          go_ret
          exact ⟨rfl, by rw [← HDE.out]; exact HWr.out⟩
        · have hd1 : decide ((i : Int) ≤ (K : Int)) = false := by simp; omega
          go_wp2_with fail
          go_ret
          exact ⟨rfl, by rw [← HDE.out]; exact HWr.out⟩
  · have hE : ansE (64 * c) n = 50 := by unfold ansE; rw [if_neg (by have := HMM.out; omega)]
    have hwn : IntKind.u64.wrap (n : Int) = (n : Int) := by simp [IntKind.wrap, IntKind.bits, IntKind.signed]; omega
    have hda : decide ((M : Int) < (n : Int)) = true := by simp; omega
    have hda2 : decide (M < n) = true := by simp; omega
    have hcx : w3.cell? ⟨D, 44, none⟩ = some (.int .u32 (c : Int)) := (HR3.out w3 HXw3.out).2.2
    rw [hE]
    clear hE
    go_wp2_with fail
    refine (HLF.out _).mono ?_
    rintro e w' ⟨rfl, rfl⟩
    go_wp2_with fail
    go_ret
    exact ⟨rfl, by rw [← HDE.out]; exact BA.out⟩
end Go.Proofs.Ytldbmjkecmmmjaa

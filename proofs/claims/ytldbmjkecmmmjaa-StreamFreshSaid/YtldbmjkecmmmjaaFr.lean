/-
  Walk: the law StreamFresh.
-/
import Derived.Test.YtldbmjkecmmmjaaTe
set_option linter.unusedVariables false
set_option linter.unusedSimpArgs false
namespace Go.Proofs.Ytldbmjkecmmmjaa
open Go.RowKit

def Rg (v : Value) (lo hi : Nat) : Prop := ∀ j, v.ownBlock = some j → lo ≤ j ∧ j < hi
theorem lt4 {i : Nat} (h : i < 4) : i = 0 ∨ i = 1 ∨ i = 2 ∨ i = 3 := by omega
/-- Four values. -/
def fou (a b c d : Value) : Nat → Value := fun j => [a, b, c, d].getD j (.bool false)
theorem fou_all {P : Nat → Value → Prop} {a b c d : Value} (h0 : P 0 a) (h1 : P 1 b) (h2 : P 2 c) (h3 : P 3 d) : ∀ j, j < 4 → P j (fou a b c d j) := fun j hj => by
  rcases lt4 hj with rfl | rfl | rfl | rfl
  · exact h0
  · exact h1
  · exact h2
  · exact h3
theorem rg_dist {N : Nat} {vs : Nat → Value} {lo hi : Nat → Nat} (h : ∀ j, j < N → Rg (vs j) (lo j) (hi j)) (hd : ∀ i j, i < N → j < N → i ≠ j → hi i ≤ lo j ∨ hi j ≤ lo i) : Dist N vs := fun i j hi' hj hne g hg hg2 => by
  have h1 := h i hi' g hg
  have h2 := h j hj g hg2
  have h3 := hd i j hi' hj hne
  omega
theorem apart_four {W : World} {s0 s1 s2 s3 s4 : Nat} {va vb vc vd : Value} {xa xb xc xd : List Int} (oa : Own W s0 5 .u8 va xa) (ob : Own W s0 5 .u8 vb xb) (oc : Own W s0 5 .u8 vc xc) (od : Own W s0 5 .u8 vd xd)
    (ra : Rg va s0 s1) (rb : Rg vb s1 s2) (rc : Rg vc s2 s3) (rd : Rg vd s3 s4) (hs : s0 ≤ s1 ∧ s1 ≤ s2 ∧ s2 ≤ s3 ∧ s3 ≤ s4) (hW : s4 ≤ W.heap.size)
    (la : xa.length + 101 ≤ 140737488355328) (lb : xb.length + 101 ≤ 140737488355328) (lc : xc.length + 101 ≤ 140737488355328) (ld : xd.length + 101 ≤ 140737488355328) :
    Calls Try.prog 23 #[.slice (some ⟨W.heap.size, 0, none⟩) 4 4] (W.alloc (.cells #[va, vb, vc, vd] 39)) fun e w' => e = .returned (.bool true) ∧ Fr (fun g => s0 ≤ g ∧ g < s4) W w' := by
  have bel := (Below.refl W.heap.size W).alloc (Nat.le_refl _) (.cells #[va, vb, vc, vd] 39)
  have hB := Blk.new W 39 [va, vb, vc, vd]
  have hR4 : ∀ j, j < 4 → Rg (fou va vb vc vd j) s0 s4 := fou_all (P := fun _ v => Rg v s0 s4) (fun j h => by have := ra j h; omega) (fun j h => by have := rb j h; omega) (fun j h => by have := rc j h; omega) (fun j h => by have := rd j h; omega)
  have hap := apart_any s0 W.heap.size 4 4 (fou va vb vc vd) (fun j => [xa.length, xb.length, xc.length, xd.length].getD j 0) (fun j => [xa, xb, xc, xd].getD j []) (W.alloc (.cells #[va, vb, vc, vd] 39)) (by decide) (fun j hj => by rcases lt4 hj with rfl | rfl | rfl | rfl <;> rfl)
    (fou_all (P := fun j v => Own (W.alloc (.cells #[va, vb, vc, vd] 39)) s0 5 .u8 v ([xa, xb, xc, xd].getD j [])) (oa.below bel) (ob.below bel) (oc.below bel) (od.below bel))
    (rg_dist (lo := fun j => [s0, s1, s2, s3].getD j 0) (hi := fun j => [s1, s2, s3, s4].getD j 0) (fou_all (P := fun j v => Rg v ([s0, s1, s2, s3].getD j 0) ([s1, s2, s3, s4].getD j 0)) ra rb rc rd) (fun i j hi hj hne => by
      rcases lt4 hi with rfl | rfl | rfl | rfl <;> rcases lt4 hj with rfl | rfl | rfl | rfl <;> simp at hne ⊢ <;> omega))
    (fun j hj h => by have := hR4 j hj _ h; omega)
    (fou_all (P := fun j v => (W.alloc (.cells #[va, vb, vc, vd] 39)).cell? ⟨W.heap.size, j, none⟩ = some v) (hB.cell 0) (hB.cell 1) (hB.cell 2) (hB.cell 3))
    (by simp; omega) (fun j hj => by rcases lt4 hj with rfl | rfl | rfl | rfl <;> simp <;> omega)
  refine hap.mono ?_
  rintro e w' ⟨rfl, hf⟩
  exact ⟨rfl, ((Fr.refl _ W).alloc _).trans (hf.mono (fun g hg => by obtain ⟨j, hj, h⟩ := hg; exact hR4 j hj g h))⟩
theorem bdrew (w : World) : Below w.heap.size w w.drew := ⟨rfl, rfl, rfl, Nat.le_refl _, fun _ _ => rfl⟩
/-- A row in an interval. -/
def Ow (W : World) (v : Value) (xs : List Int) (lo hi : Nat) : Prop := Own W lo 5 .u8 v xs ∧ Rg v lo hi
theorem Ow.mk {W : World} {v : Value} {xs : List Int} {lo : Nat} (h : Own W lo 5 .u8 v xs) : Ow W v xs lo W.heap.size := ⟨h, fun j hj => h.base_le hj⟩
theorem Ow.below {W W' : World} {v : Value} {xs : List Int} {lo hi : Nat} (h : Ow W v xs lo hi) (hb : Below W.heap.size W W') : Ow W' v xs lo hi := ⟨h.1.below hb, h.2⟩
theorem Ow.fr {S : Nat → Prop} {W W' : World} {v : Value} {xs : List Int} {lo hi : Nat} (h : Ow W v xs lo hi) (hf : Fr S W W') (hS : ∀ g, lo ≤ g → g < hi → ¬ S g) : Ow W' v xs lo hi := ⟨h.1.fr hf (fun g hg => by have := h.2 g hg; exact hS g this.1 this.2), h.2⟩
theorem Ow.rd {W : World} {A : Option Addr} {n c : Nat} {xs : List Int} {lo hi : Nat} (h : Ow W (.slice A n c) xs lo hi) : Rd W .u8 A xs ∧ n = xs.length := own_rd h.1
theorem Ow.drewN {W : World} {v : Value} {xs : List Int} {lo hi : Nat} (h : Ow W v xs lo hi) (q : Nat) : Ow (W.drewN q) v xs lo hi := ⟨h.1.drewN q, h.2⟩

set_option maxRecDepth 100000 in
set_option maxHeartbeats 16000000 in
theorem fresh_law (A : Option Addr) (n cap : Nat) (xs : List Int) (B : Option Addr) (m bap : Nat) (ys ks ns : List Int) (c : Nat) (w : World) (hn : n = xs.length) (hr : Rd w .u8 A xs) (hB : B8 xs) (hl : xs.length ≤ 140737488351232)
    (hm : m = ys.length) (hr2 : Rd w .u8 B ys) (hB2 : B8 ys) (hl2 : ys.length ≤ 140737488351232)
    (hk : ks.length = 32) (hns : ns.length = 12) (bk : B8 ks) (bn : B8 ns) (hc : c < 4294967296) :
    Calls Try.prog 8 #[.agg (BG ks ns c), .slice A n cap, .slice B m bap] w fun e w' => e = .returned (.bool true) ∧ Below w.heap.size w w' := by
  have HR := Lib.hid hr
  have HN := Lib.hid hn
  have HB := Lib.hid hB
  have HR2 := Lib.hid hr2
  have HM := Lib.hid hm
  have HB2 := Lib.hid hB2
  have HNEW : Hid (∀ W, Calls Try.prog 27 #[.agg (AY .u8 ks), .agg (AY .u8 ns), .int .u32 (c : Int)] W fun e w' => ∃ g, e = .returned (.pointer (some ⟨g, 0, none⟩)) ∧ W.heap.size ≤ g ∧ Blk w' g 87 (SGl ks ns (64 * c)) ∧ Below W.heap.size W w') := Lib.hid (fun W => new_any ks ns c W hk hns hc)
  have HXOR : Hid (∀ g (A : Option Addr) m cap ys W p, m = ys.length → Rd W .u8 A ys → B8 ys → (∀ a, A = some a → a.block ≠ g) → Blk W g 87 (SGl ks ns p) → p + m ≤ 274877906944 → Calls Try.prog 28 #[.pointer (some ⟨g, 0, none⟩), .slice A m cap] W fun e w' => ∃ v, e = .returned (.tuple #[v, .int .i64 0]) ∧ Own w' W.heap.size 5 .u8 v (lay ks ns p ys) ∧ Blk w' g 87 (SGl ks ns (p + m)) ∧ Fr (fun j => j = g) W w') := Lib.hid (fun g A m cap ys W p hm hr hB hA hg hp => (xor_any g A m cap ys ks ns p W hm hr hB (fun _ => hA) (by omega) hg (by omega) hk hns bk bn).mono (fun e w' h => by
    rcases h with ⟨h1, _⟩ | ⟨_, v, h1, h2, h3, h4⟩
    · exact absurd h1 (by omega)
    · exact ⟨v, h1, h2, by rw [hm]; exact h3, h4⟩))
  have HAT : Hid (∀ g p W, Blk W g 87 (SGl ks ns p) → Calls Try.prog 29 #[.pointer (some ⟨g, 0, none⟩)] W fun e w' => e = .returned (.int .u64 (p : Int)) ∧ W = w') := Lib.hid (fun g p W hg => (at_any g ks ns p W hg hk hns).mono (fun e w' h => ⟨h.1, h.2.symm⟩))
  have I31 : Hid ((Try.prog.info? 31).map (·.size) = some ks.length) := Lib.hid (by rw [info31, hk])
  have I33 : Hid ((Try.prog.info? 33).map (·.size) = some ns.length) := Lib.hid (by rw [info33, hns])
  have hn47 : n ≤ 140737488351232 := by omega
  have hm47 : m ≤ 140737488351232 := by omega
  obtain ⟨D, hD⟩ : ∃ D, D = w.heap.size := ⟨_, rfl⟩
  have HR3 : Hid (∀ W, Blk W D 35 (BGl ks ns c) → W.rangeAt D 0 (ks.map (Value.int .u8)) ∧ W.rangeAt D 32 (ns.map (Value.int .u8)) ∧ W.cell? ⟨D, 44, none⟩ = some (.int .u32 (c : Int))) := Lib.hid (fun W h => BGl_range h hk hns)
  obtain ⟨w0, hw0⟩ : ∃ w0, w0 = w.alloc (.cells (BG ks ns c) 35) := ⟨_, rfl⟩
  have HXw0 : Hid (Blk w0 D 35 (BGl ks ns c)) := Lib.hid (by rw [hw0, hD, BG_eq]; exact Blk.new w 35 _)
  have B0 : Hid (Below D w w0) := Lib.hid (by rw [hw0, hD]; exact (Below.refl _ w).alloc (Nat.le_refl _) _)
  have HDE := Lib.hid hD
  have RW : Hid (∀ W, Below D w W → Rd W .u8 A xs ∧ Rd W .u8 B ys) := Lib.hid (fun W h => ⟨HR.out.below (by rw [← HDE.out]; exact h), HR2.out.below (by rw [← HDE.out]; exact h)⟩)
  obtain ⟨M, hM⟩ : ∃ M, M = 274877906944 - 64 * c := ⟨_, rfl⟩
  have HMM := Lib.hid hM
  have HLF : Hid (∀ W, Calls Try.prog 26 #[.int .u32 (c : Int)] W fun e w' => e = .returned (.int .u64 (M : Int)) ∧ W = w') := Lib.hid (fun W => by rw [hM]; exact (lleft_any c W hc).mono (fun e w' h => ⟨h.1, h.2.symm⟩))
  clear hk hns hr hB hl hn hr2 hM bk bn hB2 hl2 hm
  go_enter Try.func8, Try.ntmps8
  go_upto_region 1 with fail
  rw [← hD, ← hw0]
  clear hD hw0
  go_wp2_with fail
  refine (awake_any w0).mono ?_
  rintro e w1 ⟨rfl, b1⟩
  have HXw1 : Hid (Blk w1 D 35 (BGl ks ns c)) := Lib.hid (HXw0.out.below b1 HXw0.out.lt)
  have BD : Hid (Below D w w1) := Lib.hid (B0.out.trans (b1.mono (Nat.le_of_lt HXw0.out.lt)))
  clear b1 HXw0 B0
  have hcx : w1.cell? ⟨D, 44, none⟩ = some (.int .u32 (c : Int)) := (HR3.out w1 HXw1.out).2.2
  have hwn : IntKind.u64.wrap (n : Int) = (n : Int) := by simp [IntKind.wrap, IntKind.bits, IntKind.signed]; omega
  have hwm : IntKind.u64.wrap (m : Int) = (m : Int) := by simp [IntKind.wrap, IntKind.bits, IntKind.signed]; omega
  have hwnm : IntKind.u64.wrap ((n : Int) + (m : Int)) = (n : Int) + (m : Int) := by simp [IntKind.wrap, IntKind.bits, IntKind.signed]; omega
  by_cases hbig : M < n + m
  · have hd : decide ((M : Int) < (n : Int) + (m : Int)) = true := by simp; omega
    go_wp2_with fail
    refine (HLF.out _).mono ?_
    rintro e w' ⟨rfl, rfl⟩
    go_wp2_with fail
    go_ret
    exact ⟨rfl, by rw [← HDE.out]; exact BD.out⟩
  · have hd : decide ((M : Int) < (n : Int) + (m : Int)) = false := by simp; omega
    go_wp2_with fail
    refine (HLF.out _).mono ?_
    rintro e w' ⟨rfl, rfl⟩
    go_upto_region 5 with fail
    clear hcx hd hwn hwm hwnm
    refine wp_region_held_drew (S := fun w' => w'.heap[D]? = w1.heap[D]?) (by kernel_rfl) (rfl) (fun hHeld => ?_)
    have HHd := Lib.hid hHeld
    clear hHeld
    refine wpAnyH_take (i := 0) (oi := ⟨some 39, _, _, _, _, _⟩) (v := (.pointer (some ⟨D, 0, none⟩))) rfl (by kernel_rfl) (by kernel_rfl) (by kernel_rfl) (fun _ _ _ h => h) (Or.inl ⟨by rfl, ?_⟩) HHd.out ?_
    · intro w' hS; go_simp; try with_reducible rfl
    simp only [Act.put, List.setIfInBounds_toArray, List.set_cons_zero, List.set_cons_succ]
    refine wpAnyH_take (i := 1) (oi := ⟨some 40, _, _, _, _, _⟩) (v := (.agg (AY .u8 ks))) rfl (by kernel_rfl) (by kernel_rfl) (by kernel_rfl) (fun _ _ _ h => h) (Or.inl ⟨by rfl, ?_⟩) HHd.out ?_
    · intro w' hS; exact exec_load_AY 31 _ rfl D 0 (by rfl) .u8 ks _ (range_of_block (HR3.out w1 HXw1.out).1 hS) Try.underlying31 rfl I31.out
    simp only [Act.put, List.setIfInBounds_toArray, List.set_cons_zero, List.set_cons_succ]
    refine wpAnyH_take (i := 2) (oi := ⟨some 41, _, _, _, _, _⟩) (v := (.pointer (some ⟨D, 32, none⟩))) rfl (by kernel_rfl) (by kernel_rfl) (by kernel_rfl) (fun _ _ _ h => h) (Or.inl ⟨by rfl, ?_⟩) HHd.out ?_
    · intro w' hS; go_simp; try with_reducible rfl
    simp only [Act.put, List.setIfInBounds_toArray, List.set_cons_zero, List.set_cons_succ]
    refine wpAnyH_take (i := 3) (oi := ⟨some 42, _, _, _, _, _⟩) (v := (.agg (AY .u8 ns))) rfl (by kernel_rfl) (by kernel_rfl) (by kernel_rfl) (fun _ _ _ h => h) (Or.inl ⟨by rfl, ?_⟩) HHd.out ?_
    · intro w' hS; exact exec_load_AY 33 _ rfl D 32 (by rfl) .u8 ns _ (range_of_block (HR3.out w1 HXw1.out).2.1 hS) Try.underlying33 rfl I33.out
    simp only [Act.put, List.setIfInBounds_toArray, List.set_cons_zero, List.set_cons_succ]
    refine wpAnyH_take (i := 4) (oi := ⟨some 43, _, _, _, _, _⟩) (v := (.pointer (some ⟨D, 44, none⟩))) rfl (by kernel_rfl) (by kernel_rfl) (by kernel_rfl) (fun _ _ _ h => h) (Or.inl ⟨by rfl, ?_⟩) HHd.out ?_
    · intro w' hS; go_simp; try with_reducible rfl
    simp only [Act.put, List.setIfInBounds_toArray, List.set_cons_zero, List.set_cons_succ]
    refine wpAnyH_take (i := 5) (oi := ⟨some 44, _, _, _, _, _⟩) (v := (.int .u32 (c : Int))) rfl (by kernel_rfl) (by kernel_rfl) (by kernel_rfl) (fun _ _ _ h => h) (Or.inl ⟨by rfl, ?_⟩) HHd.out ?_
    · intro w' hS; have z0 : w'.cell? ⟨D, 44, none⟩ = some (.int .u32 (c : Int)) := (World.cell?_of_block (w := w1) (w' := w') hS).trans (HR3.out w1 HXw1.out).2.2; go_simp; try with_reducible rfl
    simp only [Act.put, List.setIfInBounds_toArray, List.set_cons_zero, List.set_cons_succ]
    refine wpAnyH_take (i := 7) (oi := ⟨some 46, _, _, _, _, _⟩) (v := (.pointer (some ⟨D, 0, none⟩))) rfl (by kernel_rfl) (by kernel_rfl) (by kernel_rfl) (fun _ _ _ h => h) (Or.inl ⟨by rfl, ?_⟩) HHd.out ?_
    · intro w' hS; go_simp; try with_reducible rfl
    simp only [Act.put, List.setIfInBounds_toArray, List.set_cons_zero, List.set_cons_succ]
    refine wpAnyH_take (i := 8) (oi := ⟨some 47, _, _, _, _, _⟩) (v := (.agg (AY .u8 ks))) rfl (by kernel_rfl) (by kernel_rfl) (by kernel_rfl) (fun _ _ _ h => h) (Or.inl ⟨by rfl, ?_⟩) HHd.out ?_
    · intro w' hS; exact exec_load_AY 31 _ rfl D 0 (by rfl) .u8 ks _ (range_of_block (HR3.out w1 HXw1.out).1 hS) Try.underlying31 rfl I31.out
    simp only [Act.put, List.setIfInBounds_toArray, List.set_cons_zero, List.set_cons_succ]
    refine wpAnyH_take (i := 9) (oi := ⟨some 48, _, _, _, _, _⟩) (v := (.pointer (some ⟨D, 32, none⟩))) rfl (by kernel_rfl) (by kernel_rfl) (by kernel_rfl) (fun _ _ _ h => h) (Or.inl ⟨by rfl, ?_⟩) HHd.out ?_
    · intro w' hS; go_simp; try with_reducible rfl
    simp only [Act.put, List.setIfInBounds_toArray, List.set_cons_zero, List.set_cons_succ]
    refine wpAnyH_take (i := 10) (oi := ⟨some 49, _, _, _, _, _⟩) (v := (.agg (AY .u8 ns))) rfl (by kernel_rfl) (by kernel_rfl) (by kernel_rfl) (fun _ _ _ h => h) (Or.inl ⟨by rfl, ?_⟩) HHd.out ?_
    · intro w' hS; exact exec_load_AY 33 _ rfl D 32 (by rfl) .u8 ns _ (range_of_block (HR3.out w1 HXw1.out).2.1 hS) Try.underlying33 rfl I33.out
    simp only [Act.put, List.setIfInBounds_toArray, List.set_cons_zero, List.set_cons_succ]
    refine wpAnyH_take (i := 11) (oi := ⟨some 50, _, _, _, _, _⟩) (v := (.pointer (some ⟨D, 44, none⟩))) rfl (by kernel_rfl) (by kernel_rfl) (by kernel_rfl) (fun _ _ _ h => h) (Or.inl ⟨by rfl, ?_⟩) HHd.out ?_
    · intro w' hS; go_simp; try with_reducible rfl
    simp only [Act.put, List.setIfInBounds_toArray, List.set_cons_zero, List.set_cons_succ]
    refine wpAnyH_take (i := 12) (oi := ⟨some 51, _, _, _, _, _⟩) (v := (.int .u32 (c : Int))) rfl (by kernel_rfl) (by kernel_rfl) (by kernel_rfl) (fun _ _ _ h => h) (Or.inl ⟨by rfl, ?_⟩) HHd.out ?_
    · intro w' hS; have z0 : w'.cell? ⟨D, 44, none⟩ = some (.int .u32 (c : Int)) := (World.cell?_of_block (w := w1) (w' := w') hS).trans (HR3.out w1 HXw1.out).2.2; go_simp; try with_reducible rfl
    simp only [Act.put, List.setIfInBounds_toArray, List.set_cons_zero, List.set_cons_succ]
    refine wpAnyH_ready (rs := [6]) (by kernel_rfl) (by simp) ?_
    refine AllReadyH.cons (o := ⟨some 45, _, _, _, _, _⟩) rfl (fun K hK => ?_) AllReadyH.nil
    rw [if_pos (by rfl)]
    go_simp
    refine (HNEW.out _).mono ?_
    rintro e w2 ⟨g1, rfl, hg1, hb1, b⟩
    (try simp only [Act.put, List.setIfInBounds_toArray, List.set_cons_zero, List.set_cons_succ])
    refine hK.out _ _ ((b.block D HXw1.out.lt).trans HHd.out) (fun hHeld => ?_)
    clear hK K
    have HH1 := Lib.hid hHeld
    clear hHeld HHd
    replace BD := Lib.hid (BD.out.trans (((bdrew w1).trans b).mono (Nat.le_of_lt HXw1.out.lt)))
    have HXw2 : Hid (Blk w2 D 35 (BGl ks ns c)) := Lib.hid (HXw1.out.below ((bdrew w1).trans b) HXw1.out.lt)
    have HD1 : Hid (D < g1) := Lib.hid (Nat.lt_of_lt_of_le HXw1.out.lt hg1)
    have G1 := Lib.hid hb1
    clear hg1 hb1 b
    refine wpAnyH_ready (rs := [13]) (by kernel_rfl) (by simp) ?_
    refine AllReadyH.cons (o := ⟨some 52, _, _, _, _, _⟩) rfl (fun K hK => ?_) AllReadyH.nil
    rw [if_pos (by rfl)]
    go_simp
    refine (HNEW.out _).mono ?_
    rintro e w3 ⟨g2, rfl, hg2, hb2, b⟩
    (try simp only [Act.put, List.setIfInBounds_toArray, List.set_cons_zero, List.set_cons_succ])
    refine hK.out _ _ ((b.block D HXw2.out.lt).trans HH1.out) (fun hHeld => ?_)
    clear hK K
    have HH2 := Lib.hid hHeld
    clear hHeld HH1
    replace BD := Lib.hid (BD.out.trans (b.mono (Nat.le_of_lt HXw2.out.lt)))
    have HXw3 : Hid (Blk w3 D 35 (BGl ks ns c)) := Lib.hid (HXw2.out.below b HXw2.out.lt)
    have H2 : Hid (g1 < g2) := Lib.hid (Nat.lt_of_lt_of_le G1.out.lt hg2)
    replace G1 := Lib.hid (G1.out.below b G1.out.lt)
    have G2 := Lib.hid hb2
    clear hg2 hb2 b HXw2 HXw1
    refine wpAnyH_take (i := 14) (oi := ⟨some 7, _, _, _, _, _⟩) (v := (.pointer (some ⟨g1, 0, none⟩))) rfl (by kernel_rfl) (by kernel_rfl) (by kernel_rfl) (fun _ _ _ h => h) (Or.inl ⟨by rfl, ?_⟩) HH2.out ?_
    · intro w' hS; go_simp; try with_reducible rfl
    simp only [Act.put, List.setIfInBounds_toArray, List.set_cons_zero, List.set_cons_succ]
    refine wpAnyH_take (i := 15) (oi := ⟨some 8, _, _, _, _, _⟩) (v := (.pointer (some ⟨g2, 0, none⟩))) rfl (by kernel_rfl) (by kernel_rfl) (by kernel_rfl) (fun _ _ _ h => h) (Or.inl ⟨by rfl, ?_⟩) HH2.out ?_
    · intro w' hS; go_simp; try with_reducible rfl
    simp only [Act.put, List.setIfInBounds_toArray, List.set_cons_zero, List.set_cons_succ]
    refine wpAnyH_done (by kernel_rfl) ?_ _
    go_upto_region 6 with fail
    have hcx : w3.cell? ⟨D, 44, none⟩ = some (.int .u32 (c : Int)) := (HR3.out w3 HXw3.out).2.2
    go_wp2_with (first
      | (show wpList _ _ _ ({ dst := some 54, op := _, type := _, pos := _, after := _, guard := _ } :: _) _ _; refine wpList_load_AY rfl 31 _ rfl D 0 rfl .u8 ks _ (HR3.out w3 HXw3.out).1 Try.underlying31 rfl I31.out ?_)
      | (show wpList _ _ _ ({ dst := some 56, op := _, type := _, pos := _, after := _, guard := _ } :: _) _ _; refine wpList_load_AY rfl 33 _ rfl D 32 rfl .u8 ns _ (HR3.out w3 HXw3.out).2.1 Try.underlying33 rfl I33.out ?_))
    clear hcx
    refine (HNEW.out w3).mono ?_
    rintro e w4 ⟨g3, rfl, hg3, hb3, b⟩
    replace BD := Lib.hid (BD.out.trans (b.mono (Nat.le_of_lt HXw3.out.lt)))
    have HXw4 : Hid (Blk w4 D 35 (BGl ks ns c)) := Lib.hid (HXw3.out.below b HXw3.out.lt)
    have H3 : Hid (g2 < g3) := Lib.hid (Nat.lt_of_lt_of_le G2.out.lt hg3)
    replace G1 := Lib.hid (G1.out.below b G1.out.lt)
    replace G2 := Lib.hid (G2.out.below b G2.out.lt)
    have G3 := Lib.hid hb3
    have H4 : Hid (g3 < w4.heap.size) := Lib.hid hb3.lt
    clear hg3 hb3 b HXw3
    go_wp2_with fail
    refine (lent_any A n cap xs w4 HN.out (RW.out w4 BD.out).1 (by have := HN.out; omega)).mono ?_
    rintro e w5 ⟨gi, ci, rest, rfl, hgi, LI, b⟩
    replace BD := Lib.hid (BD.out.trans (b.mono (Nat.le_of_lt HXw4.out.lt)))
    have HDS : Hid (D < w4.heap.size) := Lib.hid HXw4.out.lt
    replace G1 := Lib.hid (G1.out.below b G1.out.lt)
    replace G2 := Lib.hid (G2.out.below b G2.out.lt)
    replace G3 := Lib.hid (G3.out.below b G3.out.lt)
    have L1 := Lib.hid LI
    have H5 : Hid (w4.heap.size ≤ gi ∧ gi < w5.heap.size) := Lib.hid ⟨hgi, LI.blk.lt⟩
    clear hgi LI b HXw4
    go_wp2_with fail
    refine (lent_any B m bap ys w5 HM.out (RW.out w5 BD.out).2 (by have := HM.out; omega)).mono ?_
    rintro e w6 ⟨gj, cj, rest2, rfl, hgj, LJ, b⟩
    replace BD := Lib.hid (BD.out.trans (b.mono (by have := HDS.out; have := H5.out; omega)))
    replace G1 := Lib.hid (G1.out.below b G1.out.lt)
    replace G2 := Lib.hid (G2.out.below b G2.out.lt)
    replace G3 := Lib.hid (G3.out.below b G3.out.lt)
    replace L1 := Lib.hid (L1.out.below b)
    have L2 := Lib.hid LJ
    have H6 : Hid (w5.heap.size ≤ gj ∧ gj < w6.heap.size) := Lib.hid ⟨hgj, LJ.blk.lt⟩
    clear hgj LJ b
    go_wp2_with fail
    refine (HXOR.out g1 (some ⟨gi, 0, none⟩) n ci xs w6 (64 * c) HN.out L1.out.rd HB.out (fun a ha => by injection ha with ha; subst ha; have := HD1.out; have := H2.out; have := H3.out; have := H4.out; have := HDS.out; have := H5.out; have := H6.out; show gi ≠ g1; omega) G1.out (by have := HMM.out; omega)).mono ?_
    rintro e w7 ⟨v, rfl, ov, hg, f⟩
    replace BD := Lib.hid (BD.out.trans (f.below (by have := HD1.out; have := H2.out; have := H3.out; have := H4.out; have := HDS.out; have := H5.out; have := H6.out; omega) (fun j hj => by have := HD1.out; have := H2.out; have := H3.out; have := H4.out; have := HDS.out; have := H5.out; have := H6.out; omega)))
    replace G2 := Lib.hid (G2.out.fr f (by have := HD1.out; have := H2.out; have := H3.out; have := H4.out; have := HDS.out; have := H5.out; have := H6.out; omega))
    replace G3 := Lib.hid (G3.out.fr f (by have := HD1.out; have := H2.out; have := H3.out; have := H4.out; have := HDS.out; have := H5.out; have := H6.out; omega))
    replace L1 := Lib.hid (L1.out.fr f (by have := HD1.out; have := H2.out; have := H3.out; have := H4.out; have := HDS.out; have := H5.out; have := H6.out; omega))
    replace L2 := Lib.hid (L2.out.fr f (by have := HD1.out; have := H2.out; have := H3.out; have := H4.out; have := HDS.out; have := H5.out; have := H6.out; omega))
    replace G1 := Lib.hid hg
    have O1 := Lib.hid (Ow.mk ov)
    have Za : Hid (w6.heap.size ≤ w7.heap.size) := Lib.hid f.size
    obtain ⟨Aa, na, ca, hv⟩ : ∃ A n c, v = .slice A n c := by obtain ⟨A, c, h, _⟩ := ov.slice; exact ⟨A, _, c, h⟩
    subst hv
    clear ov hg f
    go_wp2_with fail
    refine (HXOR.out g2 (some ⟨gi, 0, none⟩) n ci xs w7 (64 * c) HN.out L1.out.rd HB.out (fun a ha => by injection ha with ha; subst ha; have := HD1.out; have := H2.out; have := H3.out; have := H4.out; have := HDS.out; have := H5.out; have := H6.out; show gi ≠ g2; omega) G2.out (by have := HMM.out; omega)).mono ?_
    rintro e w8 ⟨v, rfl, ov, hg, f⟩
    replace BD := Lib.hid (BD.out.trans (f.below (by have := HD1.out; have := H2.out; have := H3.out; have := H4.out; have := HDS.out; have := H5.out; have := H6.out; have := Za.out; omega) (fun j hj => by have := HD1.out; have := H2.out; have := H3.out; have := H4.out; have := HDS.out; have := H5.out; have := H6.out; omega)))
    replace G1 := Lib.hid (G1.out.fr f (by have := HD1.out; have := H2.out; have := H3.out; have := H4.out; have := HDS.out; have := H5.out; have := H6.out; omega))
    replace G3 := Lib.hid (G3.out.fr f (by have := HD1.out; have := H2.out; have := H3.out; have := H4.out; have := HDS.out; have := H5.out; have := H6.out; omega))
    replace L1 := Lib.hid (L1.out.fr f (by have := HD1.out; have := H2.out; have := H3.out; have := H4.out; have := HDS.out; have := H5.out; have := H6.out; omega))
    replace L2 := Lib.hid (L2.out.fr f (by have := HD1.out; have := H2.out; have := H3.out; have := H4.out; have := HDS.out; have := H5.out; have := H6.out; omega))
    replace O1 := Lib.hid (O1.out.fr f (fun gg h1 h2 h3 => by have h4 : gg = g2 := h3; have := HD1.out; have := H2.out; have := H3.out; have := H4.out; have := HDS.out; have := H5.out; have := H6.out; have := Za.out; omega))
    replace G2 := Lib.hid hg
    have O2 := Lib.hid (Ow.mk ov)
    have Zb : Hid (w7.heap.size ≤ w8.heap.size) := Lib.hid f.size
    obtain ⟨Ab, nb, cb, hv⟩ : ∃ A n c, v = .slice A n c := by obtain ⟨A, c, h, _⟩ := ov.slice; exact ⟨A, _, c, h⟩
    subst hv
    clear ov hg f
    go_wp2_with fail
    refine (HXOR.out g1 (some ⟨gj, 0, none⟩) m cj ys w8 (64 * c + n) HM.out L2.out.rd HB2.out (fun a ha => by injection ha with ha; subst ha; have := HD1.out; have := H2.out; have := H3.out; have := H4.out; have := HDS.out; have := H5.out; have := H6.out; show gj ≠ g1; omega) G1.out (by have := HMM.out; omega)).mono ?_
    rintro e w9 ⟨v, rfl, ov, hg, f⟩
    replace BD := Lib.hid (BD.out.trans (f.below (by have := HD1.out; have := H2.out; have := H3.out; have := H4.out; have := HDS.out; have := H5.out; have := H6.out; have := Za.out; have := Zb.out; omega) (fun j hj => by have := HD1.out; have := H2.out; have := H3.out; have := H4.out; have := HDS.out; have := H5.out; have := H6.out; omega)))
    replace G2 := Lib.hid (G2.out.fr f (by have := HD1.out; have := H2.out; have := H3.out; have := H4.out; have := HDS.out; have := H5.out; have := H6.out; omega))
    replace G3 := Lib.hid (G3.out.fr f (by have := HD1.out; have := H2.out; have := H3.out; have := H4.out; have := HDS.out; have := H5.out; have := H6.out; omega))
    replace L1 := Lib.hid (L1.out.fr f (by have := HD1.out; have := H2.out; have := H3.out; have := H4.out; have := HDS.out; have := H5.out; have := H6.out; omega))
    replace L2 := Lib.hid (L2.out.fr f (by have := HD1.out; have := H2.out; have := H3.out; have := H4.out; have := HDS.out; have := H5.out; have := H6.out; omega))
    replace O1 := Lib.hid (O1.out.fr f (fun gg h1 h2 h3 => by have h4 : gg = g1 := h3; have := HD1.out; have := H2.out; have := H3.out; have := H4.out; have := HDS.out; have := H5.out; have := H6.out; have := Za.out; have := Zb.out; omega))
    replace O2 := Lib.hid (O2.out.fr f (fun gg h1 h2 h3 => by have h4 : gg = g1 := h3; have := HD1.out; have := H2.out; have := H3.out; have := H4.out; have := HDS.out; have := H5.out; have := H6.out; have := Za.out; have := Zb.out; omega))
    replace G1 := Lib.hid hg
    have O3 := Lib.hid (Ow.mk ov)
    have Zc : Hid (w8.heap.size ≤ w9.heap.size) := Lib.hid f.size
    obtain ⟨Ac, nc, cc, hv⟩ : ∃ A n c, v = .slice A n c := by obtain ⟨A, c, h, _⟩ := ov.slice; exact ⟨A, _, c, h⟩
    subst hv
    clear ov hg f
    go_wp2_with fail
    refine (HXOR.out g2 (some ⟨gj, 0, none⟩) m cj ys w9 (64 * c + n) HM.out L2.out.rd HB2.out (fun a ha => by injection ha with ha; subst ha; have := HD1.out; have := H2.out; have := H3.out; have := H4.out; have := HDS.out; have := H5.out; have := H6.out; show gj ≠ g2; omega) G2.out (by have := HMM.out; omega)).mono ?_
    rintro e wa ⟨v, rfl, ov, hg, f⟩
    replace BD := Lib.hid (BD.out.trans (f.below (by have := HD1.out; have := H2.out; have := H3.out; have := H4.out; have := HDS.out; have := H5.out; have := H6.out; have := Za.out; have := Zb.out; have := Zc.out; omega) (fun j hj => by have := HD1.out; have := H2.out; have := H3.out; have := H4.out; have := HDS.out; have := H5.out; have := H6.out; omega)))
    replace G1 := Lib.hid (G1.out.fr f (by have := HD1.out; have := H2.out; have := H3.out; have := H4.out; have := HDS.out; have := H5.out; have := H6.out; omega))
    replace G3 := Lib.hid (G3.out.fr f (by have := HD1.out; have := H2.out; have := H3.out; have := H4.out; have := HDS.out; have := H5.out; have := H6.out; omega))
    replace L1 := Lib.hid (L1.out.fr f (by have := HD1.out; have := H2.out; have := H3.out; have := H4.out; have := HDS.out; have := H5.out; have := H6.out; omega))
    replace L2 := Lib.hid (L2.out.fr f (by have := HD1.out; have := H2.out; have := H3.out; have := H4.out; have := HDS.out; have := H5.out; have := H6.out; omega))
    replace O1 := Lib.hid (O1.out.fr f (fun gg h1 h2 h3 => by have h4 : gg = g2 := h3; have := HD1.out; have := H2.out; have := H3.out; have := H4.out; have := HDS.out; have := H5.out; have := H6.out; have := Za.out; have := Zb.out; have := Zc.out; omega))
    replace O2 := Lib.hid (O2.out.fr f (fun gg h1 h2 h3 => by have h4 : gg = g2 := h3; have := HD1.out; have := H2.out; have := H3.out; have := H4.out; have := HDS.out; have := H5.out; have := H6.out; have := Za.out; have := Zb.out; have := Zc.out; omega))
    replace O3 := Lib.hid (O3.out.fr f (fun gg h1 h2 h3 => by have h4 : gg = g2 := h3; have := HD1.out; have := H2.out; have := H3.out; have := H4.out; have := HDS.out; have := H5.out; have := H6.out; have := Za.out; have := Zb.out; have := Zc.out; omega))
    replace G2 := Lib.hid hg
    have O4 := Lib.hid (Ow.mk ov)
    have Zd : Hid (w9.heap.size ≤ wa.heap.size) := Lib.hid f.size
    obtain ⟨Ad, nd, cd, hv⟩ : ∃ A n c, v = .slice A n c := by obtain ⟨A, c, h, _⟩ := ov.slice; exact ⟨A, _, c, h⟩
    subst hv
    clear ov hg f
    obtain ⟨R1, hR1⟩ : ∃ R, R = lay ks ns (64 * c) xs := ⟨_, rfl⟩
    obtain ⟨R2, hR2⟩ : ∃ R, R = lay ks ns (64 * c + n) ys := ⟨_, rfl⟩
    have HR1 : Hid (R1 = lay ks ns (64 * c) xs ∧ R1.length = n) := Lib.hid ⟨hR1, by rw [hR1, lay_len, HN.out]⟩
    have HR2' : Hid (R2 = lay ks ns (64 * c + n) ys ∧ R2.length = m) := Lib.hid ⟨hR2, by rw [hR2, lay_len, HM.out]⟩
    rw [← hR1] at O1 O2
    rw [← hR2] at O3 O4
    clear hR1 hR2
    have hna : na = n := by rw [O1.out.rd.2, HR1.out.2]
    have hnc : nc = m := by rw [O3.out.rd.2, HR2'.out.2]
    subst hna hnc
    have hx1 : (na != na) = false := by simp
    have hx2 : ((na : Int) != (na : Int)) = false := by simp
    have hx3 : (nc != nc) = false := by simp
    have hx4 : ((nc : Int) != (nc : Int)) = false := by simp
    go_wp2_with fail
    refine (same_any Aa Ab na nb ca cb R1 R1 wa O1.out.rd.2 O2.out.rd.2 O1.out.rd.1 O2.out.rd.1 (by rw [HR1.out.2]; omega) (by rw [HR1.out.2]; omega)).mono ?_
    rintro e w' ⟨q1, rfl, rfl⟩
    rw [show decide (R1 = R1) = true from by simp]
    go_wp2_with fail
    refine (same_any Ac Ad nc nd cc cd R2 R2 _ O3.out.rd.2 O4.out.rd.2 (O3.out.rd.1.draws _) (O4.out.rd.1.draws _) (by rw [HR2'.out.2]; omega) (by rw [HR2'.out.2]; omega)).mono ?_
    rintro e w' ⟨q2, rfl, rfl⟩
    rw [show decide (R2 = R2) = true from by simp]
    go_wp2_with fail
    refine (still_any A gi ci cap na na xs rest _ HN.out HN.out (L1.out.drewN _) ((RW.out wa BD.out).1.draws _)).mono ?_
    rintro e w' ⟨q3, rfl, rfl⟩
    go_wp2_with fail
    refine (still_any B gj cj bap nc nc ys rest2 _ HM.out HM.out (L2.out.drewN _) ((RW.out wa BD.out).2.draws _)).mono ?_
    rintro e w' ⟨q4, rfl, rfl⟩
    clear hx1 hx2 hx3 hx4
    replace BD : Hid (Below D w ((wa.drewN (q1 + q2 + q3)).drewN q4)) := Lib.hid (belowN (belowN BD.out _) _)
    replace G1 : Hid (Blk ((wa.drewN (q1 + q2 + q3)).drewN q4) g1 87 (SGl ks ns (64 * c + na + nc))) := G1
    replace G2 : Hid (Blk ((wa.drewN (q1 + q2 + q3)).drewN q4) g2 87 (SGl ks ns (64 * c + na + nc))) := G2
    replace G3 : Hid (Blk ((wa.drewN (q1 + q2 + q3)).drewN q4) g3 87 (SGl ks ns (64 * c))) := G3
    replace L1 : Hid (Lent ((wa.drewN (q1 + q2 + q3)).drewN q4) gi ci xs rest) := Lib.hid ((L1.out.drewN _).drewN _)
    replace L2 : Hid (Lent ((wa.drewN (q1 + q2 + q3)).drewN q4) gj cj ys rest2) := Lib.hid ((L2.out.drewN _).drewN _)
    replace O1 : Hid (Ow ((wa.drewN (q1 + q2 + q3)).drewN q4) (.slice Aa na ca) R1 w6.heap.size w7.heap.size) := Lib.hid ((O1.out.drewN _).drewN _)
    replace O2 : Hid (Ow ((wa.drewN (q1 + q2 + q3)).drewN q4) (.slice Ab nb cb) R1 w7.heap.size w8.heap.size) := Lib.hid ((O2.out.drewN _).drewN _)
    replace O3 : Hid (Ow ((wa.drewN (q1 + q2 + q3)).drewN q4) (.slice Ac nc cc) R2 w8.heap.size w9.heap.size) := Lib.hid ((O3.out.drewN _).drewN _)
    replace O4 : Hid (Ow ((wa.drewN (q1 + q2 + q3)).drewN q4) (.slice Ad nd cd) R2 w9.heap.size wa.heap.size) := Lib.hid ((O4.out.drewN _).drewN _)
    have Ze : Hid (wa.heap.size ≤ ((wa.drewN (q1 + q2 + q3)).drewN q4).heap.size) := Lib.hid (Nat.le_refl _)
    generalize (wa.drewN (q1 + q2 + q3)).drewN q4 = wb at *
    go_wp2_with fail
    refine (copied_any Aa na ca R1 wb O1.out.rd.2 O1.out.rd.1 (by rw [HR1.out.2]; omega)).mono ?_
    rintro e wc ⟨v, rfl, ov, b⟩
    replace BD := Lib.hid (BD.out.trans (b.mono (by have := HD1.out; have := H2.out; have := H3.out; have := H4.out; have := HDS.out; have := H5.out; have := H6.out; have := Za.out; have := Zb.out; have := Zc.out; have := Zd.out; have := Ze.out; omega)))
    replace G1 := Lib.hid (G1.out.below b G1.out.lt)
    replace G2 := Lib.hid (G2.out.below b G2.out.lt)
    replace G3 := Lib.hid (G3.out.below b G3.out.lt)
    replace L1 := Lib.hid (L1.out.below b)
    replace L2 := Lib.hid (L2.out.below b)
    replace O1 := Lib.hid (O1.out.below b)
    replace O2 := Lib.hid (O2.out.below b)
    replace O3 := Lib.hid (O3.out.below b)
    replace O4 := Lib.hid (O4.out.below b)
    have P1 := Lib.hid (Ow.mk ov)
    have Zf : Hid (wb.heap.size ≤ wc.heap.size) := Lib.hid b.size
    obtain ⟨Ae, ne, ce, hv⟩ : ∃ A n c, v = .slice A n c := by obtain ⟨A, c, h, _⟩ := ov.slice; exact ⟨A, _, c, h⟩
    subst hv
    clear ov b
    go_wp2_with fail
    refine (copied_any Ac nc cc R2 wc O3.out.rd.2 O3.out.rd.1 (by rw [HR2'.out.2]; omega)).mono ?_
    rintro e wd ⟨v, rfl, ov, b⟩
    replace BD := Lib.hid (BD.out.trans (b.mono (by have := HD1.out; have := H2.out; have := H3.out; have := H4.out; have := HDS.out; have := H5.out; have := H6.out; have := Za.out; have := Zb.out; have := Zc.out; have := Zd.out; have := Ze.out; have := Zf.out; omega)))
    replace G1 := Lib.hid (G1.out.below b G1.out.lt)
    replace G2 := Lib.hid (G2.out.below b G2.out.lt)
    replace G3 := Lib.hid (G3.out.below b G3.out.lt)
    replace L1 := Lib.hid (L1.out.below b)
    replace L2 := Lib.hid (L2.out.below b)
    replace O1 := Lib.hid (O1.out.below b)
    replace O2 := Lib.hid (O2.out.below b)
    replace O3 := Lib.hid (O3.out.below b)
    replace O4 := Lib.hid (O4.out.below b)
    replace P1 := Lib.hid (P1.out.below b)
    have P2 := Lib.hid (Ow.mk ov)
    have Zg : Hid (wc.heap.size ≤ wd.heap.size) := Lib.hid b.size
    obtain ⟨Af, nf, cf, hv⟩ : ∃ A n c, v = .slice A n c := by obtain ⟨A, c, h, _⟩ := ov.slice; exact ⟨A, _, c, h⟩
    subst hv
    clear ov b
    go_wp2_with fail
    refine (apart_four O1.out.1 (O2.out.1.lower Za.out) (O3.out.1.lower (Nat.le_trans Za.out Zb.out)) (O4.out.1.lower (Nat.le_trans (Nat.le_trans Za.out Zb.out) Zc.out)) O1.out.2 O2.out.2 O3.out.2 O4.out.2 ⟨Za.out, Zb.out, Zc.out, Zd.out⟩ (Nat.le_trans (Nat.le_trans Ze.out Zf.out) Zg.out) (by rw [HR1.out.2]; omega) (by rw [HR1.out.2]; omega) (by rw [HR2'.out.2]; omega) (by rw [HR2'.out.2]; omega)).mono ?_
    rintro e we ⟨rfl, f⟩
    clear O1 O2 O3 O4
    replace BD := Lib.hid (BD.out.trans (f.below (by have := HD1.out; have := H2.out; have := H3.out; have := H4.out; have := HDS.out; have := H5.out; have := H6.out; have := Za.out; have := Zb.out; have := Zc.out; have := Zd.out; have := Ze.out; have := Zf.out; have := Zg.out; omega) (fun j hj => by have := HD1.out; have := H2.out; have := H3.out; have := H4.out; have := HDS.out; have := H5.out; have := H6.out; have h4 : w6.heap.size ≤ j ∧ j < wa.heap.size := hj; omega)))
    replace G1 := Lib.hid (G1.out.fr f (fun h => by have h4 : w6.heap.size ≤ g1 ∧ g1 < wa.heap.size := h; have := HD1.out; have := H2.out; have := H3.out; have := H4.out; have := HDS.out; have := H5.out; have := H6.out; have := Za.out; have := Zb.out; have := Zc.out; have := Zd.out; have := Ze.out; have := Zf.out; have := Zg.out; omega))
    replace G2 := Lib.hid (G2.out.fr f (fun h => by have h4 : w6.heap.size ≤ g2 ∧ g2 < wa.heap.size := h; have := HD1.out; have := H2.out; have := H3.out; have := H4.out; have := HDS.out; have := H5.out; have := H6.out; have := Za.out; have := Zb.out; have := Zc.out; have := Zd.out; have := Ze.out; have := Zf.out; have := Zg.out; omega))
    replace G3 := Lib.hid (G3.out.fr f (fun h => by have h4 : w6.heap.size ≤ g3 ∧ g3 < wa.heap.size := h; have := HD1.out; have := H2.out; have := H3.out; have := H4.out; have := HDS.out; have := H5.out; have := H6.out; have := Za.out; have := Zb.out; have := Zc.out; have := Zd.out; have := Ze.out; have := Zf.out; have := Zg.out; omega))
    replace L1 := Lib.hid (L1.out.fr f (fun h => by have h4 : w6.heap.size ≤ gi ∧ gi < wa.heap.size := h; have := HD1.out; have := H2.out; have := H3.out; have := H4.out; have := HDS.out; have := H5.out; have := H6.out; have := Za.out; have := Zb.out; have := Zc.out; have := Zd.out; have := Ze.out; have := Zf.out; have := Zg.out; omega))
    replace L2 := Lib.hid (L2.out.fr f (fun h => by have h4 : w6.heap.size ≤ gj ∧ gj < wa.heap.size := h; have := HD1.out; have := H2.out; have := H3.out; have := H4.out; have := HDS.out; have := H5.out; have := H6.out; have := Za.out; have := Zb.out; have := Zc.out; have := Zd.out; have := Ze.out; have := Zf.out; have := Zg.out; omega))
    replace P1 := Lib.hid (P1.out.fr f (fun gg h1 h2 h3 => by have h4 : w6.heap.size ≤ gg ∧ gg < wa.heap.size := h3; have := Za.out; have := Zb.out; have := Zc.out; have := Zd.out; have := Ze.out; have := Zf.out; have := Zg.out; omega))
    replace P2 := Lib.hid (P2.out.fr f (fun gg h1 h2 h3 => by have h4 : w6.heap.size ≤ gg ∧ gg < wa.heap.size := h3; have := Za.out; have := Zb.out; have := Zc.out; have := Zd.out; have := Ze.out; have := Zf.out; have := Zg.out; omega))
    have Zi : Hid (wd.heap.size ≤ we.heap.size) := Lib.hid f.size
    clear f
    go_wp2_with fail
    refine (still_any A gi ci cap na na xs rest _ HN.out HN.out L1.out (RW.out we BD.out).1).mono ?_
    rintro e w' ⟨q5, rfl, rfl⟩
    go_wp2_with fail
    refine (still_any B gj cj bap nc nc ys rest2 _ HM.out HM.out (L2.out.drewN _) ((RW.out we BD.out).2.draws _)).mono ?_
    rintro e w' ⟨q6, rfl, rfl⟩
    replace BD : Hid (Below D w ((we.drewN q5).drewN q6)) := Lib.hid (belowN (belowN BD.out _) _)
    replace G1 : Hid (Blk ((we.drewN q5).drewN q6) g1 87 (SGl ks ns (64 * c + na + nc))) := G1
    replace G2 : Hid (Blk ((we.drewN q5).drewN q6) g2 87 (SGl ks ns (64 * c + na + nc))) := G2
    replace G3 : Hid (Blk ((we.drewN q5).drewN q6) g3 87 (SGl ks ns (64 * c))) := G3
    replace L1 : Hid (Lent ((we.drewN q5).drewN q6) gi ci xs rest) := Lib.hid ((L1.out.drewN _).drewN _)
    replace L2 : Hid (Lent ((we.drewN q5).drewN q6) gj cj ys rest2) := Lib.hid ((L2.out.drewN _).drewN _)
    replace P1 : Hid (Ow ((we.drewN q5).drewN q6) (.slice Ae ne ce) R1 wb.heap.size wc.heap.size) := Lib.hid ((P1.out.drewN _).drewN _)
    replace P2 : Hid (Ow ((we.drewN q5).drewN q6) (.slice Af nf cf) R2 wc.heap.size wd.heap.size) := Lib.hid ((P2.out.drewN _).drewN _)
    have Zh : Hid (we.heap.size ≤ ((we.drewN q5).drewN q6).heap.size) := Lib.hid (Nat.le_refl _)
    generalize (we.drewN q5).drewN q6 = wf at *
    go_wp2_with fail
    refine (HXOR.out g3 (some ⟨gi, 0, none⟩) na ci xs wf (64 * c) HN.out L1.out.rd HB.out (fun a ha => by injection ha with ha; subst ha; have := HD1.out; have := H2.out; have := H3.out; have := H4.out; have := HDS.out; have := H5.out; have := H6.out; show gi ≠ g3; omega) G3.out (by have := HMM.out; omega)).mono ?_
    rintro e wg ⟨v, rfl, ov, hg, f⟩
    replace BD := Lib.hid (BD.out.trans (f.below (by have := HD1.out; have := H2.out; have := H3.out; have := H4.out; have := HDS.out; have := H5.out; have := H6.out; have := Za.out; have := Zb.out; have := Zc.out; have := Zd.out; have := Ze.out; have := Zf.out; have := Zg.out; have := Zi.out; have := Zh.out; omega) (fun j hj => by have := HD1.out; have := H2.out; have := H3.out; have := H4.out; have := HDS.out; have := H5.out; have := H6.out; omega)))
    replace G1 := Lib.hid (G1.out.fr f (by have := HD1.out; have := H2.out; have := H3.out; have := H4.out; have := HDS.out; have := H5.out; have := H6.out; omega))
    replace G2 := Lib.hid (G2.out.fr f (by have := HD1.out; have := H2.out; have := H3.out; have := H4.out; have := HDS.out; have := H5.out; have := H6.out; omega))
    replace L1 := Lib.hid (L1.out.fr f (by have := HD1.out; have := H2.out; have := H3.out; have := H4.out; have := HDS.out; have := H5.out; have := H6.out; omega))
    replace L2 := Lib.hid (L2.out.fr f (by have := HD1.out; have := H2.out; have := H3.out; have := H4.out; have := HDS.out; have := H5.out; have := H6.out; omega))
    replace P1 := Lib.hid (P1.out.fr f (fun gg h1 h2 h3 => by have h4 : gg = g3 := h3; have := HD1.out; have := H2.out; have := H3.out; have := H4.out; have := HDS.out; have := H5.out; have := H6.out; have := Za.out; have := Zb.out; have := Zc.out; have := Zd.out; have := Ze.out; have := Zf.out; have := Zg.out; have := Zi.out; have := Zh.out; omega))
    replace P2 := Lib.hid (P2.out.fr f (fun gg h1 h2 h3 => by have h4 : gg = g3 := h3; have := HD1.out; have := H2.out; have := H3.out; have := H4.out; have := HDS.out; have := H5.out; have := H6.out; have := Za.out; have := Zb.out; have := Zc.out; have := Zd.out; have := Ze.out; have := Zf.out; have := Zg.out; have := Zi.out; have := Zh.out; omega))
    replace G3 := Lib.hid hg
    have P5 := Lib.hid (Ow.mk ov)
    have Zj : Hid (wf.heap.size ≤ wg.heap.size) := Lib.hid f.size
    obtain ⟨Ag, ng, cg, hv⟩ : ∃ A n c, v = .slice A n c := by obtain ⟨A, c, h, _⟩ := ov.slice; exact ⟨A, _, c, h⟩
    subst hv
    clear ov hg f
    go_wp2_with fail
    refine (HXOR.out g3 (some ⟨gj, 0, none⟩) nc cj ys wg (64 * c + na) HM.out L2.out.rd HB2.out (fun a ha => by injection ha with ha; subst ha; have := HD1.out; have := H2.out; have := H3.out; have := H4.out; have := HDS.out; have := H5.out; have := H6.out; show gj ≠ g3; omega) G3.out (by have := HMM.out; omega)).mono ?_
    rintro e wh ⟨v, rfl, ov, hg, f⟩
    replace BD := Lib.hid (BD.out.trans (f.below (by have := HD1.out; have := H2.out; have := H3.out; have := H4.out; have := HDS.out; have := H5.out; have := H6.out; have := Za.out; have := Zb.out; have := Zc.out; have := Zd.out; have := Ze.out; have := Zf.out; have := Zg.out; have := Zi.out; have := Zh.out; have := Zj.out; omega) (fun j hj => by have := HD1.out; have := H2.out; have := H3.out; have := H4.out; have := HDS.out; have := H5.out; have := H6.out; omega)))
    replace G1 := Lib.hid (G1.out.fr f (by have := HD1.out; have := H2.out; have := H3.out; have := H4.out; have := HDS.out; have := H5.out; have := H6.out; omega))
    replace G2 := Lib.hid (G2.out.fr f (by have := HD1.out; have := H2.out; have := H3.out; have := H4.out; have := HDS.out; have := H5.out; have := H6.out; omega))
    replace L1 := Lib.hid (L1.out.fr f (by have := HD1.out; have := H2.out; have := H3.out; have := H4.out; have := HDS.out; have := H5.out; have := H6.out; omega))
    replace L2 := Lib.hid (L2.out.fr f (by have := HD1.out; have := H2.out; have := H3.out; have := H4.out; have := HDS.out; have := H5.out; have := H6.out; omega))
    replace P1 := Lib.hid (P1.out.fr f (fun gg h1 h2 h3 => by have h4 : gg = g3 := h3; have := HD1.out; have := H2.out; have := H3.out; have := H4.out; have := HDS.out; have := H5.out; have := H6.out; have := Za.out; have := Zb.out; have := Zc.out; have := Zd.out; have := Ze.out; have := Zf.out; have := Zg.out; have := Zi.out; have := Zh.out; have := Zj.out; omega))
    replace P2 := Lib.hid (P2.out.fr f (fun gg h1 h2 h3 => by have h4 : gg = g3 := h3; have := HD1.out; have := H2.out; have := H3.out; have := H4.out; have := HDS.out; have := H5.out; have := H6.out; have := Za.out; have := Zb.out; have := Zc.out; have := Zd.out; have := Ze.out; have := Zf.out; have := Zg.out; have := Zi.out; have := Zh.out; have := Zj.out; omega))
    replace P5 := Lib.hid (P5.out.fr f (fun gg h1 h2 h3 => by have h4 : gg = g3 := h3; have := HD1.out; have := H2.out; have := H3.out; have := H4.out; have := HDS.out; have := H5.out; have := H6.out; have := Za.out; have := Zb.out; have := Zc.out; have := Zd.out; have := Ze.out; have := Zf.out; have := Zg.out; have := Zi.out; have := Zh.out; have := Zj.out; omega))
    replace G3 := Lib.hid hg
    have P6 := Lib.hid (Ow.mk ov)
    have Zk : Hid (wg.heap.size ≤ wh.heap.size) := Lib.hid f.size
    obtain ⟨Ah, nh, ch, hv⟩ : ∃ A n c, v = .slice A n c := by obtain ⟨A, c, h, _⟩ := ov.slice; exact ⟨A, _, c, h⟩
    subst hv
    clear ov hg f
    go_wp2_with fail
    rw [← HR1.out.1] at P5
    rw [← HR2'.out.1] at P6
    refine (same_any Ag Ae ng ne cg ce R1 R1 wh P5.out.rd.2 P1.out.rd.2 P5.out.rd.1 P1.out.rd.1 (by rw [HR1.out.2]; omega) (by rw [HR1.out.2]; omega)).mono ?_
    rintro e w' ⟨q7, rfl, rfl⟩
    rw [show decide (R1 = R1) = true from by simp]
    go_wp2_with fail
    refine (same_any Ah Af nh nf ch cf R2 R2 _ P6.out.rd.2 P2.out.rd.2 (P6.out.rd.1.draws _) (P2.out.rd.1.draws _) (by rw [HR2'.out.2]; omega) (by rw [HR2'.out.2]; omega)).mono ?_
    rintro e w' ⟨q8, rfl, rfl⟩
    rw [show decide (R2 = R2) = true from by simp]
    replace BD : Hid (Below D w ((wh.drewN q7).drewN q8)) := Lib.hid (belowN (belowN BD.out _) _)
    replace G1 : Hid (Blk ((wh.drewN q7).drewN q8) g1 87 (SGl ks ns (64 * c + na + nc))) := G1
    replace G2 : Hid (Blk ((wh.drewN q7).drewN q8) g2 87 (SGl ks ns (64 * c + na + nc))) := G2
    replace G3 : Hid (Blk ((wh.drewN q7).drewN q8) g3 87 (SGl ks ns (64 * c + na + nc))) := G3
    generalize (wh.drewN q7).drewN q8 = wi at *
    go_wp2_with fail
    refine (HAT.out g1 _ wi G1.out).mono ?_
    rintro e w' ⟨rfl, rfl⟩
    go_wp2_with fail
    refine (HAT.out g3 _ wi G3.out).mono ?_
    rintro e w' ⟨rfl, rfl⟩
    go_wp2_with fail
    refine (HAT.out g2 _ wi G2.out).mono ?_
    rintro e w' ⟨rfl, rfl⟩
    go_wp2_with fail
    refine (HAT.out g3 _ wi G3.out).mono ?_
    rintro e w' ⟨rfl, rfl⟩
    go_wp2_with fail
    go_ret
    exact ⟨rfl, by rw [← HDE.out]; exact BD.out⟩
end Go.Proofs.Ytldbmjkecmmmjaa

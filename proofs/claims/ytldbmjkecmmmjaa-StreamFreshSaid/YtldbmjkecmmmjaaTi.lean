/-
  Walk: the law StreamTwice.
-/
import Derived.Test.YtldbmjkecmmmjaaOn
import Derived.Test.YtldbmjkecmmmjaaAk
import Derived.Test.YtldbmjkecmmmjaaSk
set_option linter.unusedVariables false
set_option linter.unusedSimpArgs false
namespace Go.Proofs.Ytldbmjkecmmmjaa
open Go.RowKit

theorem xb_xb {a k : Int} (ha : 0 ≤ a) (hk : 0 ≤ k) : xb (xb a k) k = a := by
  unfold xb
  rw [Int.toNat_natCast, Nat.xor_assoc, Nat.xor_self, Nat.xor_zero]
  omega
theorem list_ext0 {xs ys : List Int} (hl : xs.length = ys.length) (h : ∀ i, i < xs.length → xs.getD i 0 = ys.getD i 0) : xs = ys := by
  apply List.ext_getElem hl
  intro i h1 h2
  have := h i h1
  rwa [List.getD_eq_getElem?_getD, List.getD_eq_getElem?_getD, List.getElem?_eq_getElem h1, List.getElem?_eq_getElem h2] at this
theorem lay_lay (ks ns : List Int) (p : Nat) (xs : List Int) (hB : B8 xs) : lay ks ns p (lay ks ns p xs) = xs := by
  apply list_ext0
  · rw [lay_len, lay_len]
  · intro i hi
    rw [lay_len, lay_len] at hi
    rw [lay_at _ _ _ _ _ (by rw [lay_len]; exact hi), lay_at _ _ _ _ _ hi]
    exact xb_xb (hB i).1 (kst_B8 _ _ _).1
theorem xor_diff (x y k : Nat) : (x ^^^ k) ^^^ (y ^^^ k) = x ^^^ y := by
  rw [Nat.xor_assoc, Nat.xor_comm k, Nat.xor_assoc y, Nat.xor_self, Nat.xor_zero]

set_option maxRecDepth 100000 in
set_option maxHeartbeats 16000000 in
theorem twice_law (A : Option Addr) (n cap : Nat) (xs : List Int) (B : Option Addr) (m bap : Nat) (ys ks ns : List Int) (c : Nat) (w : World) (hn : n = xs.length) (hr : Rd w .u8 A xs) (hB : B8 xs) (hl : xs.length ≤ 140737488351232)
    (hm : m = ys.length) (hr2 : Rd w .u8 B ys) (hB2 : B8 ys) (hl2 : ys.length ≤ 140737488351232)
    (hk : ks.length = 32) (hns : ns.length = 12) (hc : c < 4294967296) (OC : OurC ks ns c) :
    Calls Try.prog 6 #[.agg (BG ks ns c), .slice A n cap, .slice B m bap] w fun e w' => e = .returned (.bool true) ∧ Below w.heap.size w w' := by
  have HOC := Lib.hid OC
  have HR := Lib.hid hr
  have HN := Lib.hid hn
  have HB := Lib.hid hB
  have HR2 := Lib.hid hr2
  have HM := Lib.hid hm
  have HB2 := Lib.hid hB2
  have I31 : Hid ((Try.prog.info? 31).map (·.size) = some ks.length) := Lib.hid (by rw [info31, hk])
  have I33 : Hid ((Try.prog.info? 33).map (·.size) = some ns.length) := Lib.hid (by rw [info33, hns])
  have hn47 : n ≤ 140737488351232 := by omega
  have hm47 : m ≤ 140737488351232 := by omega
  obtain ⟨D, hD⟩ : ∃ D, D = w.heap.size := ⟨_, rfl⟩
  have HR3 : Hid (∀ W, Blk W D 35 (BGl ks ns c) → W.rangeAt D 0 (ks.map (Value.int .u8)) ∧ W.rangeAt D 32 (ns.map (Value.int .u8)) ∧ W.cell? ⟨D, 44, none⟩ = some (.int .u32 (c : Int))) := Lib.hid (fun W h => BGl_range h hk hns)
  obtain ⟨w0, hw0⟩ : ∃ w0, w0 = w.alloc (.cells (BG ks ns c) 35) := ⟨_, rfl⟩
  have HXw0 : Hid (Blk w0 D 35 (BGl ks ns c)) := Lib.hid (by rw [hw0, hD, BG_eq]; exact Blk.new w 35 _)
  have B0 : Hid (Below D w w0) := Lib.hid (by rw [hw0, hD]; exact (Below.refl _ w).alloc (Nat.le_refl _) _)
  have HDE := Lib.hid hD
  have RW : Hid (∀ W, Below D w W → Rd W .u8 A xs ∧ Rd W .u8 B ys) := Lib.hid (fun W h => ⟨HR.out.below (by rw [← HDE.out]; exact h), HR2.out.below (by rw [← HDE.out]; exact h)⟩)
  have HLE : Hid (∀ n, n ≤ 274877906944 - 64 * c → ansE (64 * c) n = 0) := Lib.hid (fun n h => by unfold ansE; rw [if_pos h])
  have HLE2 : Hid (∀ n, ¬ n ≤ 274877906944 - 64 * c → ansE (64 * c) n = 50) := Lib.hid (fun n h => by unfold ansE; rw [if_neg h])
  have HLL : Hid (∀ zs : List Int, zs.length ≤ 274877906944 - 64 * c → ansL ks ns (64 * c) zs = lay ks ns (64 * c) zs) := Lib.hid (fun zs h => by unfold ansL; rw [if_pos h])
  have HLL2 : Hid (∀ zs : List Int, ¬ zs.length ≤ 274877906944 - 64 * c → ansL ks ns (64 * c) zs = []) := Lib.hid (fun zs h => by unfold ansL; rw [if_neg h])
  clear hk hns hr hB hl hn OC hr2 hB2 hl2 hm
  go_enter Try.func6, Try.ntmps6
  go_upto_region 1 with fail
  rw [← hD, ← hw0]
  clear hD hw0
  go_wp2_with fail
  refine (awake_any w0).mono ?_
  rintro e w1 ⟨rfl, b1⟩
  have HXw1 : Hid (Blk w1 D 35 (BGl ks ns c)) := Lib.hid (HXw0.out.below b1 HXw0.out.lt)
  have B1 : Hid (Below D w w1) := Lib.hid (B0.out.trans (b1.mono (Nat.le_of_lt HXw0.out.lt)))
  clear b1 HXw0 B0
  go_upto_region 3 with fail
  refine wp_region_held_drew (S := fun w' => w'.heap[D]? = w1.heap[D]?) (by kernel_rfl) (rfl) (fun hHeld => ?_)
  have HHd := Lib.hid hHeld
  clear hHeld
  refine wpAnyH_take (i := 0) (oi := ⟨some 17, _, _, _, _, _⟩) (v := (.pointer (some ⟨D, 0, none⟩))) rfl (by kernel_rfl) (by kernel_rfl) (by kernel_rfl) (fun _ _ _ h => h) (Or.inl ⟨by rfl, ?_⟩) HHd.out ?_
  · intro w' hS; go_simp; try with_reducible rfl
  simp only [Act.put, List.setIfInBounds_toArray, List.set_cons_zero, List.set_cons_succ]
  refine wpAnyH_take (i := 1) (oi := ⟨some 18, _, _, _, _, _⟩) (v := (.agg (AY .u8 ks))) rfl (by kernel_rfl) (by kernel_rfl) (by kernel_rfl) (fun _ _ _ h => h) (Or.inl ⟨by rfl, ?_⟩) HHd.out ?_
  · intro w' hS; exact exec_load_AY 31 _ rfl D 0 (by rfl) .u8 ks _ (range_of_block (HR3.out w1 HXw1.out).1 hS) Try.underlying31 rfl I31.out
  simp only [Act.put, List.setIfInBounds_toArray, List.set_cons_zero, List.set_cons_succ]
  refine wpAnyH_take (i := 2) (oi := ⟨some 19, _, _, _, _, _⟩) (v := (.pointer (some ⟨D, 32, none⟩))) rfl (by kernel_rfl) (by kernel_rfl) (by kernel_rfl) (fun _ _ _ h => h) (Or.inl ⟨by rfl, ?_⟩) HHd.out ?_
  · intro w' hS; go_simp; try with_reducible rfl
  simp only [Act.put, List.setIfInBounds_toArray, List.set_cons_zero, List.set_cons_succ]
  refine wpAnyH_take (i := 3) (oi := ⟨some 20, _, _, _, _, _⟩) (v := (.agg (AY .u8 ns))) rfl (by kernel_rfl) (by kernel_rfl) (by kernel_rfl) (fun _ _ _ h => h) (Or.inl ⟨by rfl, ?_⟩) HHd.out ?_
  · intro w' hS; exact exec_load_AY 33 _ rfl D 32 (by rfl) .u8 ns _ (range_of_block (HR3.out w1 HXw1.out).2.1 hS) Try.underlying33 rfl I33.out
  simp only [Act.put, List.setIfInBounds_toArray, List.set_cons_zero, List.set_cons_succ]
  refine wpAnyH_take (i := 4) (oi := ⟨some 21, _, _, _, _, _⟩) (v := (.pointer (some ⟨D, 44, none⟩))) rfl (by kernel_rfl) (by kernel_rfl) (by kernel_rfl) (fun _ _ _ h => h) (Or.inl ⟨by rfl, ?_⟩) HHd.out ?_
  · intro w' hS; go_simp; try with_reducible rfl
  simp only [Act.put, List.setIfInBounds_toArray, List.set_cons_zero, List.set_cons_succ]
  refine wpAnyH_take (i := 5) (oi := ⟨some 22, _, _, _, _, _⟩) (v := (.int .u32 (c : Int))) rfl (by kernel_rfl) (by kernel_rfl) (by kernel_rfl) (fun _ _ _ h => h) (Or.inl ⟨by rfl, ?_⟩) HHd.out ?_
  · intro w' hS; have z0 : w'.cell? ⟨D, 44, none⟩ = some (.int .u32 (c : Int)) := (World.cell?_of_block (w := w1) (w' := w') hS).trans (HR3.out w1 HXw1.out).2.2; go_simp; try with_reducible rfl
  simp only [Act.put, List.setIfInBounds_toArray, List.set_cons_zero, List.set_cons_succ]
  refine wpAnyH_take (i := 6) (oi := ⟨some 23, _, _, _, _, _⟩) (v := (.slice A n cap)) rfl (by kernel_rfl) (by kernel_rfl) (by kernel_rfl) (fun _ _ _ h => h) (Or.inl ⟨by rfl, ?_⟩) HHd.out ?_
  · intro w' hS; go_simp; try with_reducible rfl
  simp only [Act.put, List.setIfInBounds_toArray, List.set_cons_zero, List.set_cons_succ]
  refine wpAnyH_ready (rs := [7]) (by kernel_rfl) (by simp) ?_
  refine AllReadyH.cons (o := ⟨some 24, _, _, _, _, _⟩) rfl (fun K hK => ?_) AllReadyH.nil
  rw [if_pos (by rfl)]
  go_simp
  refine (copied_any A n cap xs w1.drew HN.out ((RW.out w1 B1.out).1) (by have := HN.out; omega)).mono ?_
  rintro e wk ⟨v1, rfl, o1, b1⟩
  (try simp only [Act.put, List.setIfInBounds_toArray, List.set_cons_zero, List.set_cons_succ])
  refine hK.out _ _ ((b1.block D HXw1.out.lt).trans HHd.out) (fun hHeld => ?_)
  clear hK K
  have HH1 := Lib.hid hHeld
  clear hHeld HHd
  obtain ⟨A1, n1, c1, hv1⟩ : ∃ A n c, v1 = .slice A n c := by obtain ⟨A, c, h, _⟩ := o1.slice; exact ⟨A, _, c, h⟩
  subst hv1
  have HO1 : Hid (Rd wk .u8 A1 (xs) ∧ n1 = (xs).length) := Lib.hid (own_rd o1)
  have HB1 : Hid (Below w1.heap.size w1 wk) := Lib.hid ((⟨rfl, rfl, rfl, Nat.le_refl _, fun _ _ => rfl⟩ : Below w1.heap.size w1 w1.drew).trans b1)
  clear o1 b1
  refine wpAnyH_ready (rs := [8]) (by kernel_rfl) (by simp) ?_
  refine AllReadyH.cons (o := ⟨some 25, _, _, _, _, _⟩) rfl (fun K hK => ?_) AllReadyH.nil
  rw [if_pos (by rfl)]
  go_simp
  refine (HOC.out.one A1 n1 c1 (xs) wk HO1.out.2 HO1.out.1 HB.out (by have := HN.out; omega)).mono ?_
  rintro e w2 ⟨v2, rfl, o2, b2⟩
  (try simp only [Act.put, List.setIfInBounds_toArray, List.set_cons_zero, List.set_cons_succ])
  refine hK.out _ _ ((b2.block D (Nat.lt_of_lt_of_le HXw1.out.lt HB1.out.size)).trans HH1.out) (fun hHeld => ?_)
  clear hK K
  have HH2 := Lib.hid hHeld
  clear hHeld HH1
  have Bw2 : Hid (Below w1.heap.size w1 w2) := Lib.hid (HB1.out.trans (b2.mono HB1.out.size))
  have Ow2 : Hid (Own w2 w1.heap.size 5 .u8 v2 (ansL ks ns (64 * c) (xs))) := Lib.hid (o2.lower HB1.out.size)
  have HXw2 : Hid (Blk w2 D 35 (BGl ks ns c)) := Lib.hid (HXw1.out.below Bw2.out HXw1.out.lt)
  clear o2 b2 HB1 HO1
  obtain ⟨Aa, na, ca, hva⟩ : ∃ A n c, v2 = .slice A n c := by obtain ⟨A, c, h, _⟩ := Ow2.out.slice; exact ⟨A, _, c, h⟩
  subst hva
  refine wpAnyH_take (i := 9) (oi := ⟨some 16, _, _, _, _, _⟩) (v := (.tuple #[(.slice Aa na ca), (.int .i64 (ansE (64 * c) (xs).length))])) rfl (by kernel_rfl) (by kernel_rfl) (by kernel_rfl) (fun _ _ _ h => h) (Or.inl ⟨by rfl, ?_⟩) HH2.out ?_
  · intro w' hS; go_simp; try with_reducible rfl
  simp only [Act.put, List.setIfInBounds_toArray, List.set_cons_zero, List.set_cons_succ]
  refine wpAnyH_take (i := 10) (oi := ⟨some 26, _, _, _, _, _⟩) (v := (.slice Aa na ca)) rfl (by kernel_rfl) (by kernel_rfl) (by kernel_rfl) (fun _ _ _ h => h) (Or.inl ⟨by rfl, ?_⟩) HH2.out ?_
  · intro w' hS; go_simp; try with_reducible rfl
  simp only [Act.put, List.setIfInBounds_toArray, List.set_cons_zero, List.set_cons_succ]
  refine wpAnyH_take (i := 11) (oi := ⟨some 27, _, _, _, _, _⟩) (v := (.int .i64 (ansE (64 * c) (xs).length))) rfl (by kernel_rfl) (by kernel_rfl) (by kernel_rfl) (fun _ _ _ h => h) (Or.inl ⟨by rfl, ?_⟩) HH2.out ?_
  · intro w' hS; go_simp; try with_reducible rfl
  simp only [Act.put, List.setIfInBounds_toArray, List.set_cons_zero, List.set_cons_succ]
  refine wpAnyH_take (i := 12) (oi := ⟨some 7, _, _, _, _, _⟩) (v := (.slice Aa na ca)) rfl (by kernel_rfl) (by kernel_rfl) (by kernel_rfl) (fun _ _ _ h => h) (Or.inl ⟨by rfl, ?_⟩) HH2.out ?_
  · intro w' hS; go_simp; try with_reducible rfl
  simp only [Act.put, List.setIfInBounds_toArray, List.set_cons_zero, List.set_cons_succ]
  refine wpAnyH_take (i := 13) (oi := ⟨some 8, _, _, _, _, _⟩) (v := (.int .i64 (ansE (64 * c) (xs).length))) rfl (by kernel_rfl) (by kernel_rfl) (by kernel_rfl) (fun _ _ _ h => h) (Or.inl ⟨by rfl, ?_⟩) HH2.out ?_
  · intro w' hS; go_simp; try with_reducible rfl
  simp only [Act.put, List.setIfInBounds_toArray, List.set_cons_zero, List.set_cons_succ]
  refine wpAnyH_done (by kernel_rfl) ?_ _
  have BA : Hid (Below D w w2) := Lib.hid (B1.out.trans (Bw2.out.mono (Nat.le_of_lt HXw1.out.lt)))
  go_upto_region 4 with fail
  refine wp_region_held_drew (S := fun w' => w'.heap[D]? = w2.heap[D]?) (by kernel_rfl) (rfl) (fun hHeld => ?_)
  have HHd := Lib.hid hHeld
  clear hHeld
  refine wpAnyH_take (i := 0) (oi := ⟨some 29, _, _, _, _, _⟩) (v := (.pointer (some ⟨D, 0, none⟩))) rfl (by kernel_rfl) (by kernel_rfl) (by kernel_rfl) (fun _ _ _ h => h) (Or.inl ⟨by rfl, ?_⟩) HHd.out ?_
  · intro w' hS; go_simp; try with_reducible rfl
  simp only [Act.put, List.setIfInBounds_toArray, List.set_cons_zero, List.set_cons_succ]
  refine wpAnyH_take (i := 1) (oi := ⟨some 30, _, _, _, _, _⟩) (v := (.agg (AY .u8 ks))) rfl (by kernel_rfl) (by kernel_rfl) (by kernel_rfl) (fun _ _ _ h => h) (Or.inl ⟨by rfl, ?_⟩) HHd.out ?_
  · intro w' hS; exact exec_load_AY 31 _ rfl D 0 (by rfl) .u8 ks _ (range_of_block (HR3.out w2 HXw2.out).1 hS) Try.underlying31 rfl I31.out
  simp only [Act.put, List.setIfInBounds_toArray, List.set_cons_zero, List.set_cons_succ]
  refine wpAnyH_take (i := 2) (oi := ⟨some 31, _, _, _, _, _⟩) (v := (.pointer (some ⟨D, 32, none⟩))) rfl (by kernel_rfl) (by kernel_rfl) (by kernel_rfl) (fun _ _ _ h => h) (Or.inl ⟨by rfl, ?_⟩) HHd.out ?_
  · intro w' hS; go_simp; try with_reducible rfl
  simp only [Act.put, List.setIfInBounds_toArray, List.set_cons_zero, List.set_cons_succ]
  refine wpAnyH_take (i := 3) (oi := ⟨some 32, _, _, _, _, _⟩) (v := (.agg (AY .u8 ns))) rfl (by kernel_rfl) (by kernel_rfl) (by kernel_rfl) (fun _ _ _ h => h) (Or.inl ⟨by rfl, ?_⟩) HHd.out ?_
  · intro w' hS; exact exec_load_AY 33 _ rfl D 32 (by rfl) .u8 ns _ (range_of_block (HR3.out w2 HXw2.out).2.1 hS) Try.underlying33 rfl I33.out
  simp only [Act.put, List.setIfInBounds_toArray, List.set_cons_zero, List.set_cons_succ]
  refine wpAnyH_take (i := 4) (oi := ⟨some 33, _, _, _, _, _⟩) (v := (.pointer (some ⟨D, 44, none⟩))) rfl (by kernel_rfl) (by kernel_rfl) (by kernel_rfl) (fun _ _ _ h => h) (Or.inl ⟨by rfl, ?_⟩) HHd.out ?_
  · intro w' hS; go_simp; try with_reducible rfl
  simp only [Act.put, List.setIfInBounds_toArray, List.set_cons_zero, List.set_cons_succ]
  refine wpAnyH_take (i := 5) (oi := ⟨some 34, _, _, _, _, _⟩) (v := (.int .u32 (c : Int))) rfl (by kernel_rfl) (by kernel_rfl) (by kernel_rfl) (fun _ _ _ h => h) (Or.inl ⟨by rfl, ?_⟩) HHd.out ?_
  · intro w' hS; have z0 : w'.cell? ⟨D, 44, none⟩ = some (.int .u32 (c : Int)) := (World.cell?_of_block (w := w2) (w' := w') hS).trans (HR3.out w2 HXw2.out).2.2; go_simp; try with_reducible rfl
  simp only [Act.put, List.setIfInBounds_toArray, List.set_cons_zero, List.set_cons_succ]
  refine wpAnyH_take (i := 6) (oi := ⟨some 35, _, _, _, _, _⟩) (v := (.slice B m bap)) rfl (by kernel_rfl) (by kernel_rfl) (by kernel_rfl) (fun _ _ _ h => h) (Or.inl ⟨by rfl, ?_⟩) HHd.out ?_
  · intro w' hS; go_simp; try with_reducible rfl
  simp only [Act.put, List.setIfInBounds_toArray, List.set_cons_zero, List.set_cons_succ]
  refine wpAnyH_ready (rs := [7]) (by kernel_rfl) (by simp) ?_
  refine AllReadyH.cons (o := ⟨some 36, _, _, _, _, _⟩) rfl (fun K hK => ?_) AllReadyH.nil
  rw [if_pos (by rfl)]
  go_simp
  refine (copied_any B m bap ys w2.drew HM.out ((RW.out w2 BA.out).2) (by have := HM.out; omega)).mono ?_
  rintro e wk ⟨v1, rfl, o1, b1⟩
  (try simp only [Act.put, List.setIfInBounds_toArray, List.set_cons_zero, List.set_cons_succ])
  refine hK.out _ _ ((b1.block D HXw2.out.lt).trans HHd.out) (fun hHeld => ?_)
  clear hK K
  have HH1 := Lib.hid hHeld
  clear hHeld HHd
  obtain ⟨A1, n1, c1, hv1⟩ : ∃ A n c, v1 = .slice A n c := by obtain ⟨A, c, h, _⟩ := o1.slice; exact ⟨A, _, c, h⟩
  subst hv1
  have HO1 : Hid (Rd wk .u8 A1 (ys) ∧ n1 = (ys).length) := Lib.hid (own_rd o1)
  have HB1 : Hid (Below w2.heap.size w2 wk) := Lib.hid ((⟨rfl, rfl, rfl, Nat.le_refl _, fun _ _ => rfl⟩ : Below w2.heap.size w2 w2.drew).trans b1)
  clear o1 b1
  refine wpAnyH_ready (rs := [8]) (by kernel_rfl) (by simp) ?_
  refine AllReadyH.cons (o := ⟨some 37, _, _, _, _, _⟩) rfl (fun K hK => ?_) AllReadyH.nil
  rw [if_pos (by rfl)]
  go_simp
  refine (HOC.out.one A1 n1 c1 (ys) wk HO1.out.2 HO1.out.1 HB2.out (by have := HM.out; omega)).mono ?_
  rintro e w3 ⟨v2, rfl, o2, b2⟩
  (try simp only [Act.put, List.setIfInBounds_toArray, List.set_cons_zero, List.set_cons_succ])
  refine hK.out _ _ ((b2.block D (Nat.lt_of_lt_of_le HXw2.out.lt HB1.out.size)).trans HH1.out) (fun hHeld => ?_)
  clear hK K
  have HH2 := Lib.hid hHeld
  clear hHeld HH1
  have Bw3 : Hid (Below w2.heap.size w2 w3) := Lib.hid (HB1.out.trans (b2.mono HB1.out.size))
  have Ow3 : Hid (Own w3 w2.heap.size 5 .u8 v2 (ansL ks ns (64 * c) (ys))) := Lib.hid (o2.lower HB1.out.size)
  have HXw3 : Hid (Blk w3 D 35 (BGl ks ns c)) := Lib.hid (HXw2.out.below Bw3.out HXw2.out.lt)
  clear o2 b2 HB1 HO1
  obtain ⟨Ab, nb, cb, hvb⟩ : ∃ A n c, v2 = .slice A n c := by obtain ⟨A, c, h, _⟩ := Ow3.out.slice; exact ⟨A, _, c, h⟩
  subst hvb
  refine wpAnyH_take (i := 9) (oi := ⟨some 28, _, _, _, _, _⟩) (v := (.tuple #[(.slice Ab nb cb), (.int .i64 (ansE (64 * c) (ys).length))])) rfl (by kernel_rfl) (by kernel_rfl) (by kernel_rfl) (fun _ _ _ h => h) (Or.inl ⟨by rfl, ?_⟩) HH2.out ?_
  · intro w' hS; go_simp; try with_reducible rfl
  simp only [Act.put, List.setIfInBounds_toArray, List.set_cons_zero, List.set_cons_succ]
  refine wpAnyH_take (i := 10) (oi := ⟨some 38, _, _, _, _, _⟩) (v := (.slice Ab nb cb)) rfl (by kernel_rfl) (by kernel_rfl) (by kernel_rfl) (fun _ _ _ h => h) (Or.inl ⟨by rfl, ?_⟩) HH2.out ?_
  · intro w' hS; go_simp; try with_reducible rfl
  simp only [Act.put, List.setIfInBounds_toArray, List.set_cons_zero, List.set_cons_succ]
  refine wpAnyH_take (i := 11) (oi := ⟨some 39, _, _, _, _, _⟩) (v := (.int .i64 (ansE (64 * c) (ys).length))) rfl (by kernel_rfl) (by kernel_rfl) (by kernel_rfl) (fun _ _ _ h => h) (Or.inl ⟨by rfl, ?_⟩) HH2.out ?_
  · intro w' hS; go_simp; try with_reducible rfl
  simp only [Act.put, List.setIfInBounds_toArray, List.set_cons_zero, List.set_cons_succ]
  refine wpAnyH_take (i := 12) (oi := ⟨some 9, _, _, _, _, _⟩) (v := (.slice Ab nb cb)) rfl (by kernel_rfl) (by kernel_rfl) (by kernel_rfl) (fun _ _ _ h => h) (Or.inl ⟨by rfl, ?_⟩) HH2.out ?_
  · intro w' hS; go_simp; try with_reducible rfl
  simp only [Act.put, List.setIfInBounds_toArray, List.set_cons_zero, List.set_cons_succ]
  refine wpAnyH_take (i := 13) (oi := ⟨some 10, _, _, _, _, _⟩) (v := (.int .i64 (ansE (64 * c) (ys).length))) rfl (by kernel_rfl) (by kernel_rfl) (by kernel_rfl) (fun _ _ _ h => h) (Or.inl ⟨by rfl, ?_⟩) HH2.out ?_
  · intro w' hS; go_simp; try with_reducible rfl
  simp only [Act.put, List.setIfInBounds_toArray, List.set_cons_zero, List.set_cons_succ]
  refine wpAnyH_done (by kernel_rfl) ?_ _
  have BB : Hid (Below D w w3) := Lib.hid (BA.out.trans (Bw3.out.mono (Nat.le_of_lt HXw2.out.lt)))
  have OA3 : Hid (Own w3 w1.heap.size 5 .u8 (.slice Aa na ca) (ansL ks ns (64 * c) xs)) := Lib.hid (Ow2.out.below Bw3.out)
  have OB3 : Hid (Own w3 w1.heap.size 5 .u8 (.slice Ab nb cb) (ansL ks ns (64 * c) ys)) := Lib.hid (Ow3.out.lower Bw2.out.size)
  have HDL : Hid (D ≤ w1.heap.size) := Lib.hid (Nat.le_of_lt HXw1.out.lt)
  clear Ow2 Ow3 Bw2 Bw3 BA B1 HXw1 HXw2
  rw [← HN.out, ← HM.out]
  have hcx : w3.cell? ⟨D, 44, none⟩ = some (.int .u32 (c : Int)) := (HR3.out w3 HXw3.out).2.2
  have hwn : IntKind.u64.wrap (n : Int) = (n : Int) := by simp [IntKind.wrap, IntKind.bits, IntKind.signed]; omega
  have hwm : IntKind.u64.wrap (m : Int) = (m : Int) := by simp [IntKind.wrap, IntKind.bits, IntKind.signed]; omega
  obtain ⟨M, hM⟩ : ∃ M, M = 274877906944 - 64 * c := ⟨_, rfl⟩
  have HMM := Lib.hid hM
  have HLF : Hid (∀ W, Calls Try.prog 26 #[.int .u32 (c : Int)] W fun e w' => e = .returned (.int .u64 (M : Int)) ∧ W = w') := Lib.hid (fun W => by rw [hM]; exact (lleft_any c W hc).mono (fun e w' h => ⟨h.1, h.2.symm⟩))
  rw [← hM] at HLE HLE2 HLL HLL2
  clear hM
  by_cases hfa : n ≤ M
  · have hda : decide ((M : Int) < (n : Int)) = false := by simp; omega
    have hda2 : decide (M < n) = false := by simp; omega
    rw [HLE.out n hfa]
    have HLA : Hid (ansL ks ns (64 * c) xs = lay ks ns (64 * c) xs) := Lib.hid (HLL.out xs (by rw [← HN.out]; exact hfa))
    rw [HLA.out] at OA3
    have hna : na = n := by rw [(own_rd OA3.out).2, lay_len, HN.out]
    subst hna
    go_wp2_with fail
    refine (HLF.out _).mono ?_
    rintro e w' ⟨rfl, rfl⟩
    go_upto_region 7 with fail
    have HCL : Hid ((lay ks ns (64 * c) xs).length ≤ M ∧ (lay ks ns (64 * c) xs).length ≤ 140737488355328) := Lib.hid (by rw [lay_len, ← HN.out]; exact ⟨hfa, by omega⟩)
    have HBL : Hid (B8 (lay ks ns (64 * c) xs)) := Lib.hid (lay_B8 HB.out)
    refine wp_region_held_drew (S := fun w' => w'.heap[D]? = w3.heap[D]?) (by kernel_rfl) (rfl) (fun hHeld => ?_)
    have HHd := Lib.hid hHeld
    clear hHeld
    refine wpAnyH_take (i := 0) (oi := ⟨some 55, _, _, _, _, _⟩) (v := (.pointer (some ⟨D, 0, none⟩))) rfl (by kernel_rfl) (by kernel_rfl) (by kernel_rfl) (fun _ _ _ h => h) (Or.inl ⟨by rfl, ?_⟩) HHd.out ?_
    · intro w' hS; go_simp; try with_reducible rfl
    simp only [Act.put, List.setIfInBounds_toArray, List.set_cons_zero, List.set_cons_succ]
    refine wpAnyH_take (i := 1) (oi := ⟨some 56, _, _, _, _, _⟩) (v := (.agg (AY .u8 ks))) rfl (by kernel_rfl) (by kernel_rfl) (by kernel_rfl) (fun _ _ _ h => h) (Or.inl ⟨by rfl, ?_⟩) HHd.out ?_
    · intro w' hS; exact exec_load_AY 31 _ rfl D 0 (by rfl) .u8 ks _ (range_of_block (HR3.out w3 HXw3.out).1 hS) Try.underlying31 rfl I31.out
    simp only [Act.put, List.setIfInBounds_toArray, List.set_cons_zero, List.set_cons_succ]
    refine wpAnyH_take (i := 2) (oi := ⟨some 57, _, _, _, _, _⟩) (v := (.pointer (some ⟨D, 32, none⟩))) rfl (by kernel_rfl) (by kernel_rfl) (by kernel_rfl) (fun _ _ _ h => h) (Or.inl ⟨by rfl, ?_⟩) HHd.out ?_
    · intro w' hS; go_simp; try with_reducible rfl
    simp only [Act.put, List.setIfInBounds_toArray, List.set_cons_zero, List.set_cons_succ]
    refine wpAnyH_take (i := 3) (oi := ⟨some 58, _, _, _, _, _⟩) (v := (.agg (AY .u8 ns))) rfl (by kernel_rfl) (by kernel_rfl) (by kernel_rfl) (fun _ _ _ h => h) (Or.inl ⟨by rfl, ?_⟩) HHd.out ?_
    · intro w' hS; exact exec_load_AY 33 _ rfl D 32 (by rfl) .u8 ns _ (range_of_block (HR3.out w3 HXw3.out).2.1 hS) Try.underlying33 rfl I33.out
    simp only [Act.put, List.setIfInBounds_toArray, List.set_cons_zero, List.set_cons_succ]
    refine wpAnyH_take (i := 4) (oi := ⟨some 59, _, _, _, _, _⟩) (v := (.pointer (some ⟨D, 44, none⟩))) rfl (by kernel_rfl) (by kernel_rfl) (by kernel_rfl) (fun _ _ _ h => h) (Or.inl ⟨by rfl, ?_⟩) HHd.out ?_
    · intro w' hS; go_simp; try with_reducible rfl
    simp only [Act.put, List.setIfInBounds_toArray, List.set_cons_zero, List.set_cons_succ]
    refine wpAnyH_take (i := 5) (oi := ⟨some 60, _, _, _, _, _⟩) (v := (.int .u32 (c : Int))) rfl (by kernel_rfl) (by kernel_rfl) (by kernel_rfl) (fun _ _ _ h => h) (Or.inl ⟨by rfl, ?_⟩) HHd.out ?_
    · intro w' hS; have z0 : w'.cell? ⟨D, 44, none⟩ = some (.int .u32 (c : Int)) := (World.cell?_of_block (w := w3) (w' := w') hS).trans (HR3.out w3 HXw3.out).2.2; go_simp; try with_reducible rfl
    simp only [Act.put, List.setIfInBounds_toArray, List.set_cons_zero, List.set_cons_succ]
    refine wpAnyH_take (i := 6) (oi := ⟨some 61, _, _, _, _, _⟩) (v := (.slice Aa na ca)) rfl (by kernel_rfl) (by kernel_rfl) (by kernel_rfl) (fun _ _ _ h => h) (Or.inl ⟨by rfl, ?_⟩) HHd.out ?_
    · intro w' hS; go_simp; try with_reducible rfl
    simp only [Act.put, List.setIfInBounds_toArray, List.set_cons_zero, List.set_cons_succ]
    refine wpAnyH_ready (rs := [7]) (by kernel_rfl) (by simp) ?_
    refine AllReadyH.cons (o := ⟨some 62, _, _, _, _, _⟩) rfl (fun K hK => ?_) AllReadyH.nil
    rw [if_pos (by rfl)]
    go_simp
    refine (copied_any Aa na ca (lay ks ns (64 * c) xs) w3.drew (own_rd OA3.out).2 (own_rd OA3.out).1 HCL.out.2).mono ?_
    rintro e wk ⟨v1, rfl, o1, b1⟩
    (try simp only [Act.put, List.setIfInBounds_toArray, List.set_cons_zero, List.set_cons_succ])
    refine hK.out _ _ ((b1.block D HXw3.out.lt).trans HHd.out) (fun hHeld => ?_)
    clear hK K
    have HH1 := Lib.hid hHeld
    clear hHeld HHd
    obtain ⟨A1, n1, c1, hv1⟩ : ∃ A n c, v1 = .slice A n c := by obtain ⟨A, c, h, _⟩ := o1.slice; exact ⟨A, _, c, h⟩
    subst hv1
    have HO1 : Hid (Rd wk .u8 A1 (lay ks ns (64 * c) xs) ∧ n1 = (lay ks ns (64 * c) xs).length) := Lib.hid (own_rd o1)
    have HB1 : Hid (Below w3.heap.size w3 wk) := Lib.hid ((⟨rfl, rfl, rfl, Nat.le_refl _, fun _ _ => rfl⟩ : Below w3.heap.size w3 w3.drew).trans b1)
    clear o1 b1
    refine wpAnyH_ready (rs := [8]) (by kernel_rfl) (by simp) ?_
    refine AllReadyH.cons (o := ⟨some 63, _, _, _, _, _⟩) rfl (fun K hK => ?_) AllReadyH.nil
    rw [if_pos (by rfl)]
    go_simp
    refine (HOC.out.one A1 n1 c1 (lay ks ns (64 * c) xs) wk HO1.out.2 HO1.out.1 HBL.out HCL.out.2).mono ?_
    rintro e w4 ⟨v2, rfl, o2, b2⟩
    (try simp only [Act.put, List.setIfInBounds_toArray, List.set_cons_zero, List.set_cons_succ])
    refine hK.out _ _ ((b2.block D (Nat.lt_of_lt_of_le HXw3.out.lt HB1.out.size)).trans HH1.out) (fun hHeld => ?_)
    clear hK K
    have HH2 := Lib.hid hHeld
    clear hHeld HH1
    have Bw4 : Hid (Below w3.heap.size w3 w4) := Lib.hid (HB1.out.trans (b2.mono HB1.out.size))
    have Ow4 : Hid (Own w4 w3.heap.size 5 .u8 v2 (ansL ks ns (64 * c) (lay ks ns (64 * c) xs))) := Lib.hid (o2.lower HB1.out.size)
    have HXw4 : Hid (Blk w4 D 35 (BGl ks ns c)) := Lib.hid (HXw3.out.below Bw4.out HXw3.out.lt)
    clear o2 b2 HB1 HO1
    obtain ⟨Ac, nc, cc, hvc⟩ : ∃ A n c, v2 = .slice A n c := by obtain ⟨A, c, h, _⟩ := Ow4.out.slice; exact ⟨A, _, c, h⟩
    subst hvc
    refine wpAnyH_take (i := 9) (oi := ⟨some 54, _, _, _, _, _⟩) (v := (.tuple #[(.slice Ac nc cc), (.int .i64 (ansE (64 * c) (lay ks ns (64 * c) xs).length))])) rfl (by kernel_rfl) (by kernel_rfl) (by kernel_rfl) (fun _ _ _ h => h) (Or.inl ⟨by rfl, ?_⟩) HH2.out ?_
    · intro w' hS; go_simp; try with_reducible rfl
    simp only [Act.put, List.setIfInBounds_toArray, List.set_cons_zero, List.set_cons_succ]
    refine wpAnyH_take (i := 10) (oi := ⟨some 64, _, _, _, _, _⟩) (v := (.slice Ac nc cc)) rfl (by kernel_rfl) (by kernel_rfl) (by kernel_rfl) (fun _ _ _ h => h) (Or.inl ⟨by rfl, ?_⟩) HH2.out ?_
    · intro w' hS; go_simp; try with_reducible rfl
    simp only [Act.put, List.setIfInBounds_toArray, List.set_cons_zero, List.set_cons_succ]
    refine wpAnyH_take (i := 11) (oi := ⟨some 65, _, _, _, _, _⟩) (v := (.int .i64 (ansE (64 * c) (lay ks ns (64 * c) xs).length))) rfl (by kernel_rfl) (by kernel_rfl) (by kernel_rfl) (fun _ _ _ h => h) (Or.inl ⟨by rfl, ?_⟩) HH2.out ?_
    · intro w' hS; go_simp; try with_reducible rfl
    simp only [Act.put, List.setIfInBounds_toArray, List.set_cons_zero, List.set_cons_succ]
    refine wpAnyH_take (i := 12) (oi := ⟨some 11, _, _, _, _, _⟩) (v := (.slice Ac nc cc)) rfl (by kernel_rfl) (by kernel_rfl) (by kernel_rfl) (fun _ _ _ h => h) (Or.inl ⟨by rfl, ?_⟩) HH2.out ?_
    · intro w' hS; go_simp; try with_reducible rfl
    simp only [Act.put, List.setIfInBounds_toArray, List.set_cons_zero, List.set_cons_succ]
    refine wpAnyH_take (i := 13) (oi := ⟨some 12, _, _, _, _, _⟩) (v := (.int .i64 (ansE (64 * c) (lay ks ns (64 * c) xs).length))) rfl (by kernel_rfl) (by kernel_rfl) (by kernel_rfl) (fun _ _ _ h => h) (Or.inl ⟨by rfl, ?_⟩) HH2.out ?_
    · intro w' hS; go_simp; try with_reducible rfl
    simp only [Act.put, List.setIfInBounds_toArray, List.set_cons_zero, List.set_cons_succ]
    refine wpAnyH_done (by kernel_rfl) ?_ _
    rw [HLL.out _ HCL.out.1, lay_lay ks ns (64 * c) xs HB.out] at Ow4
    rw [HLE.out _ HCL.out.1]
    have BC : Hid (Below D w w4) := Lib.hid (BB.out.trans (Bw4.out.mono (Nat.le_of_lt HXw3.out.lt)))
    have OA4 : Hid (Own w4 w1.heap.size 5 .u8 (.slice Aa na ca) (lay ks ns (64 * c) xs)) := Lib.hid (OA3.out.below Bw4.out)
    have OB4 : Hid (Own w4 w1.heap.size 5 .u8 (.slice Ab nb cb) (ansL ks ns (64 * c) ys)) := Lib.hid (OB3.out.below Bw4.out)
    clear hcx Bw4 BB OA3 OB3 HXw3
    have hnn : (na != na) = false := by simp
    have hnn2 : ((na : Int) != (na : Int)) = false := by simp
    go_wp2_with fail
    refine (same_any Ac A nc na cc cap xs xs w4 (own_rd Ow4.out).2 HN.out (own_rd Ow4.out).1 (RW.out w4 BC.out).1 (by have := HN.out; omega) (by have := HN.out; omega)).mono ?_
    rintro e w' ⟨q1, rfl, rfl⟩
    rw [show decide (xs = xs) = true from by simp]
    have HXw5 : Hid (Blk (w4.drewN q1) D 35 (BGl ks ns c)) := HXw4
    have OA5 : Hid (Own (w4.drewN q1) w1.heap.size 5 .u8 (.slice Aa na ca) (lay ks ns (64 * c) xs)) := OA4
    have OB5 : Hid (Own (w4.drewN q1) w1.heap.size 5 .u8 (.slice Ab nb cb) (ansL ks ns (64 * c) ys)) := OB4
    have BD : Hid (Below D w (w4.drewN q1)) := Lib.hid (belowN BC.out _)
    generalize w4.drewN q1 = w5 at *
    clear OA4 OB4 BC HXw4 Ow4
    have hcx : w5.cell? ⟨D, 44, none⟩ = some (.int .u32 (c : Int)) := (HR3.out w5 HXw5.out).2.2
    by_cases hfb : m ≤ M
    · have hdb : decide ((M : Int) < (m : Int)) = false := by simp; omega
      have hdb2 : decide (M < m) = false := by simp; omega
      rw [HLE.out m hfb]
      rw [HLL.out ys (by rw [← HM.out]; exact hfb)] at OB5
      have hnb : nb = m := by rw [(own_rd OB5.out).2, lay_len, HM.out]
      subst hnb
      have hbb : (nb != nb) = false := by simp
      have hbb2 : ((nb : Int) != (nb : Int)) = false := by simp
      go_wp2_with fail
      refine (HLF.out _).mono ?_
      rintro e w' ⟨rfl, rfl⟩
      clear hcx hda hda2 hdb hdb2 hnn hnn2 hbb hbb2 hwn hwm
      go_wp2_with fail
      go_loopw [13] (fun iv wr => ∃ i q : Nat, i ≤ na ∧ i ≤ nb ∧ iv = .int .i64 i ∧ wr = w5.drewN q) (fun iv _ => na - (intOf iv).toNat)
      case atStart => exact ⟨0, 0, Nat.zero_le _, Nat.zero_le _, rfl, rfl⟩
      case round =>
        obtain ⟨i, q, hia, hib, rfl, rfl⟩ := hrel
        by_cases hlt : i < na ∧ i < nb
        · obtain ⟨h1, h2⟩ := hlt
          have hd1 : decide ((i : Int) < (na : Int)) = true := by simp; omega
          have hd2 : decide ((i : Int) < (nb : Int)) = true := by simp; omega
          obtain ⟨ba, oa, x, hA, hcxx, HXK⟩ := (RW.out w5 BD.out).1.at i (by rw [← HN.out]; exact h1)
          obtain ⟨bb, ob, y, hB', hcyy, HYK⟩ := (RW.out w5 BD.out).2.at i (by rw [← HM.out]; exact h2)
          obtain ⟨bc, oc, u, hC, hcuu, HUK⟩ := (own_rd OA5.out).1.at i (by rw [lay_len, ← HN.out]; exact h1)
          obtain ⟨bd, od, v, hD', hcvv, HVK⟩ := (own_rd OB5.out).1.at i (by rw [lay_len, ← HM.out]; exact h2)
          obtain ⟨X, hX⟩ : ∃ X : Nat, x = (X : Int) := ⟨x.toNat, by have := HB.out i; have := HXK.out; omega⟩
          obtain ⟨Y, hY⟩ : ∃ Y : Nat, y = (Y : Int) := ⟨y.toNat, by have := HB2.out i; have := HYK.out; omega⟩
          have hX8 : X < 256 := by have := HB.out i; have := HXK.out; omega
          have hY8 : Y < 256 := by have := HB2.out i; have := HYK.out; omega
          obtain ⟨K, hK⟩ : ∃ K : Nat, kst ks ns (64 * c + i) = (K : Int) := ⟨(kst ks ns (64 * c + i)).toNat, by have := kst_B8 ks ns (64 * c + i); omega⟩
          have hK8 : K < 256 := by have := kst_B8 ks ns (64 * c + i); omega
          have hu : u = ((X ^^^ K : Nat) : Int) := by rw [HUK.out, lay_at _ _ _ _ _ (by rw [← HN.out]; exact h1), ← HXK.out, hK, hX]; rfl
          have hv : v = ((Y ^^^ K : Nat) : Int) := by rw [HVK.out, lay_at _ _ _ _ _ (by rw [← HM.out]; exact h2), ← HYK.out, hK, hY]; rfl
          subst hX hY hu hv hA hB' hC hD'
          have hl1 := Nat.xor_lt_two_pow (n := 8) hX8 hK8
          have hl2 := Nat.xor_lt_two_pow (n := 8) hY8 hK8
          have HZ1 : Hid (bits .xor .u8 ((X ^^^ K : Nat) : Int) ((Y ^^^ K : Nat) : Int) = ((X ^^^ Y : Nat) : Int)) := Lib.hid (by rw [u8_xor_nat _ _ hl1 hl2, xor_diff])
          have HZ2 : Hid (bits .xor .u8 (X : Int) (Y : Int) = ((X ^^^ Y : Nat) : Int)) := Lib.hid (u8_xor_nat X Y hX8 hY8)
          clear hl1 hl2 hK
          generalize X ^^^ K = U at *
          generalize Y ^^^ K = V at *
          generalize X ^^^ Y = Z at *
          have hz1 := HZ1.out
          have hz2 := HZ2.out
          have hzz : ((Z : Int) != (Z : Int)) = false := by simp
          go_wp2_with fail
          go_quiet (fail)
          go_wp2_with fail
          go_roundw
          case rel => exact ⟨i + 1, _, by omega, by omega, by go_num, rfl⟩
          case measure => simp [intOf]; omega
        · have HBD : Hid (Below D w (w5.drewN q)) := Lib.hid (belowN BD.out q)
          by_cases h1 : i < na
          · have hd1 : decide ((i : Int) < (na : Int)) = true := by simp; omega
            have hd2 : decide ((i : Int) < (nb : Int)) = false := by simp; omega
            go_wp2_with fail
            go_ret
            exact ⟨rfl, by rw [← HDE.out]; exact HBD.out⟩
          · have hd1 : decide ((i : Int) < (na : Int)) = false := by simp; omega
            go_wp2_with fail
            go_ret
            exact ⟨rfl, by rw [← HDE.out]; exact HBD.out⟩
    · have hdb : decide ((M : Int) < (m : Int)) = true := by simp; omega
      have hdb2 : decide (M < m) = true := by simp; omega
      rw [HLE2.out m hfb]
      rw [HLL2.out ys (by rw [← HM.out]; exact hfb)] at OB5
      have hnb : nb = 0 := by rw [(own_rd OB5.out).2]; rfl
      subst hnb
      go_wp2_with fail
      refine (HLF.out _).mono ?_
      rintro e w' ⟨rfl, rfl⟩
      go_wp2_with fail
      go_ret
      exact ⟨rfl, by rw [← HDE.out]; exact BD.out⟩
  · have hda : decide ((M : Int) < (n : Int)) = true := by simp; omega
    have hda2 : decide (M < n) = true := by simp; omega
    rw [HLE2.out n hfa]
    rw [HLL2.out xs (by rw [← HN.out]; exact hfa)] at OA3
    have hna : na = 0 := by rw [(own_rd OA3.out).2]; rfl
    subst hna
    go_wp2_with fail
    refine (HLF.out _).mono ?_
    rintro e w' ⟨rfl, rfl⟩
    go_wp2_with fail
    go_ret
    exact ⟨rfl, by rw [← HDE.out]; exact BB.out⟩
end Go.Proofs.Ytldbmjkecmmmjaa

/-
  Walk: the law RecordBack.
-/
import Derived.Test.YtedejkfhgpnhpaaAw
import Derived.Deep.DeepCutAuto
import Derived.Test.YtedejkfhgpnhpaaHp
set_option linter.unusedVariables false
set_option linter.unusedSimpArgs false
namespace Go.Proofs.Ytedejkfhgpnhpaa
open Go.RowKit

theorem wpList_buildG {P : Program} {ops : Array Oper} {rest : List Oper} {o : Oper} {a : Act} {w : World} {Q : Exit → Act → World → Prop} (hw : Region.wanted o (yielded ops a.tmps) = true) (t : TypeId) (parts : Array (Nat × Operand)) (dst : Option Tmp) (hd : o.dst = dst) (ho : o.op = .build t parts)
    (cells : Array Value) (hc : P.built t (parts.map fun (i, x) => (i, a.eval x)).toList = some cells) (h : wpList P ops Q rest (a.put dst (.agg cells)) w) : wpList P ops Q (o :: rest) a w :=
  wpList_step fun K hK => by
    rw [if_pos hw]
    unfold Oper.wp
    rw [exec_build t parts ho cells hc]
    exact hK _ _ (by rw [hd]; exact h)
theorem wpList_buildG0 {P : Program} {ops : Array Oper} {rest : List Oper} {o : Oper} {a : Act} {w : World} {Q : Exit → Act → World → Prop} (hw : Region.wanted o (yielded ops a.tmps) = true) (t : TypeId) (dst : Option Tmp) (hd : o.dst = dst) (ho : o.op = .build t #[])
    (cells : Array Value) (hc : P.built t [] = some cells) (h : wpList P ops Q rest (a.put dst (.agg cells)) w) : wpList P ops Q (o :: rest) a w :=
  wpList_buildG hw t #[] dst hd ho cells (by simpa using hc) h
set_option maxRecDepth 100000 in
set_option maxHeartbeats 8000000 in
theorem back_any (l f i r : Nat) (g : Nat → Int) (A : Option Addr) (n c : Nat) (xs : List Int) (B : Option Addr) (m d : Nat) (ys : List Int) (w : World) (hn : n = xs.length) (hm : m = ys.length) (hx : Rd w .u8 A xs) (hy : Rd w .u8 B ys) (hBx : B8 xs) (hBy : B8 ys)
    (hl : l < 256) (hf : f < 256) (hi : i < 4294967296) (hr : r < 4294967296) (hg : ∀ k, 0 ≤ g k ∧ g k ≤ 255) (hxl : xs.length ≤ 140737488354000) (hyl : ys.length ≤ 140737488354000) :
    Calls Try.prog 7 #[.agg (hArr l f i r g), .slice A n c, .slice B m d] w fun e w' => e = .returned (.bool true) ∧ Below w.heap.size w w' := by
  have W0 := Lib.hid ((Below.refl w.heap.size w).alloc (Nat.le_refl _) (.cells (hArr l f i r g) 26))
  have B0 : Hid (Hd (w.alloc (.cells (hArr l f i r g) 26)) w.heap.size (hArr l f i r g)) := Lib.hid (heap_alloc_new w _)
  have HX := Lib.hid hx
  have HY := Lib.hid hy
  have HN := Lib.hid hn
  have HM := Lib.hid hm
  have HBX := Lib.hid hBx
  have HBY := Lib.hid hBy
  have HG := Lib.hid hg
  have hn63 : n ≤ 140737488354000 := by omega
  have hm63 : m ≤ 140737488354000 := by omega
  clear hx hy hn hm hBx hBy hg
  go_enter Try.func7, Try.ntmps7
  go_wp2_with fail
  generalize w.alloc (.cells (hArr l f i r g) 26) = w0 at W0 B0
  obtain ⟨P, hP⟩ : ∃ P, P = w.heap.size := ⟨_, rfl⟩
  rw [← hP] at B0 ⊢
  have HPW : Hid (w.heap.size ≤ P) := Lib.hid (by omega)
  clear hP
  refine (awake_any w0).mono ?_
  rintro e w1 ⟨rfl, b1⟩
  have W1 := Lib.hid (W0.out.trans (b1.mono W0.out.size))
  have B1 := Lib.hid (B0.out.below B0.out.lt b1)
  clear b1 W0 B0
  go_wp2_with fail
  refine wp_region_held_drew (S := fun w' => Hd w' P (hArr l f i r g)) (by kernel_rfl) B1.out (fun hHeld => ?_)
  have W1 := Lib.hid W1.out.drew
  have B1 : Hid (Hd w1.drew P (hArr l f i r g)) := Lib.hid B1.out
  generalize w1.drew = w2 at W1 B1 hHeld
  refine wpAnyH_take (i := 0) (oi := ⟨some 13, _, _, _, _, _⟩) (v := (.agg (hArr l f i r g))) rfl (by kernel_rfl) (by kernel_rfl) (by kernel_rfl) (fun _ _ _ h => h) (Or.inl ⟨by rfl, ?_⟩) (by assumption) ?_
  · intro w' hS; exact exec_load_row 26 _ (by rfl) P (by rfl) 26 (hArr l f i r g) (0, 0) _ hS Try.underlying26 rfl (size26' _ _ _ _ _)
  simp only [Act.put, List.setIfInBounds_toArray, List.set_cons_zero, List.set_cons_succ]
  refine wpAnyH_take (i := 1) (oi := ⟨some 14, _, _, _, _, _⟩) (v := (.slice A n c)) rfl (by kernel_rfl) (by kernel_rfl) (by kernel_rfl) (fun _ _ _ h => h) (Or.inl ⟨by rfl, ?_⟩) (by assumption) ?_
  · intro w' hS; rfl
  simp only [Act.put, List.setIfInBounds_toArray, List.set_cons_zero, List.set_cons_succ]
  refine wpAnyH_ready (rs := [2]) (by kernel_rfl) (by simp) ?_
  refine AllReadyH.cons (o := ⟨some 15, _, _, _, _, _⟩) rfl (fun K hK => ?_) AllReadyH.nil
  rw [if_pos (by rfl)]
  go_simp
  refine (copy_at A n c xs w2 HN.out (HX.out.below W1.out) (by have := HN.out; omega)).mono ?_
  rintro e w3 ⟨A3, c3, rfl, R3, b3⟩
  have W3 := Lib.hid (W1.out.trans (b3.mono W1.out.size))
  have B3 := Lib.hid (B1.out.below B1.out.lt b3)
  clear b3 W1 B1
  dsimp only
  (try simp only [Act.put, List.setIfInBounds_toArray, List.set_cons_zero, List.set_cons_succ])
  refine hK.out _ _ B3.out (fun hHeld => ?_)
  clear hK K
  refine wpAnyH_ready (rs := [3]) (by kernel_rfl) (by simp) ?_
  refine AllReadyH.cons (o := ⟨some 16, _, _, _, _, _⟩) rfl (fun K hK => ?_) AllReadyH.nil
  rw [if_pos (by rfl)]
  go_simp
  refine (pmake_any l f i r g A3 n c3 xs w3 HN.out R3.out.1 hi hr (by have := HN.out; omega)).mono ?_
  rintro e w4 ⟨vm, rfl, om, b4⟩
  obtain ⟨Am, cm, rfl, hcm, hcx, rm, -⟩ := om.slice
  have RM := Lib.hid rm
  have CM : Hid (26 + n ≤ cm ∧ cm ≤ 9223372036854775807) := Lib.hid (by rw [hb_len2, ← HN.out] at hcm; unfold maxLen at hcx; omega)
  have W4 := Lib.hid (W3.out.trans (b4.mono W3.out.size))
  have B4 := Lib.hid (B3.out.below B3.out.lt b4)
  clear b4 om rm hcm hcx W3 B3
  have LM : Hid ((hb l f i r g ++ xs).length = 26 + n) := Lib.hid (by rw [hb_len2, ← HN.out])
  rw [LM.out]
  dsimp only
  (try simp only [Act.put, List.setIfInBounds_toArray, List.set_cons_zero, List.set_cons_succ])
  refine hK.out _ _ B4.out (fun hHeld => ?_)
  clear hK K
  refine wpAnyH_take (i := 4) (oi := ⟨some 7, _, _, _, _, _⟩) (v := (.slice Am (26 + n) cm)) rfl (by kernel_rfl) (by kernel_rfl) (by kernel_rfl) (fun _ _ _ h => h) (Or.inl ⟨by rfl, ?_⟩) (by assumption) ?_
  · intro w' hS; rfl
  simp only [Act.put, List.setIfInBounds_toArray, List.set_cons_zero, List.set_cons_succ]
  refine wpAnyH_done (by kernel_rfl) ?_ _
  go_wp2_with fail
  have HLB := Lib.hid (hb_b8 (i := i) (r := r) hl hf HG.out HBX.out)
  have hp := parse_any Am (26 + n) cm (hb l f i r g ++ xs) w4 LM.out.symm CM.out.1 CM.out.2 (by rw [LM.out]; omega) RM.out HLB.out
  have hR := hb_isR l f i r g xs
  rw [← HN.out] at hR
  obtain ⟨K, hK⟩ : ∃ K, K = pH (hb l f i r g ++ xs) (26 + n) := ⟨_, rfl⟩
  have hKs := pH_size (hb l f i r g ++ xs) (26 + n)
  have hKz := pH_sz (hb l f i r g ++ xs) (26 + n)
  have hKc := pH_cells (hb l f i r g ++ xs) (26 + n)
  rw [← hK] at hp hKs hKz hKc
  have HKK := Lib.hid hK
  have HR := Lib.hid hR
  clear hR hK
  refine hp.mono ?_
  rintro e w5 ⟨vc, rfl, oc, b5⟩
  obtain ⟨Ac, cc, rfl, -, -, rc, -⟩ := oc.slice
  have RC := Lib.hid rc
  have W5 := Lib.hid (W4.out.trans (b5.mono W4.out.size))
  have B5 := Lib.hid (B4.out.below B4.out.lt b5)
  have KS := Lib.hid hKs
  have KZ := Lib.hid hKz
  have KC := Lib.hid hKc
  clear hp b5 oc rc W4 B4 RM hKs hKz hKc
  go_upto_region 7 with (refine wpList_store_row rfl 26 _ _ rfl w5.heap.size K rfl rfl 26 _ (heap_alloc_new _ _) KS.out KZ.out KC.out ?_)
  have hbx := boxed w5 #[.int .u8 0, .int .u8 0, .int .u32 0, .int .u32 0, .int .u8 0, .int .u8 0, .int .u8 0, .int .u8 0, .int .u8 0, .int .u8 0, .int .u8 0, .int .u8 0, .int .u8 0, .int .u8 0, .int .u8 0, .int .u8 0, .int .u8 0, .int .u8 0, .int .u8 0, .int .u8 0] K
  generalize ((w5.alloc (.cells #[.int .u8 0, .int .u8 0, .int .u32 0, .int .u32 0, .int .u8 0, .int .u8 0, .int .u8 0, .int .u8 0, .int .u8 0, .int .u8 0, .int .u8 0, .int .u8 0, .int .u8 0, .int .u8 0, .int .u8 0, .int .u8 0, .int .u8 0, .int .u8 0, .int .u8 0, .int .u8 0] 26)).setRow w5.heap.size K) = w6 at hbx ⊢
  have W6 := Lib.hid (W5.out.trans (hbx.2.mono W5.out.size))
  have B6 := Lib.hid (B5.out.below B5.out.lt hbx.2)
  have RC6 := Lib.hid (RC.out.below hbx.2)
  obtain ⟨D, hD⟩ : ∃ D, D = w5.heap.size := ⟨_, rfl⟩
  rw [← hD] at hbx ⊢
  have BD := Lib.hid hbx.1
  have HPD : Hid (P < D) := Lib.hid (hD ▸ B5.out.lt)
  have HWD : Hid (w.heap.size ≤ D) := Lib.hid (hD ▸ W5.out.size)
  clear hbx hD W5 B5 RC KZ
  have k0 : w6.cell? ⟨P, 0, none⟩ = some (.int .u8 (l : Int)) := (B6.out.blk.cell 0).trans rfl
  have k1 : w6.cell? ⟨P, 1, none⟩ = some (.int .u8 (f : Int)) := (B6.out.blk.cell 1).trans rfl
  have hneq := fun W => neq_head (H := K) W (by rw [HKK.out]; exact eq_pH HLB.out _ W)
  have BPr : Hid (w6.heap[P]? = some (.cells (hArr l f i r g) 26 (0, 0))) := B6
  have BDr : Hid (w6.heap[D]? = some (.cells K 26 (0, 0))) := BD
  by_cases hok : l < 2 ∧ f < 2
  · have hRt : isR (hb l f i r g ++ xs) (26 + n) = true := by rw [HR.out, decide_eq_true hok.1, decide_eq_true hok.2]; rfl
    have hKe : hArr l f i r g = K := by rw [HKK.out]; unfold pH; rw [hRt, if_pos rfl]; exact (hb_hdr l f i r g xs hi hr).symm
    have hBe : pB (hb l f i r g ++ xs) (26 + n) = xs := by unfold pB; rw [hRt, if_pos rfl]; rfl
    have hEe : pE (hb l f i r g ++ xs) (26 + n) = 0 := by unfold pE; rw [hRt, if_pos rfl]
    rw [hBe] at RC6 ⊢
    rw [hEe, hKe]
    rw [hKe] at BPr
    have o1 : (l : Int) ≤ 1 := by omega
    have o2 : (f : Int) ≤ 1 := by omega
    clear hRt hKe hBe hEe hok
    rw [← HN.out]
    go_wp2_with (first
      | (refine wpList_load_row rfl 26 _ rfl D rfl 26 K (0, 0) _ BDr.out Try.underlying26 rfl KS.out ?_)
      | (refine wpList_load_row rfl 26 _ rfl P rfl 26 K (0, 0) _ BPr.out Try.underlying26 rfl KS.out ?_)
      | (refine wpList_load_rowG rfl 26 _ rfl D rfl 26 K (0, 0) _ BDr.out Try.underlying26 rfl KS.out ?_)
      | (refine wpList_load_rowG rfl 26 _ rfl P rfl 26 K (0, 0) _ BPr.out Try.underlying26 rfl KS.out ?_))
    refine (eqb_fr Ac A n n cc c xs xs w6 HN.out HN.out RC6.out (HX.out.below W6.out) (by have := HN.out; omega) (by have := HN.out; omega)).mono ?_
    rintro e w' ⟨q, rfl, rfl⟩
    rw [show decide (xs = xs) = true from by simp]
    have W7 := Lib.hid (belowN W6.out q)
    have BD7 : Hid (Hd (w6.drewN q) D K) := Lib.hid BD.out
    generalize w6.drewN q = w7 at W7 BD7
    clear k0 k1 W6 RC6 BD BDr BPr B6 o1 o2
    go_wp2_with fail
    refine (copy_at B m d ys w7 HM.out (HY.out.below W7.out) (by have := HM.out; omega)).mono ?_
    rintro e w8 ⟨A8, c8, rfl, R8, b8⟩
    have W8 := Lib.hid (W7.out.trans (b8.mono W7.out.size))
    have BD8 := Lib.hid (BD7.out.below BD7.out.lt b8)
    clear b8 W7 BD7
    go_wp2_with fail
    refine (parse_any A8 m c8 ys w8 HM.out R8.out.2.1 R8.out.2.2 (by have := HM.out; omega) R8.out.1 HBY.out).mono ?_
    rintro e w9 ⟨v9, rfl, o9, b9⟩
    obtain ⟨A9, c9, rfl, -, -, r9, -⟩ := o9.slice
    have H9N : Hid (∀ b', A9.map (·.block) = some b' → b' ≠ D) := Lib.hid (fun b' hb' hbd => by
      cases A9 with
      | none => cases hb'
      | some a => injection hb' with hb'; dsimp only at hb'; have := (o9.base_le (g := a.block) rfl).1; have := BD8.out.lt; omega)
    have R9 := Lib.hid r9
    have W9 := Lib.hid (W8.out.trans (b9.mono W8.out.size))
    have BD9 : Hid (w9.heap[D]? = some (.cells K 26 (0, 0))) := Lib.hid (BD8.out.below BD8.out.lt b9)
    have KE : Hid (K.size = (pH ys m).size) := Lib.hid (by rw [HKK.out]; exact (pH_sz _ _).symm.trans (pH_sz _ _))
    have hpe : Hid (pE ys m = if isR ys m = true then 0 else 140) := Lib.hid (by unfold pE; rfl)
    have hpb : Hid (pB ys m = if isR ys m = true then ys.drop 26 else []) := Lib.hid (by unfold pB; rfl)
    have hph : Hid (pH ys m = if isR ys m = true then hdr ys else hArr 0 0 0 0 z0) := Lib.hid (by unfold pH; rfl)
    clear b9 o9 r9 W8 BD8 hneq
    cases hI : isR ys m
    · rw [hI] at hpe hpb
      rw [show pE ys m = 140 from hpe.out, show pB ys m = [] from hpb.out]
      have hif : isR ys m = false := hI
      have HI := Lib.hid hif
      clear hI hif
      by_cases h26 : 26 ≤ m
      · obtain ⟨bb, oo, yy0, hA0, hc0, HK0⟩ := (HY.out.below W9.out).at 0 (by have := HM.out; omega)
        subst hA0
        obtain ⟨bb', oo', yy1, hA1, hc1, HK1⟩ := (HY.out.below W9.out).at 1 (by have := HM.out; omega)
        cases hA1
        have hbad : 1 < yy0 ∨ (yy0 ≤ 1 ∧ 1 < yy1) := by
          have h := HI.out
          unfold isR at h
          rw [decide_eq_true h26, Bool.true_and] at h
          simp only [Bool.and_eq_false_iff, decide_eq_false_iff_not] at h
          rw [← HK0.out, ← HK1.out] at h
          have g0 := HBY.out 0
          have g1 := HBY.out 1
          rw [← HK0.out] at g0
          rw [← HK1.out] at g1
          omega
        have h26i : (26 : Int) ≤ (m : Int) := by omega
        have h0m : ¬ m = 0 := by omega
        have h1m : (1 : Int) < (m : Int) := by omega
        have e0 : bb < D ∨ D < bb := by
          have hlt := (HY.out).lt (by have := HM.out; omega)
          have := HWD.out
          omega
        have ek0 : bb ≠ D := by omega
        have s0 : (w9.setRow D (pH ys m)).cell? ⟨bb, oo, none⟩ = some (.int .u8 yy0) := by
          rw [World.cell?_of_block (w := w9) (w' := w9.setRow D (pH ys m)) (setRow_other _ D bb _ ek0)]; simpa using hc0
        have s1 : (w9.setRow D (pH ys m)).cell? ⟨bb, oo + 1, none⟩ = some (.int .u8 yy1) := by
          rw [World.cell?_of_block (w := w9) (w' := w9.setRow D (pH ys m)) (setRow_other _ D bb _ ek0)]; exact hc1
        clear hc0 hc1 e0
        rcases hbad with q0 | ⟨q0, q1⟩
        · go_wp2_with (refine wpList_store_row rfl 26 _ _ rfl D (pH ys m) rfl rfl 26 K BD9.out (pH_size ys m) KE.out (pH_cells ys m) ?_)
          go_ret
          exact ⟨rfl, below_setRow W9.out HWD.out _⟩
        · go_wp2_with (refine wpList_store_row rfl 26 _ _ rfl D (pH ys m) rfl rfl 26 K BD9.out (pH_size ys m) KE.out (pH_cells ys m) ?_)
          go_ret
          exact ⟨rfl, below_setRow W9.out HWD.out _⟩
      · have h26i : (m : Int) < 26 := by omega
        clear h26
        go_wp2_with (refine wpList_store_row rfl 26 _ _ rfl D (pH ys m) rfl rfl 26 K BD9.out (pH_size ys m) KE.out (pH_cells ys m) ?_)
        go_ret
        exact ⟨rfl, below_setRow W9.out HWD.out _⟩
    · rw [hI] at hpe hpb hph
      have h26 := isR_26 hI
      have h26i : (26 : Int) ≤ (m : Int) := by omega
      have hHe : pH ys m = hdr ys := hph.out
      have hPB : pB ys m = ys.drop 26 := hpb.out
      rw [show pE ys m = 0 from hpe.out]
      have R9' : Hid (Rd w9 .u8 A9 (ys.drop 26)) := Lib.hid (hPB ▸ R9.out)
      have HPB := Lib.hid hPB
      have HHE := Lib.hid hHe
      clear hI hHe hPB
      have WA := Lib.hid (below_setRow W9.out HWD.out (pH ys m))
      have hmk := pmake_any (ys.getD 0 0).toNat (ys.getD 1 0).toNat (numR ys 2) (numR ys 6) (fun j => ys.getD (10 + j) 0) A9 (ys.drop 26).length c9 (ys.drop 26) (w9.setRow D (pH ys m)) rfl
        (by
          have := R9'.out
          intro i hi
          obtain ⟨b', o', hA, hc⟩ := this i hi
          refine ⟨b', o', hA, ?_⟩
          have hne : b' ≠ D := by
            rintro rfl
            have hbd : Hd w9 b' K := BD9.out
            have := H9N.out b' (by rw [hA]; rfl)
            exact this rfl
          rw [World.cell?_of_block (w := w9) (w' := w9.setRow D (pH ys m)) (setRow_other _ D b' _ hne)]
          exact hc)
        (leV_lt (four_b8 HBY.out 2) 4) (leV_lt (four_b8 HBY.out 6) 4) (by rw [List.length_drop]; have := HM.out; omega)
      rw [show hArr (ys.getD 0 0).toNat (ys.getD 1 0).toNat (numR ys 2) (numR ys 6) (fun j => ys.getD (10 + j) 0) = pH ys m from HHE.out.symm, hb_back HBY.out (by have := HM.out; omega)] at hmk
      have HMK := Lib.hid hmk
      clear hmk
      go_wp2_with (first
        | (refine wpList_store_row rfl 26 _ _ rfl D (pH ys m) rfl rfl 26 K BD9.out (pH_size ys m) KE.out (pH_cells ys m) ?_)
        | (refine wpList_load_rowG rfl 26 _ rfl D rfl 26 (pH ys m) (0, 0) _ (setRow_heap _ _ _ (pH ys m) _ _ BD9.out) Try.underlying26 rfl (pH_size ys m) ?_))
      rw [HPB.out]
      refine HMK.out.mono ?_
      rintro e wa ⟨va, rfl, oa, ba⟩
      obtain ⟨Aa, ca, rfl, -, -, ra, -⟩ := oa.slice
      have RA := Lib.hid ra
      have WB := Lib.hid (WA.out.trans (ba.mono WA.out.size))
      clear oa ra ba HMK
      rw [← HM.out]
      go_wp2_with fail
      refine (eqb_fr Aa B m m ca d ys ys wa HM.out HM.out RA.out (HY.out.below WB.out) (by have := HM.out; omega) (by have := HM.out; omega)).mono ?_
      rintro e w' ⟨q9, rfl, rfl⟩
      rw [show decide (ys = ys) = true from by simp]
      go_wp2_with fail
      go_ret
      exact ⟨rfl, belowN WB.out _⟩
  · have hRf : isR (hb l f i r g ++ xs) (26 + n) = false := by
      rw [HR.out]
      cases h : (decide (l < 2) && decide (f < 2))
      · rfl
      · simp at h; exact absurd h hok
    have hKe : K = hArr 0 0 0 0 z0 := by rw [HKK.out]; unfold pH; rw [hRf]; rfl
    have hBe : pB (hb l f i r g ++ xs) (26 + n) = [] := by unfold pB; rw [hRf]; rfl
    have hEe : pE (hb l f i r g ++ xs) (26 + n) = 140 := by unfold pE; rw [hRf]; rfl
    rw [hBe] at RC6 ⊢
    rw [hEe]
    have HKE := Lib.hid hKe
    have W7 := W6
    have BD7 : Hid (Hd w6 D K) := BD
    have hbz : Try.prog.built 26 [] = some K := by rw [HKE.out, ← zArr]; kernel_rfl
    have HBZ := Lib.hid hbz
    clear hRf hKe hBe hEe hbz
    have hq : (((l : Int) ≤ 1) ∧ (1 < (f : Int))) ∨ (1 < (l : Int)) := by omega
    clear hok
    rcases hq with ⟨o1, o2⟩ | o1
    all_goals (
      go_wp2_with (first
        | (refine wpList_buildG0 rfl 26 (some 59) rfl rfl K HBZ.out ?_)
        | (refine wpList_load_row rfl 26 _ rfl D rfl 26 K (0, 0) _ BDr.out Try.underlying26 rfl KS.out ?_)
        | (refine wpList_load_rowG rfl 26 _ rfl D rfl 26 K (0, 0) _ BDr.out Try.underlying26 rfl KS.out ?_)))
    all_goals (
      obtain ⟨w7, rfl⟩ : ∃ w7, w7 = w6 := ⟨_, rfl⟩
      refine (copy_at B m d ys w7 HM.out (HY.out.below W7.out) (by have := HM.out; omega)).mono ?_
      rintro e w8 ⟨A8, c8, rfl, R8, b8⟩
      have W8 := Lib.hid (W7.out.trans (b8.mono W7.out.size))
      have BD8 := Lib.hid (BD7.out.below BD7.out.lt b8)
      clear b8 W7 BD7
      go_wp2_with fail
      refine (parse_any A8 m c8 ys w8 HM.out R8.out.2.1 R8.out.2.2 (by have := HM.out; omega) R8.out.1 HBY.out).mono ?_
      rintro e w9 ⟨v9, rfl, o9, b9⟩
      obtain ⟨A9, c9, rfl, -, -, r9, -⟩ := o9.slice
      have H9N : Hid (∀ b', A9.map (·.block) = some b' → b' ≠ D) := Lib.hid (fun b' hb' hbd => by
        cases A9 with
        | none => cases hb'
        | some a => injection hb' with hb'; dsimp only at hb'; have := (o9.base_le (g := a.block) rfl).1; have := BD8.out.lt; omega)
      have R9 := Lib.hid r9
      have W9 := Lib.hid (W8.out.trans (b9.mono W8.out.size))
      have BD9 : Hid (w9.heap[D]? = some (.cells K 26 (0, 0))) := Lib.hid (BD8.out.below BD8.out.lt b9)
      have KE : Hid (K.size = (pH ys m).size) := Lib.hid (by rw [HKK.out]; exact (pH_sz _ _).symm.trans (pH_sz _ _))
      have hpe : Hid (pE ys m = if isR ys m = true then 0 else 140) := Lib.hid (by unfold pE; rfl)
      have hpb : Hid (pB ys m = if isR ys m = true then ys.drop 26 else []) := Lib.hid (by unfold pB; rfl)
      have hph : Hid (pH ys m = if isR ys m = true then hdr ys else hArr 0 0 0 0 z0) := Lib.hid (by unfold pH; rfl)
      clear b9 o9 r9 W8 BD8 hneq
      cases hI : isR ys m
      · rw [hI] at hpe hpb
        rw [show pE ys m = 140 from hpe.out, show pB ys m = [] from hpb.out]
        have hif : isR ys m = false := hI
        have HI := Lib.hid hif
        clear hI hif
        by_cases h26 : 26 ≤ m
        · obtain ⟨bb, oo, yy0, hA0, hc0, HK0⟩ := (HY.out.below W9.out).at 0 (by have := HM.out; omega)
          subst hA0
          obtain ⟨bb', oo', yy1, hA1, hc1, HK1⟩ := (HY.out.below W9.out).at 1 (by have := HM.out; omega)
          cases hA1
          have hbad : 1 < yy0 ∨ (yy0 ≤ 1 ∧ 1 < yy1) := by
            have h := HI.out
            unfold isR at h
            rw [decide_eq_true h26, Bool.true_and] at h
            simp only [Bool.and_eq_false_iff, decide_eq_false_iff_not] at h
            rw [← HK0.out, ← HK1.out] at h
            have g0 := HBY.out 0
            have g1 := HBY.out 1
            rw [← HK0.out] at g0
            rw [← HK1.out] at g1
            omega
          have h26i : (26 : Int) ≤ (m : Int) := by omega
          have h0m : ¬ m = 0 := by omega
          have h1m : (1 : Int) < (m : Int) := by omega
          have e0 : bb < D ∨ D < bb := by
            have hlt := (HY.out).lt (by have := HM.out; omega)
            have := HWD.out
            omega
          have ek0 : bb ≠ D := by omega
          have s0 : (w9.setRow D (pH ys m)).cell? ⟨bb, oo, none⟩ = some (.int .u8 yy0) := by
            rw [World.cell?_of_block (w := w9) (w' := w9.setRow D (pH ys m)) (setRow_other _ D bb _ ek0)]; simpa using hc0
          have s1 : (w9.setRow D (pH ys m)).cell? ⟨bb, oo + 1, none⟩ = some (.int .u8 yy1) := by
            rw [World.cell?_of_block (w := w9) (w' := w9.setRow D (pH ys m)) (setRow_other _ D bb _ ek0)]; exact hc1
          clear hc0 hc1 e0
          rcases hbad with q0 | ⟨q0, q1⟩
          · go_wp2_with (refine wpList_store_row rfl 26 _ _ rfl D (pH ys m) rfl rfl 26 K BD9.out (pH_size ys m) KE.out (pH_cells ys m) ?_)
            go_ret
            exact ⟨rfl, below_setRow W9.out HWD.out _⟩
          · go_wp2_with (refine wpList_store_row rfl 26 _ _ rfl D (pH ys m) rfl rfl 26 K BD9.out (pH_size ys m) KE.out (pH_cells ys m) ?_)
            go_ret
            exact ⟨rfl, below_setRow W9.out HWD.out _⟩
        · have h26i : (m : Int) < 26 := by omega
          clear h26
          go_wp2_with (refine wpList_store_row rfl 26 _ _ rfl D (pH ys m) rfl rfl 26 K BD9.out (pH_size ys m) KE.out (pH_cells ys m) ?_)
          go_ret
          exact ⟨rfl, below_setRow W9.out HWD.out _⟩
      · rw [hI] at hpe hpb hph
        have h26 := isR_26 hI
        have h26i : (26 : Int) ≤ (m : Int) := by omega
        have hHe : pH ys m = hdr ys := hph.out
        have hPB : pB ys m = ys.drop 26 := hpb.out
        rw [show pE ys m = 0 from hpe.out]
        have R9' : Hid (Rd w9 .u8 A9 (ys.drop 26)) := Lib.hid (hPB ▸ R9.out)
        have HPB := Lib.hid hPB
        have HHE := Lib.hid hHe
        clear hI hHe hPB
        have WA := Lib.hid (below_setRow W9.out HWD.out (pH ys m))
        have hmk := pmake_any (ys.getD 0 0).toNat (ys.getD 1 0).toNat (numR ys 2) (numR ys 6) (fun j => ys.getD (10 + j) 0) A9 (ys.drop 26).length c9 (ys.drop 26) (w9.setRow D (pH ys m)) rfl
          (by
            have := R9'.out
            intro i hi
            obtain ⟨b', o', hA, hc⟩ := this i hi
            refine ⟨b', o', hA, ?_⟩
            have hne : b' ≠ D := by
              rintro rfl
              have hbd : Hd w9 b' K := BD9.out
              have := H9N.out b' (by rw [hA]; rfl)
              exact this rfl
            rw [World.cell?_of_block (w := w9) (w' := w9.setRow D (pH ys m)) (setRow_other _ D b' _ hne)]
            exact hc)
          (leV_lt (four_b8 HBY.out 2) 4) (leV_lt (four_b8 HBY.out 6) 4) (by rw [List.length_drop]; have := HM.out; omega)
        rw [show hArr (ys.getD 0 0).toNat (ys.getD 1 0).toNat (numR ys 2) (numR ys 6) (fun j => ys.getD (10 + j) 0) = pH ys m from HHE.out.symm, hb_back HBY.out (by have := HM.out; omega)] at hmk
        have HMK := Lib.hid hmk
        clear hmk
        go_wp2_with (first
          | (refine wpList_store_row rfl 26 _ _ rfl D (pH ys m) rfl rfl 26 K BD9.out (pH_size ys m) KE.out (pH_cells ys m) ?_)
          | (refine wpList_load_rowG rfl 26 _ rfl D rfl 26 (pH ys m) (0, 0) _ (setRow_heap _ _ _ (pH ys m) _ _ BD9.out) Try.underlying26 rfl (pH_size ys m) ?_))
        rw [HPB.out]
        refine HMK.out.mono ?_
        rintro e wa ⟨va, rfl, oa, ba⟩
        obtain ⟨Aa, ca, rfl, -, -, ra, -⟩ := oa.slice
        have RA := Lib.hid ra
        have WB := Lib.hid (WA.out.trans (ba.mono WA.out.size))
        clear oa ra ba HMK
        rw [← HM.out]
        go_wp2_with fail
        refine (eqb_fr Aa B m m ca d ys ys wa HM.out HM.out RA.out (HY.out.below WB.out) (by have := HM.out; omega) (by have := HM.out; omega)).mono ?_
        rintro e w' ⟨q9, rfl, rfl⟩
        rw [show decide (ys = ys) = true from by simp]
        go_wp2_with fail
        go_ret
        exact ⟨rfl, belowN WB.out _⟩)
end Go.Proofs.Ytedejkfhgpnhpaa

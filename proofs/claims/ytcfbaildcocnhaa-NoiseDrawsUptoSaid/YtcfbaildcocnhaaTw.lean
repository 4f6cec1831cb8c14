/-
  Walk: twice: eight quarters over the state.
-/
import Derived.Test.YtcfbaildcocnhaaTp
import Derived.Test.YtcfbaildcocnhaaKv
import Derived.Test.YtcfbaildcocnhaaRow
import Derived.Laws.Rows
import Derived.LoopTactic
import Derived.Deep.Cut
set_option linter.unusedVariables false
set_option linter.unusedSimpArgs false
namespace Go.Proofs.Ytcfbaildcocnhaa
open Go.RowKit

set_option maxRecDepth 100000 in
set_option maxHeartbeats 60000000 in
theorem twice_any (L : List Nat) (w : World) (hL : W16 L) : Calls Try.prog 83 #[.agg (A16 L)] w fun e w' => e = .returned (.agg (A16 (tw8 L))) ∧ Below w.heap.size w w' := by
  have HL := Lib.hid hL
  have B0 : Hid (Blk (w.alloc (.cells (A16 L) 125)) w.heap.size 125 (U L)) := Lib.hid A16_blk
  have F0 : Hid (Below w.heap.size w (w.alloc (.cells (A16 L) 125))) := Lib.hid ((Below.refl _ w).alloc (Nat.le_refl _) _)
  clear hL
  go_enter Try.func83, Try.ntmps83
  go_upto_region 1 with fail
  generalize hG : w.heap.size = G at B0 ⊢
  have HGE : Hid (w.heap.size = G) := Lib.hid hG
  have R1 : Hid (Blk ((w.alloc (.cells (A16 L) 125)).alloc (.cells #[.int .u32 0, .int .u32 0, .int .u32 0, .int .u32 0, .int .u32 0, .int .u32 0, .int .u32 0, .int .u32 0, .int .u32 0, .int .u32 0, .int .u32 0, .int .u32 0, .int .u32 0, .int .u32 0, .int .u32 0, .int .u32 0] 125)) (G + 1) 125 [.int .u32 0, .int .u32 0, .int .u32 0, .int .u32 0, .int .u32 0, .int .u32 0, .int .u32 0, .int .u32 0, .int .u32 0, .int .u32 0, .int .u32 0, .int .u32 0, .int .u32 0, .int .u32 0, .int .u32 0, .int .u32 0]) := Lib.hid (Blk.new_at (w.alloc (.cells (A16 L) 125)) 125 [.int .u32 0, .int .u32 0, .int .u32 0, .int .u32 0, .int .u32 0, .int .u32 0, .int .u32 0, .int .u32 0, .int .u32 0, .int .u32 0, .int .u32 0, .int .u32 0, .int .u32 0, .int .u32 0, .int .u32 0, .int .u32 0] (by rw [← hG]; simp))
  have B1 : Hid (Blk ((w.alloc (.cells (A16 L) 125)).alloc (.cells #[.int .u32 0, .int .u32 0, .int .u32 0, .int .u32 0, .int .u32 0, .int .u32 0, .int .u32 0, .int .u32 0, .int .u32 0, .int .u32 0, .int .u32 0, .int .u32 0, .int .u32 0, .int .u32 0, .int .u32 0, .int .u32 0] 125)) G 125 (U (twTo L 0))) := Lib.hid (B0.out.alloc _)
  have F1 : Hid (Below w.heap.size w ((w.alloc (.cells (A16 L) 125)).alloc (.cells #[.int .u32 0, .int .u32 0, .int .u32 0, .int .u32 0, .int .u32 0, .int .u32 0, .int .u32 0, .int .u32 0, .int .u32 0, .int .u32 0, .int .u32 0, .int .u32 0, .int .u32 0, .int .u32 0, .int .u32 0, .int .u32 0] 125))) := Lib.hid (F0.out.alloc F0.out.size _)
  clear B0 F0 hG
  generalize ((w.alloc (.cells (A16 L) 125)).alloc (.cells #[.int .u32 0, .int .u32 0, .int .u32 0, .int .u32 0, .int .u32 0, .int .u32 0, .int .u32 0, .int .u32 0, .int .u32 0, .int .u32 0, .int .u32 0, .int .u32 0, .int .u32 0, .int .u32 0, .int .u32 0, .int .u32 0] 125)) = w1 at *
  go_wp2_with fail
  go_loopw [8] (fun tv wr => ∃ t : Nat, (t = 0 ∧ tv = .int .i64 0 ∨ t = 1 ∧ tv = .int .i64 1 ∨ t = 2 ∧ tv = .int .i64 2) ∧ Hid (Blk wr G 125 (U (twTo L (4 * t)))) ∧ Hid (Fr (fun k => k = G) w1 wr)) (fun tv _ => 2 - (intOf tv).toNat)
  case atStart => exact ⟨0, .inl ⟨rfl, rfl⟩, B1, Lib.hid (Fr.refl _ _)⟩
  case round =>
    clear B1
    obtain ⟨t, ht3, HB, HF⟩ := hrel
    rcases ht3 with ⟨rfl, rfl⟩ | ⟨rfl, rfl⟩ | ⟨rfl, rfl⟩
    · go_wp2_with fail
      go_loopw [11] (fun iv wr => ∃ i : Nat, (i = 0 ∧ iv = .int .i64 0 ∨ i = 1 ∧ iv = .int .i64 1 ∨ i = 2 ∧ iv = .int .i64 2 ∨ i = 3 ∧ iv = .int .i64 3 ∨ i = 4 ∧ iv = .int .i64 4) ∧ Hid (Blk wr G 125 (U (twTo L (4 * 0 + i)))) ∧ Hid (Fr (fun k => k = G) w1 wr)) (fun iv _ => 4 - (intOf iv).toNat)
      case atStart => exact ⟨0, .inl ⟨rfl, rfl⟩, HB, HF⟩
      case round =>
        clear HB HF
        obtain ⟨i, hi5, HB, HF⟩ := hrel
        rcases hi5 with ⟨rfl, rfl⟩ | ⟨rfl, rfl⟩ | ⟨rfl, rfl⟩ | ⟨rfl, rfl⟩ | ⟨rfl, rfl⟩
        · have HW : Hid (W16 (twTo L 0)) := Lib.hid (HL.out.tw 0)
          have HS2 : Hid (twTo L (0 + 1) = qst (twTo L 0) 0 4 8 12) := Lib.hid (by rw [twTo_succ]; rfl)
          have HMT0 : Hid (∀ Z, twTo L (0 + 1) = Z → twTo L (4 * 0 + 1) = Z) := Lib.hid (fun Z h => h)
          generalize hMM : twTo L (0 + 1) = M at HS2
          have HMT : Hid (twTo L (4 * 0 + 1) = M) := Lib.hid (HMT0.out M hMM)
          clear HMT0 hMM
          have HB' : Hid (Blk wr G 125 (U (twTo L 0))) := HB
          clear HB
          have HB := HB'
          clear HB'
          generalize twTo L 0 = V at HB HW HS2
          have ca : Hid (wr.cell? ⟨G, 0, none⟩ = some (.int .u32 ((V.getD 0 0 : Nat) : Int))) := Lib.hid (U_at HB.out 0 (by rw [HW.out.len]; omega))
          have cb : Hid (wr.cell? ⟨G, 4, none⟩ = some (.int .u32 ((V.getD 4 0 : Nat) : Int))) := Lib.hid (U_at HB.out 4 (by rw [HW.out.len]; omega))
          have cc : Hid (wr.cell? ⟨G, 8, none⟩ = some (.int .u32 ((V.getD 8 0 : Nat) : Int))) := Lib.hid (U_at HB.out 8 (by rw [HW.out.len]; omega))
          have cd : Hid (wr.cell? ⟨G, 12, none⟩ = some (.int .u32 ((V.getD 12 0 : Nat) : Int))) := Lib.hid (U_at HB.out 12 (by rw [HW.out.len]; omega))
          have hq4 : (Q4.mk (V.getD 0 0) (V.getD 4 0) (V.getD 8 0) (V.getD 12 0)).ok := ⟨HW.out.lt _, HW.out.lt _, HW.out.lt _, HW.out.lt _⟩
          have HQ4 := Lib.hid hq4
          clear hq4
          obtain ⟨ya, hya⟩ : ∃ y, y = V.getD 0 0 := ⟨_, rfl⟩
          rw [← hya] at ca HQ4
          obtain ⟨yb, hyb⟩ : ∃ y, y = V.getD 4 0 := ⟨_, rfl⟩
          rw [← hyb] at cb HQ4
          obtain ⟨yc, hyc⟩ : ∃ y, y = V.getD 8 0 := ⟨_, rfl⟩
          rw [← hyc] at cc HQ4
          obtain ⟨yd, hyd⟩ : ∃ y, y = V.getD 12 0 := ⟨_, rfl⟩
          rw [← hyd] at cd HQ4
          obtain ⟨q, hq⟩ : ∃ q, q = quarter ⟨ya, yb, yc, yd⟩ := ⟨_, rfl⟩
          have HM : Hid (M = (((V.set 0 q.a).set 4 q.b).set 8 q.c).set 12 q.d) := Lib.hid (by rw [HS2.out, hq, hya, hyb, hyc, hyd]; rfl)
          have HQC : Hid (∀ W, Calls Try.prog 95 #[.int .u32 (ya : Int), .int .u32 (yb : Int), .int .u32 (yc : Int), .int .u32 (yd : Int)] W fun e w' => e = .returned (.tuple #[.int .u32 (q.a : Int), .int .u32 (q.b : Int), .int .u32 (q.c : Int), .int .u32 (q.d : Int)]) ∧ W = w') := Lib.hid (fun W => hq ▸ quarter_any ya yb yc yd W HQ4.out)
          clear hya hyb hyc hyd hq HS2 HQ4
          obtain ⟨qa, qb, qc, qd⟩ := q
          dsimp only at HM HQC
          go_wp2_with fail
          refine wp_region_late (fun w' => ∀ k, k ≠ G → w'.heap[k]? = wr.heap[k]?) (fun w' => w'.heap[G]? = wr.heap[G]?) [23, 25, 27, 29] (by kernel_rfl) ⟨fun k _ => rfl, rfl⟩ (fun hHeld => ?_)
          have HTS := Lib.hid hHeld
          clear hHeld
          have HD0 : Hid (Blk wr.drew G 125 (U V)) := Lib.hid HB.out
          have HFD : Hid (Fr (fun k => k = G) w1 wr.drew) := Lib.hid HF.out.drew
          generalize hD : wr.drew = D at HTS HD0 HFD ⊢
          clear hD
          refine wpAnyV_take (i := 0) (oi := ⟨some 32, _, _, _, _, _⟩) (v := (.int .i64 0)) rfl (by kernel_rfl) (by kernel_rfl) (by kernel_rfl) (fun _ _ _ h => h) (Or.inl ⟨by rfl, ?_⟩) (HTS.out.1) ?_
          · intro w' hS; go_simp; try with_reducible rfl
          simp only [Act.put, List.setIfInBounds_toArray, List.set_cons_zero, List.set_cons_succ]
          refine wpAnyV_take (i := 1) (oi := ⟨some 33, _, _, _, _, _⟩) (v := (.int .i64 4)) rfl (by kernel_rfl) (by kernel_rfl) (by kernel_rfl) (fun _ _ _ h => h) (Or.inl ⟨by rfl, ?_⟩) (HTS.out.1) ?_
          · intro w' hS; go_simp; try with_reducible rfl
          simp only [Act.put, List.setIfInBounds_toArray, List.set_cons_zero, List.set_cons_succ]
          refine wpAnyV_take (i := 2) (oi := ⟨some 34, _, _, _, _, _⟩) (v := (.int .i64 8)) rfl (by kernel_rfl) (by kernel_rfl) (by kernel_rfl) (fun _ _ _ h => h) (Or.inl ⟨by rfl, ?_⟩) (HTS.out.1) ?_
          · intro w' hS; go_simp; try with_reducible rfl
          simp only [Act.put, List.setIfInBounds_toArray, List.set_cons_zero, List.set_cons_succ]
          refine wpAnyV_take (i := 3) (oi := ⟨some 35, _, _, _, _, _⟩) (v := (.int .i64 12)) rfl (by kernel_rfl) (by kernel_rfl) (by kernel_rfl) (fun _ _ _ h => h) (Or.inl ⟨by rfl, ?_⟩) (HTS.out.1) ?_
          · intro w' hS; go_simp; try with_reducible rfl
          simp only [Act.put, List.setIfInBounds_toArray, List.set_cons_zero, List.set_cons_succ]
          refine wpAnyV_take (i := 4) (oi := ⟨some 36, _, _, _, _, _⟩) (v := (.int .i64 0)) rfl (by kernel_rfl) (by kernel_rfl) (by kernel_rfl) (fun _ _ _ h => h) (Or.inl ⟨by rfl, ?_⟩) (HTS.out.1) ?_
          · intro w' hS; go_simp; try with_reducible rfl
          simp only [Act.put, List.setIfInBounds_toArray, List.set_cons_zero, List.set_cons_succ]
          refine wpAnyV_take (i := 5) (oi := ⟨some 37, _, _, _, _, _⟩) (v := (.pointer (some ⟨G, 0, none⟩))) rfl (by kernel_rfl) (by kernel_rfl) (by kernel_rfl) (fun _ _ _ h => h) (Or.inl ⟨by rfl, ?_⟩) (HTS.out.1) ?_
          · intro w' hS; go_simp; try with_reducible rfl
          simp only [Act.put, List.setIfInBounds_toArray, List.set_cons_zero, List.set_cons_succ]
          refine wpAnyV_takeS (i := 6) (oi := ⟨some 38, _, _, _, _, _⟩) (v := (.int .u32 (ya : Int))) rfl (by kernel_rfl) (by kernel_rfl) (by kernel_rfl) (by kernel_rfl) (fun _ _ _ h => h) (Or.inl ⟨by rfl, ?_⟩) HTS.out ?_
          · intro w' hS; have z0 : w'.cell? ⟨G, 0, none⟩ = some (.int .u32 (ya : Int)) := (World.cell?_of_block (w := wr) (w' := w') hS.2).trans ca.out; go_simp; try with_reducible rfl
          simp only [Act.put, List.setIfInBounds_toArray, List.set_cons_zero, List.set_cons_succ]
          refine wpAnyV_take (i := 7) (oi := ⟨some 39, _, _, _, _, _⟩) (v := (.int .i64 4)) rfl (by kernel_rfl) (by kernel_rfl) (by kernel_rfl) (fun _ _ _ h => h) (Or.inl ⟨by rfl, ?_⟩) (HTS.out.1) ?_
          · intro w' hS; go_simp; try with_reducible rfl
          simp only [Act.put, List.setIfInBounds_toArray, List.set_cons_zero, List.set_cons_succ]
          refine wpAnyV_take (i := 8) (oi := ⟨some 40, _, _, _, _, _⟩) (v := (.pointer (some ⟨G, 4, none⟩))) rfl (by kernel_rfl) (by kernel_rfl) (by kernel_rfl) (fun _ _ _ h => h) (Or.inl ⟨by rfl, ?_⟩) (HTS.out.1) ?_
          · intro w' hS; go_simp; try with_reducible rfl
          simp only [Act.put, List.setIfInBounds_toArray, List.set_cons_zero, List.set_cons_succ]
          refine wpAnyV_takeS (i := 9) (oi := ⟨some 41, _, _, _, _, _⟩) (v := (.int .u32 (yb : Int))) rfl (by kernel_rfl) (by kernel_rfl) (by kernel_rfl) (by kernel_rfl) (fun _ _ _ h => h) (Or.inl ⟨by rfl, ?_⟩) HTS.out ?_
          · intro w' hS; have z0 : w'.cell? ⟨G, 4, none⟩ = some (.int .u32 (yb : Int)) := (World.cell?_of_block (w := wr) (w' := w') hS.2).trans cb.out; go_simp; try with_reducible rfl
          simp only [Act.put, List.setIfInBounds_toArray, List.set_cons_zero, List.set_cons_succ]
          refine wpAnyV_take (i := 10) (oi := ⟨some 42, _, _, _, _, _⟩) (v := (.int .i64 8)) rfl (by kernel_rfl) (by kernel_rfl) (by kernel_rfl) (fun _ _ _ h => h) (Or.inl ⟨by rfl, ?_⟩) (HTS.out.1) ?_
          · intro w' hS; go_simp; try with_reducible rfl
          simp only [Act.put, List.setIfInBounds_toArray, List.set_cons_zero, List.set_cons_succ]
          refine wpAnyV_take (i := 11) (oi := ⟨some 43, _, _, _, _, _⟩) (v := (.pointer (some ⟨G, 8, none⟩))) rfl (by kernel_rfl) (by kernel_rfl) (by kernel_rfl) (fun _ _ _ h => h) (Or.inl ⟨by rfl, ?_⟩) (HTS.out.1) ?_
          · intro w' hS; go_simp; try with_reducible rfl
          simp only [Act.put, List.setIfInBounds_toArray, List.set_cons_zero, List.set_cons_succ]
          refine wpAnyV_takeS (i := 12) (oi := ⟨some 44, _, _, _, _, _⟩) (v := (.int .u32 (yc : Int))) rfl (by kernel_rfl) (by kernel_rfl) (by kernel_rfl) (by kernel_rfl) (fun _ _ _ h => h) (Or.inl ⟨by rfl, ?_⟩) HTS.out ?_
          · intro w' hS; have z0 : w'.cell? ⟨G, 8, none⟩ = some (.int .u32 (yc : Int)) := (World.cell?_of_block (w := wr) (w' := w') hS.2).trans cc.out; go_simp; try with_reducible rfl
          simp only [Act.put, List.setIfInBounds_toArray, List.set_cons_zero, List.set_cons_succ]
          refine wpAnyV_take (i := 13) (oi := ⟨some 45, _, _, _, _, _⟩) (v := (.int .i64 12)) rfl (by kernel_rfl) (by kernel_rfl) (by kernel_rfl) (fun _ _ _ h => h) (Or.inl ⟨by rfl, ?_⟩) (HTS.out.1) ?_
          · intro w' hS; go_simp; try with_reducible rfl
          simp only [Act.put, List.setIfInBounds_toArray, List.set_cons_zero, List.set_cons_succ]
          refine wpAnyV_take (i := 14) (oi := ⟨some 46, _, _, _, _, _⟩) (v := (.pointer (some ⟨G, 12, none⟩))) rfl (by kernel_rfl) (by kernel_rfl) (by kernel_rfl) (fun _ _ _ h => h) (Or.inl ⟨by rfl, ?_⟩) (HTS.out.1) ?_
          · intro w' hS; go_simp; try with_reducible rfl
          simp only [Act.put, List.setIfInBounds_toArray, List.set_cons_zero, List.set_cons_succ]
          refine wpAnyV_takeS (i := 15) (oi := ⟨some 47, _, _, _, _, _⟩) (v := (.int .u32 (yd : Int))) rfl (by kernel_rfl) (by kernel_rfl) (by kernel_rfl) (by kernel_rfl) (fun _ _ _ h => h) (Or.inl ⟨by rfl, ?_⟩) HTS.out ?_
          · intro w' hS; have z0 : w'.cell? ⟨G, 12, none⟩ = some (.int .u32 (yd : Int)) := (World.cell?_of_block (w := wr) (w' := w') hS.2).trans cd.out; go_simp; try with_reducible rfl
          simp only [Act.put, List.setIfInBounds_toArray, List.set_cons_zero, List.set_cons_succ]
          refine wpAnyV_one (i := 16) (o := ⟨some 48, _, _, _, _, _⟩) rfl (by kernel_rfl) (by rfl) (fun K hK => ?_)
          go_simp
          refine (HQC.out D).mono ?_
          rintro e' w' ⟨rfl, hww⟩
          obtain rfl : D = w' := hww
          dsimp only
          (try simp only [Act.put, List.setIfInBounds_toArray, List.set_cons_zero, List.set_cons_succ])
          refine hK.out _ _ HTS.out.1 (fun _ h => h) ?_
          clear hK K
          refine wpAnyV_take (i := 17) (oi := ⟨some 31, _, _, _, _, _⟩) (v := (.tuple #[.int .u32 (qa : Int), .int .u32 (qb : Int), .int .u32 (qc : Int), .int .u32 (qd : Int)])) rfl (by kernel_rfl) (by kernel_rfl) (by kernel_rfl) (fun _ _ _ h => h) (Or.inl ⟨by rfl, ?_⟩) (HTS.out.1) ?_
          · intro w' hS; go_simp; try with_reducible rfl
          simp only [Act.put, List.setIfInBounds_toArray, List.set_cons_zero, List.set_cons_succ]
          refine wpAnyV_take (i := 18) (oi := ⟨some 49, _, _, _, _, _⟩) (v := (.int .u32 (qa : Int))) rfl (by kernel_rfl) (by kernel_rfl) (by kernel_rfl) (fun _ _ _ h => h) (Or.inl ⟨by rfl, ?_⟩) (HTS.out.1) ?_
          · intro w' hS; go_simp; try with_reducible rfl
          simp only [Act.put, List.setIfInBounds_toArray, List.set_cons_zero, List.set_cons_succ]
          refine wpAnyV_take (i := 19) (oi := ⟨some 50, _, _, _, _, _⟩) (v := (.int .u32 (qb : Int))) rfl (by kernel_rfl) (by kernel_rfl) (by kernel_rfl) (fun _ _ _ h => h) (Or.inl ⟨by rfl, ?_⟩) (HTS.out.1) ?_
          · intro w' hS; go_simp; try with_reducible rfl
          simp only [Act.put, List.setIfInBounds_toArray, List.set_cons_zero, List.set_cons_succ]
          refine wpAnyV_take (i := 20) (oi := ⟨some 51, _, _, _, _, _⟩) (v := (.int .u32 (qc : Int))) rfl (by kernel_rfl) (by kernel_rfl) (by kernel_rfl) (fun _ _ _ h => h) (Or.inl ⟨by rfl, ?_⟩) (HTS.out.1) ?_
          · intro w' hS; go_simp; try with_reducible rfl
          simp only [Act.put, List.setIfInBounds_toArray, List.set_cons_zero, List.set_cons_succ]
          refine wpAnyV_take (i := 21) (oi := ⟨some 52, _, _, _, _, _⟩) (v := (.int .u32 (qd : Int))) rfl (by kernel_rfl) (by kernel_rfl) (by kernel_rfl) (fun _ _ _ h => h) (Or.inl ⟨by rfl, ?_⟩) (HTS.out.1) ?_
          · intro w' hS; go_simp; try with_reducible rfl
          simp only [Act.put, List.setIfInBounds_toArray, List.set_cons_zero, List.set_cons_succ]
          refine wpAnyV_take (i := 22) (oi := ⟨some 53, _, _, _, _, _⟩) (v := (.pointer (some ⟨G, 0, none⟩))) rfl (by kernel_rfl) (by kernel_rfl) (by kernel_rfl) (fun _ _ _ h => h) (Or.inl ⟨by rfl, ?_⟩) (HTS.out.1) ?_
          · intro w' hS; go_simp; try with_reducible rfl
          simp only [Act.put, List.setIfInBounds_toArray, List.set_cons_zero, List.set_cons_succ]
          refine wpAnyV_one (i := 23) (o := ⟨none, _, _, _, _, _⟩) rfl (by kernel_rfl) (by rfl) (fun K hK => ?_)
          have f1 : D.frozen? ⟨G, 0, none⟩ = false := HD0.out.frozen 0
          have g1 : D.cell? ⟨G, 0, none⟩ = some (.int .u32 (((V).getD 0 0 : Nat) : Int)) := U_at HD0.out 0 (by have := HW.out.len; simp; omega)
          go_simp
          refine hK.out _ _ (fun k hk => (Below.heap_setCell D ⟨G, 0, none⟩ _ k hk).trans (HTS.out.1 k hk)) (fun hn => absurd (by decide) hn) ?_
          clear hK K f1 g1
          have HD1 : Hid (Blk (D.setCell ⟨G, 0, none⟩ (.int .u32 (qa : Int))) G 125 (U ((V).set 0 qa))) := Lib.hid (U_set HD0.out 0 qa)
          have HT1 : Hid (∀ k, k ≠ G → (D.setCell ⟨G, 0, none⟩ (.int .u32 (qa : Int))).heap[k]? = wr.heap[k]?) := Lib.hid (fun k hk => (Below.heap_setCell D ⟨G, 0, none⟩ _ k hk).trans (HTS.out.1 k hk))
          have HF1 : Hid (Fr (fun k => k = G) w1 (D.setCell ⟨G, 0, none⟩ (.int .u32 (qa : Int)))) := Lib.hid (HFD.out.setCell (p := ⟨G, 0, none⟩) (.inl rfl) _)
          generalize (D.setCell ⟨G, 0, none⟩ (.int .u32 (qa : Int))) = D1 at HD1 HT1 HF1 ⊢
          refine wpAnyV_take (i := 24) (oi := ⟨some 54, _, _, _, _, _⟩) (v := (.pointer (some ⟨G, 4, none⟩))) rfl (by kernel_rfl) (by kernel_rfl) (by kernel_rfl) (fun _ _ _ h => h) (Or.inl ⟨by rfl, ?_⟩) (HT1.out) ?_
          · intro w' hS; go_simp; try with_reducible rfl
          simp only [Act.put, List.setIfInBounds_toArray, List.set_cons_zero, List.set_cons_succ]
          refine wpAnyV_one (i := 25) (o := ⟨none, _, _, _, _, _⟩) rfl (by kernel_rfl) (by rfl) (fun K hK => ?_)
          have f1 : D1.frozen? ⟨G, 4, none⟩ = false := HD1.out.frozen 4
          have g1 : D1.cell? ⟨G, 4, none⟩ = some (.int .u32 ((((V).set 0 qa).getD 4 0 : Nat) : Int)) := U_at HD1.out 4 (by have := HW.out.len; simp; omega)
          go_simp
          refine hK.out _ _ (fun k hk => (Below.heap_setCell D1 ⟨G, 4, none⟩ _ k hk).trans (HT1.out k hk)) (fun hn => absurd (by decide) hn) ?_
          clear hK K f1 g1
          have HD2 : Hid (Blk (D1.setCell ⟨G, 4, none⟩ (.int .u32 (qb : Int))) G 125 (U (((V).set 0 qa).set 4 qb))) := Lib.hid (U_set HD1.out 4 qb)
          have HT2 : Hid (∀ k, k ≠ G → (D1.setCell ⟨G, 4, none⟩ (.int .u32 (qb : Int))).heap[k]? = wr.heap[k]?) := Lib.hid (fun k hk => (Below.heap_setCell D1 ⟨G, 4, none⟩ _ k hk).trans (HT1.out k hk))
          have HF2 : Hid (Fr (fun k => k = G) w1 (D1.setCell ⟨G, 4, none⟩ (.int .u32 (qb : Int)))) := Lib.hid (HF1.out.setCell (p := ⟨G, 4, none⟩) (.inl rfl) _)
          generalize (D1.setCell ⟨G, 4, none⟩ (.int .u32 (qb : Int))) = D2 at HD2 HT2 HF2 ⊢
          refine wpAnyV_take (i := 26) (oi := ⟨some 55, _, _, _, _, _⟩) (v := (.pointer (some ⟨G, 8, none⟩))) rfl (by kernel_rfl) (by kernel_rfl) (by kernel_rfl) (fun _ _ _ h => h) (Or.inl ⟨by rfl, ?_⟩) (HT2.out) ?_
          · intro w' hS; go_simp; try with_reducible rfl
          simp only [Act.put, List.setIfInBounds_toArray, List.set_cons_zero, List.set_cons_succ]
          refine wpAnyV_one (i := 27) (o := ⟨none, _, _, _, _, _⟩) rfl (by kernel_rfl) (by rfl) (fun K hK => ?_)
          have f1 : D2.frozen? ⟨G, 8, none⟩ = false := HD2.out.frozen 8
          have g1 : D2.cell? ⟨G, 8, none⟩ = some (.int .u32 (((((V).set 0 qa).set 4 qb).getD 8 0 : Nat) : Int)) := U_at HD2.out 8 (by have := HW.out.len; simp; omega)
          go_simp
          refine hK.out _ _ (fun k hk => (Below.heap_setCell D2 ⟨G, 8, none⟩ _ k hk).trans (HT2.out k hk)) (fun hn => absurd (by decide) hn) ?_
          clear hK K f1 g1
          have HD3 : Hid (Blk (D2.setCell ⟨G, 8, none⟩ (.int .u32 (qc : Int))) G 125 (U ((((V).set 0 qa).set 4 qb).set 8 qc))) := Lib.hid (U_set HD2.out 8 qc)
          have HT3 : Hid (∀ k, k ≠ G → (D2.setCell ⟨G, 8, none⟩ (.int .u32 (qc : Int))).heap[k]? = wr.heap[k]?) := Lib.hid (fun k hk => (Below.heap_setCell D2 ⟨G, 8, none⟩ _ k hk).trans (HT2.out k hk))
          have HF3 : Hid (Fr (fun k => k = G) w1 (D2.setCell ⟨G, 8, none⟩ (.int .u32 (qc : Int)))) := Lib.hid (HF2.out.setCell (p := ⟨G, 8, none⟩) (.inl rfl) _)
          generalize (D2.setCell ⟨G, 8, none⟩ (.int .u32 (qc : Int))) = D3 at HD3 HT3 HF3 ⊢
          refine wpAnyV_take (i := 28) (oi := ⟨some 56, _, _, _, _, _⟩) (v := (.pointer (some ⟨G, 12, none⟩))) rfl (by kernel_rfl) (by kernel_rfl) (by kernel_rfl) (fun _ _ _ h => h) (Or.inl ⟨by rfl, ?_⟩) (HT3.out) ?_
          · intro w' hS; go_simp; try with_reducible rfl
          simp only [Act.put, List.setIfInBounds_toArray, List.set_cons_zero, List.set_cons_succ]
          refine wpAnyV_one (i := 29) (o := ⟨none, _, _, _, _, _⟩) rfl (by kernel_rfl) (by rfl) (fun K hK => ?_)
          have f1 : D3.frozen? ⟨G, 12, none⟩ = false := HD3.out.frozen 12
          have g1 : D3.cell? ⟨G, 12, none⟩ = some (.int .u32 ((((((V).set 0 qa).set 4 qb).set 8 qc).getD 12 0 : Nat) : Int)) := U_at HD3.out 12 (by have := HW.out.len; simp; omega)
          go_simp
          refine hK.out _ _ (fun k hk => (Below.heap_setCell D3 ⟨G, 12, none⟩ _ k hk).trans (HT3.out k hk)) (fun hn => absurd (by decide) hn) ?_
          clear hK K f1 g1
          have HD4 : Hid (Blk (D3.setCell ⟨G, 12, none⟩ (.int .u32 (qd : Int))) G 125 (U (((((V).set 0 qa).set 4 qb).set 8 qc).set 12 qd))) := Lib.hid (U_set HD3.out 12 qd)
          have HT4 : Hid (∀ k, k ≠ G → (D3.setCell ⟨G, 12, none⟩ (.int .u32 (qd : Int))).heap[k]? = wr.heap[k]?) := Lib.hid (fun k hk => (Below.heap_setCell D3 ⟨G, 12, none⟩ _ k hk).trans (HT3.out k hk))
          have HF4 : Hid (Fr (fun k => k = G) w1 (D3.setCell ⟨G, 12, none⟩ (.int .u32 (qd : Int)))) := Lib.hid (HF3.out.setCell (p := ⟨G, 12, none⟩) (.inl rfl) _)
          generalize (D3.setCell ⟨G, 12, none⟩ (.int .u32 (qd : Int))) = D4 at HD4 HT4 HF4 ⊢
          refine wpAnyV_done (by kernel_rfl) ?_ _
          go_wp2_with fail
          go_roundw
          case rel => exact ⟨1, by simp, by rw [HMT.out, HM.out]; exact HD4, HF4⟩
          case measure => simp [intOf]
        · have HW : Hid (W16 (twTo L 1)) := Lib.hid (HL.out.tw 1)
          have HS2 : Hid (twTo L (1 + 1) = qst (twTo L 1) 1 5 9 13) := Lib.hid (by rw [twTo_succ]; rfl)
          have HMT0 : Hid (∀ Z, twTo L (1 + 1) = Z → twTo L (4 * 0 + 2) = Z) := Lib.hid (fun Z h => h)
          generalize hMM : twTo L (1 + 1) = M at HS2
          have HMT : Hid (twTo L (4 * 0 + 2) = M) := Lib.hid (HMT0.out M hMM)
          clear HMT0 hMM
          have HB' : Hid (Blk wr G 125 (U (twTo L 1))) := HB
          clear HB
          have HB := HB'
          clear HB'
          generalize twTo L 1 = V at HB HW HS2
          have ca : Hid (wr.cell? ⟨G, 1, none⟩ = some (.int .u32 ((V.getD 1 0 : Nat) : Int))) := Lib.hid (U_at HB.out 1 (by rw [HW.out.len]; omega))
          have cb : Hid (wr.cell? ⟨G, 5, none⟩ = some (.int .u32 ((V.getD 5 0 : Nat) : Int))) := Lib.hid (U_at HB.out 5 (by rw [HW.out.len]; omega))
          have cc : Hid (wr.cell? ⟨G, 9, none⟩ = some (.int .u32 ((V.getD 9 0 : Nat) : Int))) := Lib.hid (U_at HB.out 9 (by rw [HW.out.len]; omega))
          have cd : Hid (wr.cell? ⟨G, 13, none⟩ = some (.int .u32 ((V.getD 13 0 : Nat) : Int))) := Lib.hid (U_at HB.out 13 (by rw [HW.out.len]; omega))
          have hq4 : (Q4.mk (V.getD 1 0) (V.getD 5 0) (V.getD 9 0) (V.getD 13 0)).ok := ⟨HW.out.lt _, HW.out.lt _, HW.out.lt _, HW.out.lt _⟩
          have HQ4 := Lib.hid hq4
          clear hq4
          obtain ⟨ya, hya⟩ : ∃ y, y = V.getD 1 0 := ⟨_, rfl⟩
          rw [← hya] at ca HQ4
          obtain ⟨yb, hyb⟩ : ∃ y, y = V.getD 5 0 := ⟨_, rfl⟩
          rw [← hyb] at cb HQ4
          obtain ⟨yc, hyc⟩ : ∃ y, y = V.getD 9 0 := ⟨_, rfl⟩
          rw [← hyc] at cc HQ4
          obtain ⟨yd, hyd⟩ : ∃ y, y = V.getD 13 0 := ⟨_, rfl⟩
          rw [← hyd] at cd HQ4
          obtain ⟨q, hq⟩ : ∃ q, q = quarter ⟨ya, yb, yc, yd⟩ := ⟨_, rfl⟩
          have HM : Hid (M = (((V.set 1 q.a).set 5 q.b).set 9 q.c).set 13 q.d) := Lib.hid (by rw [HS2.out, hq, hya, hyb, hyc, hyd]; rfl)
          have HQC : Hid (∀ W, Calls Try.prog 95 #[.int .u32 (ya : Int), .int .u32 (yb : Int), .int .u32 (yc : Int), .int .u32 (yd : Int)] W fun e w' => e = .returned (.tuple #[.int .u32 (q.a : Int), .int .u32 (q.b : Int), .int .u32 (q.c : Int), .int .u32 (q.d : Int)]) ∧ W = w') := Lib.hid (fun W => hq ▸ quarter_any ya yb yc yd W HQ4.out)
          clear hya hyb hyc hyd hq HS2 HQ4
          obtain ⟨qa, qb, qc, qd⟩ := q
          dsimp only at HM HQC
          go_wp2_with fail
          refine wp_region_late (fun w' => ∀ k, k ≠ G → w'.heap[k]? = wr.heap[k]?) (fun w' => w'.heap[G]? = wr.heap[G]?) [23, 25, 27, 29] (by kernel_rfl) ⟨fun k _ => rfl, rfl⟩ (fun hHeld => ?_)
          have HTS := Lib.hid hHeld
          clear hHeld
          have HD0 : Hid (Blk wr.drew G 125 (U V)) := Lib.hid HB.out
          have HFD : Hid (Fr (fun k => k = G) w1 wr.drew) := Lib.hid HF.out.drew
          generalize hD : wr.drew = D at HTS HD0 HFD ⊢
          clear hD
          refine wpAnyV_take (i := 0) (oi := ⟨some 32, _, _, _, _, _⟩) (v := (.int .i64 1)) rfl (by kernel_rfl) (by kernel_rfl) (by kernel_rfl) (fun _ _ _ h => h) (Or.inl ⟨by rfl, ?_⟩) (HTS.out.1) ?_
          · intro w' hS; go_simp; try with_reducible rfl
          simp only [Act.put, List.setIfInBounds_toArray, List.set_cons_zero, List.set_cons_succ]
          refine wpAnyV_take (i := 1) (oi := ⟨some 33, _, _, _, _, _⟩) (v := (.int .i64 5)) rfl (by kernel_rfl) (by kernel_rfl) (by kernel_rfl) (fun _ _ _ h => h) (Or.inl ⟨by rfl, ?_⟩) (HTS.out.1) ?_
          · intro w' hS; go_simp; try with_reducible rfl
          simp only [Act.put, List.setIfInBounds_toArray, List.set_cons_zero, List.set_cons_succ]
          refine wpAnyV_take (i := 2) (oi := ⟨some 34, _, _, _, _, _⟩) (v := (.int .i64 9)) rfl (by kernel_rfl) (by kernel_rfl) (by kernel_rfl) (fun _ _ _ h => h) (Or.inl ⟨by rfl, ?_⟩) (HTS.out.1) ?_
          · intro w' hS; go_simp; try with_reducible rfl
          simp only [Act.put, List.setIfInBounds_toArray, List.set_cons_zero, List.set_cons_succ]
          refine wpAnyV_take (i := 3) (oi := ⟨some 35, _, _, _, _, _⟩) (v := (.int .i64 13)) rfl (by kernel_rfl) (by kernel_rfl) (by kernel_rfl) (fun _ _ _ h => h) (Or.inl ⟨by rfl, ?_⟩) (HTS.out.1) ?_
          · intro w' hS; go_simp; try with_reducible rfl
          simp only [Act.put, List.setIfInBounds_toArray, List.set_cons_zero, List.set_cons_succ]
          refine wpAnyV_take (i := 4) (oi := ⟨some 36, _, _, _, _, _⟩) (v := (.int .i64 1)) rfl (by kernel_rfl) (by kernel_rfl) (by kernel_rfl) (fun _ _ _ h => h) (Or.inl ⟨by rfl, ?_⟩) (HTS.out.1) ?_
          · intro w' hS; go_simp; try with_reducible rfl
          simp only [Act.put, List.setIfInBounds_toArray, List.set_cons_zero, List.set_cons_succ]
          refine wpAnyV_take (i := 5) (oi := ⟨some 37, _, _, _, _, _⟩) (v := (.pointer (some ⟨G, 1, none⟩))) rfl (by kernel_rfl) (by kernel_rfl) (by kernel_rfl) (fun _ _ _ h => h) (Or.inl ⟨by rfl, ?_⟩) (HTS.out.1) ?_
          · intro w' hS; go_simp; try with_reducible rfl
          simp only [Act.put, List.setIfInBounds_toArray, List.set_cons_zero, List.set_cons_succ]
          refine wpAnyV_takeS (i := 6) (oi := ⟨some 38, _, _, _, _, _⟩) (v := (.int .u32 (ya : Int))) rfl (by kernel_rfl) (by kernel_rfl) (by kernel_rfl) (by kernel_rfl) (fun _ _ _ h => h) (Or.inl ⟨by rfl, ?_⟩) HTS.out ?_
          · intro w' hS; have z0 : w'.cell? ⟨G, 1, none⟩ = some (.int .u32 (ya : Int)) := (World.cell?_of_block (w := wr) (w' := w') hS.2).trans ca.out; go_simp; try with_reducible rfl
          simp only [Act.put, List.setIfInBounds_toArray, List.set_cons_zero, List.set_cons_succ]
          refine wpAnyV_take (i := 7) (oi := ⟨some 39, _, _, _, _, _⟩) (v := (.int .i64 5)) rfl (by kernel_rfl) (by kernel_rfl) (by kernel_rfl) (fun _ _ _ h => h) (Or.inl ⟨by rfl, ?_⟩) (HTS.out.1) ?_
          · intro w' hS; go_simp; try with_reducible rfl
          simp only [Act.put, List.setIfInBounds_toArray, List.set_cons_zero, List.set_cons_succ]
          refine wpAnyV_take (i := 8) (oi := ⟨some 40, _, _, _, _, _⟩) (v := (.pointer (some ⟨G, 5, none⟩))) rfl (by kernel_rfl) (by kernel_rfl) (by kernel_rfl) (fun _ _ _ h => h) (Or.inl ⟨by rfl, ?_⟩) (HTS.out.1) ?_
          · intro w' hS; go_simp; try with_reducible rfl
          simp only [Act.put, List.setIfInBounds_toArray, List.set_cons_zero, List.set_cons_succ]
          refine wpAnyV_takeS (i := 9) (oi := ⟨some 41, _, _, _, _, _⟩) (v := (.int .u32 (yb : Int))) rfl (by kernel_rfl) (by kernel_rfl) (by kernel_rfl) (by kernel_rfl) (fun _ _ _ h => h) (Or.inl ⟨by rfl, ?_⟩) HTS.out ?_
          · intro w' hS; have z0 : w'.cell? ⟨G, 5, none⟩ = some (.int .u32 (yb : Int)) := (World.cell?_of_block (w := wr) (w' := w') hS.2).trans cb.out; go_simp; try with_reducible rfl
          simp only [Act.put, List.setIfInBounds_toArray, List.set_cons_zero, List.set_cons_succ]
          refine wpAnyV_take (i := 10) (oi := ⟨some 42, _, _, _, _, _⟩) (v := (.int .i64 9)) rfl (by kernel_rfl) (by kernel_rfl) (by kernel_rfl) (fun _ _ _ h => h) (Or.inl ⟨by rfl, ?_⟩) (HTS.out.1) ?_
          · intro w' hS; go_simp; try with_reducible rfl
          simp only [Act.put, List.setIfInBounds_toArray, List.set_cons_zero, List.set_cons_succ]
          refine wpAnyV_take (i := 11) (oi := ⟨some 43, _, _, _, _, _⟩) (v := (.pointer (some ⟨G, 9, none⟩))) rfl (by kernel_rfl) (by kernel_rfl) (by kernel_rfl) (fun _ _ _ h => h) (Or.inl ⟨by rfl, ?_⟩) (HTS.out.1) ?_
          · intro w' hS; go_simp; try with_reducible rfl
          simp only [Act.put, List.setIfInBounds_toArray, List.set_cons_zero, List.set_cons_succ]
          refine wpAnyV_takeS (i := 12) (oi := ⟨some 44, _, _, _, _, _⟩) (v := (.int .u32 (yc : Int))) rfl (by kernel_rfl) (by kernel_rfl) (by kernel_rfl) (by kernel_rfl) (fun _ _ _ h => h) (Or.inl ⟨by rfl, ?_⟩) HTS.out ?_
          · intro w' hS; have z0 : w'.cell? ⟨G, 9, none⟩ = some (.int .u32 (yc : Int)) := (World.cell?_of_block (w := wr) (w' := w') hS.2).trans cc.out; go_simp; try with_reducible rfl
          simp only [Act.put, List.setIfInBounds_toArray, List.set_cons_zero, List.set_cons_succ]
          refine wpAnyV_take (i := 13) (oi := ⟨some 45, _, _, _, _, _⟩) (v := (.int .i64 13)) rfl (by kernel_rfl) (by kernel_rfl) (by kernel_rfl) (fun _ _ _ h => h) (Or.inl ⟨by rfl, ?_⟩) (HTS.out.1) ?_
          · intro w' hS; go_simp; try with_reducible rfl
          simp only [Act.put, List.setIfInBounds_toArray, List.set_cons_zero, List.set_cons_succ]
          refine wpAnyV_take (i := 14) (oi := ⟨some 46, _, _, _, _, _⟩) (v := (.pointer (some ⟨G, 13, none⟩))) rfl (by kernel_rfl) (by kernel_rfl) (by kernel_rfl) (fun _ _ _ h => h) (Or.inl ⟨by rfl, ?_⟩) (HTS.out.1) ?_
          · intro w' hS; go_simp; try with_reducible rfl
          simp only [Act.put, List.setIfInBounds_toArray, List.set_cons_zero, List.set_cons_succ]
          refine wpAnyV_takeS (i := 15) (oi := ⟨some 47, _, _, _, _, _⟩) (v := (.int .u32 (yd : Int))) rfl (by kernel_rfl) (by kernel_rfl) (by kernel_rfl) (by kernel_rfl) (fun _ _ _ h => h) (Or.inl ⟨by rfl, ?_⟩) HTS.out ?_
          · intro w' hS; have z0 : w'.cell? ⟨G, 13, none⟩ = some (.int .u32 (yd : Int)) := (World.cell?_of_block (w := wr) (w' := w') hS.2).trans cd.out; go_simp; try with_reducible rfl
          simp only [Act.put, List.setIfInBounds_toArray, List.set_cons_zero, List.set_cons_succ]
          refine wpAnyV_one (i := 16) (o := ⟨some 48, _, _, _, _, _⟩) rfl (by kernel_rfl) (by rfl) (fun K hK => ?_)
          go_simp
          refine (HQC.out D).mono ?_
          rintro e' w' ⟨rfl, hww⟩
          obtain rfl : D = w' := hww
          dsimp only
          (try simp only [Act.put, List.setIfInBounds_toArray, List.set_cons_zero, List.set_cons_succ])
          refine hK.out _ _ HTS.out.1 (fun _ h => h) ?_
          clear hK K
          refine wpAnyV_take (i := 17) (oi := ⟨some 31, _, _, _, _, _⟩) (v := (.tuple #[.int .u32 (qa : Int), .int .u32 (qb : Int), .int .u32 (qc : Int), .int .u32 (qd : Int)])) rfl (by kernel_rfl) (by kernel_rfl) (by kernel_rfl) (fun _ _ _ h => h) (Or.inl ⟨by rfl, ?_⟩) (HTS.out.1) ?_
          · intro w' hS; go_simp; try with_reducible rfl
          simp only [Act.put, List.setIfInBounds_toArray, List.set_cons_zero, List.set_cons_succ]
          refine wpAnyV_take (i := 18) (oi := ⟨some 49, _, _, _, _, _⟩) (v := (.int .u32 (qa : Int))) rfl (by kernel_rfl) (by kernel_rfl) (by kernel_rfl) (fun _ _ _ h => h) (Or.inl ⟨by rfl, ?_⟩) (HTS.out.1) ?_
          · intro w' hS; go_simp; try with_reducible rfl
          simp only [Act.put, List.setIfInBounds_toArray, List.set_cons_zero, List.set_cons_succ]
          refine wpAnyV_take (i := 19) (oi := ⟨some 50, _, _, _, _, _⟩) (v := (.int .u32 (qb : Int))) rfl (by kernel_rfl) (by kernel_rfl) (by kernel_rfl) (fun _ _ _ h => h) (Or.inl ⟨by rfl, ?_⟩) (HTS.out.1) ?_
          · intro w' hS; go_simp; try with_reducible rfl
          simp only [Act.put, List.setIfInBounds_toArray, List.set_cons_zero, List.set_cons_succ]
          refine wpAnyV_take (i := 20) (oi := ⟨some 51, _, _, _, _, _⟩) (v := (.int .u32 (qc : Int))) rfl (by kernel_rfl) (by kernel_rfl) (by kernel_rfl) (fun _ _ _ h => h) (Or.inl ⟨by rfl, ?_⟩) (HTS.out.1) ?_
          · intro w' hS; go_simp; try with_reducible rfl
          simp only [Act.put, List.setIfInBounds_toArray, List.set_cons_zero, List.set_cons_succ]
          refine wpAnyV_take (i := 21) (oi := ⟨some 52, _, _, _, _, _⟩) (v := (.int .u32 (qd : Int))) rfl (by kernel_rfl) (by kernel_rfl) (by kernel_rfl) (fun _ _ _ h => h) (Or.inl ⟨by rfl, ?_⟩) (HTS.out.1) ?_
          · intro w' hS; go_simp; try with_reducible rfl
          simp only [Act.put, List.setIfInBounds_toArray, List.set_cons_zero, List.set_cons_succ]
          refine wpAnyV_take (i := 22) (oi := ⟨some 53, _, _, _, _, _⟩) (v := (.pointer (some ⟨G, 1, none⟩))) rfl (by kernel_rfl) (by kernel_rfl) (by kernel_rfl) (fun _ _ _ h => h) (Or.inl ⟨by rfl, ?_⟩) (HTS.out.1) ?_
          · intro w' hS; go_simp; try with_reducible rfl
          simp only [Act.put, List.setIfInBounds_toArray, List.set_cons_zero, List.set_cons_succ]
          refine wpAnyV_one (i := 23) (o := ⟨none, _, _, _, _, _⟩) rfl (by kernel_rfl) (by rfl) (fun K hK => ?_)
          have f1 : D.frozen? ⟨G, 1, none⟩ = false := HD0.out.frozen 1
          have g1 : D.cell? ⟨G, 1, none⟩ = some (.int .u32 (((V).getD 1 0 : Nat) : Int)) := U_at HD0.out 1 (by have := HW.out.len; simp; omega)
          go_simp
          refine hK.out _ _ (fun k hk => (Below.heap_setCell D ⟨G, 1, none⟩ _ k hk).trans (HTS.out.1 k hk)) (fun hn => absurd (by decide) hn) ?_
          clear hK K f1 g1
          have HD1 : Hid (Blk (D.setCell ⟨G, 1, none⟩ (.int .u32 (qa : Int))) G 125 (U ((V).set 1 qa))) := Lib.hid (U_set HD0.out 1 qa)
          have HT1 : Hid (∀ k, k ≠ G → (D.setCell ⟨G, 1, none⟩ (.int .u32 (qa : Int))).heap[k]? = wr.heap[k]?) := Lib.hid (fun k hk => (Below.heap_setCell D ⟨G, 1, none⟩ _ k hk).trans (HTS.out.1 k hk))
          have HF1 : Hid (Fr (fun k => k = G) w1 (D.setCell ⟨G, 1, none⟩ (.int .u32 (qa : Int)))) := Lib.hid (HFD.out.setCell (p := ⟨G, 1, none⟩) (.inl rfl) _)
          generalize (D.setCell ⟨G, 1, none⟩ (.int .u32 (qa : Int))) = D1 at HD1 HT1 HF1 ⊢
          refine wpAnyV_take (i := 24) (oi := ⟨some 54, _, _, _, _, _⟩) (v := (.pointer (some ⟨G, 5, none⟩))) rfl (by kernel_rfl) (by kernel_rfl) (by kernel_rfl) (fun _ _ _ h => h) (Or.inl ⟨by rfl, ?_⟩) (HT1.out) ?_
          · intro w' hS; go_simp; try with_reducible rfl
          simp only [Act.put, List.setIfInBounds_toArray, List.set_cons_zero, List.set_cons_succ]
          refine wpAnyV_one (i := 25) (o := ⟨none, _, _, _, _, _⟩) rfl (by kernel_rfl) (by rfl) (fun K hK => ?_)
          have f1 : D1.frozen? ⟨G, 5, none⟩ = false := HD1.out.frozen 5
          have g1 : D1.cell? ⟨G, 5, none⟩ = some (.int .u32 ((((V).set 1 qa).getD 5 0 : Nat) : Int)) := U_at HD1.out 5 (by have := HW.out.len; simp; omega)
          go_simp
          refine hK.out _ _ (fun k hk => (Below.heap_setCell D1 ⟨G, 5, none⟩ _ k hk).trans (HT1.out k hk)) (fun hn => absurd (by decide) hn) ?_
          clear hK K f1 g1
          have HD2 : Hid (Blk (D1.setCell ⟨G, 5, none⟩ (.int .u32 (qb : Int))) G 125 (U (((V).set 1 qa).set 5 qb))) := Lib.hid (U_set HD1.out 5 qb)
          have HT2 : Hid (∀ k, k ≠ G → (D1.setCell ⟨G, 5, none⟩ (.int .u32 (qb : Int))).heap[k]? = wr.heap[k]?) := Lib.hid (fun k hk => (Below.heap_setCell D1 ⟨G, 5, none⟩ _ k hk).trans (HT1.out k hk))
          have HF2 : Hid (Fr (fun k => k = G) w1 (D1.setCell ⟨G, 5, none⟩ (.int .u32 (qb : Int)))) := Lib.hid (HF1.out.setCell (p := ⟨G, 5, none⟩) (.inl rfl) _)
          generalize (D1.setCell ⟨G, 5, none⟩ (.int .u32 (qb : Int))) = D2 at HD2 HT2 HF2 ⊢
          refine wpAnyV_take (i := 26) (oi := ⟨some 55, _, _, _, _, _⟩) (v := (.pointer (some ⟨G, 9, none⟩))) rfl (by kernel_rfl) (by kernel_rfl) (by kernel_rfl) (fun _ _ _ h => h) (Or.inl ⟨by rfl, ?_⟩) (HT2.out) ?_
          · intro w' hS; go_simp; try with_reducible rfl
          simp only [Act.put, List.setIfInBounds_toArray, List.set_cons_zero, List.set_cons_succ]
          refine wpAnyV_one (i := 27) (o := ⟨none, _, _, _, _, _⟩) rfl (by kernel_rfl) (by rfl) (fun K hK => ?_)
          have f1 : D2.frozen? ⟨G, 9, none⟩ = false := HD2.out.frozen 9
          have g1 : D2.cell? ⟨G, 9, none⟩ = some (.int .u32 (((((V).set 1 qa).set 5 qb).getD 9 0 : Nat) : Int)) := U_at HD2.out 9 (by have := HW.out.len; simp; omega)
          go_simp
          refine hK.out _ _ (fun k hk => (Below.heap_setCell D2 ⟨G, 9, none⟩ _ k hk).trans (HT2.out k hk)) (fun hn => absurd (by decide) hn) ?_
          clear hK K f1 g1
          have HD3 : Hid (Blk (D2.setCell ⟨G, 9, none⟩ (.int .u32 (qc : Int))) G 125 (U ((((V).set 1 qa).set 5 qb).set 9 qc))) := Lib.hid (U_set HD2.out 9 qc)
          have HT3 : Hid (∀ k, k ≠ G → (D2.setCell ⟨G, 9, none⟩ (.int .u32 (qc : Int))).heap[k]? = wr.heap[k]?) := Lib.hid (fun k hk => (Below.heap_setCell D2 ⟨G, 9, none⟩ _ k hk).trans (HT2.out k hk))
          have HF3 : Hid (Fr (fun k => k = G) w1 (D2.setCell ⟨G, 9, none⟩ (.int .u32 (qc : Int)))) := Lib.hid (HF2.out.setCell (p := ⟨G, 9, none⟩) (.inl rfl) _)
          generalize (D2.setCell ⟨G, 9, none⟩ (.int .u32 (qc : Int))) = D3 at HD3 HT3 HF3 ⊢
          refine wpAnyV_take (i := 28) (oi := ⟨some 56, _, _, _, _, _⟩) (v := (.pointer (some ⟨G, 13, none⟩))) rfl (by kernel_rfl) (by kernel_rfl) (by kernel_rfl) (fun _ _ _ h => h) (Or.inl ⟨by rfl, ?_⟩) (HT3.out) ?_
          · intro w' hS; go_simp; try with_reducible rfl
          simp only [Act.put, List.setIfInBounds_toArray, List.set_cons_zero, List.set_cons_succ]
          refine wpAnyV_one (i := 29) (o := ⟨none, _, _, _, _, _⟩) rfl (by kernel_rfl) (by rfl) (fun K hK => ?_)
          have f1 : D3.frozen? ⟨G, 13, none⟩ = false := HD3.out.frozen 13
          have g1 : D3.cell? ⟨G, 13, none⟩ = some (.int .u32 ((((((V).set 1 qa).set 5 qb).set 9 qc).getD 13 0 : Nat) : Int)) := U_at HD3.out 13 (by have := HW.out.len; simp; omega)
          go_simp
          refine hK.out _ _ (fun k hk => (Below.heap_setCell D3 ⟨G, 13, none⟩ _ k hk).trans (HT3.out k hk)) (fun hn => absurd (by decide) hn) ?_
          clear hK K f1 g1
          have HD4 : Hid (Blk (D3.setCell ⟨G, 13, none⟩ (.int .u32 (qd : Int))) G 125 (U (((((V).set 1 qa).set 5 qb).set 9 qc).set 13 qd))) := Lib.hid (U_set HD3.out 13 qd)
          have HT4 : Hid (∀ k, k ≠ G → (D3.setCell ⟨G, 13, none⟩ (.int .u32 (qd : Int))).heap[k]? = wr.heap[k]?) := Lib.hid (fun k hk => (Below.heap_setCell D3 ⟨G, 13, none⟩ _ k hk).trans (HT3.out k hk))
          have HF4 : Hid (Fr (fun k => k = G) w1 (D3.setCell ⟨G, 13, none⟩ (.int .u32 (qd : Int)))) := Lib.hid (HF3.out.setCell (p := ⟨G, 13, none⟩) (.inl rfl) _)
          generalize (D3.setCell ⟨G, 13, none⟩ (.int .u32 (qd : Int))) = D4 at HD4 HT4 HF4 ⊢
          refine wpAnyV_done (by kernel_rfl) ?_ _
          go_wp2_with fail
          go_roundw
          case rel => exact ⟨2, by simp, by rw [HMT.out, HM.out]; exact HD4, HF4⟩
          case measure => simp [intOf]
        · have HW : Hid (W16 (twTo L 2)) := Lib.hid (HL.out.tw 2)
          have HS2 : Hid (twTo L (2 + 1) = qst (twTo L 2) 2 6 10 14) := Lib.hid (by rw [twTo_succ]; rfl)
          have HMT0 : Hid (∀ Z, twTo L (2 + 1) = Z → twTo L (4 * 0 + 3) = Z) := Lib.hid (fun Z h => h)
          generalize hMM : twTo L (2 + 1) = M at HS2
          have HMT : Hid (twTo L (4 * 0 + 3) = M) := Lib.hid (HMT0.out M hMM)
          clear HMT0 hMM
          have HB' : Hid (Blk wr G 125 (U (twTo L 2))) := HB
          clear HB
          have HB := HB'
          clear HB'
          generalize twTo L 2 = V at HB HW HS2
          have ca : Hid (wr.cell? ⟨G, 2, none⟩ = some (.int .u32 ((V.getD 2 0 : Nat) : Int))) := Lib.hid (U_at HB.out 2 (by rw [HW.out.len]; omega))
          have cb : Hid (wr.cell? ⟨G, 6, none⟩ = some (.int .u32 ((V.getD 6 0 : Nat) : Int))) := Lib.hid (U_at HB.out 6 (by rw [HW.out.len]; omega))
          have cc : Hid (wr.cell? ⟨G, 10, none⟩ = some (.int .u32 ((V.getD 10 0 : Nat) : Int))) := Lib.hid (U_at HB.out 10 (by rw [HW.out.len]; omega))
          have cd : Hid (wr.cell? ⟨G, 14, none⟩ = some (.int .u32 ((V.getD 14 0 : Nat) : Int))) := Lib.hid (U_at HB.out 14 (by rw [HW.out.len]; omega))
          have hq4 : (Q4.mk (V.getD 2 0) (V.getD 6 0) (V.getD 10 0) (V.getD 14 0)).ok := ⟨HW.out.lt _, HW.out.lt _, HW.out.lt _, HW.out.lt _⟩
          have HQ4 := Lib.hid hq4
          clear hq4
          obtain ⟨ya, hya⟩ : ∃ y, y = V.getD 2 0 := ⟨_, rfl⟩
          rw [← hya] at ca HQ4
          obtain ⟨yb, hyb⟩ : ∃ y, y = V.getD 6 0 := ⟨_, rfl⟩
          rw [← hyb] at cb HQ4
          obtain ⟨yc, hyc⟩ : ∃ y, y = V.getD 10 0 := ⟨_, rfl⟩
          rw [← hyc] at cc HQ4
          obtain ⟨yd, hyd⟩ : ∃ y, y = V.getD 14 0 := ⟨_, rfl⟩
          rw [← hyd] at cd HQ4
          obtain ⟨q, hq⟩ : ∃ q, q = quarter ⟨ya, yb, yc, yd⟩ := ⟨_, rfl⟩
          have HM : Hid (M = (((V.set 2 q.a).set 6 q.b).set 10 q.c).set 14 q.d) := Lib.hid (by rw [HS2.out, hq, hya, hyb, hyc, hyd]; rfl)
          have HQC : Hid (∀ W, Calls Try.prog 95 #[.int .u32 (ya : Int), .int .u32 (yb : Int), .int .u32 (yc : Int), .int .u32 (yd : Int)] W fun e w' => e = .returned (.tuple #[.int .u32 (q.a : Int), .int .u32 (q.b : Int), .int .u32 (q.c : Int), .int .u32 (q.d : Int)]) ∧ W = w') := Lib.hid (fun W => hq ▸ quarter_any ya yb yc yd W HQ4.out)
          clear hya hyb hyc hyd hq HS2 HQ4
          obtain ⟨qa, qb, qc, qd⟩ := q
          dsimp only at HM HQC
          go_wp2_with fail
          refine wp_region_late (fun w' => ∀ k, k ≠ G → w'.heap[k]? = wr.heap[k]?) (fun w' => w'.heap[G]? = wr.heap[G]?) [23, 25, 27, 29] (by kernel_rfl) ⟨fun k _ => rfl, rfl⟩ (fun hHeld => ?_)
          have HTS := Lib.hid hHeld
          clear hHeld
          have HD0 : Hid (Blk wr.drew G 125 (U V)) := Lib.hid HB.out
          have HFD : Hid (Fr (fun k => k = G) w1 wr.drew) := Lib.hid HF.out.drew
          generalize hD : wr.drew = D at HTS HD0 HFD ⊢
          clear hD
          refine wpAnyV_take (i := 0) (oi := ⟨some 32, _, _, _, _, _⟩) (v := (.int .i64 2)) rfl (by kernel_rfl) (by kernel_rfl) (by kernel_rfl) (fun _ _ _ h => h) (Or.inl ⟨by rfl, ?_⟩) (HTS.out.1) ?_
          · intro w' hS; go_simp; try with_reducible rfl
          simp only [Act.put, List.setIfInBounds_toArray, List.set_cons_zero, List.set_cons_succ]
          refine wpAnyV_take (i := 1) (oi := ⟨some 33, _, _, _, _, _⟩) (v := (.int .i64 6)) rfl (by kernel_rfl) (by kernel_rfl) (by kernel_rfl) (fun _ _ _ h => h) (Or.inl ⟨by rfl, ?_⟩) (HTS.out.1) ?_
          · intro w' hS; go_simp; try with_reducible rfl
          simp only [Act.put, List.setIfInBounds_toArray, List.set_cons_zero, List.set_cons_succ]
          refine wpAnyV_take (i := 2) (oi := ⟨some 34, _, _, _, _, _⟩) (v := (.int .i64 10)) rfl (by kernel_rfl) (by kernel_rfl) (by kernel_rfl) (fun _ _ _ h => h) (Or.inl ⟨by rfl, ?_⟩) (HTS.out.1) ?_
          · intro w' hS; go_simp; try with_reducible rfl
          simp only [Act.put, List.setIfInBounds_toArray, List.set_cons_zero, List.set_cons_succ]
          refine wpAnyV_take (i := 3) (oi := ⟨some 35, _, _, _, _, _⟩) (v := (.int .i64 14)) rfl (by kernel_rfl) (by kernel_rfl) (by kernel_rfl) (fun _ _ _ h => h) (Or.inl ⟨by rfl, ?_⟩) (HTS.out.1) ?_
          · intro w' hS; go_simp; try with_reducible rfl
          simp only [Act.put, List.setIfInBounds_toArray, List.set_cons_zero, List.set_cons_succ]
          refine wpAnyV_take (i := 4) (oi := ⟨some 36, _, _, _, _, _⟩) (v := (.int .i64 2)) rfl (by kernel_rfl) (by kernel_rfl) (by kernel_rfl) (fun _ _ _ h => h) (Or.inl ⟨by rfl, ?_⟩) (HTS.out.1) ?_
          · intro w' hS; go_simp; try with_reducible rfl
          simp only [Act.put, List.setIfInBounds_toArray, List.set_cons_zero, List.set_cons_succ]
          refine wpAnyV_take (i := 5) (oi := ⟨some 37, _, _, _, _, _⟩) (v := (.pointer (some ⟨G, 2, none⟩))) rfl (by kernel_rfl) (by kernel_rfl) (by kernel_rfl) (fun _ _ _ h => h) (Or.inl ⟨by rfl, ?_⟩) (HTS.out.1) ?_
          · intro w' hS; go_simp; try with_reducible rfl
          simp only [Act.put, List.setIfInBounds_toArray, List.set_cons_zero, List.set_cons_succ]
          refine wpAnyV_takeS (i := 6) (oi := ⟨some 38, _, _, _, _, _⟩) (v := (.int .u32 (ya : Int))) rfl (by kernel_rfl) (by kernel_rfl) (by kernel_rfl) (by kernel_rfl) (fun _ _ _ h => h) (Or.inl ⟨by rfl, ?_⟩) HTS.out ?_
          · intro w' hS; have z0 : w'.cell? ⟨G, 2, none⟩ = some (.int .u32 (ya : Int)) := (World.cell?_of_block (w := wr) (w' := w') hS.2).trans ca.out; go_simp; try with_reducible rfl
          simp only [Act.put, List.setIfInBounds_toArray, List.set_cons_zero, List.set_cons_succ]
          refine wpAnyV_take (i := 7) (oi := ⟨some 39, _, _, _, _, _⟩) (v := (.int .i64 6)) rfl (by kernel_rfl) (by kernel_rfl) (by kernel_rfl) (fun _ _ _ h => h) (Or.inl ⟨by rfl, ?_⟩) (HTS.out.1) ?_
          · intro w' hS; go_simp; try with_reducible rfl
          simp only [Act.put, List.setIfInBounds_toArray, List.set_cons_zero, List.set_cons_succ]
          refine wpAnyV_take (i := 8) (oi := ⟨some 40, _, _, _, _, _⟩) (v := (.pointer (some ⟨G, 6, none⟩))) rfl (by kernel_rfl) (by kernel_rfl) (by kernel_rfl) (fun _ _ _ h => h) (Or.inl ⟨by rfl, ?_⟩) (HTS.out.1) ?_
          · intro w' hS; go_simp; try with_reducible rfl
          simp only [Act.put, List.setIfInBounds_toArray, List.set_cons_zero, List.set_cons_succ]
          refine wpAnyV_takeS (i := 9) (oi := ⟨some 41, _, _, _, _, _⟩) (v := (.int .u32 (yb : Int))) rfl (by kernel_rfl) (by kernel_rfl) (by kernel_rfl) (by kernel_rfl) (fun _ _ _ h => h) (Or.inl ⟨by rfl, ?_⟩) HTS.out ?_
          · intro w' hS; have z0 : w'.cell? ⟨G, 6, none⟩ = some (.int .u32 (yb : Int)) := (World.cell?_of_block (w := wr) (w' := w') hS.2).trans cb.out; go_simp; try with_reducible rfl
          simp only [Act.put, List.setIfInBounds_toArray, List.set_cons_zero, List.set_cons_succ]
          refine wpAnyV_take (i := 10) (oi := ⟨some 42, _, _, _, _, _⟩) (v := (.int .i64 10)) rfl (by kernel_rfl) (by kernel_rfl) (by kernel_rfl) (fun _ _ _ h => h) (Or.inl ⟨by rfl, ?_⟩) (HTS.out.1) ?_
          · intro w' hS; go_simp; try with_reducible rfl
          simp only [Act.put, List.setIfInBounds_toArray, List.set_cons_zero, List.set_cons_succ]
          refine wpAnyV_take (i := 11) (oi := ⟨some 43, _, _, _, _, _⟩) (v := (.pointer (some ⟨G, 10, none⟩))) rfl (by kernel_rfl) (by kernel_rfl) (by kernel_rfl) (fun _ _ _ h => h) (Or.inl ⟨by rfl, ?_⟩) (HTS.out.1) ?_
          · intro w' hS; go_simp; try with_reducible rfl
          simp only [Act.put, List.setIfInBounds_toArray, List.set_cons_zero, List.set_cons_succ]
          refine wpAnyV_takeS (i := 12) (oi := ⟨some 44, _, _, _, _, _⟩) (v := (.int .u32 (yc : Int))) rfl (by kernel_rfl) (by kernel_rfl) (by kernel_rfl) (by kernel_rfl) (fun _ _ _ h => h) (Or.inl ⟨by rfl, ?_⟩) HTS.out ?_
          · intro w' hS; have z0 : w'.cell? ⟨G, 10, none⟩ = some (.int .u32 (yc : Int)) := (World.cell?_of_block (w := wr) (w' := w') hS.2).trans cc.out; go_simp; try with_reducible rfl
          simp only [Act.put, List.setIfInBounds_toArray, List.set_cons_zero, List.set_cons_succ]
          refine wpAnyV_take (i := 13) (oi := ⟨some 45, _, _, _, _, _⟩) (v := (.int .i64 14)) rfl (by kernel_rfl) (by kernel_rfl) (by kernel_rfl) (fun _ _ _ h => h) (Or.inl ⟨by rfl, ?_⟩) (HTS.out.1) ?_
          · intro w' hS; go_simp; try with_reducible rfl
          simp only [Act.put, List.setIfInBounds_toArray, List.set_cons_zero, List.set_cons_succ]
          refine wpAnyV_take (i := 14) (oi := ⟨some 46, _, _, _, _, _⟩) (v := (.pointer (some ⟨G, 14, none⟩))) rfl (by kernel_rfl) (by kernel_rfl) (by kernel_rfl) (fun _ _ _ h => h) (Or.inl ⟨by rfl, ?_⟩) (HTS.out.1) ?_
          · intro w' hS; go_simp; try with_reducible rfl
          simp only [Act.put, List.setIfInBounds_toArray, List.set_cons_zero, List.set_cons_succ]
          refine wpAnyV_takeS (i := 15) (oi := ⟨some 47, _, _, _, _, _⟩) (v := (.int .u32 (yd : Int))) rfl (by kernel_rfl) (by kernel_rfl) (by kernel_rfl) (by kernel_rfl) (fun _ _ _ h => h) (Or.inl ⟨by rfl, ?_⟩) HTS.out ?_
          · intro w' hS; have z0 : w'.cell? ⟨G, 14, none⟩ = some (.int .u32 (yd : Int)) := (World.cell?_of_block (w := wr) (w' := w') hS.2).trans cd.out; go_simp; try with_reducible rfl
          simp only [Act.put, List.setIfInBounds_toArray, List.set_cons_zero, List.set_cons_succ]
          refine wpAnyV_one (i := 16) (o := ⟨some 48, _, _, _, _, _⟩) rfl (by kernel_rfl) (by rfl) (fun K hK => ?_)
          go_simp
          refine (HQC.out D).mono ?_
          rintro e' w' ⟨rfl, hww⟩
          obtain rfl : D = w' := hww
          dsimp only
          (try simp only [Act.put, List.setIfInBounds_toArray, List.set_cons_zero, List.set_cons_succ])
          refine hK.out _ _ HTS.out.1 (fun _ h => h) ?_
          clear hK K
          refine wpAnyV_take (i := 17) (oi := ⟨some 31, _, _, _, _, _⟩) (v := (.tuple #[.int .u32 (qa : Int), .int .u32 (qb : Int), .int .u32 (qc : Int), .int .u32 (qd : Int)])) rfl (by kernel_rfl) (by kernel_rfl) (by kernel_rfl) (fun _ _ _ h => h) (Or.inl ⟨by rfl, ?_⟩) (HTS.out.1) ?_
          · intro w' hS; go_simp; try with_reducible rfl
          simp only [Act.put, List.setIfInBounds_toArray, List.set_cons_zero, List.set_cons_succ]
          refine wpAnyV_take (i := 18) (oi := ⟨some 49, _, _, _, _, _⟩) (v := (.int .u32 (qa : Int))) rfl (by kernel_rfl) (by kernel_rfl) (by kernel_rfl) (fun _ _ _ h => h) (Or.inl ⟨by rfl, ?_⟩) (HTS.out.1) ?_
          · intro w' hS; go_simp; try with_reducible rfl
          simp only [Act.put, List.setIfInBounds_toArray, List.set_cons_zero, List.set_cons_succ]
          refine wpAnyV_take (i := 19) (oi := ⟨some 50, _, _, _, _, _⟩) (v := (.int .u32 (qb : Int))) rfl (by kernel_rfl) (by kernel_rfl) (by kernel_rfl) (fun _ _ _ h => h) (Or.inl ⟨by rfl, ?_⟩) (HTS.out.1) ?_
          · intro w' hS; go_simp; try with_reducible rfl
          simp only [Act.put, List.setIfInBounds_toArray, List.set_cons_zero, List.set_cons_succ]
          refine wpAnyV_take (i := 20) (oi := ⟨some 51, _, _, _, _, _⟩) (v := (.int .u32 (qc : Int))) rfl (by kernel_rfl) (by kernel_rfl) (by kernel_rfl) (fun _ _ _ h => h) (Or.inl ⟨by rfl, ?_⟩) (HTS.out.1) ?_
          · intro w' hS; go_simp; try with_reducible rfl
          simp only [Act.put, List.setIfInBounds_toArray, List.set_cons_zero, List.set_cons_succ]
          refine wpAnyV_take (i := 21) (oi := ⟨some 52, _, _, _, _, _⟩) (v := (.int .u32 (qd : Int))) rfl (by kernel_rfl) (by kernel_rfl) (by kernel_rfl) (fun _ _ _ h => h) (Or.inl ⟨by rfl, ?_⟩) (HTS.out.1) ?_
          · intro w' hS; go_simp; try with_reducible rfl
          simp only [Act.put, List.setIfInBounds_toArray, List.set_cons_zero, List.set_cons_succ]
          refine wpAnyV_take (i := 22) (oi := ⟨some 53, _, _, _, _, _⟩) (v := (.pointer (some ⟨G, 2, none⟩))) rfl (by kernel_rfl) (by kernel_rfl) (by kernel_rfl) (fun _ _ _ h => h) (Or.inl ⟨by rfl, ?_⟩) (HTS.out.1) ?_
          · intro w' hS; go_simp; try with_reducible rfl
          simp only [Act.put, List.setIfInBounds_toArray, List.set_cons_zero, List.set_cons_succ]
          refine wpAnyV_one (i := 23) (o := ⟨none, _, _, _, _, _⟩) rfl (by kernel_rfl) (by rfl) (fun K hK => ?_)
          have f1 : D.frozen? ⟨G, 2, none⟩ = false := HD0.out.frozen 2
          have g1 : D.cell? ⟨G, 2, none⟩ = some (.int .u32 (((V).getD 2 0 : Nat) : Int)) := U_at HD0.out 2 (by have := HW.out.len; simp; omega)
          go_simp
          refine hK.out _ _ (fun k hk => (Below.heap_setCell D ⟨G, 2, none⟩ _ k hk).trans (HTS.out.1 k hk)) (fun hn => absurd (by decide) hn) ?_
          clear hK K f1 g1
          have HD1 : Hid (Blk (D.setCell ⟨G, 2, none⟩ (.int .u32 (qa : Int))) G 125 (U ((V).set 2 qa))) := Lib.hid (U_set HD0.out 2 qa)
          have HT1 : Hid (∀ k, k ≠ G → (D.setCell ⟨G, 2, none⟩ (.int .u32 (qa : Int))).heap[k]? = wr.heap[k]?) := Lib.hid (fun k hk => (Below.heap_setCell D ⟨G, 2, none⟩ _ k hk).trans (HTS.out.1 k hk))
          have HF1 : Hid (Fr (fun k => k = G) w1 (D.setCell ⟨G, 2, none⟩ (.int .u32 (qa : Int)))) := Lib.hid (HFD.out.setCell (p := ⟨G, 2, none⟩) (.inl rfl) _)
          generalize (D.setCell ⟨G, 2, none⟩ (.int .u32 (qa : Int))) = D1 at HD1 HT1 HF1 ⊢
          refine wpAnyV_take (i := 24) (oi := ⟨some 54, _, _, _, _, _⟩) (v := (.pointer (some ⟨G, 6, none⟩))) rfl (by kernel_rfl) (by kernel_rfl) (by kernel_rfl) (fun _ _ _ h => h) (Or.inl ⟨by rfl, ?_⟩) (HT1.out) ?_
          · intro w' hS; go_simp; try with_reducible rfl
          simp only [Act.put, List.setIfInBounds_toArray, List.set_cons_zero, List.set_cons_succ]
          refine wpAnyV_one (i := 25) (o := ⟨none, _, _, _, _, _⟩) rfl (by kernel_rfl) (by rfl) (fun K hK => ?_)
          have f1 : D1.frozen? ⟨G, 6, none⟩ = false := HD1.out.frozen 6
          have g1 : D1.cell? ⟨G, 6, none⟩ = some (.int .u32 ((((V).set 2 qa).getD 6 0 : Nat) : Int)) := U_at HD1.out 6 (by have := HW.out.len; simp; omega)
          go_simp
          refine hK.out _ _ (fun k hk => (Below.heap_setCell D1 ⟨G, 6, none⟩ _ k hk).trans (HT1.out k hk)) (fun hn => absurd (by decide) hn) ?_
          clear hK K f1 g1
          have HD2 : Hid (Blk (D1.setCell ⟨G, 6, none⟩ (.int .u32 (qb : Int))) G 125 (U (((V).set 2 qa).set 6 qb))) := Lib.hid (U_set HD1.out 6 qb)
          have HT2 : Hid (∀ k, k ≠ G → (D1.setCell ⟨G, 6, none⟩ (.int .u32 (qb : Int))).heap[k]? = wr.heap[k]?) := Lib.hid (fun k hk => (Below.heap_setCell D1 ⟨G, 6, none⟩ _ k hk).trans (HT1.out k hk))
          have HF2 : Hid (Fr (fun k => k = G) w1 (D1.setCell ⟨G, 6, none⟩ (.int .u32 (qb : Int)))) := Lib.hid (HF1.out.setCell (p := ⟨G, 6, none⟩) (.inl rfl) _)
          generalize (D1.setCell ⟨G, 6, none⟩ (.int .u32 (qb : Int))) = D2 at HD2 HT2 HF2 ⊢
          refine wpAnyV_take (i := 26) (oi := ⟨some 55, _, _, _, _, _⟩) (v := (.pointer (some ⟨G, 10, none⟩))) rfl (by kernel_rfl) (by kernel_rfl) (by kernel_rfl) (fun _ _ _ h => h) (Or.inl ⟨by rfl, ?_⟩) (HT2.out) ?_
          · intro w' hS; go_simp; try with_reducible rfl
          simp only [Act.put, List.setIfInBounds_toArray, List.set_cons_zero, List.set_cons_succ]
          refine wpAnyV_one (i := 27) (o := ⟨none, _, _, _, _, _⟩) rfl (by kernel_rfl) (by rfl) (fun K hK => ?_)
          have f1 : D2.frozen? ⟨G, 10, none⟩ = false := HD2.out.frozen 10
          have g1 : D2.cell? ⟨G, 10, none⟩ = some (.int .u32 (((((V).set 2 qa).set 6 qb).getD 10 0 : Nat) : Int)) := U_at HD2.out 10 (by have := HW.out.len; simp; omega)
          go_simp
          refine hK.out _ _ (fun k hk => (Below.heap_setCell D2 ⟨G, 10, none⟩ _ k hk).trans (HT2.out k hk)) (fun hn => absurd (by decide) hn) ?_
          clear hK K f1 g1
          have HD3 : Hid (Blk (D2.setCell ⟨G, 10, none⟩ (.int .u32 (qc : Int))) G 125 (U ((((V).set 2 qa).set 6 qb).set 10 qc))) := Lib.hid (U_set HD2.out 10 qc)
          have HT3 : Hid (∀ k, k ≠ G → (D2.setCell ⟨G, 10, none⟩ (.int .u32 (qc : Int))).heap[k]? = wr.heap[k]?) := Lib.hid (fun k hk => (Below.heap_setCell D2 ⟨G, 10, none⟩ _ k hk).trans (HT2.out k hk))
          have HF3 : Hid (Fr (fun k => k = G) w1 (D2.setCell ⟨G, 10, none⟩ (.int .u32 (qc : Int)))) := Lib.hid (HF2.out.setCell (p := ⟨G, 10, none⟩) (.inl rfl) _)
          generalize (D2.setCell ⟨G, 10, none⟩ (.int .u32 (qc : Int))) = D3 at HD3 HT3 HF3 ⊢
          refine wpAnyV_take (i := 28) (oi := ⟨some 56, _, _, _, _, _⟩) (v := (.pointer (some ⟨G, 14, none⟩))) rfl (by kernel_rfl) (by kernel_rfl) (by kernel_rfl) (fun _ _ _ h => h) (Or.inl ⟨by rfl, ?_⟩) (HT3.out) ?_
          · intro w' hS; go_simp; try with_reducible rfl
          simp only [Act.put, List.setIfInBounds_toArray, List.set_cons_zero, List.set_cons_succ]
          refine wpAnyV_one (i := 29) (o := ⟨none, _, _, _, _, _⟩) rfl (by kernel_rfl) (by rfl) (fun K hK => ?_)
          have f1 : D3.frozen? ⟨G, 14, none⟩ = false := HD3.out.frozen 14
          have g1 : D3.cell? ⟨G, 14, none⟩ = some (.int .u32 ((((((V).set 2 qa).set 6 qb).set 10 qc).getD 14 0 : Nat) : Int)) := U_at HD3.out 14 (by have := HW.out.len; simp; omega)
          go_simp
          refine hK.out _ _ (fun k hk => (Below.heap_setCell D3 ⟨G, 14, none⟩ _ k hk).trans (HT3.out k hk)) (fun hn => absurd (by decide) hn) ?_
          clear hK K f1 g1
          have HD4 : Hid (Blk (D3.setCell ⟨G, 14, none⟩ (.int .u32 (qd : Int))) G 125 (U (((((V).set 2 qa).set 6 qb).set 10 qc).set 14 qd))) := Lib.hid (U_set HD3.out 14 qd)
          have HT4 : Hid (∀ k, k ≠ G → (D3.setCell ⟨G, 14, none⟩ (.int .u32 (qd : Int))).heap[k]? = wr.heap[k]?) := Lib.hid (fun k hk => (Below.heap_setCell D3 ⟨G, 14, none⟩ _ k hk).trans (HT3.out k hk))
          have HF4 : Hid (Fr (fun k => k = G) w1 (D3.setCell ⟨G, 14, none⟩ (.int .u32 (qd : Int)))) := Lib.hid (HF3.out.setCell (p := ⟨G, 14, none⟩) (.inl rfl) _)
          generalize (D3.setCell ⟨G, 14, none⟩ (.int .u32 (qd : Int))) = D4 at HD4 HT4 HF4 ⊢
          refine wpAnyV_done (by kernel_rfl) ?_ _
          go_wp2_with fail
          go_roundw
          case rel => exact ⟨3, by simp, by rw [HMT.out, HM.out]; exact HD4, HF4⟩
          case measure => simp [intOf]
        · have HW : Hid (W16 (twTo L 3)) := Lib.hid (HL.out.tw 3)
          have HS2 : Hid (twTo L (3 + 1) = qst (twTo L 3) 3 7 11 15) := Lib.hid (by rw [twTo_succ]; rfl)
          have HMT0 : Hid (∀ Z, twTo L (3 + 1) = Z → twTo L (4 * 0 + 4) = Z) := Lib.hid (fun Z h => h)
          generalize hMM : twTo L (3 + 1) = M at HS2
          have HMT : Hid (twTo L (4 * 0 + 4) = M) := Lib.hid (HMT0.out M hMM)
          clear HMT0 hMM
          have HB' : Hid (Blk wr G 125 (U (twTo L 3))) := HB
          clear HB
          have HB := HB'
          clear HB'
          generalize twTo L 3 = V at HB HW HS2
          have ca : Hid (wr.cell? ⟨G, 3, none⟩ = some (.int .u32 ((V.getD 3 0 : Nat) : Int))) := Lib.hid (U_at HB.out 3 (by rw [HW.out.len]; omega))
          have cb : Hid (wr.cell? ⟨G, 7, none⟩ = some (.int .u32 ((V.getD 7 0 : Nat) : Int))) := Lib.hid (U_at HB.out 7 (by rw [HW.out.len]; omega))
          have cc : Hid (wr.cell? ⟨G, 11, none⟩ = some (.int .u32 ((V.getD 11 0 : Nat) : Int))) := Lib.hid (U_at HB.out 11 (by rw [HW.out.len]; omega))
          have cd : Hid (wr.cell? ⟨G, 15, none⟩ = some (.int .u32 ((V.getD 15 0 : Nat) : Int))) := Lib.hid (U_at HB.out 15 (by rw [HW.out.len]; omega))
          have hq4 : (Q4.mk (V.getD 3 0) (V.getD 7 0) (V.getD 11 0) (V.getD 15 0)).ok := ⟨HW.out.lt _, HW.out.lt _, HW.out.lt _, HW.out.lt _⟩
          have HQ4 := Lib.hid hq4
          clear hq4
          obtain ⟨ya, hya⟩ : ∃ y, y = V.getD 3 0 := ⟨_, rfl⟩
          rw [← hya] at ca HQ4
          obtain ⟨yb, hyb⟩ : ∃ y, y = V.getD 7 0 := ⟨_, rfl⟩
          rw [← hyb] at cb HQ4
          obtain ⟨yc, hyc⟩ : ∃ y, y = V.getD 11 0 := ⟨_, rfl⟩
          rw [← hyc] at cc HQ4
          obtain ⟨yd, hyd⟩ : ∃ y, y = V.getD 15 0 := ⟨_, rfl⟩
          rw [← hyd] at cd HQ4
          obtain ⟨q, hq⟩ : ∃ q, q = quarter ⟨ya, yb, yc, yd⟩ := ⟨_, rfl⟩
          have HM : Hid (M = (((V.set 3 q.a).set 7 q.b).set 11 q.c).set 15 q.d) := Lib.hid (by rw [HS2.out, hq, hya, hyb, hyc, hyd]; rfl)
          have HQC : Hid (∀ W, Calls Try.prog 95 #[.int .u32 (ya : Int), .int .u32 (yb : Int), .int .u32 (yc : Int), .int .u32 (yd : Int)] W fun e w' => e = .returned (.tuple #[.int .u32 (q.a : Int), .int .u32 (q.b : Int), .int .u32 (q.c : Int), .int .u32 (q.d : Int)]) ∧ W = w') := Lib.hid (fun W => hq ▸ quarter_any ya yb yc yd W HQ4.out)
          clear hya hyb hyc hyd hq HS2 HQ4
          obtain ⟨qa, qb, qc, qd⟩ := q
          dsimp only at HM HQC
          go_wp2_with fail
          refine wp_region_late (fun w' => ∀ k, k ≠ G → w'.heap[k]? = wr.heap[k]?) (fun w' => w'.heap[G]? = wr.heap[G]?) [23, 25, 27, 29] (by kernel_rfl) ⟨fun k _ => rfl, rfl⟩ (fun hHeld => ?_)
          have HTS := Lib.hid hHeld
          clear hHeld
          have HD0 : Hid (Blk wr.drew G 125 (U V)) := Lib.hid HB.out
          have HFD : Hid (Fr (fun k => k = G) w1 wr.drew) := Lib.hid HF.out.drew
          generalize hD : wr.drew = D at HTS HD0 HFD ⊢
          clear hD
          refine wpAnyV_take (i := 0) (oi := ⟨some 32, _, _, _, _, _⟩) (v := (.int .i64 3)) rfl (by kernel_rfl) (by kernel_rfl) (by kernel_rfl) (fun _ _ _ h => h) (Or.inl ⟨by rfl, ?_⟩) (HTS.out.1) ?_
          · intro w' hS; go_simp; try with_reducible rfl
          simp only [Act.put, List.setIfInBounds_toArray, List.set_cons_zero, List.set_cons_succ]
          refine wpAnyV_take (i := 1) (oi := ⟨some 33, _, _, _, _, _⟩) (v := (.int .i64 7)) rfl (by kernel_rfl) (by kernel_rfl) (by kernel_rfl) (fun _ _ _ h => h) (Or.inl ⟨by rfl, ?_⟩) (HTS.out.1) ?_
          · intro w' hS; go_simp; try with_reducible rfl
          simp only [Act.put, List.setIfInBounds_toArray, List.set_cons_zero, List.set_cons_succ]
          refine wpAnyV_take (i := 2) (oi := ⟨some 34, _, _, _, _, _⟩) (v := (.int .i64 11)) rfl (by kernel_rfl) (by kernel_rfl) (by kernel_rfl) (fun _ _ _ h => h) (Or.inl ⟨by rfl, ?_⟩) (HTS.out.1) ?_
          · intro w' hS; go_simp; try with_reducible rfl
          simp only [Act.put, List.setIfInBounds_toArray, List.set_cons_zero, List.set_cons_succ]
          refine wpAnyV_take (i := 3) (oi := ⟨some 35, _, _, _, _, _⟩) (v := (.int .i64 15)) rfl (by kernel_rfl) (by kernel_rfl) (by kernel_rfl) (fun _ _ _ h => h) (Or.inl ⟨by rfl, ?_⟩) (HTS.out.1) ?_
          · intro w' hS; go_simp; try with_reducible rfl
          simp only [Act.put, List.setIfInBounds_toArray, List.set_cons_zero, List.set_cons_succ]
          refine wpAnyV_take (i := 4) (oi := ⟨some 36, _, _, _, _, _⟩) (v := (.int .i64 3)) rfl (by kernel_rfl) (by kernel_rfl) (by kernel_rfl) (fun _ _ _ h => h) (Or.inl ⟨by rfl, ?_⟩) (HTS.out.1) ?_
          · intro w' hS; go_simp; try with_reducible rfl
          simp only [Act.put, List.setIfInBounds_toArray, List.set_cons_zero, List.set_cons_succ]
          refine wpAnyV_take (i := 5) (oi := ⟨some 37, _, _, _, _, _⟩) (v := (.pointer (some ⟨G, 3, none⟩))) rfl (by kernel_rfl) (by kernel_rfl) (by kernel_rfl) (fun _ _ _ h => h) (Or.inl ⟨by rfl, ?_⟩) (HTS.out.1) ?_
          · intro w' hS; go_simp; try with_reducible rfl
          simp only [Act.put, List.setIfInBounds_toArray, List.set_cons_zero, List.set_cons_succ]
          refine wpAnyV_takeS (i := 6) (oi := ⟨some 38, _, _, _, _, _⟩) (v := (.int .u32 (ya : Int))) rfl (by kernel_rfl) (by kernel_rfl) (by kernel_rfl) (by kernel_rfl) (fun _ _ _ h => h) (Or.inl ⟨by rfl, ?_⟩) HTS.out ?_
          · intro w' hS; have z0 : w'.cell? ⟨G, 3, none⟩ = some (.int .u32 (ya : Int)) := (World.cell?_of_block (w := wr) (w' := w') hS.2).trans ca.out; go_simp; try with_reducible rfl
          simp only [Act.put, List.setIfInBounds_toArray, List.set_cons_zero, List.set_cons_succ]
          refine wpAnyV_take (i := 7) (oi := ⟨some 39, _, _, _, _, _⟩) (v := (.int .i64 7)) rfl (by kernel_rfl) (by kernel_rfl) (by kernel_rfl) (fun _ _ _ h => h) (Or.inl ⟨by rfl, ?_⟩) (HTS.out.1) ?_
          · intro w' hS; go_simp; try with_reducible rfl
          simp only [Act.put, List.setIfInBounds_toArray, List.set_cons_zero, List.set_cons_succ]
          refine wpAnyV_take (i := 8) (oi := ⟨some 40, _, _, _, _, _⟩) (v := (.pointer (some ⟨G, 7, none⟩))) rfl (by kernel_rfl) (by kernel_rfl) (by kernel_rfl) (fun _ _ _ h => h) (Or.inl ⟨by rfl, ?_⟩) (HTS.out.1) ?_
          · intro w' hS; go_simp; try with_reducible rfl
          simp only [Act.put, List.setIfInBounds_toArray, List.set_cons_zero, List.set_cons_succ]
          refine wpAnyV_takeS (i := 9) (oi := ⟨some 41, _, _, _, _, _⟩) (v := (.int .u32 (yb : Int))) rfl (by kernel_rfl) (by kernel_rfl) (by kernel_rfl) (by kernel_rfl) (fun _ _ _ h => h) (Or.inl ⟨by rfl, ?_⟩) HTS.out ?_
          · intro w' hS; have z0 : w'.cell? ⟨G, 7, none⟩ = some (.int .u32 (yb : Int)) := (World.cell?_of_block (w := wr) (w' := w') hS.2).trans cb.out; go_simp; try with_reducible rfl
          simp only [Act.put, List.setIfInBounds_toArray, List.set_cons_zero, List.set_cons_succ]
          refine wpAnyV_take (i := 10) (oi := ⟨some 42, _, _, _, _, _⟩) (v := (.int .i64 11)) rfl (by kernel_rfl) (by kernel_rfl) (by kernel_rfl) (fun _ _ _ h => h) (Or.inl ⟨by rfl, ?_⟩) (HTS.out.1) ?_
          · intro w' hS; go_simp; try with_reducible rfl
          simp only [Act.put, List.setIfInBounds_toArray, List.set_cons_zero, List.set_cons_succ]
          refine wpAnyV_take (i := 11) (oi := ⟨some 43, _, _, _, _, _⟩) (v := (.pointer (some ⟨G, 11, none⟩))) rfl (by kernel_rfl) (by kernel_rfl) (by kernel_rfl) (fun _ _ _ h => h) (Or.inl ⟨by rfl, ?_⟩) (HTS.out.1) ?_
          · intro w' hS; go_simp; try with_reducible rfl
          simp only [Act.put, List.setIfInBounds_toArray, List.set_cons_zero, List.set_cons_succ]
          refine wpAnyV_takeS (i := 12) (oi := ⟨some 44, _, _, _, _, _⟩) (v := (.int .u32 (yc : Int))) rfl (by kernel_rfl) (by kernel_rfl) (by kernel_rfl) (by kernel_rfl) (fun _ _ _ h => h) (Or.inl ⟨by rfl, ?_⟩) HTS.out ?_
          · intro w' hS; have z0 : w'.cell? ⟨G, 11, none⟩ = some (.int .u32 (yc : Int)) := (World.cell?_of_block (w := wr) (w' := w') hS.2).trans cc.out; go_simp; try with_reducible rfl
          simp only [Act.put, List.setIfInBounds_toArray, List.set_cons_zero, List.set_cons_succ]
          refine wpAnyV_take (i := 13) (oi := ⟨some 45, _, _, _, _, _⟩) (v := (.int .i64 15)) rfl (by kernel_rfl) (by kernel_rfl) (by kernel_rfl) (fun _ _ _ h => h) (Or.inl ⟨by rfl, ?_⟩) (HTS.out.1) ?_
          · intro w' hS; go_simp; try with_reducible rfl
          simp only [Act.put, List.setIfInBounds_toArray, List.set_cons_zero, List.set_cons_succ]
          refine wpAnyV_take (i := 14) (oi := ⟨some 46, _, _, _, _, _⟩) (v := (.pointer (some ⟨G, 15, none⟩))) rfl (by kernel_rfl) (by kernel_rfl) (by kernel_rfl) (fun _ _ _ h => h) (Or.inl ⟨by rfl, ?_⟩) (HTS.out.1) ?_
          · intro w' hS; go_simp; try with_reducible rfl
          simp only [Act.put, List.setIfInBounds_toArray, List.set_cons_zero, List.set_cons_succ]
          refine wpAnyV_takeS (i := 15) (oi := ⟨some 47, _, _, _, _, _⟩) (v := (.int .u32 (yd : Int))) rfl (by kernel_rfl) (by kernel_rfl) (by kernel_rfl) (by kernel_rfl) (fun _ _ _ h => h) (Or.inl ⟨by rfl, ?_⟩) HTS.out ?_
          · intro w' hS; have z0 : w'.cell? ⟨G, 15, none⟩ = some (.int .u32 (yd : Int)) := (World.cell?_of_block (w := wr) (w' := w') hS.2).trans cd.out; go_simp; try with_reducible rfl
          simp only [Act.put, List.setIfInBounds_toArray, List.set_cons_zero, List.set_cons_succ]
          refine wpAnyV_one (i := 16) (o := ⟨some 48, _, _, _, _, _⟩) rfl (by kernel_rfl) (by rfl) (fun K hK => ?_)
          go_simp
          refine (HQC.out D).mono ?_
          rintro e' w' ⟨rfl, hww⟩
          obtain rfl : D = w' := hww
          dsimp only
          (try simp only [Act.put, List.setIfInBounds_toArray, List.set_cons_zero, List.set_cons_succ])
          refine hK.out _ _ HTS.out.1 (fun _ h => h) ?_
          clear hK K
          refine wpAnyV_take (i := 17) (oi := ⟨some 31, _, _, _, _, _⟩) (v := (.tuple #[.int .u32 (qa : Int), .int .u32 (qb : Int), .int .u32 (qc : Int), .int .u32 (qd : Int)])) rfl (by kernel_rfl) (by kernel_rfl) (by kernel_rfl) (fun _ _ _ h => h) (Or.inl ⟨by rfl, ?_⟩) (HTS.out.1) ?_
          · intro w' hS; go_simp; try with_reducible rfl
          simp only [Act.put, List.setIfInBounds_toArray, List.set_cons_zero, List.set_cons_succ]
          refine wpAnyV_take (i := 18) (oi := ⟨some 49, _, _, _, _, _⟩) (v := (.int .u32 (qa : Int))) rfl (by kernel_rfl) (by kernel_rfl) (by kernel_rfl) (fun _ _ _ h => h) (Or.inl ⟨by rfl, ?_⟩) (HTS.out.1) ?_
          · intro w' hS; go_simp; try with_reducible rfl
          simp only [Act.put, List.setIfInBounds_toArray, List.set_cons_zero, List.set_cons_succ]
          refine wpAnyV_take (i := 19) (oi := ⟨some 50, _, _, _, _, _⟩) (v := (.int .u32 (qb : Int))) rfl (by kernel_rfl) (by kernel_rfl) (by kernel_rfl) (fun _ _ _ h => h) (Or.inl ⟨by rfl, ?_⟩) (HTS.out.1) ?_
          · intro w' hS; go_simp; try with_reducible rfl
          simp only [Act.put, List.setIfInBounds_toArray, List.set_cons_zero, List.set_cons_succ]
          refine wpAnyV_take (i := 20) (oi := ⟨some 51, _, _, _, _, _⟩) (v := (.int .u32 (qc : Int))) rfl (by kernel_rfl) (by kernel_rfl) (by kernel_rfl) (fun _ _ _ h => h) (Or.inl ⟨by rfl, ?_⟩) (HTS.out.1) ?_
          · intro w' hS; go_simp; try with_reducible rfl
          simp only [Act.put, List.setIfInBounds_toArray, List.set_cons_zero, List.set_cons_succ]
          refine wpAnyV_take (i := 21) (oi := ⟨some 52, _, _, _, _, _⟩) (v := (.int .u32 (qd : Int))) rfl (by kernel_rfl) (by kernel_rfl) (by kernel_rfl) (fun _ _ _ h => h) (Or.inl ⟨by rfl, ?_⟩) (HTS.out.1) ?_
          · intro w' hS; go_simp; try with_reducible rfl
          simp only [Act.put, List.setIfInBounds_toArray, List.set_cons_zero, List.set_cons_succ]
          refine wpAnyV_take (i := 22) (oi := ⟨some 53, _, _, _, _, _⟩) (v := (.pointer (some ⟨G, 3, none⟩))) rfl (by kernel_rfl) (by kernel_rfl) (by kernel_rfl) (fun _ _ _ h => h) (Or.inl ⟨by rfl, ?_⟩) (HTS.out.1) ?_
          · intro w' hS; go_simp; try with_reducible rfl
          simp only [Act.put, List.setIfInBounds_toArray, List.set_cons_zero, List.set_cons_succ]
          refine wpAnyV_one (i := 23) (o := ⟨none, _, _, _, _, _⟩) rfl (by kernel_rfl) (by rfl) (fun K hK => ?_)
          have f1 : D.frozen? ⟨G, 3, none⟩ = false := HD0.out.frozen 3
          have g1 : D.cell? ⟨G, 3, none⟩ = some (.int .u32 (((V).getD 3 0 : Nat) : Int)) := U_at HD0.out 3 (by have := HW.out.len; simp; omega)
          go_simp
          refine hK.out _ _ (fun k hk => (Below.heap_setCell D ⟨G, 3, none⟩ _ k hk).trans (HTS.out.1 k hk)) (fun hn => absurd (by decide) hn) ?_
          clear hK K f1 g1
          have HD1 : Hid (Blk (D.setCell ⟨G, 3, none⟩ (.int .u32 (qa : Int))) G 125 (U ((V).set 3 qa))) := Lib.hid (U_set HD0.out 3 qa)
          have HT1 : Hid (∀ k, k ≠ G → (D.setCell ⟨G, 3, none⟩ (.int .u32 (qa : Int))).heap[k]? = wr.heap[k]?) := Lib.hid (fun k hk => (Below.heap_setCell D ⟨G, 3, none⟩ _ k hk).trans (HTS.out.1 k hk))
          have HF1 : Hid (Fr (fun k => k = G) w1 (D.setCell ⟨G, 3, none⟩ (.int .u32 (qa : Int)))) := Lib.hid (HFD.out.setCell (p := ⟨G, 3, none⟩) (.inl rfl) _)
          generalize (D.setCell ⟨G, 3, none⟩ (.int .u32 (qa : Int))) = D1 at HD1 HT1 HF1 ⊢
          refine wpAnyV_take (i := 24) (oi := ⟨some 54, _, _, _, _, _⟩) (v := (.pointer (some ⟨G, 7, none⟩))) rfl (by kernel_rfl) (by kernel_rfl) (by kernel_rfl) (fun _ _ _ h => h) (Or.inl ⟨by rfl, ?_⟩) (HT1.out) ?_
          · intro w' hS; go_simp; try with_reducible rfl
          simp only [Act.put, List.setIfInBounds_toArray, List.set_cons_zero, List.set_cons_succ]
          refine wpAnyV_one (i := 25) (o := ⟨none, _, _, _, _, _⟩) rfl (by kernel_rfl) (by rfl) (fun K hK => ?_)
          have f1 : D1.frozen? ⟨G, 7, none⟩ = false := HD1.out.frozen 7
          have g1 : D1.cell? ⟨G, 7, none⟩ = some (.int .u32 ((((V).set 3 qa).getD 7 0 : Nat) : Int)) := U_at HD1.out 7 (by have := HW.out.len; simp; omega)
          go_simp
          refine hK.out _ _ (fun k hk => (Below.heap_setCell D1 ⟨G, 7, none⟩ _ k hk).trans (HT1.out k hk)) (fun hn => absurd (by decide) hn) ?_
          clear hK K f1 g1
          have HD2 : Hid (Blk (D1.setCell ⟨G, 7, none⟩ (.int .u32 (qb : Int))) G 125 (U (((V).set 3 qa).set 7 qb))) := Lib.hid (U_set HD1.out 7 qb)
          have HT2 : Hid (∀ k, k ≠ G → (D1.setCell ⟨G, 7, none⟩ (.int .u32 (qb : Int))).heap[k]? = wr.heap[k]?) := Lib.hid (fun k hk => (Below.heap_setCell D1 ⟨G, 7, none⟩ _ k hk).trans (HT1.out k hk))
          have HF2 : Hid (Fr (fun k => k = G) w1 (D1.setCell ⟨G, 7, none⟩ (.int .u32 (qb : Int)))) := Lib.hid (HF1.out.setCell (p := ⟨G, 7, none⟩) (.inl rfl) _)
          generalize (D1.setCell ⟨G, 7, none⟩ (.int .u32 (qb : Int))) = D2 at HD2 HT2 HF2 ⊢
          refine wpAnyV_take (i := 26) (oi := ⟨some 55, _, _, _, _, _⟩) (v := (.pointer (some ⟨G, 11, none⟩))) rfl (by kernel_rfl) (by kernel_rfl) (by kernel_rfl) (fun _ _ _ h => h) (Or.inl ⟨by rfl, ?_⟩) (HT2.out) ?_
          · intro w' hS; go_simp; try with_reducible rfl
          simp only [Act.put, List.setIfInBounds_toArray, List.set_cons_zero, List.set_cons_succ]
          refine wpAnyV_one (i := 27) (o := ⟨none, _, _, _, _, _⟩) rfl (by kernel_rfl) (by rfl) (fun K hK => ?_)
          have f1 : D2.frozen? ⟨G, 11, none⟩ = false := HD2.out.frozen 11
          have g1 : D2.cell? ⟨G, 11, none⟩ = some (.int .u32 (((((V).set 3 qa).set 7 qb).getD 11 0 : Nat) : Int)) := U_at HD2.out 11 (by have := HW.out.len; simp; omega)
          go_simp
          refine hK.out _ _ (fun k hk => (Below.heap_setCell D2 ⟨G, 11, none⟩ _ k hk).trans (HT2.out k hk)) (fun hn => absurd (by decide) hn) ?_
          clear hK K f1 g1
          have HD3 : Hid (Blk (D2.setCell ⟨G, 11, none⟩ (.int .u32 (qc : Int))) G 125 (U ((((V).set 3 qa).set 7 qb).set 11 qc))) := Lib.hid (U_set HD2.out 11 qc)
          have HT3 : Hid (∀ k, k ≠ G → (D2.setCell ⟨G, 11, none⟩ (.int .u32 (qc : Int))).heap[k]? = wr.heap[k]?) := Lib.hid (fun k hk => (Below.heap_setCell D2 ⟨G, 11, none⟩ _ k hk).trans (HT2.out k hk))
          have HF3 : Hid (Fr (fun k => k = G) w1 (D2.setCell ⟨G, 11, none⟩ (.int .u32 (qc : Int)))) := Lib.hid (HF2.out.setCell (p := ⟨G, 11, none⟩) (.inl rfl) _)
          generalize (D2.setCell ⟨G, 11, none⟩ (.int .u32 (qc : Int))) = D3 at HD3 HT3 HF3 ⊢
          refine wpAnyV_take (i := 28) (oi := ⟨some 56, _, _, _, _, _⟩) (v := (.pointer (some ⟨G, 15, none⟩))) rfl (by kernel_rfl) (by kernel_rfl) (by kernel_rfl) (fun _ _ _ h => h) (Or.inl ⟨by rfl, ?_⟩) (HT3.out) ?_
          · intro w' hS; go_simp; try with_reducible rfl
          simp only [Act.put, List.setIfInBounds_toArray, List.set_cons_zero, List.set_cons_succ]
          refine wpAnyV_one (i := 29) (o := ⟨none, _, _, _, _, _⟩) rfl (by kernel_rfl) (by rfl) (fun K hK => ?_)
          have f1 : D3.frozen? ⟨G, 15, none⟩ = false := HD3.out.frozen 15
          have g1 : D3.cell? ⟨G, 15, none⟩ = some (.int .u32 ((((((V).set 3 qa).set 7 qb).set 11 qc).getD 15 0 : Nat) : Int)) := U_at HD3.out 15 (by have := HW.out.len; simp; omega)
          go_simp
          refine hK.out _ _ (fun k hk => (Below.heap_setCell D3 ⟨G, 15, none⟩ _ k hk).trans (HT3.out k hk)) (fun hn => absurd (by decide) hn) ?_
          clear hK K f1 g1
          have HD4 : Hid (Blk (D3.setCell ⟨G, 15, none⟩ (.int .u32 (qd : Int))) G 125 (U (((((V).set 3 qa).set 7 qb).set 11 qc).set 15 qd))) := Lib.hid (U_set HD3.out 15 qd)
          have HT4 : Hid (∀ k, k ≠ G → (D3.setCell ⟨G, 15, none⟩ (.int .u32 (qd : Int))).heap[k]? = wr.heap[k]?) := Lib.hid (fun k hk => (Below.heap_setCell D3 ⟨G, 15, none⟩ _ k hk).trans (HT3.out k hk))
          have HF4 : Hid (Fr (fun k => k = G) w1 (D3.setCell ⟨G, 15, none⟩ (.int .u32 (qd : Int)))) := Lib.hid (HF3.out.setCell (p := ⟨G, 15, none⟩) (.inl rfl) _)
          generalize (D3.setCell ⟨G, 15, none⟩ (.int .u32 (qd : Int))) = D4 at HD4 HT4 HF4 ⊢
          refine wpAnyV_done (by kernel_rfl) ?_ _
          go_wp2_with fail
          go_roundw
          case rel => exact ⟨4, by simp, by rw [HMT.out, HM.out]; exact HD4, HF4⟩
          case measure => simp [intOf]
        · go_wp2_with fail
          go_roundw
          case rel => exact ⟨1, by simp, HB, HF⟩
          case measure => simp [intOf]
    · go_wp2_with fail
      go_loopw [11] (fun iv wr => ∃ i : Nat, (i = 0 ∧ iv = .int .i64 0 ∨ i = 1 ∧ iv = .int .i64 1 ∨ i = 2 ∧ iv = .int .i64 2 ∨ i = 3 ∧ iv = .int .i64 3 ∨ i = 4 ∧ iv = .int .i64 4) ∧ Hid (Blk wr G 125 (U (twTo L (4 * 1 + i)))) ∧ Hid (Fr (fun k => k = G) w1 wr)) (fun iv _ => 4 - (intOf iv).toNat)
      case atStart => exact ⟨0, .inl ⟨rfl, rfl⟩, HB, HF⟩
      case round =>
        clear HB HF
        obtain ⟨i, hi5, HB, HF⟩ := hrel
        rcases hi5 with ⟨rfl, rfl⟩ | ⟨rfl, rfl⟩ | ⟨rfl, rfl⟩ | ⟨rfl, rfl⟩ | ⟨rfl, rfl⟩
        · have HW : Hid (W16 (twTo L 4)) := Lib.hid (HL.out.tw 4)
          have HS2 : Hid (twTo L (4 + 1) = qst (twTo L 4) 0 5 10 15) := Lib.hid (by rw [twTo_succ]; rfl)
          have HMT0 : Hid (∀ Z, twTo L (4 + 1) = Z → twTo L (4 * 1 + 1) = Z) := Lib.hid (fun Z h => h)
          generalize hMM : twTo L (4 + 1) = M at HS2
          have HMT : Hid (twTo L (4 * 1 + 1) = M) := Lib.hid (HMT0.out M hMM)
          clear HMT0 hMM
          have HB' : Hid (Blk wr G 125 (U (twTo L 4))) := HB
          clear HB
          have HB := HB'
          clear HB'
          generalize twTo L 4 = V at HB HW HS2
          have ca : Hid (wr.cell? ⟨G, 0, none⟩ = some (.int .u32 ((V.getD 0 0 : Nat) : Int))) := Lib.hid (U_at HB.out 0 (by rw [HW.out.len]; omega))
          have cb : Hid (wr.cell? ⟨G, 5, none⟩ = some (.int .u32 ((V.getD 5 0 : Nat) : Int))) := Lib.hid (U_at HB.out 5 (by rw [HW.out.len]; omega))
          have cc : Hid (wr.cell? ⟨G, 10, none⟩ = some (.int .u32 ((V.getD 10 0 : Nat) : Int))) := Lib.hid (U_at HB.out 10 (by rw [HW.out.len]; omega))
          have cd : Hid (wr.cell? ⟨G, 15, none⟩ = some (.int .u32 ((V.getD 15 0 : Nat) : Int))) := Lib.hid (U_at HB.out 15 (by rw [HW.out.len]; omega))
          have hq4 : (Q4.mk (V.getD 0 0) (V.getD 5 0) (V.getD 10 0) (V.getD 15 0)).ok := ⟨HW.out.lt _, HW.out.lt _, HW.out.lt _, HW.out.lt _⟩
          have HQ4 := Lib.hid hq4
          clear hq4
          obtain ⟨ya, hya⟩ : ∃ y, y = V.getD 0 0 := ⟨_, rfl⟩
          rw [← hya] at ca HQ4
          obtain ⟨yb, hyb⟩ : ∃ y, y = V.getD 5 0 := ⟨_, rfl⟩
          rw [← hyb] at cb HQ4
          obtain ⟨yc, hyc⟩ : ∃ y, y = V.getD 10 0 := ⟨_, rfl⟩
          rw [← hyc] at cc HQ4
          obtain ⟨yd, hyd⟩ : ∃ y, y = V.getD 15 0 := ⟨_, rfl⟩
          rw [← hyd] at cd HQ4
          obtain ⟨q, hq⟩ : ∃ q, q = quarter ⟨ya, yb, yc, yd⟩ := ⟨_, rfl⟩
          have HM : Hid (M = (((V.set 0 q.a).set 5 q.b).set 10 q.c).set 15 q.d) := Lib.hid (by rw [HS2.out, hq, hya, hyb, hyc, hyd]; rfl)
          have HQC : Hid (∀ W, Calls Try.prog 95 #[.int .u32 (ya : Int), .int .u32 (yb : Int), .int .u32 (yc : Int), .int .u32 (yd : Int)] W fun e w' => e = .returned (.tuple #[.int .u32 (q.a : Int), .int .u32 (q.b : Int), .int .u32 (q.c : Int), .int .u32 (q.d : Int)]) ∧ W = w') := Lib.hid (fun W => hq ▸ quarter_any ya yb yc yd W HQ4.out)
          clear hya hyb hyc hyd hq HS2 HQ4
          obtain ⟨qa, qb, qc, qd⟩ := q
          dsimp only at HM HQC
          go_wp2_with fail
          refine wp_region_late (fun w' => ∀ k, k ≠ G → w'.heap[k]? = wr.heap[k]?) (fun w' => w'.heap[G]? = wr.heap[G]?) [23, 25, 27, 29] (by kernel_rfl) ⟨fun k _ => rfl, rfl⟩ (fun hHeld => ?_)
          have HTS := Lib.hid hHeld
          clear hHeld
          have HD0 : Hid (Blk wr.drew G 125 (U V)) := Lib.hid HB.out
          have HFD : Hid (Fr (fun k => k = G) w1 wr.drew) := Lib.hid HF.out.drew
          generalize hD : wr.drew = D at HTS HD0 HFD ⊢
          clear hD
          refine wpAnyV_take (i := 0) (oi := ⟨some 32, _, _, _, _, _⟩) (v := (.int .i64 0)) rfl (by kernel_rfl) (by kernel_rfl) (by kernel_rfl) (fun _ _ _ h => h) (Or.inl ⟨by rfl, ?_⟩) (HTS.out.1) ?_
          · intro w' hS; go_simp; try with_reducible rfl
          simp only [Act.put, List.setIfInBounds_toArray, List.set_cons_zero, List.set_cons_succ]
          refine wpAnyV_take (i := 1) (oi := ⟨some 33, _, _, _, _, _⟩) (v := (.int .i64 5)) rfl (by kernel_rfl) (by kernel_rfl) (by kernel_rfl) (fun _ _ _ h => h) (Or.inl ⟨by rfl, ?_⟩) (HTS.out.1) ?_
          · intro w' hS; go_simp; try with_reducible rfl
          simp only [Act.put, List.setIfInBounds_toArray, List.set_cons_zero, List.set_cons_succ]
          refine wpAnyV_take (i := 2) (oi := ⟨some 34, _, _, _, _, _⟩) (v := (.int .i64 10)) rfl (by kernel_rfl) (by kernel_rfl) (by kernel_rfl) (fun _ _ _ h => h) (Or.inl ⟨by rfl, ?_⟩) (HTS.out.1) ?_
          · intro w' hS; go_simp; try with_reducible rfl
          simp only [Act.put, List.setIfInBounds_toArray, List.set_cons_zero, List.set_cons_succ]
          refine wpAnyV_take (i := 3) (oi := ⟨some 35, _, _, _, _, _⟩) (v := (.int .i64 15)) rfl (by kernel_rfl) (by kernel_rfl) (by kernel_rfl) (fun _ _ _ h => h) (Or.inl ⟨by rfl, ?_⟩) (HTS.out.1) ?_
          · intro w' hS; go_simp; try with_reducible rfl
          simp only [Act.put, List.setIfInBounds_toArray, List.set_cons_zero, List.set_cons_succ]
          refine wpAnyV_take (i := 4) (oi := ⟨some 36, _, _, _, _, _⟩) (v := (.int .i64 0)) rfl (by kernel_rfl) (by kernel_rfl) (by kernel_rfl) (fun _ _ _ h => h) (Or.inl ⟨by rfl, ?_⟩) (HTS.out.1) ?_
          · intro w' hS; go_simp; try with_reducible rfl
          simp only [Act.put, List.setIfInBounds_toArray, List.set_cons_zero, List.set_cons_succ]
          refine wpAnyV_take (i := 5) (oi := ⟨some 37, _, _, _, _, _⟩) (v := (.pointer (some ⟨G, 0, none⟩))) rfl (by kernel_rfl) (by kernel_rfl) (by kernel_rfl) (fun _ _ _ h => h) (Or.inl ⟨by rfl, ?_⟩) (HTS.out.1) ?_
          · intro w' hS; go_simp; try with_reducible rfl
          simp only [Act.put, List.setIfInBounds_toArray, List.set_cons_zero, List.set_cons_succ]
          refine wpAnyV_takeS (i := 6) (oi := ⟨some 38, _, _, _, _, _⟩) (v := (.int .u32 (ya : Int))) rfl (by kernel_rfl) (by kernel_rfl) (by kernel_rfl) (by kernel_rfl) (fun _ _ _ h => h) (Or.inl ⟨by rfl, ?_⟩) HTS.out ?_
          · intro w' hS; have z0 : w'.cell? ⟨G, 0, none⟩ = some (.int .u32 (ya : Int)) := (World.cell?_of_block (w := wr) (w' := w') hS.2).trans ca.out; go_simp; try with_reducible rfl
          simp only [Act.put, List.setIfInBounds_toArray, List.set_cons_zero, List.set_cons_succ]
          refine wpAnyV_take (i := 7) (oi := ⟨some 39, _, _, _, _, _⟩) (v := (.int .i64 5)) rfl (by kernel_rfl) (by kernel_rfl) (by kernel_rfl) (fun _ _ _ h => h) (Or.inl ⟨by rfl, ?_⟩) (HTS.out.1) ?_
          · intro w' hS; go_simp; try with_reducible rfl
          simp only [Act.put, List.setIfInBounds_toArray, List.set_cons_zero, List.set_cons_succ]
          refine wpAnyV_take (i := 8) (oi := ⟨some 40, _, _, _, _, _⟩) (v := (.pointer (some ⟨G, 5, none⟩))) rfl (by kernel_rfl) (by kernel_rfl) (by kernel_rfl) (fun _ _ _ h => h) (Or.inl ⟨by rfl, ?_⟩) (HTS.out.1) ?_
          · intro w' hS; go_simp; try with_reducible rfl
          simp only [Act.put, List.setIfInBounds_toArray, List.set_cons_zero, List.set_cons_succ]
          refine wpAnyV_takeS (i := 9) (oi := ⟨some 41, _, _, _, _, _⟩) (v := (.int .u32 (yb : Int))) rfl (by kernel_rfl) (by kernel_rfl) (by kernel_rfl) (by kernel_rfl) (fun _ _ _ h => h) (Or.inl ⟨by rfl, ?_⟩) HTS.out ?_
          · intro w' hS; have z0 : w'.cell? ⟨G, 5, none⟩ = some (.int .u32 (yb : Int)) := (World.cell?_of_block (w := wr) (w' := w') hS.2).trans cb.out; go_simp; try with_reducible rfl
          simp only [Act.put, List.setIfInBounds_toArray, List.set_cons_zero, List.set_cons_succ]
          refine wpAnyV_take (i := 10) (oi := ⟨some 42, _, _, _, _, _⟩) (v := (.int .i64 10)) rfl (by kernel_rfl) (by kernel_rfl) (by kernel_rfl) (fun _ _ _ h => h) (Or.inl ⟨by rfl, ?_⟩) (HTS.out.1) ?_
          · intro w' hS; go_simp; try with_reducible rfl
          simp only [Act.put, List.setIfInBounds_toArray, List.set_cons_zero, List.set_cons_succ]
          refine wpAnyV_take (i := 11) (oi := ⟨some 43, _, _, _, _, _⟩) (v := (.pointer (some ⟨G, 10, none⟩))) rfl (by kernel_rfl) (by kernel_rfl) (by kernel_rfl) (fun _ _ _ h => h) (Or.inl ⟨by rfl, ?_⟩) (HTS.out.1) ?_
          · intro w' hS; go_simp; try with_reducible rfl
          simp only [Act.put, List.setIfInBounds_toArray, List.set_cons_zero, List.set_cons_succ]
          refine wpAnyV_takeS (i := 12) (oi := ⟨some 44, _, _, _, _, _⟩) (v := (.int .u32 (yc : Int))) rfl (by kernel_rfl) (by kernel_rfl) (by kernel_rfl) (by kernel_rfl) (fun _ _ _ h => h) (Or.inl ⟨by rfl, ?_⟩) HTS.out ?_
          · intro w' hS; have z0 : w'.cell? ⟨G, 10, none⟩ = some (.int .u32 (yc : Int)) := (World.cell?_of_block (w := wr) (w' := w') hS.2).trans cc.out; go_simp; try with_reducible rfl
          simp only [Act.put, List.setIfInBounds_toArray, List.set_cons_zero, List.set_cons_succ]
          refine wpAnyV_take (i := 13) (oi := ⟨some 45, _, _, _, _, _⟩) (v := (.int .i64 15)) rfl (by kernel_rfl) (by kernel_rfl) (by kernel_rfl) (fun _ _ _ h => h) (Or.inl ⟨by rfl, ?_⟩) (HTS.out.1) ?_
          · intro w' hS; go_simp; try with_reducible rfl
          simp only [Act.put, List.setIfInBounds_toArray, List.set_cons_zero, List.set_cons_succ]
          refine wpAnyV_take (i := 14) (oi := ⟨some 46, _, _, _, _, _⟩) (v := (.pointer (some ⟨G, 15, none⟩))) rfl (by kernel_rfl) (by kernel_rfl) (by kernel_rfl) (fun _ _ _ h => h) (Or.inl ⟨by rfl, ?_⟩) (HTS.out.1) ?_
          · intro w' hS; go_simp; try with_reducible rfl
          simp only [Act.put, List.setIfInBounds_toArray, List.set_cons_zero, List.set_cons_succ]
          refine wpAnyV_takeS (i := 15) (oi := ⟨some 47, _, _, _, _, _⟩) (v := (.int .u32 (yd : Int))) rfl (by kernel_rfl) (by kernel_rfl) (by kernel_rfl) (by kernel_rfl) (fun _ _ _ h => h) (Or.inl ⟨by rfl, ?_⟩) HTS.out ?_
          · intro w' hS; have z0 : w'.cell? ⟨G, 15, none⟩ = some (.int .u32 (yd : Int)) := (World.cell?_of_block (w := wr) (w' := w') hS.2).trans cd.out; go_simp; try with_reducible rfl
          simp only [Act.put, List.setIfInBounds_toArray, List.set_cons_zero, List.set_cons_succ]
          refine wpAnyV_one (i := 16) (o := ⟨some 48, _, _, _, _, _⟩) rfl (by kernel_rfl) (by rfl) (fun K hK => ?_)
          go_simp
          refine (HQC.out D).mono ?_
          rintro e' w' ⟨rfl, hww⟩
          obtain rfl : D = w' := hww
          dsimp only
          (try simp only [Act.put, List.setIfInBounds_toArray, List.set_cons_zero, List.set_cons_succ])
          refine hK.out _ _ HTS.out.1 (fun _ h => h) ?_
          clear hK K
          refine wpAnyV_take (i := 17) (oi := ⟨some 31, _, _, _, _, _⟩) (v := (.tuple #[.int .u32 (qa : Int), .int .u32 (qb : Int), .int .u32 (qc : Int), .int .u32 (qd : Int)])) rfl (by kernel_rfl) (by kernel_rfl) (by kernel_rfl) (fun _ _ _ h => h) (Or.inl ⟨by rfl, ?_⟩) (HTS.out.1) ?_
          · intro w' hS; go_simp; try with_reducible rfl
          simp only [Act.put, List.setIfInBounds_toArray, List.set_cons_zero, List.set_cons_succ]
          refine wpAnyV_take (i := 18) (oi := ⟨some 49, _, _, _, _, _⟩) (v := (.int .u32 (qa : Int))) rfl (by kernel_rfl) (by kernel_rfl) (by kernel_rfl) (fun _ _ _ h => h) (Or.inl ⟨by rfl, ?_⟩) (HTS.out.1) ?_
          · intro w' hS; go_simp; try with_reducible rfl
          simp only [Act.put, List.setIfInBounds_toArray, List.set_cons_zero, List.set_cons_succ]
          refine wpAnyV_take (i := 19) (oi := ⟨some 50, _, _, _, _, _⟩) (v := (.int .u32 (qb : Int))) rfl (by kernel_rfl) (by kernel_rfl) (by kernel_rfl) (fun _ _ _ h => h) (Or.inl ⟨by rfl, ?_⟩) (HTS.out.1) ?_
          · intro w' hS; go_simp; try with_reducible rfl
          simp only [Act.put, List.setIfInBounds_toArray, List.set_cons_zero, List.set_cons_succ]
          refine wpAnyV_take (i := 20) (oi := ⟨some 51, _, _, _, _, _⟩) (v := (.int .u32 (qc : Int))) rfl (by kernel_rfl) (by kernel_rfl) (by kernel_rfl) (fun _ _ _ h => h) (Or.inl ⟨by rfl, ?_⟩) (HTS.out.1) ?_
          · intro w' hS; go_simp; try with_reducible rfl
          simp only [Act.put, List.setIfInBounds_toArray, List.set_cons_zero, List.set_cons_succ]
          refine wpAnyV_take (i := 21) (oi := ⟨some 52, _, _, _, _, _⟩) (v := (.int .u32 (qd : Int))) rfl (by kernel_rfl) (by kernel_rfl) (by kernel_rfl) (fun _ _ _ h => h) (Or.inl ⟨by rfl, ?_⟩) (HTS.out.1) ?_
          · intro w' hS; go_simp; try with_reducible rfl
          simp only [Act.put, List.setIfInBounds_toArray, List.set_cons_zero, List.set_cons_succ]
          refine wpAnyV_take (i := 22) (oi := ⟨some 53, _, _, _, _, _⟩) (v := (.pointer (some ⟨G, 0, none⟩))) rfl (by kernel_rfl) (by kernel_rfl) (by kernel_rfl) (fun _ _ _ h => h) (Or.inl ⟨by rfl, ?_⟩) (HTS.out.1) ?_
          · intro w' hS; go_simp; try with_reducible rfl
          simp only [Act.put, List.setIfInBounds_toArray, List.set_cons_zero, List.set_cons_succ]
          refine wpAnyV_one (i := 23) (o := ⟨none, _, _, _, _, _⟩) rfl (by kernel_rfl) (by rfl) (fun K hK => ?_)
          have f1 : D.frozen? ⟨G, 0, none⟩ = false := HD0.out.frozen 0
          have g1 : D.cell? ⟨G, 0, none⟩ = some (.int .u32 (((V).getD 0 0 : Nat) : Int)) := U_at HD0.out 0 (by have := HW.out.len; simp; omega)
          go_simp
          refine hK.out _ _ (fun k hk => (Below.heap_setCell D ⟨G, 0, none⟩ _ k hk).trans (HTS.out.1 k hk)) (fun hn => absurd (by decide) hn) ?_
          clear hK K f1 g1
          have HD1 : Hid (Blk (D.setCell ⟨G, 0, none⟩ (.int .u32 (qa : Int))) G 125 (U ((V).set 0 qa))) := Lib.hid (U_set HD0.out 0 qa)
          have HT1 : Hid (∀ k, k ≠ G → (D.setCell ⟨G, 0, none⟩ (.int .u32 (qa : Int))).heap[k]? = wr.heap[k]?) := Lib.hid (fun k hk => (Below.heap_setCell D ⟨G, 0, none⟩ _ k hk).trans (HTS.out.1 k hk))
          have HF1 : Hid (Fr (fun k => k = G) w1 (D.setCell ⟨G, 0, none⟩ (.int .u32 (qa : Int)))) := Lib.hid (HFD.out.setCell (p := ⟨G, 0, none⟩) (.inl rfl) _)
          generalize (D.setCell ⟨G, 0, none⟩ (.int .u32 (qa : Int))) = D1 at HD1 HT1 HF1 ⊢
          refine wpAnyV_take (i := 24) (oi := ⟨some 54, _, _, _, _, _⟩) (v := (.pointer (some ⟨G, 5, none⟩))) rfl (by kernel_rfl) (by kernel_rfl) (by kernel_rfl) (fun _ _ _ h => h) (Or.inl ⟨by rfl, ?_⟩) (HT1.out) ?_
          · intro w' hS; go_simp; try with_reducible rfl
          simp only [Act.put, List.setIfInBounds_toArray, List.set_cons_zero, List.set_cons_succ]
          refine wpAnyV_one (i := 25) (o := ⟨none, _, _, _, _, _⟩) rfl (by kernel_rfl) (by rfl) (fun K hK => ?_)
          have f1 : D1.frozen? ⟨G, 5, none⟩ = false := HD1.out.frozen 5
          have g1 : D1.cell? ⟨G, 5, none⟩ = some (.int .u32 ((((V).set 0 qa).getD 5 0 : Nat) : Int)) := U_at HD1.out 5 (by have := HW.out.len; simp; omega)
          go_simp
          refine hK.out _ _ (fun k hk => (Below.heap_setCell D1 ⟨G, 5, none⟩ _ k hk).trans (HT1.out k hk)) (fun hn => absurd (by decide) hn) ?_
          clear hK K f1 g1
          have HD2 : Hid (Blk (D1.setCell ⟨G, 5, none⟩ (.int .u32 (qb : Int))) G 125 (U (((V).set 0 qa).set 5 qb))) := Lib.hid (U_set HD1.out 5 qb)
          have HT2 : Hid (∀ k, k ≠ G → (D1.setCell ⟨G, 5, none⟩ (.int .u32 (qb : Int))).heap[k]? = wr.heap[k]?) := Lib.hid (fun k hk => (Below.heap_setCell D1 ⟨G, 5, none⟩ _ k hk).trans (HT1.out k hk))
          have HF2 : Hid (Fr (fun k => k = G) w1 (D1.setCell ⟨G, 5, none⟩ (.int .u32 (qb : Int)))) := Lib.hid (HF1.out.setCell (p := ⟨G, 5, none⟩) (.inl rfl) _)
          generalize (D1.setCell ⟨G, 5, none⟩ (.int .u32 (qb : Int))) = D2 at HD2 HT2 HF2 ⊢
          refine wpAnyV_take (i := 26) (oi := ⟨some 55, _, _, _, _, _⟩) (v := (.pointer (some ⟨G, 10, none⟩))) rfl (by kernel_rfl) (by kernel_rfl) (by kernel_rfl) (fun _ _ _ h => h) (Or.inl ⟨by rfl, ?_⟩) (HT2.out) ?_
          · intro w' hS; go_simp; try with_reducible rfl
          simp only [Act.put, List.setIfInBounds_toArray, List.set_cons_zero, List.set_cons_succ]
          refine wpAnyV_one (i := 27) (o := ⟨none, _, _, _, _, _⟩) rfl (by kernel_rfl) (by rfl) (fun K hK => ?_)
          have f1 : D2.frozen? ⟨G, 10, none⟩ = false := HD2.out.frozen 10
          have g1 : D2.cell? ⟨G, 10, none⟩ = some (.int .u32 (((((V).set 0 qa).set 5 qb).getD 10 0 : Nat) : Int)) := U_at HD2.out 10 (by have := HW.out.len; simp; omega)
          go_simp
          refine hK.out _ _ (fun k hk => (Below.heap_setCell D2 ⟨G, 10, none⟩ _ k hk).trans (HT2.out k hk)) (fun hn => absurd (by decide) hn) ?_
          clear hK K f1 g1
          have HD3 : Hid (Blk (D2.setCell ⟨G, 10, none⟩ (.int .u32 (qc : Int))) G 125 (U ((((V).set 0 qa).set 5 qb).set 10 qc))) := Lib.hid (U_set HD2.out 10 qc)
          have HT3 : Hid (∀ k, k ≠ G → (D2.setCell ⟨G, 10, none⟩ (.int .u32 (qc : Int))).heap[k]? = wr.heap[k]?) := Lib.hid (fun k hk => (Below.heap_setCell D2 ⟨G, 10, none⟩ _ k hk).trans (HT2.out k hk))
          have HF3 : Hid (Fr (fun k => k = G) w1 (D2.setCell ⟨G, 10, none⟩ (.int .u32 (qc : Int)))) := Lib.hid (HF2.out.setCell (p := ⟨G, 10, none⟩) (.inl rfl) _)
          generalize (D2.setCell ⟨G, 10, none⟩ (.int .u32 (qc : Int))) = D3 at HD3 HT3 HF3 ⊢
          refine wpAnyV_take (i := 28) (oi := ⟨some 56, _, _, _, _, _⟩) (v := (.pointer (some ⟨G, 15, none⟩))) rfl (by kernel_rfl) (by kernel_rfl) (by kernel_rfl) (fun _ _ _ h => h) (Or.inl ⟨by rfl, ?_⟩) (HT3.out) ?_
          · intro w' hS; go_simp; try with_reducible rfl
          simp only [Act.put, List.setIfInBounds_toArray, List.set_cons_zero, List.set_cons_succ]
          refine wpAnyV_one (i := 29) (o := ⟨none, _, _, _, _, _⟩) rfl (by kernel_rfl) (by rfl) (fun K hK => ?_)
          have f1 : D3.frozen? ⟨G, 15, none⟩ = false := HD3.out.frozen 15
          have g1 : D3.cell? ⟨G, 15, none⟩ = some (.int .u32 ((((((V).set 0 qa).set 5 qb).set 10 qc).getD 15 0 : Nat) : Int)) := U_at HD3.out 15 (by have := HW.out.len; simp; omega)
          go_simp
          refine hK.out _ _ (fun k hk => (Below.heap_setCell D3 ⟨G, 15, none⟩ _ k hk).trans (HT3.out k hk)) (fun hn => absurd (by decide) hn) ?_
          clear hK K f1 g1
          have HD4 : Hid (Blk (D3.setCell ⟨G, 15, none⟩ (.int .u32 (qd : Int))) G 125 (U (((((V).set 0 qa).set 5 qb).set 10 qc).set 15 qd))) := Lib.hid (U_set HD3.out 15 qd)
          have HT4 : Hid (∀ k, k ≠ G → (D3.setCell ⟨G, 15, none⟩ (.int .u32 (qd : Int))).heap[k]? = wr.heap[k]?) := Lib.hid (fun k hk => (Below.heap_setCell D3 ⟨G, 15, none⟩ _ k hk).trans (HT3.out k hk))
          have HF4 : Hid (Fr (fun k => k = G) w1 (D3.setCell ⟨G, 15, none⟩ (.int .u32 (qd : Int)))) := Lib.hid (HF3.out.setCell (p := ⟨G, 15, none⟩) (.inl rfl) _)
          generalize (D3.setCell ⟨G, 15, none⟩ (.int .u32 (qd : Int))) = D4 at HD4 HT4 HF4 ⊢
          refine wpAnyV_done (by kernel_rfl) ?_ _
          go_wp2_with fail
          go_roundw
          case rel => exact ⟨1, by simp, by rw [HMT.out, HM.out]; exact HD4, HF4⟩
          case measure => simp [intOf]
        · have HW : Hid (W16 (twTo L 5)) := Lib.hid (HL.out.tw 5)
          have HS2 : Hid (twTo L (5 + 1) = qst (twTo L 5) 1 6 11 12) := Lib.hid (by rw [twTo_succ]; rfl)
          have HMT0 : Hid (∀ Z, twTo L (5 + 1) = Z → twTo L (4 * 1 + 2) = Z) := Lib.hid (fun Z h => h)
          generalize hMM : twTo L (5 + 1) = M at HS2
          have HMT : Hid (twTo L (4 * 1 + 2) = M) := Lib.hid (HMT0.out M hMM)
          clear HMT0 hMM
          have HB' : Hid (Blk wr G 125 (U (twTo L 5))) := HB
          clear HB
          have HB := HB'
          clear HB'
          generalize twTo L 5 = V at HB HW HS2
          have ca : Hid (wr.cell? ⟨G, 1, none⟩ = some (.int .u32 ((V.getD 1 0 : Nat) : Int))) := Lib.hid (U_at HB.out 1 (by rw [HW.out.len]; omega))
          have cb : Hid (wr.cell? ⟨G, 6, none⟩ = some (.int .u32 ((V.getD 6 0 : Nat) : Int))) := Lib.hid (U_at HB.out 6 (by rw [HW.out.len]; omega))
          have cc : Hid (wr.cell? ⟨G, 11, none⟩ = some (.int .u32 ((V.getD 11 0 : Nat) : Int))) := Lib.hid (U_at HB.out 11 (by rw [HW.out.len]; omega))
          have cd : Hid (wr.cell? ⟨G, 12, none⟩ = some (.int .u32 ((V.getD 12 0 : Nat) : Int))) := Lib.hid (U_at HB.out 12 (by rw [HW.out.len]; omega))
          have hq4 : (Q4.mk (V.getD 1 0) (V.getD 6 0) (V.getD 11 0) (V.getD 12 0)).ok := ⟨HW.out.lt _, HW.out.lt _, HW.out.lt _, HW.out.lt _⟩
          have HQ4 := Lib.hid hq4
          clear hq4
          obtain ⟨ya, hya⟩ : ∃ y, y = V.getD 1 0 := ⟨_, rfl⟩
          rw [← hya] at ca HQ4
          obtain ⟨yb, hyb⟩ : ∃ y, y = V.getD 6 0 := ⟨_, rfl⟩
          rw [← hyb] at cb HQ4
          obtain ⟨yc, hyc⟩ : ∃ y, y = V.getD 11 0 := ⟨_, rfl⟩
          rw [← hyc] at cc HQ4
          obtain ⟨yd, hyd⟩ : ∃ y, y = V.getD 12 0 := ⟨_, rfl⟩
          rw [← hyd] at cd HQ4
          obtain ⟨q, hq⟩ : ∃ q, q = quarter ⟨ya, yb, yc, yd⟩ := ⟨_, rfl⟩
          have HM : Hid (M = (((V.set 1 q.a).set 6 q.b).set 11 q.c).set 12 q.d) := Lib.hid (by rw [HS2.out, hq, hya, hyb, hyc, hyd]; rfl)
          have HQC : Hid (∀ W, Calls Try.prog 95 #[.int .u32 (ya : Int), .int .u32 (yb : Int), .int .u32 (yc : Int), .int .u32 (yd : Int)] W fun e w' => e = .returned (.tuple #[.int .u32 (q.a : Int), .int .u32 (q.b : Int), .int .u32 (q.c : Int), .int .u32 (q.d : Int)]) ∧ W = w') := Lib.hid (fun W => hq ▸ quarter_any ya yb yc yd W HQ4.out)
          clear hya hyb hyc hyd hq HS2 HQ4
          obtain ⟨qa, qb, qc, qd⟩ := q
          dsimp only at HM HQC
          go_wp2_with fail
          refine wp_region_late (fun w' => ∀ k, k ≠ G → w'.heap[k]? = wr.heap[k]?) (fun w' => w'.heap[G]? = wr.heap[G]?) [23, 25, 27, 29] (by kernel_rfl) ⟨fun k _ => rfl, rfl⟩ (fun hHeld => ?_)
          have HTS := Lib.hid hHeld
          clear hHeld
          have HD0 : Hid (Blk wr.drew G 125 (U V)) := Lib.hid HB.out
          have HFD : Hid (Fr (fun k => k = G) w1 wr.drew) := Lib.hid HF.out.drew
          generalize hD : wr.drew = D at HTS HD0 HFD ⊢
          clear hD
          refine wpAnyV_take (i := 0) (oi := ⟨some 32, _, _, _, _, _⟩) (v := (.int .i64 1)) rfl (by kernel_rfl) (by kernel_rfl) (by kernel_rfl) (fun _ _ _ h => h) (Or.inl ⟨by rfl, ?_⟩) (HTS.out.1) ?_
          · intro w' hS; go_simp; try with_reducible rfl
          simp only [Act.put, List.setIfInBounds_toArray, List.set_cons_zero, List.set_cons_succ]
          refine wpAnyV_take (i := 1) (oi := ⟨some 33, _, _, _, _, _⟩) (v := (.int .i64 6)) rfl (by kernel_rfl) (by kernel_rfl) (by kernel_rfl) (fun _ _ _ h => h) (Or.inl ⟨by rfl, ?_⟩) (HTS.out.1) ?_
          · intro w' hS; go_simp; try with_reducible rfl
          simp only [Act.put, List.setIfInBounds_toArray, List.set_cons_zero, List.set_cons_succ]
          refine wpAnyV_take (i := 2) (oi := ⟨some 34, _, _, _, _, _⟩) (v := (.int .i64 11)) rfl (by kernel_rfl) (by kernel_rfl) (by kernel_rfl) (fun _ _ _ h => h) (Or.inl ⟨by rfl, ?_⟩) (HTS.out.1) ?_
          · intro w' hS; go_simp; try with_reducible rfl
          simp only [Act.put, List.setIfInBounds_toArray, List.set_cons_zero, List.set_cons_succ]
          refine wpAnyV_take (i := 3) (oi := ⟨some 35, _, _, _, _, _⟩) (v := (.int .i64 12)) rfl (by kernel_rfl) (by kernel_rfl) (by kernel_rfl) (fun _ _ _ h => h) (Or.inl ⟨by rfl, ?_⟩) (HTS.out.1) ?_
          · intro w' hS; go_simp; try with_reducible rfl
          simp only [Act.put, List.setIfInBounds_toArray, List.set_cons_zero, List.set_cons_succ]
          refine wpAnyV_take (i := 4) (oi := ⟨some 36, _, _, _, _, _⟩) (v := (.int .i64 1)) rfl (by kernel_rfl) (by kernel_rfl) (by kernel_rfl) (fun _ _ _ h => h) (Or.inl ⟨by rfl, ?_⟩) (HTS.out.1) ?_
          · intro w' hS; go_simp; try with_reducible rfl
          simp only [Act.put, List.setIfInBounds_toArray, List.set_cons_zero, List.set_cons_succ]
          refine wpAnyV_take (i := 5) (oi := ⟨some 37, _, _, _, _, _⟩) (v := (.pointer (some ⟨G, 1, none⟩))) rfl (by kernel_rfl) (by kernel_rfl) (by kernel_rfl) (fun _ _ _ h => h) (Or.inl ⟨by rfl, ?_⟩) (HTS.out.1) ?_
          · intro w' hS; go_simp; try with_reducible rfl
          simp only [Act.put, List.setIfInBounds_toArray, List.set_cons_zero, List.set_cons_succ]
          refine wpAnyV_takeS (i := 6) (oi := ⟨some 38, _, _, _, _, _⟩) (v := (.int .u32 (ya : Int))) rfl (by kernel_rfl) (by kernel_rfl) (by kernel_rfl) (by kernel_rfl) (fun _ _ _ h => h) (Or.inl ⟨by rfl, ?_⟩) HTS.out ?_
          · intro w' hS; have z0 : w'.cell? ⟨G, 1, none⟩ = some (.int .u32 (ya : Int)) := (World.cell?_of_block (w := wr) (w' := w') hS.2).trans ca.out; go_simp; try with_reducible rfl
          simp only [Act.put, List.setIfInBounds_toArray, List.set_cons_zero, List.set_cons_succ]
          refine wpAnyV_take (i := 7) (oi := ⟨some 39, _, _, _, _, _⟩) (v := (.int .i64 6)) rfl (by kernel_rfl) (by kernel_rfl) (by kernel_rfl) (fun _ _ _ h => h) (Or.inl ⟨by rfl, ?_⟩) (HTS.out.1) ?_
          · intro w' hS; go_simp; try with_reducible rfl
          simp only [Act.put, List.setIfInBounds_toArray, List.set_cons_zero, List.set_cons_succ]
          refine wpAnyV_take (i := 8) (oi := ⟨some 40, _, _, _, _, _⟩) (v := (.pointer (some ⟨G, 6, none⟩))) rfl (by kernel_rfl) (by kernel_rfl) (by kernel_rfl) (fun _ _ _ h => h) (Or.inl ⟨by rfl, ?_⟩) (HTS.out.1) ?_
          · intro w' hS; go_simp; try with_reducible rfl
          simp only [Act.put, List.setIfInBounds_toArray, List.set_cons_zero, List.set_cons_succ]
          refine wpAnyV_takeS (i := 9) (oi := ⟨some 41, _, _, _, _, _⟩) (v := (.int .u32 (yb : Int))) rfl (by kernel_rfl) (by kernel_rfl) (by kernel_rfl) (by kernel_rfl) (fun _ _ _ h => h) (Or.inl ⟨by rfl, ?_⟩) HTS.out ?_
          · intro w' hS; have z0 : w'.cell? ⟨G, 6, none⟩ = some (.int .u32 (yb : Int)) := (World.cell?_of_block (w := wr) (w' := w') hS.2).trans cb.out; go_simp; try with_reducible rfl
          simp only [Act.put, List.setIfInBounds_toArray, List.set_cons_zero, List.set_cons_succ]
          refine wpAnyV_take (i := 10) (oi := ⟨some 42, _, _, _, _, _⟩) (v := (.int .i64 11)) rfl (by kernel_rfl) (by kernel_rfl) (by kernel_rfl) (fun _ _ _ h => h) (Or.inl ⟨by rfl, ?_⟩) (HTS.out.1) ?_
          · intro w' hS; go_simp; try with_reducible rfl
          simp only [Act.put, List.setIfInBounds_toArray, List.set_cons_zero, List.set_cons_succ]
          refine wpAnyV_take (i := 11) (oi := ⟨some 43, _, _, _, _, _⟩) (v := (.pointer (some ⟨G, 11, none⟩))) rfl (by kernel_rfl) (by kernel_rfl) (by kernel_rfl) (fun _ _ _ h => h) (Or.inl ⟨by rfl, ?_⟩) (HTS.out.1) ?_
          · intro w' hS; go_simp; try with_reducible rfl
          simp only [Act.put, List.setIfInBounds_toArray, List.set_cons_zero, List.set_cons_succ]
          refine wpAnyV_takeS (i := 12) (oi := ⟨some 44, _, _, _, _, _⟩) (v := (.int .u32 (yc : Int))) rfl (by kernel_rfl) (by kernel_rfl) (by kernel_rfl) (by kernel_rfl) (fun _ _ _ h => h) (Or.inl ⟨by rfl, ?_⟩) HTS.out ?_
          · intro w' hS; have z0 : w'.cell? ⟨G, 11, none⟩ = some (.int .u32 (yc : Int)) := (World.cell?_of_block (w := wr) (w' := w') hS.2).trans cc.out; go_simp; try with_reducible rfl
          simp only [Act.put, List.setIfInBounds_toArray, List.set_cons_zero, List.set_cons_succ]
          refine wpAnyV_take (i := 13) (oi := ⟨some 45, _, _, _, _, _⟩) (v := (.int .i64 12)) rfl (by kernel_rfl) (by kernel_rfl) (by kernel_rfl) (fun _ _ _ h => h) (Or.inl ⟨by rfl, ?_⟩) (HTS.out.1) ?_
          · intro w' hS; go_simp; try with_reducible rfl
          simp only [Act.put, List.setIfInBounds_toArray, List.set_cons_zero, List.set_cons_succ]
          refine wpAnyV_take (i := 14) (oi := ⟨some 46, _, _, _, _, _⟩) (v := (.pointer (some ⟨G, 12, none⟩))) rfl (by kernel_rfl) (by kernel_rfl) (by kernel_rfl) (fun _ _ _ h => h) (Or.inl ⟨by rfl, ?_⟩) (HTS.out.1) ?_
          · intro w' hS; go_simp; try with_reducible rfl
          simp only [Act.put, List.setIfInBounds_toArray, List.set_cons_zero, List.set_cons_succ]
          refine wpAnyV_takeS (i := 15) (oi := ⟨some 47, _, _, _, _, _⟩) (v := (.int .u32 (yd : Int))) rfl (by kernel_rfl) (by kernel_rfl) (by kernel_rfl) (by kernel_rfl) (fun _ _ _ h => h) (Or.inl ⟨by rfl, ?_⟩) HTS.out ?_
          · intro w' hS; have z0 : w'.cell? ⟨G, 12, none⟩ = some (.int .u32 (yd : Int)) := (World.cell?_of_block (w := wr) (w' := w') hS.2).trans cd.out; go_simp; try with_reducible rfl
          simp only [Act.put, List.setIfInBounds_toArray, List.set_cons_zero, List.set_cons_succ]
          refine wpAnyV_one (i := 16) (o := ⟨some 48, _, _, _, _, _⟩) rfl (by kernel_rfl) (by rfl) (fun K hK => ?_)
          go_simp
          refine (HQC.out D).mono ?_
          rintro e' w' ⟨rfl, hww⟩
          obtain rfl : D = w' := hww
          dsimp only
          (try simp only [Act.put, List.setIfInBounds_toArray, List.set_cons_zero, List.set_cons_succ])
          refine hK.out _ _ HTS.out.1 (fun _ h => h) ?_
          clear hK K
          refine wpAnyV_take (i := 17) (oi := ⟨some 31, _, _, _, _, _⟩) (v := (.tuple #[.int .u32 (qa : Int), .int .u32 (qb : Int), .int .u32 (qc : Int), .int .u32 (qd : Int)])) rfl (by kernel_rfl) (by kernel_rfl) (by kernel_rfl) (fun _ _ _ h => h) (Or.inl ⟨by rfl, ?_⟩) (HTS.out.1) ?_
          · intro w' hS; go_simp; try with_reducible rfl
          simp only [Act.put, List.setIfInBounds_toArray, List.set_cons_zero, List.set_cons_succ]
          refine wpAnyV_take (i := 18) (oi := ⟨some 49, _, _, _, _, _⟩) (v := (.int .u32 (qa : Int))) rfl (by kernel_rfl) (by kernel_rfl) (by kernel_rfl) (fun _ _ _ h => h) (Or.inl ⟨by rfl, ?_⟩) (HTS.out.1) ?_
          · intro w' hS; go_simp; try with_reducible rfl
          simp only [Act.put, List.setIfInBounds_toArray, List.set_cons_zero, List.set_cons_succ]
          refine wpAnyV_take (i := 19) (oi := ⟨some 50, _, _, _, _, _⟩) (v := (.int .u32 (qb : Int))) rfl (by kernel_rfl) (by kernel_rfl) (by kernel_rfl) (fun _ _ _ h => h) (Or.inl ⟨by rfl, ?_⟩) (HTS.out.1) ?_
          · intro w' hS; go_simp; try with_reducible rfl
          simp only [Act.put, List.setIfInBounds_toArray, List.set_cons_zero, List.set_cons_succ]
          refine wpAnyV_take (i := 20) (oi := ⟨some 51, _, _, _, _, _⟩) (v := (.int .u32 (qc : Int))) rfl (by kernel_rfl) (by kernel_rfl) (by kernel_rfl) (fun _ _ _ h => h) (Or.inl ⟨by rfl, ?_⟩) (HTS.out.1) ?_
          · intro w' hS; go_simp; try with_reducible rfl
          simp only [Act.put, List.setIfInBounds_toArray, List.set_cons_zero, List.set_cons_succ]
          refine wpAnyV_take (i := 21) (oi := ⟨some 52, _, _, _, _, _⟩) (v := (.int .u32 (qd : Int))) rfl (by kernel_rfl) (by kernel_rfl) (by kernel_rfl) (fun _ _ _ h => h) (Or.inl ⟨by rfl, ?_⟩) (HTS.out.1) ?_
          · intro w' hS; go_simp; try with_reducible rfl
          simp only [Act.put, List.setIfInBounds_toArray, List.set_cons_zero, List.set_cons_succ]
          refine wpAnyV_take (i := 22) (oi := ⟨some 53, _, _, _, _, _⟩) (v := (.pointer (some ⟨G, 1, none⟩))) rfl (by kernel_rfl) (by kernel_rfl) (by kernel_rfl) (fun _ _ _ h => h) (Or.inl ⟨by rfl, ?_⟩) (HTS.out.1) ?_
          · intro w' hS; go_simp; try with_reducible rfl
          simp only [Act.put, List.setIfInBounds_toArray, List.set_cons_zero, List.set_cons_succ]
          refine wpAnyV_one (i := 23) (o := ⟨none, _, _, _, _, _⟩) rfl (by kernel_rfl) (by rfl) (fun K hK => ?_)
          have f1 : D.frozen? ⟨G, 1, none⟩ = false := HD0.out.frozen 1
          have g1 : D.cell? ⟨G, 1, none⟩ = some (.int .u32 (((V).getD 1 0 : Nat) : Int)) := U_at HD0.out 1 (by have := HW.out.len; simp; omega)
          go_simp
          refine hK.out _ _ (fun k hk => (Below.heap_setCell D ⟨G, 1, none⟩ _ k hk).trans (HTS.out.1 k hk)) (fun hn => absurd (by decide) hn) ?_
          clear hK K f1 g1
          have HD1 : Hid (Blk (D.setCell ⟨G, 1, none⟩ (.int .u32 (qa : Int))) G 125 (U ((V).set 1 qa))) := Lib.hid (U_set HD0.out 1 qa)
          have HT1 : Hid (∀ k, k ≠ G → (D.setCell ⟨G, 1, none⟩ (.int .u32 (qa : Int))).heap[k]? = wr.heap[k]?) := Lib.hid (fun k hk => (Below.heap_setCell D ⟨G, 1, none⟩ _ k hk).trans (HTS.out.1 k hk))
          have HF1 : Hid (Fr (fun k => k = G) w1 (D.setCell ⟨G, 1, none⟩ (.int .u32 (qa : Int)))) := Lib.hid (HFD.out.setCell (p := ⟨G, 1, none⟩) (.inl rfl) _)
          generalize (D.setCell ⟨G, 1, none⟩ (.int .u32 (qa : Int))) = D1 at HD1 HT1 HF1 ⊢
          refine wpAnyV_take (i := 24) (oi := ⟨some 54, _, _, _, _, _⟩) (v := (.pointer (some ⟨G, 6, none⟩))) rfl (by kernel_rfl) (by kernel_rfl) (by kernel_rfl) (fun _ _ _ h => h) (Or.inl ⟨by rfl, ?_⟩) (HT1.out) ?_
          · intro w' hS; go_simp; try with_reducible rfl
          simp only [Act.put, List.setIfInBounds_toArray, List.set_cons_zero, List.set_cons_succ]
          refine wpAnyV_one (i := 25) (o := ⟨none, _, _, _, _, _⟩) rfl (by kernel_rfl) (by rfl) (fun K hK => ?_)
          have f1 : D1.frozen? ⟨G, 6, none⟩ = false := HD1.out.frozen 6
          have g1 : D1.cell? ⟨G, 6, none⟩ = some (.int .u32 ((((V).set 1 qa).getD 6 0 : Nat) : Int)) := U_at HD1.out 6 (by have := HW.out.len; simp; omega)
          go_simp
          refine hK.out _ _ (fun k hk => (Below.heap_setCell D1 ⟨G, 6, none⟩ _ k hk).trans (HT1.out k hk)) (fun hn => absurd (by decide) hn) ?_
          clear hK K f1 g1
          have HD2 : Hid (Blk (D1.setCell ⟨G, 6, none⟩ (.int .u32 (qb : Int))) G 125 (U (((V).set 1 qa).set 6 qb))) := Lib.hid (U_set HD1.out 6 qb)
          have HT2 : Hid (∀ k, k ≠ G → (D1.setCell ⟨G, 6, none⟩ (.int .u32 (qb : Int))).heap[k]? = wr.heap[k]?) := Lib.hid (fun k hk => (Below.heap_setCell D1 ⟨G, 6, none⟩ _ k hk).trans (HT1.out k hk))
          have HF2 : Hid (Fr (fun k => k = G) w1 (D1.setCell ⟨G, 6, none⟩ (.int .u32 (qb : Int)))) := Lib.hid (HF1.out.setCell (p := ⟨G, 6, none⟩) (.inl rfl) _)
          generalize (D1.setCell ⟨G, 6, none⟩ (.int .u32 (qb : Int))) = D2 at HD2 HT2 HF2 ⊢
          refine wpAnyV_take (i := 26) (oi := ⟨some 55, _, _, _, _, _⟩) (v := (.pointer (some ⟨G, 11, none⟩))) rfl (by kernel_rfl) (by kernel_rfl) (by kernel_rfl) (fun _ _ _ h => h) (Or.inl ⟨by rfl, ?_⟩) (HT2.out) ?_
          · intro w' hS; go_simp; try with_reducible rfl
          simp only [Act.put, List.setIfInBounds_toArray, List.set_cons_zero, List.set_cons_succ]
          refine wpAnyV_one (i := 27) (o := ⟨none, _, _, _, _, _⟩) rfl (by kernel_rfl) (by rfl) (fun K hK => ?_)
          have f1 : D2.frozen? ⟨G, 11, none⟩ = false := HD2.out.frozen 11
          have g1 : D2.cell? ⟨G, 11, none⟩ = some (.int .u32 (((((V).set 1 qa).set 6 qb).getD 11 0 : Nat) : Int)) := U_at HD2.out 11 (by have := HW.out.len; simp; omega)
          go_simp
          refine hK.out _ _ (fun k hk => (Below.heap_setCell D2 ⟨G, 11, none⟩ _ k hk).trans (HT2.out k hk)) (fun hn => absurd (by decide) hn) ?_
          clear hK K f1 g1
          have HD3 : Hid (Blk (D2.setCell ⟨G, 11, none⟩ (.int .u32 (qc : Int))) G 125 (U ((((V).set 1 qa).set 6 qb).set 11 qc))) := Lib.hid (U_set HD2.out 11 qc)
          have HT3 : Hid (∀ k, k ≠ G → (D2.setCell ⟨G, 11, none⟩ (.int .u32 (qc : Int))).heap[k]? = wr.heap[k]?) := Lib.hid (fun k hk => (Below.heap_setCell D2 ⟨G, 11, none⟩ _ k hk).trans (HT2.out k hk))
          have HF3 : Hid (Fr (fun k => k = G) w1 (D2.setCell ⟨G, 11, none⟩ (.int .u32 (qc : Int)))) := Lib.hid (HF2.out.setCell (p := ⟨G, 11, none⟩) (.inl rfl) _)
          generalize (D2.setCell ⟨G, 11, none⟩ (.int .u32 (qc : Int))) = D3 at HD3 HT3 HF3 ⊢
          refine wpAnyV_take (i := 28) (oi := ⟨some 56, _, _, _, _, _⟩) (v := (.pointer (some ⟨G, 12, none⟩))) rfl (by kernel_rfl) (by kernel_rfl) (by kernel_rfl) (fun _ _ _ h => h) (Or.inl ⟨by rfl, ?_⟩) (HT3.out) ?_
          · intro w' hS; go_simp; try with_reducible rfl
          simp only [Act.put, List.setIfInBounds_toArray, List.set_cons_zero, List.set_cons_succ]
          refine wpAnyV_one (i := 29) (o := ⟨none, _, _, _, _, _⟩) rfl (by kernel_rfl) (by rfl) (fun K hK => ?_)
          have f1 : D3.frozen? ⟨G, 12, none⟩ = false := HD3.out.frozen 12
          have g1 : D3.cell? ⟨G, 12, none⟩ = some (.int .u32 ((((((V).set 1 qa).set 6 qb).set 11 qc).getD 12 0 : Nat) : Int)) := U_at HD3.out 12 (by have := HW.out.len; simp; omega)
          go_simp
          refine hK.out _ _ (fun k hk => (Below.heap_setCell D3 ⟨G, 12, none⟩ _ k hk).trans (HT3.out k hk)) (fun hn => absurd (by decide) hn) ?_
          clear hK K f1 g1
          have HD4 : Hid (Blk (D3.setCell ⟨G, 12, none⟩ (.int .u32 (qd : Int))) G 125 (U (((((V).set 1 qa).set 6 qb).set 11 qc).set 12 qd))) := Lib.hid (U_set HD3.out 12 qd)
          have HT4 : Hid (∀ k, k ≠ G → (D3.setCell ⟨G, 12, none⟩ (.int .u32 (qd : Int))).heap[k]? = wr.heap[k]?) := Lib.hid (fun k hk => (Below.heap_setCell D3 ⟨G, 12, none⟩ _ k hk).trans (HT3.out k hk))
          have HF4 : Hid (Fr (fun k => k = G) w1 (D3.setCell ⟨G, 12, none⟩ (.int .u32 (qd : Int)))) := Lib.hid (HF3.out.setCell (p := ⟨G, 12, none⟩) (.inl rfl) _)
          generalize (D3.setCell ⟨G, 12, none⟩ (.int .u32 (qd : Int))) = D4 at HD4 HT4 HF4 ⊢
          refine wpAnyV_done (by kernel_rfl) ?_ _
          go_wp2_with fail
          go_roundw
          case rel => exact ⟨2, by simp, by rw [HMT.out, HM.out]; exact HD4, HF4⟩
          case measure => simp [intOf]
        · have HW : Hid (W16 (twTo L 6)) := Lib.hid (HL.out.tw 6)
          have HS2 : Hid (twTo L (6 + 1) = qst (twTo L 6) 2 7 8 13) := Lib.hid (by rw [twTo_succ]; rfl)
          have HMT0 : Hid (∀ Z, twTo L (6 + 1) = Z → twTo L (4 * 1 + 3) = Z) := Lib.hid (fun Z h => h)
          generalize hMM : twTo L (6 + 1) = M at HS2
          have HMT : Hid (twTo L (4 * 1 + 3) = M) := Lib.hid (HMT0.out M hMM)
          clear HMT0 hMM
          have HB' : Hid (Blk wr G 125 (U (twTo L 6))) := HB
          clear HB
          have HB := HB'
          clear HB'
          generalize twTo L 6 = V at HB HW HS2
          have ca : Hid (wr.cell? ⟨G, 2, none⟩ = some (.int .u32 ((V.getD 2 0 : Nat) : Int))) := Lib.hid (U_at HB.out 2 (by rw [HW.out.len]; omega))
          have cb : Hid (wr.cell? ⟨G, 7, none⟩ = some (.int .u32 ((V.getD 7 0 : Nat) : Int))) := Lib.hid (U_at HB.out 7 (by rw [HW.out.len]; omega))
          have cc : Hid (wr.cell? ⟨G, 8, none⟩ = some (.int .u32 ((V.getD 8 0 : Nat) : Int))) := Lib.hid (U_at HB.out 8 (by rw [HW.out.len]; omega))
          have cd : Hid (wr.cell? ⟨G, 13, none⟩ = some (.int .u32 ((V.getD 13 0 : Nat) : Int))) := Lib.hid (U_at HB.out 13 (by rw [HW.out.len]; omega))
          have hq4 : (Q4.mk (V.getD 2 0) (V.getD 7 0) (V.getD 8 0) (V.getD 13 0)).ok := ⟨HW.out.lt _, HW.out.lt _, HW.out.lt _, HW.out.lt _⟩
          have HQ4 := Lib.hid hq4
          clear hq4
          obtain ⟨ya, hya⟩ : ∃ y, y = V.getD 2 0 := ⟨_, rfl⟩
          rw [← hya] at ca HQ4
          obtain ⟨yb, hyb⟩ : ∃ y, y = V.getD 7 0 := ⟨_, rfl⟩
          rw [← hyb] at cb HQ4
          obtain ⟨yc, hyc⟩ : ∃ y, y = V.getD 8 0 := ⟨_, rfl⟩
          rw [← hyc] at cc HQ4
          obtain ⟨yd, hyd⟩ : ∃ y, y = V.getD 13 0 := ⟨_, rfl⟩
          rw [← hyd] at cd HQ4
          obtain ⟨q, hq⟩ : ∃ q, q = quarter ⟨ya, yb, yc, yd⟩ := ⟨_, rfl⟩
          have HM : Hid (M = (((V.set 2 q.a).set 7 q.b).set 8 q.c).set 13 q.d) := Lib.hid (by rw [HS2.out, hq, hya, hyb, hyc, hyd]; rfl)
          have HQC : Hid (∀ W, Calls Try.prog 95 #[.int .u32 (ya : Int), .int .u32 (yb : Int), .int .u32 (yc : Int), .int .u32 (yd : Int)] W fun e w' => e = .returned (.tuple #[.int .u32 (q.a : Int), .int .u32 (q.b : Int), .int .u32 (q.c : Int), .int .u32 (q.d : Int)]) ∧ W = w') := Lib.hid (fun W => hq ▸ quarter_any ya yb yc yd W HQ4.out)
          clear hya hyb hyc hyd hq HS2 HQ4
          obtain ⟨qa, qb, qc, qd⟩ := q
          dsimp only at HM HQC
          go_wp2_with fail
          refine wp_region_late (fun w' => ∀ k, k ≠ G → w'.heap[k]? = wr.heap[k]?) (fun w' => w'.heap[G]? = wr.heap[G]?) [23, 25, 27, 29] (by kernel_rfl) ⟨fun k _ => rfl, rfl⟩ (fun hHeld => ?_)
          have HTS := Lib.hid hHeld
          clear hHeld
          have HD0 : Hid (Blk wr.drew G 125 (U V)) := Lib.hid HB.out
          have HFD : Hid (Fr (fun k => k = G) w1 wr.drew) := Lib.hid HF.out.drew
          generalize hD : wr.drew = D at HTS HD0 HFD ⊢
          clear hD
          refine wpAnyV_take (i := 0) (oi := ⟨some 32, _, _, _, _, _⟩) (v := (.int .i64 2)) rfl (by kernel_rfl) (by kernel_rfl) (by kernel_rfl) (fun _ _ _ h => h) (Or.inl ⟨by rfl, ?_⟩) (HTS.out.1) ?_
          · intro w' hS; go_simp; try with_reducible rfl
          simp only [Act.put, List.setIfInBounds_toArray, List.set_cons_zero, List.set_cons_succ]
          refine wpAnyV_take (i := 1) (oi := ⟨some 33, _, _, _, _, _⟩) (v := (.int .i64 7)) rfl (by kernel_rfl) (by kernel_rfl) (by kernel_rfl) (fun _ _ _ h => h) (Or.inl ⟨by rfl, ?_⟩) (HTS.out.1) ?_
          · intro w' hS; go_simp; try with_reducible rfl
          simp only [Act.put, List.setIfInBounds_toArray, List.set_cons_zero, List.set_cons_succ]
          refine wpAnyV_take (i := 2) (oi := ⟨some 34, _, _, _, _, _⟩) (v := (.int .i64 8)) rfl (by kernel_rfl) (by kernel_rfl) (by kernel_rfl) (fun _ _ _ h => h) (Or.inl ⟨by rfl, ?_⟩) (HTS.out.1) ?_
          · intro w' hS; go_simp; try with_reducible rfl
          simp only [Act.put, List.setIfInBounds_toArray, List.set_cons_zero, List.set_cons_succ]
          refine wpAnyV_take (i := 3) (oi := ⟨some 35, _, _, _, _, _⟩) (v := (.int .i64 13)) rfl (by kernel_rfl) (by kernel_rfl) (by kernel_rfl) (fun _ _ _ h => h) (Or.inl ⟨by rfl, ?_⟩) (HTS.out.1) ?_
          · intro w' hS; go_simp; try with_reducible rfl
          simp only [Act.put, List.setIfInBounds_toArray, List.set_cons_zero, List.set_cons_succ]
          refine wpAnyV_take (i := 4) (oi := ⟨some 36, _, _, _, _, _⟩) (v := (.int .i64 2)) rfl (by kernel_rfl) (by kernel_rfl) (by kernel_rfl) (fun _ _ _ h => h) (Or.inl ⟨by rfl, ?_⟩) (HTS.out.1) ?_
          · intro w' hS; go_simp; try with_reducible rfl
          simp only [Act.put, List.setIfInBounds_toArray, List.set_cons_zero, List.set_cons_succ]
          refine wpAnyV_take (i := 5) (oi := ⟨some 37, _, _, _, _, _⟩) (v := (.pointer (some ⟨G, 2, none⟩))) rfl (by kernel_rfl) (by kernel_rfl) (by kernel_rfl) (fun _ _ _ h => h) (Or.inl ⟨by rfl, ?_⟩) (HTS.out.1) ?_
          · intro w' hS; go_simp; try with_reducible rfl
          simp only [Act.put, List.setIfInBounds_toArray, List.set_cons_zero, List.set_cons_succ]
          refine wpAnyV_takeS (i := 6) (oi := ⟨some 38, _, _, _, _, _⟩) (v := (.int .u32 (ya : Int))) rfl (by kernel_rfl) (by kernel_rfl) (by kernel_rfl) (by kernel_rfl) (fun _ _ _ h => h) (Or.inl ⟨by rfl, ?_⟩) HTS.out ?_
          · intro w' hS; have z0 : w'.cell? ⟨G, 2, none⟩ = some (.int .u32 (ya : Int)) := (World.cell?_of_block (w := wr) (w' := w') hS.2).trans ca.out; go_simp; try with_reducible rfl
          simp only [Act.put, List.setIfInBounds_toArray, List.set_cons_zero, List.set_cons_succ]
          refine wpAnyV_take (i := 7) (oi := ⟨some 39, _, _, _, _, _⟩) (v := (.int .i64 7)) rfl (by kernel_rfl) (by kernel_rfl) (by kernel_rfl) (fun _ _ _ h => h) (Or.inl ⟨by rfl, ?_⟩) (HTS.out.1) ?_
          · intro w' hS; go_simp; try with_reducible rfl
          simp only [Act.put, List.setIfInBounds_toArray, List.set_cons_zero, List.set_cons_succ]
          refine wpAnyV_take (i := 8) (oi := ⟨some 40, _, _, _, _, _⟩) (v := (.pointer (some ⟨G, 7, none⟩))) rfl (by kernel_rfl) (by kernel_rfl) (by kernel_rfl) (fun _ _ _ h => h) (Or.inl ⟨by rfl, ?_⟩) (HTS.out.1) ?_
          · intro w' hS; go_simp; try with_reducible rfl
          simp only [Act.put, List.setIfInBounds_toArray, List.set_cons_zero, List.set_cons_succ]
          refine wpAnyV_takeS (i := 9) (oi := ⟨some 41, _, _, _, _, _⟩) (v := (.int .u32 (yb : Int))) rfl (by kernel_rfl) (by kernel_rfl) (by kernel_rfl) (by kernel_rfl) (fun _ _ _ h => h) (Or.inl ⟨by rfl, ?_⟩) HTS.out ?_
          · intro w' hS; have z0 : w'.cell? ⟨G, 7, none⟩ = some (.int .u32 (yb : Int)) := (World.cell?_of_block (w := wr) (w' := w') hS.2).trans cb.out; go_simp; try with_reducible rfl
          simp only [Act.put, List.setIfInBounds_toArray, List.set_cons_zero, List.set_cons_succ]
          refine wpAnyV_take (i := 10) (oi := ⟨some 42, _, _, _, _, _⟩) (v := (.int .i64 8)) rfl (by kernel_rfl) (by kernel_rfl) (by kernel_rfl) (fun _ _ _ h => h) (Or.inl ⟨by rfl, ?_⟩) (HTS.out.1) ?_
          · intro w' hS; go_simp; try with_reducible rfl
          simp only [Act.put, List.setIfInBounds_toArray, List.set_cons_zero, List.set_cons_succ]
          refine wpAnyV_take (i := 11) (oi := ⟨some 43, _, _, _, _, _⟩) (v := (.pointer (some ⟨G, 8, none⟩))) rfl (by kernel_rfl) (by kernel_rfl) (by kernel_rfl) (fun _ _ _ h => h) (Or.inl ⟨by rfl, ?_⟩) (HTS.out.1) ?_
          · intro w' hS; go_simp; try with_reducible rfl
          simp only [Act.put, List.setIfInBounds_toArray, List.set_cons_zero, List.set_cons_succ]
          refine wpAnyV_takeS (i := 12) (oi := ⟨some 44, _, _, _, _, _⟩) (v := (.int .u32 (yc : Int))) rfl (by kernel_rfl) (by kernel_rfl) (by kernel_rfl) (by kernel_rfl) (fun _ _ _ h => h) (Or.inl ⟨by rfl, ?_⟩) HTS.out ?_
          · intro w' hS; have z0 : w'.cell? ⟨G, 8, none⟩ = some (.int .u32 (yc : Int)) := (World.cell?_of_block (w := wr) (w' := w') hS.2).trans cc.out; go_simp; try with_reducible rfl
          simp only [Act.put, List.setIfInBounds_toArray, List.set_cons_zero, List.set_cons_succ]
          refine wpAnyV_take (i := 13) (oi := ⟨some 45, _, _, _, _, _⟩) (v := (.int .i64 13)) rfl (by kernel_rfl) (by kernel_rfl) (by kernel_rfl) (fun _ _ _ h => h) (Or.inl ⟨by rfl, ?_⟩) (HTS.out.1) ?_
          · intro w' hS; go_simp; try with_reducible rfl
          simp only [Act.put, List.setIfInBounds_toArray, List.set_cons_zero, List.set_cons_succ]
          refine wpAnyV_take (i := 14) (oi := ⟨some 46, _, _, _, _, _⟩) (v := (.pointer (some ⟨G, 13, none⟩))) rfl (by kernel_rfl) (by kernel_rfl) (by kernel_rfl) (fun _ _ _ h => h) (Or.inl ⟨by rfl, ?_⟩) (HTS.out.1) ?_
          · intro w' hS; go_simp; try with_reducible rfl
          simp only [Act.put, List.setIfInBounds_toArray, List.set_cons_zero, List.set_cons_succ]
          refine wpAnyV_takeS (i := 15) (oi := ⟨some 47, _, _, _, _, _⟩) (v := (.int .u32 (yd : Int))) rfl (by kernel_rfl) (by kernel_rfl) (by kernel_rfl) (by kernel_rfl) (fun _ _ _ h => h) (Or.inl ⟨by rfl, ?_⟩) HTS.out ?_
          · intro w' hS; have z0 : w'.cell? ⟨G, 13, none⟩ = some (.int .u32 (yd : Int)) := (World.cell?_of_block (w := wr) (w' := w') hS.2).trans cd.out; go_simp; try with_reducible rfl
          simp only [Act.put, List.setIfInBounds_toArray, List.set_cons_zero, List.set_cons_succ]
          refine wpAnyV_one (i := 16) (o := ⟨some 48, _, _, _, _, _⟩) rfl (by kernel_rfl) (by rfl) (fun K hK => ?_)
          go_simp
          refine (HQC.out D).mono ?_
          rintro e' w' ⟨rfl, hww⟩
          obtain rfl : D = w' := hww
          dsimp only
          (try simp only [Act.put, List.setIfInBounds_toArray, List.set_cons_zero, List.set_cons_succ])
          refine hK.out _ _ HTS.out.1 (fun _ h => h) ?_
          clear hK K
          refine wpAnyV_take (i := 17) (oi := ⟨some 31, _, _, _, _, _⟩) (v := (.tuple #[.int .u32 (qa : Int), .int .u32 (qb : Int), .int .u32 (qc : Int), .int .u32 (qd : Int)])) rfl (by kernel_rfl) (by kernel_rfl) (by kernel_rfl) (fun _ _ _ h => h) (Or.inl ⟨by rfl, ?_⟩) (HTS.out.1) ?_
          · intro w' hS; go_simp; try with_reducible rfl
          simp only [Act.put, List.setIfInBounds_toArray, List.set_cons_zero, List.set_cons_succ]
          refine wpAnyV_take (i := 18) (oi := ⟨some 49, _, _, _, _, _⟩) (v := (.int .u32 (qa : Int))) rfl (by kernel_rfl) (by kernel_rfl) (by kernel_rfl) (fun _ _ _ h => h) (Or.inl ⟨by rfl, ?_⟩) (HTS.out.1) ?_
          · intro w' hS; go_simp; try with_reducible rfl
          simp only [Act.put, List.setIfInBounds_toArray, List.set_cons_zero, List.set_cons_succ]
          refine wpAnyV_take (i := 19) (oi := ⟨some 50, _, _, _, _, _⟩) (v := (.int .u32 (qb : Int))) rfl (by kernel_rfl) (by kernel_rfl) (by kernel_rfl) (fun _ _ _ h => h) (Or.inl ⟨by rfl, ?_⟩) (HTS.out.1) ?_
          · intro w' hS; go_simp; try with_reducible rfl
          simp only [Act.put, List.setIfInBounds_toArray, List.set_cons_zero, List.set_cons_succ]
          refine wpAnyV_take (i := 20) (oi := ⟨some 51, _, _, _, _, _⟩) (v := (.int .u32 (qc : Int))) rfl (by kernel_rfl) (by kernel_rfl) (by kernel_rfl) (fun _ _ _ h => h) (Or.inl ⟨by rfl, ?_⟩) (HTS.out.1) ?_
          · intro w' hS; go_simp; try with_reducible rfl
          simp only [Act.put, List.setIfInBounds_toArray, List.set_cons_zero, List.set_cons_succ]
          refine wpAnyV_take (i := 21) (oi := ⟨some 52, _, _, _, _, _⟩) (v := (.int .u32 (qd : Int))) rfl (by kernel_rfl) (by kernel_rfl) (by kernel_rfl) (fun _ _ _ h => h) (Or.inl ⟨by rfl, ?_⟩) (HTS.out.1) ?_
          · intro w' hS; go_simp; try with_reducible rfl
          simp only [Act.put, List.setIfInBounds_toArray, List.set_cons_zero, List.set_cons_succ]
          refine wpAnyV_take (i := 22) (oi := ⟨some 53, _, _, _, _, _⟩) (v := (.pointer (some ⟨G, 2, none⟩))) rfl (by kernel_rfl) (by kernel_rfl) (by kernel_rfl) (fun _ _ _ h => h) (Or.inl ⟨by rfl, ?_⟩) (HTS.out.1) ?_
          · intro w' hS; go_simp; try with_reducible rfl
          simp only [Act.put, List.setIfInBounds_toArray, List.set_cons_zero, List.set_cons_succ]
          refine wpAnyV_one (i := 23) (o := ⟨none, _, _, _, _, _⟩) rfl (by kernel_rfl) (by rfl) (fun K hK => ?_)
          have f1 : D.frozen? ⟨G, 2, none⟩ = false := HD0.out.frozen 2
          have g1 : D.cell? ⟨G, 2, none⟩ = some (.int .u32 (((V).getD 2 0 : Nat) : Int)) := U_at HD0.out 2 (by have := HW.out.len; simp; omega)
          go_simp
          refine hK.out _ _ (fun k hk => (Below.heap_setCell D ⟨G, 2, none⟩ _ k hk).trans (HTS.out.1 k hk)) (fun hn => absurd (by decide) hn) ?_
          clear hK K f1 g1
          have HD1 : Hid (Blk (D.setCell ⟨G, 2, none⟩ (.int .u32 (qa : Int))) G 125 (U ((V).set 2 qa))) := Lib.hid (U_set HD0.out 2 qa)
          have HT1 : Hid (∀ k, k ≠ G → (D.setCell ⟨G, 2, none⟩ (.int .u32 (qa : Int))).heap[k]? = wr.heap[k]?) := Lib.hid (fun k hk => (Below.heap_setCell D ⟨G, 2, none⟩ _ k hk).trans (HTS.out.1 k hk))
          have HF1 : Hid (Fr (fun k => k = G) w1 (D.setCell ⟨G, 2, none⟩ (.int .u32 (qa : Int)))) := Lib.hid (HFD.out.setCell (p := ⟨G, 2, none⟩) (.inl rfl) _)
          generalize (D.setCell ⟨G, 2, none⟩ (.int .u32 (qa : Int))) = D1 at HD1 HT1 HF1 ⊢
          refine wpAnyV_take (i := 24) (oi := ⟨some 54, _, _, _, _, _⟩) (v := (.pointer (some ⟨G, 7, none⟩))) rfl (by kernel_rfl) (by kernel_rfl) (by kernel_rfl) (fun _ _ _ h => h) (Or.inl ⟨by rfl, ?_⟩) (HT1.out) ?_
          · intro w' hS; go_simp; try with_reducible rfl
          simp only [Act.put, List.setIfInBounds_toArray, List.set_cons_zero, List.set_cons_succ]
          refine wpAnyV_one (i := 25) (o := ⟨none, _, _, _, _, _⟩) rfl (by kernel_rfl) (by rfl) (fun K hK => ?_)
          have f1 : D1.frozen? ⟨G, 7, none⟩ = false := HD1.out.frozen 7
          have g1 : D1.cell? ⟨G, 7, none⟩ = some (.int .u32 ((((V).set 2 qa).getD 7 0 : Nat) : Int)) := U_at HD1.out 7 (by have := HW.out.len; simp; omega)
          go_simp
          refine hK.out _ _ (fun k hk => (Below.heap_setCell D1 ⟨G, 7, none⟩ _ k hk).trans (HT1.out k hk)) (fun hn => absurd (by decide) hn) ?_
          clear hK K f1 g1
          have HD2 : Hid (Blk (D1.setCell ⟨G, 7, none⟩ (.int .u32 (qb : Int))) G 125 (U (((V).set 2 qa).set 7 qb))) := Lib.hid (U_set HD1.out 7 qb)
          have HT2 : Hid (∀ k, k ≠ G → (D1.setCell ⟨G, 7, none⟩ (.int .u32 (qb : Int))).heap[k]? = wr.heap[k]?) := Lib.hid (fun k hk => (Below.heap_setCell D1 ⟨G, 7, none⟩ _ k hk).trans (HT1.out k hk))
          have HF2 : Hid (Fr (fun k => k = G) w1 (D1.setCell ⟨G, 7, none⟩ (.int .u32 (qb : Int)))) := Lib.hid (HF1.out.setCell (p := ⟨G, 7, none⟩) (.inl rfl) _)
          generalize (D1.setCell ⟨G, 7, none⟩ (.int .u32 (qb : Int))) = D2 at HD2 HT2 HF2 ⊢
          refine wpAnyV_take (i := 26) (oi := ⟨some 55, _, _, _, _, _⟩) (v := (.pointer (some ⟨G, 8, none⟩))) rfl (by kernel_rfl) (by kernel_rfl) (by kernel_rfl) (fun _ _ _ h => h) (Or.inl ⟨by rfl, ?_⟩) (HT2.out) ?_
          · intro w' hS; go_simp; try with_reducible rfl
          simp only [Act.put, List.setIfInBounds_toArray, List.set_cons_zero, List.set_cons_succ]
          refine wpAnyV_one (i := 27) (o := ⟨none, _, _, _, _, _⟩) rfl (by kernel_rfl) (by rfl) (fun K hK => ?_)
          have f1 : D2.frozen? ⟨G, 8, none⟩ = false := HD2.out.frozen 8
          have g1 : D2.cell? ⟨G, 8, none⟩ = some (.int .u32 (((((V).set 2 qa).set 7 qb).getD 8 0 : Nat) : Int)) := U_at HD2.out 8 (by have := HW.out.len; simp; omega)
          go_simp
          refine hK.out _ _ (fun k hk => (Below.heap_setCell D2 ⟨G, 8, none⟩ _ k hk).trans (HT2.out k hk)) (fun hn => absurd (by decide) hn) ?_
          clear hK K f1 g1
          have HD3 : Hid (Blk (D2.setCell ⟨G, 8, none⟩ (.int .u32 (qc : Int))) G 125 (U ((((V).set 2 qa).set 7 qb).set 8 qc))) := Lib.hid (U_set HD2.out 8 qc)
          have HT3 : Hid (∀ k, k ≠ G → (D2.setCell ⟨G, 8, none⟩ (.int .u32 (qc : Int))).heap[k]? = wr.heap[k]?) := Lib.hid (fun k hk => (Below.heap_setCell D2 ⟨G, 8, none⟩ _ k hk).trans (HT2.out k hk))
          have HF3 : Hid (Fr (fun k => k = G) w1 (D2.setCell ⟨G, 8, none⟩ (.int .u32 (qc : Int)))) := Lib.hid (HF2.out.setCell (p := ⟨G, 8, none⟩) (.inl rfl) _)
          generalize (D2.setCell ⟨G, 8, none⟩ (.int .u32 (qc : Int))) = D3 at HD3 HT3 HF3 ⊢
          refine wpAnyV_take (i := 28) (oi := ⟨some 56, _, _, _, _, _⟩) (v := (.pointer (some ⟨G, 13, none⟩))) rfl (by kernel_rfl) (by kernel_rfl) (by kernel_rfl) (fun _ _ _ h => h) (Or.inl ⟨by rfl, ?_⟩) (HT3.out) ?_
          · intro w' hS; go_simp; try with_reducible rfl
          simp only [Act.put, List.setIfInBounds_toArray, List.set_cons_zero, List.set_cons_succ]
          refine wpAnyV_one (i := 29) (o := ⟨none, _, _, _, _, _⟩) rfl (by kernel_rfl) (by rfl) (fun K hK => ?_)
          have f1 : D3.frozen? ⟨G, 13, none⟩ = false := HD3.out.frozen 13
          have g1 : D3.cell? ⟨G, 13, none⟩ = some (.int .u32 ((((((V).set 2 qa).set 7 qb).set 8 qc).getD 13 0 : Nat) : Int)) := U_at HD3.out 13 (by have := HW.out.len; simp; omega)
          go_simp
          refine hK.out _ _ (fun k hk => (Below.heap_setCell D3 ⟨G, 13, none⟩ _ k hk).trans (HT3.out k hk)) (fun hn => absurd (by decide) hn) ?_
          clear hK K f1 g1
          have HD4 : Hid (Blk (D3.setCell ⟨G, 13, none⟩ (.int .u32 (qd : Int))) G 125 (U (((((V).set 2 qa).set 7 qb).set 8 qc).set 13 qd))) := Lib.hid (U_set HD3.out 13 qd)
          have HT4 : Hid (∀ k, k ≠ G → (D3.setCell ⟨G, 13, none⟩ (.int .u32 (qd : Int))).heap[k]? = wr.heap[k]?) := Lib.hid (fun k hk => (Below.heap_setCell D3 ⟨G, 13, none⟩ _ k hk).trans (HT3.out k hk))
          have HF4 : Hid (Fr (fun k => k = G) w1 (D3.setCell ⟨G, 13, none⟩ (.int .u32 (qd : Int)))) := Lib.hid (HF3.out.setCell (p := ⟨G, 13, none⟩) (.inl rfl) _)
          generalize (D3.setCell ⟨G, 13, none⟩ (.int .u32 (qd : Int))) = D4 at HD4 HT4 HF4 ⊢
          refine wpAnyV_done (by kernel_rfl) ?_ _
          go_wp2_with fail
          go_roundw
          case rel => exact ⟨3, by simp, by rw [HMT.out, HM.out]; exact HD4, HF4⟩
          case measure => simp [intOf]
        · have HW : Hid (W16 (twTo L 7)) := Lib.hid (HL.out.tw 7)
          have HS2 : Hid (twTo L (7 + 1) = qst (twTo L 7) 3 4 9 14) := Lib.hid (by rw [twTo_succ]; rfl)
          have HMT0 : Hid (∀ Z, twTo L (7 + 1) = Z → twTo L (4 * 1 + 4) = Z) := Lib.hid (fun Z h => h)
          generalize hMM : twTo L (7 + 1) = M at HS2
          have HMT : Hid (twTo L (4 * 1 + 4) = M) := Lib.hid (HMT0.out M hMM)
          clear HMT0 hMM
          have HB' : Hid (Blk wr G 125 (U (twTo L 7))) := HB
          clear HB
          have HB := HB'
          clear HB'
          generalize twTo L 7 = V at HB HW HS2
          have ca : Hid (wr.cell? ⟨G, 3, none⟩ = some (.int .u32 ((V.getD 3 0 : Nat) : Int))) := Lib.hid (U_at HB.out 3 (by rw [HW.out.len]; omega))
          have cb : Hid (wr.cell? ⟨G, 4, none⟩ = some (.int .u32 ((V.getD 4 0 : Nat) : Int))) := Lib.hid (U_at HB.out 4 (by rw [HW.out.len]; omega))
          have cc : Hid (wr.cell? ⟨G, 9, none⟩ = some (.int .u32 ((V.getD 9 0 : Nat) : Int))) := Lib.hid (U_at HB.out 9 (by rw [HW.out.len]; omega))
          have cd : Hid (wr.cell? ⟨G, 14, none⟩ = some (.int .u32 ((V.getD 14 0 : Nat) : Int))) := Lib.hid (U_at HB.out 14 (by rw [HW.out.len]; omega))
          have hq4 : (Q4.mk (V.getD 3 0) (V.getD 4 0) (V.getD 9 0) (V.getD 14 0)).ok := ⟨HW.out.lt _, HW.out.lt _, HW.out.lt _, HW.out.lt _⟩
          have HQ4 := Lib.hid hq4
          clear hq4
          obtain ⟨ya, hya⟩ : ∃ y, y = V.getD 3 0 := ⟨_, rfl⟩
          rw [← hya] at ca HQ4
          obtain ⟨yb, hyb⟩ : ∃ y, y = V.getD 4 0 := ⟨_, rfl⟩
          rw [← hyb] at cb HQ4
          obtain ⟨yc, hyc⟩ : ∃ y, y = V.getD 9 0 := ⟨_, rfl⟩
          rw [← hyc] at cc HQ4
          obtain ⟨yd, hyd⟩ : ∃ y, y = V.getD 14 0 := ⟨_, rfl⟩
          rw [← hyd] at cd HQ4
          obtain ⟨q, hq⟩ : ∃ q, q = quarter ⟨ya, yb, yc, yd⟩ := ⟨_, rfl⟩
          have HM : Hid (M = (((V.set 3 q.a).set 4 q.b).set 9 q.c).set 14 q.d) := Lib.hid (by rw [HS2.out, hq, hya, hyb, hyc, hyd]; rfl)
          have HQC : Hid (∀ W, Calls Try.prog 95 #[.int .u32 (ya : Int), .int .u32 (yb : Int), .int .u32 (yc : Int), .int .u32 (yd : Int)] W fun e w' => e = .returned (.tuple #[.int .u32 (q.a : Int), .int .u32 (q.b : Int), .int .u32 (q.c : Int), .int .u32 (q.d : Int)]) ∧ W = w') := Lib.hid (fun W => hq ▸ quarter_any ya yb yc yd W HQ4.out)
          clear hya hyb hyc hyd hq HS2 HQ4
          obtain ⟨qa, qb, qc, qd⟩ := q
          dsimp only at HM HQC
          go_wp2_with fail
          refine wp_region_late (fun w' => ∀ k, k ≠ G → w'.heap[k]? = wr.heap[k]?) (fun w' => w'.heap[G]? = wr.heap[G]?) [23, 25, 27, 29] (by kernel_rfl) ⟨fun k _ => rfl, rfl⟩ (fun hHeld => ?_)
          have HTS := Lib.hid hHeld
          clear hHeld
          have HD0 : Hid (Blk wr.drew G 125 (U V)) := Lib.hid HB.out
          have HFD : Hid (Fr (fun k => k = G) w1 wr.drew) := Lib.hid HF.out.drew
          generalize hD : wr.drew = D at HTS HD0 HFD ⊢
          clear hD
          refine wpAnyV_take (i := 0) (oi := ⟨some 32, _, _, _, _, _⟩) (v := (.int .i64 3)) rfl (by kernel_rfl) (by kernel_rfl) (by kernel_rfl) (fun _ _ _ h => h) (Or.inl ⟨by rfl, ?_⟩) (HTS.out.1) ?_
          · intro w' hS; go_simp; try with_reducible rfl
          simp only [Act.put, List.setIfInBounds_toArray, List.set_cons_zero, List.set_cons_succ]
          refine wpAnyV_take (i := 1) (oi := ⟨some 33, _, _, _, _, _⟩) (v := (.int .i64 4)) rfl (by kernel_rfl) (by kernel_rfl) (by kernel_rfl) (fun _ _ _ h => h) (Or.inl ⟨by rfl, ?_⟩) (HTS.out.1) ?_
          · intro w' hS; go_simp; try with_reducible rfl
          simp only [Act.put, List.setIfInBounds_toArray, List.set_cons_zero, List.set_cons_succ]
          refine wpAnyV_take (i := 2) (oi := ⟨some 34, _, _, _, _, _⟩) (v := (.int .i64 9)) rfl (by kernel_rfl) (by kernel_rfl) (by kernel_rfl) (fun _ _ _ h => h) (Or.inl ⟨by rfl, ?_⟩) (HTS.out.1) ?_
          · intro w' hS; go_simp; try with_reducible rfl
          simp only [Act.put, List.setIfInBounds_toArray, List.set_cons_zero, List.set_cons_succ]
          refine wpAnyV_take (i := 3) (oi := ⟨some 35, _, _, _, _, _⟩) (v := (.int .i64 14)) rfl (by kernel_rfl) (by kernel_rfl) (by kernel_rfl) (fun _ _ _ h => h) (Or.inl ⟨by rfl, ?_⟩) (HTS.out.1) ?_
          · intro w' hS; go_simp; try with_reducible rfl
          simp only [Act.put, List.setIfInBounds_toArray, List.set_cons_zero, List.set_cons_succ]
          refine wpAnyV_take (i := 4) (oi := ⟨some 36, _, _, _, _, _⟩) (v := (.int .i64 3)) rfl (by kernel_rfl) (by kernel_rfl) (by kernel_rfl) (fun _ _ _ h => h) (Or.inl ⟨by rfl, ?_⟩) (HTS.out.1) ?_
          · intro w' hS; go_simp; try with_reducible rfl
          simp only [Act.put, List.setIfInBounds_toArray, List.set_cons_zero, List.set_cons_succ]
          refine wpAnyV_take (i := 5) (oi := ⟨some 37, _, _, _, _, _⟩) (v := (.pointer (some ⟨G, 3, none⟩))) rfl (by kernel_rfl) (by kernel_rfl) (by kernel_rfl) (fun _ _ _ h => h) (Or.inl ⟨by rfl, ?_⟩) (HTS.out.1) ?_
          · intro w' hS; go_simp; try with_reducible rfl
          simp only [Act.put, List.setIfInBounds_toArray, List.set_cons_zero, List.set_cons_succ]
          refine wpAnyV_takeS (i := 6) (oi := ⟨some 38, _, _, _, _, _⟩) (v := (.int .u32 (ya : Int))) rfl (by kernel_rfl) (by kernel_rfl) (by kernel_rfl) (by kernel_rfl) (fun _ _ _ h => h) (Or.inl ⟨by rfl, ?_⟩) HTS.out ?_
          · intro w' hS; have z0 : w'.cell? ⟨G, 3, none⟩ = some (.int .u32 (ya : Int)) := (World.cell?_of_block (w := wr) (w' := w') hS.2).trans ca.out; go_simp; try with_reducible rfl
          simp only [Act.put, List.setIfInBounds_toArray, List.set_cons_zero, List.set_cons_succ]
          refine wpAnyV_take (i := 7) (oi := ⟨some 39, _, _, _, _, _⟩) (v := (.int .i64 4)) rfl (by kernel_rfl) (by kernel_rfl) (by kernel_rfl) (fun _ _ _ h => h) (Or.inl ⟨by rfl, ?_⟩) (HTS.out.1) ?_
          · intro w' hS; go_simp; try with_reducible rfl
          simp only [Act.put, List.setIfInBounds_toArray, List.set_cons_zero, List.set_cons_succ]
          refine wpAnyV_take (i := 8) (oi := ⟨some 40, _, _, _, _, _⟩) (v := (.pointer (some ⟨G, 4, none⟩))) rfl (by kernel_rfl) (by kernel_rfl) (by kernel_rfl) (fun _ _ _ h => h) (Or.inl ⟨by rfl, ?_⟩) (HTS.out.1) ?_
          · intro w' hS; go_simp; try with_reducible rfl
          simp only [Act.put, List.setIfInBounds_toArray, List.set_cons_zero, List.set_cons_succ]
          refine wpAnyV_takeS (i := 9) (oi := ⟨some 41, _, _, _, _, _⟩) (v := (.int .u32 (yb : Int))) rfl (by kernel_rfl) (by kernel_rfl) (by kernel_rfl) (by kernel_rfl) (fun _ _ _ h => h) (Or.inl ⟨by rfl, ?_⟩) HTS.out ?_
          · intro w' hS; have z0 : w'.cell? ⟨G, 4, none⟩ = some (.int .u32 (yb : Int)) := (World.cell?_of_block (w := wr) (w' := w') hS.2).trans cb.out; go_simp; try with_reducible rfl
          simp only [Act.put, List.setIfInBounds_toArray, List.set_cons_zero, List.set_cons_succ]
          refine wpAnyV_take (i := 10) (oi := ⟨some 42, _, _, _, _, _⟩) (v := (.int .i64 9)) rfl (by kernel_rfl) (by kernel_rfl) (by kernel_rfl) (fun _ _ _ h => h) (Or.inl ⟨by rfl, ?_⟩) (HTS.out.1) ?_
          · intro w' hS; go_simp; try with_reducible rfl
          simp only [Act.put, List.setIfInBounds_toArray, List.set_cons_zero, List.set_cons_succ]
          refine wpAnyV_take (i := 11) (oi := ⟨some 43, _, _, _, _, _⟩) (v := (.pointer (some ⟨G, 9, none⟩))) rfl (by kernel_rfl) (by kernel_rfl) (by kernel_rfl) (fun _ _ _ h => h) (Or.inl ⟨by rfl, ?_⟩) (HTS.out.1) ?_
          · intro w' hS; go_simp; try with_reducible rfl
          simp only [Act.put, List.setIfInBounds_toArray, List.set_cons_zero, List.set_cons_succ]
          refine wpAnyV_takeS (i := 12) (oi := ⟨some 44, _, _, _, _, _⟩) (v := (.int .u32 (yc : Int))) rfl (by kernel_rfl) (by kernel_rfl) (by kernel_rfl) (by kernel_rfl) (fun _ _ _ h => h) (Or.inl ⟨by rfl, ?_⟩) HTS.out ?_
          · intro w' hS; have z0 : w'.cell? ⟨G, 9, none⟩ = some (.int .u32 (yc : Int)) := (World.cell?_of_block (w := wr) (w' := w') hS.2).trans cc.out; go_simp; try with_reducible rfl
          simp only [Act.put, List.setIfInBounds_toArray, List.set_cons_zero, List.set_cons_succ]
          refine wpAnyV_take (i := 13) (oi := ⟨some 45, _, _, _, _, _⟩) (v := (.int .i64 14)) rfl (by kernel_rfl) (by kernel_rfl) (by kernel_rfl) (fun _ _ _ h => h) (Or.inl ⟨by rfl, ?_⟩) (HTS.out.1) ?_
          · intro w' hS; go_simp; try with_reducible rfl
          simp only [Act.put, List.setIfInBounds_toArray, List.set_cons_zero, List.set_cons_succ]
          refine wpAnyV_take (i := 14) (oi := ⟨some 46, _, _, _, _, _⟩) (v := (.pointer (some ⟨G, 14, none⟩))) rfl (by kernel_rfl) (by kernel_rfl) (by kernel_rfl) (fun _ _ _ h => h) (Or.inl ⟨by rfl, ?_⟩) (HTS.out.1) ?_
          · intro w' hS; go_simp; try with_reducible rfl
          simp only [Act.put, List.setIfInBounds_toArray, List.set_cons_zero, List.set_cons_succ]
          refine wpAnyV_takeS (i := 15) (oi := ⟨some 47, _, _, _, _, _⟩) (v := (.int .u32 (yd : Int))) rfl (by kernel_rfl) (by kernel_rfl) (by kernel_rfl) (by kernel_rfl) (fun _ _ _ h => h) (Or.inl ⟨by rfl, ?_⟩) HTS.out ?_
          · intro w' hS; have z0 : w'.cell? ⟨G, 14, none⟩ = some (.int .u32 (yd : Int)) := (World.cell?_of_block (w := wr) (w' := w') hS.2).trans cd.out; go_simp; try with_reducible rfl
          simp only [Act.put, List.setIfInBounds_toArray, List.set_cons_zero, List.set_cons_succ]
          refine wpAnyV_one (i := 16) (o := ⟨some 48, _, _, _, _, _⟩) rfl (by kernel_rfl) (by rfl) (fun K hK => ?_)
          go_simp
          refine (HQC.out D).mono ?_
          rintro e' w' ⟨rfl, hww⟩
          obtain rfl : D = w' := hww
          dsimp only
          (try simp only [Act.put, List.setIfInBounds_toArray, List.set_cons_zero, List.set_cons_succ])
          refine hK.out _ _ HTS.out.1 (fun _ h => h) ?_
          clear hK K
          refine wpAnyV_take (i := 17) (oi := ⟨some 31, _, _, _, _, _⟩) (v := (.tuple #[.int .u32 (qa : Int), .int .u32 (qb : Int), .int .u32 (qc : Int), .int .u32 (qd : Int)])) rfl (by kernel_rfl) (by kernel_rfl) (by kernel_rfl) (fun _ _ _ h => h) (Or.inl ⟨by rfl, ?_⟩) (HTS.out.1) ?_
          · intro w' hS; go_simp; try with_reducible rfl
          simp only [Act.put, List.setIfInBounds_toArray, List.set_cons_zero, List.set_cons_succ]
          refine wpAnyV_take (i := 18) (oi := ⟨some 49, _, _, _, _, _⟩) (v := (.int .u32 (qa : Int))) rfl (by kernel_rfl) (by kernel_rfl) (by kernel_rfl) (fun _ _ _ h => h) (Or.inl ⟨by rfl, ?_⟩) (HTS.out.1) ?_
          · intro w' hS; go_simp; try with_reducible rfl
          simp only [Act.put, List.setIfInBounds_toArray, List.set_cons_zero, List.set_cons_succ]
          refine wpAnyV_take (i := 19) (oi := ⟨some 50, _, _, _, _, _⟩) (v := (.int .u32 (qb : Int))) rfl (by kernel_rfl) (by kernel_rfl) (by kernel_rfl) (fun _ _ _ h => h) (Or.inl ⟨by rfl, ?_⟩) (HTS.out.1) ?_
          · intro w' hS; go_simp; try with_reducible rfl
          simp only [Act.put, List.setIfInBounds_toArray, List.set_cons_zero, List.set_cons_succ]
          refine wpAnyV_take (i := 20) (oi := ⟨some 51, _, _, _, _, _⟩) (v := (.int .u32 (qc : Int))) rfl (by kernel_rfl) (by kernel_rfl) (by kernel_rfl) (fun _ _ _ h => h) (Or.inl ⟨by rfl, ?_⟩) (HTS.out.1) ?_
          · intro w' hS; go_simp; try with_reducible rfl
          simp only [Act.put, List.setIfInBounds_toArray, List.set_cons_zero, List.set_cons_succ]
          refine wpAnyV_take (i := 21) (oi := ⟨some 52, _, _, _, _, _⟩) (v := (.int .u32 (qd : Int))) rfl (by kernel_rfl) (by kernel_rfl) (by kernel_rfl) (fun _ _ _ h => h) (Or.inl ⟨by rfl, ?_⟩) (HTS.out.1) ?_
          · intro w' hS; go_simp; try with_reducible rfl
          simp only [Act.put, List.setIfInBounds_toArray, List.set_cons_zero, List.set_cons_succ]
          refine wpAnyV_take (i := 22) (oi := ⟨some 53, _, _, _, _, _⟩) (v := (.pointer (some ⟨G, 3, none⟩))) rfl (by kernel_rfl) (by kernel_rfl) (by kernel_rfl) (fun _ _ _ h => h) (Or.inl ⟨by rfl, ?_⟩) (HTS.out.1) ?_
          · intro w' hS; go_simp; try with_reducible rfl
          simp only [Act.put, List.setIfInBounds_toArray, List.set_cons_zero, List.set_cons_succ]
          refine wpAnyV_one (i := 23) (o := ⟨none, _, _, _, _, _⟩) rfl (by kernel_rfl) (by rfl) (fun K hK => ?_)
          have f1 : D.frozen? ⟨G, 3, none⟩ = false := HD0.out.frozen 3
          have g1 : D.cell? ⟨G, 3, none⟩ = some (.int .u32 (((V).getD 3 0 : Nat) : Int)) := U_at HD0.out 3 (by have := HW.out.len; simp; omega)
          go_simp
          refine hK.out _ _ (fun k hk => (Below.heap_setCell D ⟨G, 3, none⟩ _ k hk).trans (HTS.out.1 k hk)) (fun hn => absurd (by decide) hn) ?_
          clear hK K f1 g1
          have HD1 : Hid (Blk (D.setCell ⟨G, 3, none⟩ (.int .u32 (qa : Int))) G 125 (U ((V).set 3 qa))) := Lib.hid (U_set HD0.out 3 qa)
          have HT1 : Hid (∀ k, k ≠ G → (D.setCell ⟨G, 3, none⟩ (.int .u32 (qa : Int))).heap[k]? = wr.heap[k]?) := Lib.hid (fun k hk => (Below.heap_setCell D ⟨G, 3, none⟩ _ k hk).trans (HTS.out.1 k hk))
          have HF1 : Hid (Fr (fun k => k = G) w1 (D.setCell ⟨G, 3, none⟩ (.int .u32 (qa : Int)))) := Lib.hid (HFD.out.setCell (p := ⟨G, 3, none⟩) (.inl rfl) _)
          generalize (D.setCell ⟨G, 3, none⟩ (.int .u32 (qa : Int))) = D1 at HD1 HT1 HF1 ⊢
          refine wpAnyV_take (i := 24) (oi := ⟨some 54, _, _, _, _, _⟩) (v := (.pointer (some ⟨G, 4, none⟩))) rfl (by kernel_rfl) (by kernel_rfl) (by kernel_rfl) (fun _ _ _ h => h) (Or.inl ⟨by rfl, ?_⟩) (HT1.out) ?_
          · intro w' hS; go_simp; try with_reducible rfl
          simp only [Act.put, List.setIfInBounds_toArray, List.set_cons_zero, List.set_cons_succ]
          refine wpAnyV_one (i := 25) (o := ⟨none, _, _, _, _, _⟩) rfl (by kernel_rfl) (by rfl) (fun K hK => ?_)
          have f1 : D1.frozen? ⟨G, 4, none⟩ = false := HD1.out.frozen 4
          have g1 : D1.cell? ⟨G, 4, none⟩ = some (.int .u32 ((((V).set 3 qa).getD 4 0 : Nat) : Int)) := U_at HD1.out 4 (by have := HW.out.len; simp; omega)
          go_simp
          refine hK.out _ _ (fun k hk => (Below.heap_setCell D1 ⟨G, 4, none⟩ _ k hk).trans (HT1.out k hk)) (fun hn => absurd (by decide) hn) ?_
          clear hK K f1 g1
          have HD2 : Hid (Blk (D1.setCell ⟨G, 4, none⟩ (.int .u32 (qb : Int))) G 125 (U (((V).set 3 qa).set 4 qb))) := Lib.hid (U_set HD1.out 4 qb)
          have HT2 : Hid (∀ k, k ≠ G → (D1.setCell ⟨G, 4, none⟩ (.int .u32 (qb : Int))).heap[k]? = wr.heap[k]?) := Lib.hid (fun k hk => (Below.heap_setCell D1 ⟨G, 4, none⟩ _ k hk).trans (HT1.out k hk))
          have HF2 : Hid (Fr (fun k => k = G) w1 (D1.setCell ⟨G, 4, none⟩ (.int .u32 (qb : Int)))) := Lib.hid (HF1.out.setCell (p := ⟨G, 4, none⟩) (.inl rfl) _)
          generalize (D1.setCell ⟨G, 4, none⟩ (.int .u32 (qb : Int))) = D2 at HD2 HT2 HF2 ⊢
          refine wpAnyV_take (i := 26) (oi := ⟨some 55, _, _, _, _, _⟩) (v := (.pointer (some ⟨G, 9, none⟩))) rfl (by kernel_rfl) (by kernel_rfl) (by kernel_rfl) (fun _ _ _ h => h) (Or.inl ⟨by rfl, ?_⟩) (HT2.out) ?_
          · intro w' hS; go_simp; try with_reducible rfl
          simp only [Act.put, List.setIfInBounds_toArray, List.set_cons_zero, List.set_cons_succ]
          refine wpAnyV_one (i := 27) (o := ⟨none, _, _, _, _, _⟩) rfl (by kernel_rfl) (by rfl) (fun K hK => ?_)
          have f1 : D2.frozen? ⟨G, 9, none⟩ = false := HD2.out.frozen 9
          have g1 : D2.cell? ⟨G, 9, none⟩ = some (.int .u32 (((((V).set 3 qa).set 4 qb).getD 9 0 : Nat) : Int)) := U_at HD2.out 9 (by have := HW.out.len; simp; omega)
          go_simp
          refine hK.out _ _ (fun k hk => (Below.heap_setCell D2 ⟨G, 9, none⟩ _ k hk).trans (HT2.out k hk)) (fun hn => absurd (by decide) hn) ?_
          clear hK K f1 g1
          have HD3 : Hid (Blk (D2.setCell ⟨G, 9, none⟩ (.int .u32 (qc : Int))) G 125 (U ((((V).set 3 qa).set 4 qb).set 9 qc))) := Lib.hid (U_set HD2.out 9 qc)
          have HT3 : Hid (∀ k, k ≠ G → (D2.setCell ⟨G, 9, none⟩ (.int .u32 (qc : Int))).heap[k]? = wr.heap[k]?) := Lib.hid (fun k hk => (Below.heap_setCell D2 ⟨G, 9, none⟩ _ k hk).trans (HT2.out k hk))
          have HF3 : Hid (Fr (fun k => k = G) w1 (D2.setCell ⟨G, 9, none⟩ (.int .u32 (qc : Int)))) := Lib.hid (HF2.out.setCell (p := ⟨G, 9, none⟩) (.inl rfl) _)
          generalize (D2.setCell ⟨G, 9, none⟩ (.int .u32 (qc : Int))) = D3 at HD3 HT3 HF3 ⊢
          refine wpAnyV_take (i := 28) (oi := ⟨some 56, _, _, _, _, _⟩) (v := (.pointer (some ⟨G, 14, none⟩))) rfl (by kernel_rfl) (by kernel_rfl) (by kernel_rfl) (fun _ _ _ h => h) (Or.inl ⟨by rfl, ?_⟩) (HT3.out) ?_
          · intro w' hS; go_simp; try with_reducible rfl
          simp only [Act.put, List.setIfInBounds_toArray, List.set_cons_zero, List.set_cons_succ]
          refine wpAnyV_one (i := 29) (o := ⟨none, _, _, _, _, _⟩) rfl (by kernel_rfl) (by rfl) (fun K hK => ?_)
          have f1 : D3.frozen? ⟨G, 14, none⟩ = false := HD3.out.frozen 14
          have g1 : D3.cell? ⟨G, 14, none⟩ = some (.int .u32 ((((((V).set 3 qa).set 4 qb).set 9 qc).getD 14 0 : Nat) : Int)) := U_at HD3.out 14 (by have := HW.out.len; simp; omega)
          go_simp
          refine hK.out _ _ (fun k hk => (Below.heap_setCell D3 ⟨G, 14, none⟩ _ k hk).trans (HT3.out k hk)) (fun hn => absurd (by decide) hn) ?_
          clear hK K f1 g1
          have HD4 : Hid (Blk (D3.setCell ⟨G, 14, none⟩ (.int .u32 (qd : Int))) G 125 (U (((((V).set 3 qa).set 4 qb).set 9 qc).set 14 qd))) := Lib.hid (U_set HD3.out 14 qd)
          have HT4 : Hid (∀ k, k ≠ G → (D3.setCell ⟨G, 14, none⟩ (.int .u32 (qd : Int))).heap[k]? = wr.heap[k]?) := Lib.hid (fun k hk => (Below.heap_setCell D3 ⟨G, 14, none⟩ _ k hk).trans (HT3.out k hk))
          have HF4 : Hid (Fr (fun k => k = G) w1 (D3.setCell ⟨G, 14, none⟩ (.int .u32 (qd : Int)))) := Lib.hid (HF3.out.setCell (p := ⟨G, 14, none⟩) (.inl rfl) _)
          generalize (D3.setCell ⟨G, 14, none⟩ (.int .u32 (qd : Int))) = D4 at HD4 HT4 HF4 ⊢
          refine wpAnyV_done (by kernel_rfl) ?_ _
          go_wp2_with fail
          go_roundw
          case rel => exact ⟨4, by simp, by rw [HMT.out, HM.out]; exact HD4, HF4⟩
          case measure => simp [intOf]
        · go_wp2_with fail
          go_roundw
          case rel => exact ⟨2, by simp, HB, HF⟩
          case measure => simp [intOf]
    · have H8 : Hid (W16 (tw8 L)) := Lib.hid (by rw [tw8_eq]; exact HL.out.tw 8)
      have HB8 : Hid (Blk wr G 125 (U (tw8 L))) := Lib.hid (by rw [tw8_eq]; exact HB.out)
      have BF : Hid (wr.heap[G]? = some (.cells (A16 (tw8 L)) 125 (0, 0))) := Lib.hid (blk_A16 HB8.out)
      have RF : Hid (Blk wr (G + 1) 125 [.int .u32 0, .int .u32 0, .int .u32 0, .int .u32 0, .int .u32 0, .int .u32 0, .int .u32 0, .int .u32 0, .int .u32 0, .int .u32 0, .int .u32 0, .int .u32 0, .int .u32 0, .int .u32 0, .int .u32 0, .int .u32 0]) := Lib.hid (R1.out.fr HF.out (by omega))
      have FF : Hid (Below w.heap.size w wr) := Lib.hid (F1.out.trans (HF.out.below (B := w.heap.size) F1.out.size (fun k hk => by rw [hk, HGE.out]; exact Nat.le_refl _)))
      clear HB HB8 HF R1 F1 HL
      have hsz : (Try.prog.info? 125).map (·.size) = some (A16 (tw8 L)).size := by rw [info77, A16_size, H8.out.len]
      have HSZ := Lib.hid hsz
      clear hsz
      go_wp2_with (first
        | (show wpList _ _ _ ({ dst := some 59, op := _, type := _, pos := _, after := _, guard := _ } :: _) _ _; refine wpList_load_row rfl 125 _ rfl G rfl 125 (A16 (tw8 L)) (0, 0) _ BF.out Try.underlying125 rfl HSZ.out ?_)
        | (show wpList _ _ _ ({ dst := none, op := _, type := _, pos := _, after := _, guard := _ } :: _) _ _; refine wpList_store_row rfl 125 _ _ rfl (G + 1) (A16 (tw8 L)) rfl rfl 125 _ RF.out HSZ.out (by rw [A16_size, H8.out.len]; rfl) (A16_one (tw8 L)) ?_))
      refine bodyPost_ret (results_cell_row rfl _ _ (G + 1) 125 (A16 (tw8 L)) (0, 0) _ rfl (setRow_heap _ _ _ _ _ _ RF.out) Try.underlying125 rfl HSZ.out) rfl ⟨rfl, below_setRow FF.out (by rw [HGE.out]; omega) _⟩
end Go.Proofs.Ytcfbaildcocnhaa

/-
  Walk: the law NetworkGates.
-/
import Derived.Test.YtpglocgfdonmaaaHl
import Derived.Test.YtpglocgfdonmaaaGi
import Derived.Test.YtpglocgfdonmaaaGt
import Derived.Test.YtpglocgfdonmaaaGr
set_option linter.unusedVariables false
set_option linter.unusedSimpArgs false
namespace Go.Proofs.Ytpglocgfdonmaaa
open Go.RowKit Go.Shelf
attribute [local go_sem] Oper.semAt_some

/-- To let a walk stand still. -/
structure Halted (p : Prop) : Prop where
  out : p
theorem of_halt {p : Prop} (h : Halted p) : p := h.out
/-- A region that draws, outside a round. -/
theorem region_wide {P : Program} {ops : Array Oper} {Q : Exit → Act → World → Prop} {id n : Nat} {S : World → Prop} {a : Act} {w : World} (hm : P.follows .mixedOrders = true) (hS : S w.drew)
    (h : S w.drew → wpAnyH P .any ops (onN Q) S ops.size (Array.replicate ops.size false) a w.drew) : (Code.region id ops true).wpIn Fence.wide n P Q a w := by
  refine Code.wpIn_mono ?_ (wpIn_wide.2 (wp_region_held_drew hm hS h))
  intro e a w hq
  cases e <;> first | exact hq | exact hq.elim
theorem leave4 {tmps : Array Value} (w W : World) (R D D2 : Nat) (h4 : tmps.getD 4 undef = .pointer (some ⟨R, 0, none⟩)) (hB : Below w.heap.size w W) (hR : Blk W R 4 [.bool true])
    (hK2 : W.heap[D2]? = some (.deferred (some []))) (hK1 : W.heap[D]? = some (.deferred (some []))) (hD : D ≠ D2) (hRD : R ≠ D ∧ R ≠ D2) (hle : w.heap.size ≤ D ∧ w.heap.size ≤ D2) :
    LeavesInM Fence.wide 8 Try.prog Try.f4 tmps (fun e w' => e = .returned (.bool true) ∧ Below w.heap.size w w') [{ target := .collected D2, args := #[] }, { target := .collected D, args := #[] }] .returning W := by
  have hK1' : (W.putObj D2 (.deferred none)).heap[D]? = some (.deferred (some [])) := (World.putObj_heap_other hD).trans hK1
  refine ⟨by simp, .inl ⟨_, _, rfl, run_takeDeferred hK2, ?_⟩⟩
  refine ⟨by simp, .inl ⟨_, _, rfl, run_takeDeferred hK1', ?_⟩⟩
  have hR' : Blk ((W.putObj D2 (.deferred none)).putObj D (.deferred none)) R 4 [.bool true] := (World.putObj_heap_other hRD.1).trans ((World.putObj_heap_other hRD.2).trans hR)
  have hc : ((W.putObj D2 (.deferred none)).putObj D (.deferred none)).cell? ⟨R, 0, none⟩ = some (.bool true) := hR'.cell 0
  have hB' : Below w.heap.size w ((W.putObj D2 (.deferred none)).putObj D (.deferred none)) := (hB.trans (belowK_b (w := w) (Nat.le_refl _) W D2 _ _ hle.2 hK2 rfl rfl)).trans (belowK_b (w := w) (Nat.le_refl _) _ D _ _ hle.1 hK1' rfl rfl)
  refine ⟨.bool true, ?_, rfl, hB'⟩
  have h5 : tmps[4]?.getD undef = .pointer (some ⟨R, 0, none⟩) := by simpa using h4
  simp [results, Try.results4, go_sem, hc, h5]
theorem not_nil35 (f : Fn) (xs b : Array Value) (W : World) : (binOp .eql 35 (.func f xs b) .nilFunc).run Try.prog W = .ok (.bool false) W := by
  have h : (Op.equal 35 (.func f xs b) .nilFunc).run Try.prog W = .ok false W := by
    show (Op.equalIn (9999 + 1) 35 (.func f xs b) .nilFunc).run Try.prog W = .ok false W
    unfold Op.equalIn
    rw [Sem.run_bind, run_underlying Try.underlying35]
    rfl
  simp [binOp, h]
theorem gatesmk (N : Int) (w : World) : Calls Try.prog 16 #[.int .i64 N] w fun e w' => e = .returned (.func (.func 42) #[] #[.pointer (some ⟨w.heap.size, 0, none⟩)]) ∧ w' = w.alloc (.cells #[.int .i64 N] 3) := by
  go_enter Try.func16, Try.ntmps16
  go_wp2_with fail
  go_ret
  exact ⟨rfl, rfl⟩
theorem rgates_at (N : Int) (w : World) : Calls Try.prog 15 #[.int .i64 N] w fun e w' => ∃ A c, e = .returned (.slice A (gatesF N).length c) ∧ Hid (RdP w' A (gatesF N)) ∧ Hid (Below w.heap.size w w') := by
  refine (rgates_any N w).mono ?_
  rintro e w' ⟨v, rfl, o, b⟩
  obtain ⟨A, c, rfl, h⟩ := o.slice
  exact ⟨A, c, rfl, Lib.hid h, Lib.hid b⟩
theorem pad5 (w : World) : Calls Try.prog 17 #[.int .i64 5] w fun e w' => e = .returned (.int .i64 8) ∧ w' = w := by
  have h := pad_any 5 w
  have h2 : padF 5 = 8 := by
    have h3 : padF 5 = ((2 ^ lenN 4 : Nat) : Int) := rfl
    rw [h3, show (4 : Nat) = 2 ^ 2 from rfl, len_pow]; rfl
  rw [h2] at h
  exact h

set_option maxRecDepth 100000 in
set_option maxHeartbeats 8000000 in
theorem gates_law (N E : Int) (w : World) (hN : -9223372036854775808 ≤ N ∧ N ≤ 9223372036854775807) (hE : -9223372036854775808 ≤ E ∧ E ≤ 9223372036854775807) :
    Calls Try.prog 4 #[.int .i64 N, .int .i64 E] w fun e w' => e = .returned (.bool true) ∧ Below w.heap.size w w' := by
  refine (callsIn_wide (n := 8)).1 ?_
  refine callsIn_of_wp_marks Try.func4 rfl trivial ?_ rfl
  simp only [Try.ntmps4, List.size_toArray, List.length_cons, List.length_nil, Nat.reduceAdd, Nat.reduceSub, Array.replicate_succ, Array.replicate_zero, List.push_toArray, List.append_toArray, List.nil_append, List.cons_append]
  have F0 := Lib.hid ((Below.refl w.heap.size w).alloc (Nat.le_refl _) (.cells #[.bool false] 4))
  have R0 : Hid (Blk (w.alloc (.cells #[.bool false] 4)) w.heap.size 4 [.bool false]) := Lib.hid (Blk.new w 4 [.bool false])
  have hnn := fun b W => not_nil35 (.func 42) #[] b W
  gi_wp2_with (first
    | (refine ⟨trivial, ?_⟩; gi_at_call 15; refine (callsIn_wide.2 (rgates_at N _)).mono ?_; rintro e w1 ⟨A, c, rfl, O1, B1⟩)
    | (refine ⟨trivial, ?_⟩; gi_at_call 16; refine (callsIn_wide.2 (gatesmk N _)).mono ?_; rintro e w' ⟨rfl, rfl⟩)
    | (show Code.wpIn _ _ _ (Code.region 3 _ _) _ _ _; refine of_halt ?_))
  refine Halted.mk ?_
  generalize hWX : ((w1.alloc (.cells #[.slice A (gatesF N).length c] 32)).alloc (.cells #[.int .i64 N] 3)) = WX
  have CX : Hid (WX.cell? ⟨w1.heap.size, 0, none⟩ = some (.slice A (gatesF N).length c)) := Lib.hid (hWX ▸ (((Blk.new w1 32 [.slice A (gatesF N).length c]).alloc _).cell 0))
  have HWX := Lib.hid hWX
  clear hWX
  refine region_wide (S := fun w' => w'.heap = WX.heap) (by kernel_rfl) rfl (fun hHeld => ?_)
  have V0 : Hid (WX.drew.heap = WX.heap) := Lib.hid rfl
  have VX : Hid (WX.drew = WX.drew) := Lib.hid rfl
  generalize hv0 : WX.drew = v0 at V0 hHeld ⊢
  have HV0 := Lib.hid hv0
  clear hv0 VX
  refine wpAnyH_take (i := 0) (oi := ⟨some 15, _, _, _, _, _⟩) (v := (.int .i64 N)) rfl (by kernel_rfl) (by kernel_rfl) (by kernel_rfl) (fun _ _ _ h => h) (Or.inl ⟨by rfl, ?_⟩) (by assumption) ?_
  · intro w' hS; go_simp; try with_reducible rfl
  simp only [Act.put, List.setIfInBounds_toArray, List.set_cons_zero, List.set_cons_succ]
  refine wpAnyH_take (i := 2) (oi := ⟨some 17, _, _, _, _, _⟩) (v := (.int .i64 N)) rfl (by kernel_rfl) (by kernel_rfl) (by kernel_rfl) (fun _ _ _ h => h) (Or.inl ⟨by rfl, ?_⟩) (by assumption) ?_
  · intro w' hS; go_simp; try with_reducible rfl
  simp only [Act.put, List.setIfInBounds_toArray, List.set_cons_zero, List.set_cons_succ]
  refine wpAnyH_ready (rs := [1]) (by kernel_rfl) (by simp) ?_
  refine AllReadyH.cons (o := ⟨some 16, _, _, _, _, _⟩) rfl (fun K hK => ?_) AllReadyH.nil
  rw [if_pos (by rfl)]
  go_simp
  refine (pad_any N v0).mono ?_
  rintro e' w' ⟨rfl, hww⟩
  obtain rfl : v0 = w' := hww.symm
  dsimp only
  (try simp only [Act.put, List.setIfInBounds_toArray, List.set_cons_zero, List.set_cons_succ])
  refine hK.out _ _ V0.out (fun hHeld => ?_)
  clear hK K
  refine wpAnyH_ready (rs := [3]) (by kernel_rfl) (by simp) ?_
  refine AllReadyH.cons (o := ⟨some 18, _, _, _, _, _⟩) rfl (fun K hK => ?_) AllReadyH.nil
  rw [if_pos (by rfl)]
  go_simp
  refine (rpad_any N v0).mono ?_
  rintro e' w' ⟨rfl, hww⟩
  obtain rfl : v0 = w' := hww.symm
  dsimp only
  (try simp only [Act.put, List.setIfInBounds_toArray, List.set_cons_zero, List.set_cons_succ])
  refine hK.out _ _ V0.out (fun hHeld => ?_)
  clear hK K
  refine wpAnyH_take (i := 4) (oi := ⟨some 19, _, _, _, _, _⟩) (v := (.bool false)) rfl (by kernel_rfl) (by kernel_rfl) (by kernel_rfl) (fun _ _ _ h => h) (Or.inl ⟨by rfl, ?_⟩) (by assumption) ?_
  · intro w' hS; go_simp; try with_reducible rfl
  simp only [Act.put, List.setIfInBounds_toArray, List.set_cons_zero, List.set_cons_succ]
  refine wpAnyH_take (i := 5) (oi := ⟨some 20, _, _, _, _, _⟩) (v := (.bool false)) rfl (by kernel_rfl) (by kernel_rfl) (by kernel_rfl) (fun _ _ _ h => h) (Or.inl ⟨by rfl, ?_⟩) (by assumption) ?_
  · intro w' hS; go_simp; try with_reducible rfl
  simp only [Act.put, List.setIfInBounds_toArray, List.set_cons_zero, List.set_cons_succ]
  refine wpAnyH_take (i := 6) (oi := ⟨some 21, _, _, _, _, _⟩) (v := (.int .i64 N)) rfl (by kernel_rfl) (by kernel_rfl) (by kernel_rfl) (fun _ _ _ h => h) (Or.inl ⟨by rfl, ?_⟩) (by assumption) ?_
  · intro w' hS; go_simp; try with_reducible rfl
  simp only [Act.put, List.setIfInBounds_toArray, List.set_cons_zero, List.set_cons_succ]
  refine wpAnyH_take (i := 8) (oi := ⟨some 23, _, _, _, _, _⟩) (v := (.slice A (gatesF N).length c)) rfl (by kernel_rfl) (by kernel_rfl) (by kernel_rfl) (fun _ _ _ h => h) (Or.inl ⟨by rfl, ?_⟩) (by assumption) ?_
  · intro w' hS; have z0 : w'.cell? ⟨w1.heap.size, 0, none⟩ = some (.slice A (gatesF N).length c) := (World.cell?_of_block (w := WX) (w' := w') (by rw [hS])).trans CX.out; go_simp; try with_reducible rfl
  simp only [Act.put, List.setIfInBounds_toArray, List.set_cons_zero, List.set_cons_succ]
  refine wpAnyH_take (i := 9) (oi := ⟨some 24, _, _, _, _, _⟩) (v := (.int .i64 ((gatesF N).length : Nat))) rfl (by kernel_rfl) (by kernel_rfl) (by kernel_rfl) (fun _ _ _ h => h) (Or.inl ⟨by rfl, ?_⟩) (by assumption) ?_
  · intro w' hS; go_simp; try with_reducible rfl
  simp only [Act.put, List.setIfInBounds_toArray, List.set_cons_zero, List.set_cons_succ]
  refine wpAnyH_ready (rs := [7]) (by kernel_rfl) (by simp) ?_
  refine AllReadyH.cons (o := ⟨some 22, _, _, _, _, _⟩) rfl (fun K hK => ?_) AllReadyH.nil
  rw [if_pos (by rfl)]
  go_simp
  refine (gates_any N v0).mono ?_
  rintro e' w' ⟨rfl, hww⟩
  obtain rfl : v0 = w' := hww.symm
  dsimp only
  (try simp only [Act.put, List.setIfInBounds_toArray, List.set_cons_zero, List.set_cons_succ])
  refine hK.out _ _ V0.out (fun hHeld => ?_)
  clear hK K
  refine wpAnyH_take (i := 10) (oi := ⟨some 25, _, _, _, _, _⟩) (v := (.bool false)) rfl (by kernel_rfl) (by kernel_rfl) (by kernel_rfl) (fun _ _ _ h => h) (Or.inl ⟨by rfl, ?_⟩) (by assumption) ?_
  · intro w' hS; go_simp; try with_reducible rfl
  simp only [Act.put, List.setIfInBounds_toArray, List.set_cons_zero, List.set_cons_succ]
  refine wpAnyH_take (i := 11) (oi := ⟨some 26, _, _, _, _, _⟩) (v := (.bool false)) rfl (by kernel_rfl) (by kernel_rfl) (by kernel_rfl) (fun _ _ _ h => h) (Or.inl ⟨by rfl, ?_⟩) (by assumption) ?_
  · intro w' hS; go_simp; try with_reducible rfl
  simp only [Act.put, List.setIfInBounds_toArray, List.set_cons_zero, List.set_cons_succ]
  refine wpAnyH_take (i := 12) (oi := ⟨some 27, _, _, _, _, _⟩) (v := (.bool false)) rfl (by kernel_rfl) (by kernel_rfl) (by kernel_rfl) (fun _ _ _ h => h) (Or.inl ⟨by rfl, ?_⟩) (by assumption) ?_
  · intro w' hS; go_simp; try with_reducible rfl
  simp only [Act.put, List.setIfInBounds_toArray, List.set_cons_zero, List.set_cons_succ]
  refine wpAnyH_take (i := 13) (oi := ⟨some 28, _, _, _, _, _⟩) (v := (.func (.func 42) #[] #[.pointer (some ⟨w1.heap.size + 1, 0, none⟩)])) rfl (by kernel_rfl) (by kernel_rfl) (by kernel_rfl) (fun _ _ _ h => h) (Or.inl ⟨by rfl, ?_⟩) (by assumption) ?_
  · intro w' hS; go_simp; try with_reducible rfl
  simp only [Act.put, List.setIfInBounds_toArray, List.set_cons_zero, List.set_cons_succ]
  refine wpAnyH_take (i := 14) (oi := ⟨some 29, _, _, _, _, _⟩) (v := (.bool false)) rfl (by kernel_rfl) (by kernel_rfl) (by kernel_rfl) (fun _ _ _ h => h) (Or.inl ⟨by rfl, ?_⟩) (by assumption) ?_
  · intro w' hS; have z := hnn #[.pointer (some ⟨w1.heap.size + 1, 0, none⟩)] w'; go_simp; try with_reducible rfl
  simp only [Act.put, List.setIfInBounds_toArray, List.set_cons_zero, List.set_cons_succ]
  refine wpAnyH_take (i := 15) (oi := ⟨some 30, _, _, _, _, _⟩) (v := (.bool false)) rfl (by kernel_rfl) (by kernel_rfl) (by kernel_rfl) (fun _ _ _ h => h) (Or.inl ⟨by rfl, ?_⟩) (by assumption) ?_
  · intro w' hS; go_simp; try with_reducible rfl
  simp only [Act.put, List.setIfInBounds_toArray, List.set_cons_zero, List.set_cons_succ]
  refine wpAnyH_take (i := 16) (oi := ⟨some 31, _, _, _, _, _⟩) (v := (.bool false)) rfl (by kernel_rfl) (by kernel_rfl) (by kernel_rfl) (fun _ _ _ h => h) (Or.inl ⟨by rfl, ?_⟩) (by assumption) ?_
  · intro w' hS; go_simp; try with_reducible rfl
  simp only [Act.put, List.setIfInBounds_toArray, List.set_cons_zero, List.set_cons_succ]
  refine wpAnyH_ready (rs := [17]) (by kernel_rfl) (by simp) ?_
  refine AllReadyH.cons (o := ⟨some 32, _, _, _, _, _⟩) rfl (fun K hK => ?_) AllReadyH.nil
  rw [if_pos (by rfl)]
  go_simp
  refine (pad5 v0).mono ?_
  rintro e' w' ⟨rfl, hww⟩
  obtain rfl : v0 = w' := hww.symm
  dsimp only
  (try simp only [Act.put, List.setIfInBounds_toArray, List.set_cons_zero, List.set_cons_succ])
  refine hK.out _ _ V0.out (fun hHeld => ?_)
  clear hK K
  refine wpAnyH_take (i := 18) (oi := ⟨some 33, _, _, _, _, _⟩) (v := (.bool false)) rfl (by kernel_rfl) (by kernel_rfl) (by kernel_rfl) (fun _ _ _ h => h) (Or.inl ⟨by rfl, ?_⟩) (by assumption) ?_
  · intro w' hS; go_simp; try with_reducible rfl
  simp only [Act.put, List.setIfInBounds_toArray, List.set_cons_zero, List.set_cons_succ]
  refine wpAnyH_take (i := 19) (oi := ⟨some 34, _, _, _, _, _⟩) (v := (.bool false)) rfl (by kernel_rfl) (by kernel_rfl) (by kernel_rfl) (fun _ _ _ h => h) (Or.inl ⟨by rfl, ?_⟩) (by assumption) ?_
  · intro w' hS; go_simp; try with_reducible rfl
  simp only [Act.put, List.setIfInBounds_toArray, List.set_cons_zero, List.set_cons_succ]
  refine wpAnyH_done (by kernel_rfl) ?_ _
  simp only [onN]
  obtain rfl : WX.drew = v0 := HV0.out
  obtain rfl := HWX.out.symm
  gi_wp2
  have HB0 : Hid (Below w.heap.size w w1) := Lib.hid (F0.out.trans (B1.out.mono (by simp)))
  have HR : Hid (Blk w1 w.heap.size 4 [.bool false]) := Lib.hid (R0.out.below B1.out (by simp))
  clear F0 R0 B1
  generalize hR : w.heap.size = R at HR ⊢
  have HRE := Lib.hid hR
  clear hR
  have HRP : Hid (R < w1.heap.size) := Lib.hid (Blk.lt HR.out)
  generalize hWM : (((w1.alloc (.cells #[.slice A (gatesF N).length c] 32)).alloc (.cells #[.int .i64 N] 3)).alloc (.cells #[.int .i64 0] 3)) = wL0
  have HL0 : Hid (Below w1.heap.size w1 wL0) := Lib.hid (hWM ▸ ((((Below.refl w1.heap.size w1).alloc (Nat.le_refl _) _).alloc (by simp) _).alloc (by simp; omega) _))
  have BW0 : Hid (Blk wL0 w1.heap.size 32 [.slice A (gatesF N).length c]) := Lib.hid (hWM ▸ (((Blk.new w1 32 [.slice A (gatesF N).length c]).alloc _).alloc _))
  have BN0 : Hid (Blk wL0 (w1.heap.size + 1) 3 [.int .i64 N]) := Lib.hid (hWM ▸ (Blk.new_at (w1.alloc (.cells #[.slice A (gatesF N).length c] 32)) 3 [.int .i64 N] (by simp)).alloc _)
  have BA0 : Hid (Blk wL0 (w1.heap.size + 1 + 1) 3 [.int .i64 0]) := Lib.hid (hWM ▸ (Blk.new_at ((w1.alloc (.cells #[.slice A (gatesF N).length c] 32)).alloc (.cells #[.int .i64 N] 3)) 3 [.int .i64 0] (by simp)))
  have HSZ0 : Hid (wL0.heap.size = w1.heap.size + 3) := Lib.hid (by rw [← hWM]; simp)
  clear hWM
  have HL : Hid (Below w1.heap.size w1 wL0.drew) := Lib.hid HL0.out.drew
  have BW : Hid (Blk wL0.drew w1.heap.size 32 [.slice A (gatesF N).length c]) := Lib.hid BW0.out
  have BN : Hid (Blk wL0.drew (w1.heap.size + 1) 3 [.int .i64 N]) := Lib.hid BN0.out
  have BA : Hid (Blk wL0.drew (w1.heap.size + 1 + 1) 3 [.int .i64 0]) := Lib.hid BA0.out
  have HSZ : Hid (wL0.drew.heap.size = w1.heap.size + 3) := Lib.hid HSZ0.out
  clear HL0 BW0 BN0 BA0 HSZ0
  generalize wL0.drew = wL at *
  have O2 : Hid (∀ i, i < (gatesF N).length → ∃ b off, A = some ⟨b, off, none⟩ ∧ b < w1.heap.size ∧ wL.cell? ⟨b, off + i * 2, none⟩ = some (.int .i64 ((gatesF N).getD i (0, 0)).1) ∧ wL.cell? ⟨b, off + i * 2 + 1, none⟩ = some (.int .i64 ((gatesF N).getD i (0, 0)).2)) := Lib.hid (fun i hi => by
    obtain ⟨b, off, hA, hlt, h0, h1⟩ := O1.out i hi
    exact ⟨b, off, hA, hlt, (HL.out.cell (p := ⟨b, _, none⟩) hlt).trans h0, (HL.out.cell (p := ⟨b, _, none⟩) hlt).trans h1⟩)
  have BR := Lib.hid (HR.out.below HL.out HRP.out)
  have HB1 : Hid (Below w.heap.size w wL) := Lib.hid (HB0.out.trans (HL.out.mono HB0.out.size))
  clear HL O1 HR HB0
  generalize w1.heap.size = P1 at *
  have HLEN : Hid ((gatesF N).length ≤ 18939904) := Lib.hid ((gates_len N).1)
  refine wpIn_rangeFunc_ownH rfl (by omega) (gf := 42) (lb := #[.pointer (some ⟨P1 + 1, 0, none⟩)]) rfl trivial (enters_of Try.func42 (by kernel_rfl) rfl)
    (gates_stops (8 - 1) (by omega) (P1 + 1) (P1 + 1 + 1) N wL (by omega) (by have := HSZ.out; omega) (BN.out.cell 0)) belowK_t (belowK_b (by have := HSZ.out; omega)) (Below.refl _ _) (fun _ => rfl)
    (fun pre W => (pre <+: gatesF N) ∧ Blk W (P1 + 1 + 1) 3 [.int .i64 (pre.length : Nat)] ∧ Below (P1 + 1 + 1) wL W)
    (fun cd pre W => cd = .ret ∧ ¬ pre <+: gatesF N)
    (OwnFrom.and (ownFrom_pure _ _) (OwnFrom.and (Go.Own.from (blk_own _ _ _) _) (ownFrom_below (by have := HSZ.out; omega) (by have := HSZ.out; omega))))
    (fun _ => ownFrom_pure _ _)
    ⟨⟨_, rfl⟩, BA.out, Below.refl _ _⟩
    (fun x a' W => ∃ Bx, P1 + 2 < Bx ∧ Blk W Bx 38 [.int .i64 x.1, .int .i64 x.2] ∧ a' = { tmps := #[.int .i64 N, .int .i64 E, undef, undef, .pointer (some ⟨R, 0, none⟩), .pointer (some ⟨P1, 0, none⟩), (.func (.func 42) #[] #[.pointer (some ⟨P1 + 1, 0, none⟩)]), .pointer (some ⟨P1 + 1 + 1, 0, none⟩), .pointer (some ⟨Bx, 0, none⟩), undef, undef, .int .i64 N, .slice A (gatesF N).length c, .int .i64 N, (.func (.func 42) #[] #[.pointer (some ⟨P1 + 1, 0, none⟩)]), .int .i64 N, .int .i64 (padF N), .int .i64 N, .int .i64 (padF N), .bool false, .bool false, .int .i64 N, .int .i64 ((gatesF N).length : Nat), .slice A (gatesF N).length c, .int .i64 ((gatesF N).length : Nat), .bool false, .bool false, .bool false, (.func (.func 42) #[] #[.pointer (some ⟨P1 + 1, 0, none⟩)]), .bool false, .bool false, .bool false, .int .i64 8, .bool false, .bool false, (.func (.func 42) #[] #[.pointer (some ⟨P1 + 1, 0, none⟩)]), .agg #[.int .i64 x.1, .int .i64 x.2], undef, undef, undef, undef, undef, undef, undef, undef, undef, undef, undef, undef, undef, undef, undef, undef, undef, undef, undef, undef, undef, undef, undef, undef, undef, undef, undef, undef, undef, undef, undef, undef, undef, undef, undef, undef, undef, undef, undef, undef, undef, undef, undef, undef, undef, undef, undef, undef, undef, undef, undef], defers := [] })
    (fun x a' _ X Y row hs hg hr => by obtain ⟨Bx, h1, h2, h3⟩ := hs; exact ⟨Bx, h1, blk_own Bx 38 (fun (_ : Unit) => [Value.int .i64 x.1, Value.int .i64 x.2]) () X Y row h2 hg (fun r e => (hr r e).2), h3⟩)
    ?assign ?body ?done ?stop
  case assign =>
    rintro l pre x W K ⟨hp, bA, hB⟩ hK
    have hlt := Blk.lt bA
    have KK := Lib.hid hK
    clear hK
    unfold encH
    gi_wp2
    exact KK.out _ _ ((KeepsOthers.alloc _ _).from _) ((Below.refl _ W).alloc (by omega) _) ⟨hp, Blk.alloc bA _, hB.alloc (by have := hB.size; have := HSZ.out; omega) _⟩ ⟨W.heap.size, by omega, Blk.new W 38 [.int .i64 x.1, .int .i64 x.2], rfl⟩
  case body =>
    rintro l pre x a' W hl - ⟨hp, bA, hB⟩ ⟨Bx, hBx, bX, rfl⟩ -
    have BAW := Lib.hid bA
    have BXW := Lib.hid bX
    have HBW := Lib.hid hB
    have BWW : Hid (Blk W P1 32 [.slice A (gatesF N).length c]) := Lib.hid (BW.out.below hB (by omega))
    have BRW : Hid (Blk W R 4 [.bool false]) := Lib.hid (BR.out.below hB (by have := HRP.out; omega))
    have HP := Lib.hid hp
    clear hp bA hB bX hl
    gi_wp2
    by_cases hat : pre.length < (gatesF N).length
    · obtain ⟨bb, off, hA, hbl, y0, y1⟩ := O2.out pre.length hat
      subst hA
      have hb1 : decide (((gatesF N).length : Int) ≤ (pre.length : Int)) = false := by simp; omega
      have hb2 : (pre.length : Int) < ((gatesF N).length : Int) := by omega
      have Y0 : Hid (W.cell? ⟨bb, off + pre.length * 2, none⟩ = some (.int .i64 ((gatesF N).getD pre.length (0, 0)).1)) := Lib.hid ((HBW.out.cell (p := ⟨bb, _, none⟩) (by show bb < P1 + 1 + 1; omega)).trans y0)
      have Y1 : Hid (W.cell? ⟨bb, off + pre.length * 2 + 1, none⟩ = some (.int .i64 ((gatesF N).getD pre.length (0, 0)).2)) := Lib.hid ((HBW.out.cell (p := ⟨bb, _, none⟩) (by show bb < P1 + 1 + 1; omega)).trans y1)
      clear y0 y1 hbl
      by_cases hx : x = (gatesF N).getD pre.length (0, 0)
      · have HX := Lib.hid hx
        have HP2 : Hid (pre ++ [x] <+: gatesF N) := Lib.hid (pref_snoc HP.out hat hx)
        obtain ⟨x1, x2⟩ := x
        obtain ⟨y1, hy1⟩ : ∃ y, ((gatesF N).getD pre.length (0, 0)).1 = y := ⟨_, rfl⟩
        obtain ⟨y2, hy2⟩ : ∃ y, ((gatesF N).getD pre.length (0, 0)).2 = y := ⟨_, rfl⟩
        rw [hy1] at Y0
        rw [hy2] at Y1
        have RN : Hid (x1 = y1 ∧ x2 = y2) := Lib.hid (by rw [← hy1, ← hy2, ← hx]; simp)
        clear hx hy1 hy2
        dsimp only at BXW ⊢
        refine region_round (S := fun w' => w'.heap = W.heap) (by kernel_rfl) (by kernel_rfl) rfl (fun hHeld => ?_)
        refine wpAnyH_take (i := 0) (oi := ⟨some 37, _, _, _, _, _⟩) (v := (.int .i64 (pre.length : Nat))) rfl (by kernel_rfl) (by kernel_rfl) (by kernel_rfl) (fun _ _ _ h => h) (Or.inl ⟨by rfl, ?_⟩) (by assumption) ?_
        · intro w' hS; have z0 : w'.cell? ⟨P1 + 1 + 1, 0, none⟩ = some (.int .i64 (pre.length : Nat)) := (World.cell?_of_block (w := W) (w' := w') (by rw [hS])).trans (BAW.out.cell 0); go_simp; try with_reducible rfl
        simp only [Act.put, List.setIfInBounds_toArray, List.set_cons_zero, List.set_cons_succ]
        refine wpAnyH_take (i := 1) (oi := ⟨some 38, _, _, _, _, _⟩) (v := (.slice (some ⟨bb, off, none⟩) (gatesF N).length c)) rfl (by kernel_rfl) (by kernel_rfl) (by kernel_rfl) (fun _ _ _ h => h) (Or.inl ⟨by rfl, ?_⟩) (by assumption) ?_
        · intro w' hS; have z0 : w'.cell? ⟨P1, 0, none⟩ = some (.slice (some ⟨bb, off, none⟩) (gatesF N).length c) := (World.cell?_of_block (w := W) (w' := w') (by rw [hS])).trans (BWW.out.cell 0); go_simp; try with_reducible rfl
        simp only [Act.put, List.setIfInBounds_toArray, List.set_cons_zero, List.set_cons_succ]
        refine wpAnyH_take (i := 2) (oi := ⟨some 39, _, _, _, _, _⟩) (v := (.int .i64 ((gatesF N).length : Nat))) rfl (by kernel_rfl) (by kernel_rfl) (by kernel_rfl) (fun _ _ _ h => h) (Or.inl ⟨by rfl, ?_⟩) (by assumption) ?_
        · intro w' hS; go_simp; try with_reducible rfl
        simp only [Act.put, List.setIfInBounds_toArray, List.set_cons_zero, List.set_cons_succ]
        refine wpAnyH_take (i := 3) (oi := ⟨some 40, _, _, _, _, _⟩) (v := (.bool false)) rfl (by kernel_rfl) (by kernel_rfl) (by kernel_rfl) (fun _ _ _ h => h) (Or.inl ⟨by rfl, ?_⟩) (by assumption) ?_
        · intro w' hS; go_simp; try with_reducible rfl
        simp only [Act.put, List.setIfInBounds_toArray, List.set_cons_zero, List.set_cons_succ]
        refine wpAnyH_take (i := 4) (oi := ⟨some 41, _, _, _, _, _⟩) (v := (.bool false)) rfl (by kernel_rfl) (by kernel_rfl) (by kernel_rfl) (fun _ _ _ h => h) (Or.inl ⟨by rfl, ?_⟩) (by assumption) ?_
        · intro w' hS; go_simp; try with_reducible rfl
        simp only [Act.put, List.setIfInBounds_toArray, List.set_cons_zero, List.set_cons_succ]
        refine wpAnyH_take (i := 5) (oi := ⟨some 42, _, _, _, _, _⟩) (v := (.agg #[.int .i64 x1, .int .i64 x2])) rfl (by kernel_rfl) (by kernel_rfl) (by kernel_rfl) (fun _ _ _ h => h) (Or.inl ⟨by rfl, ?_⟩) (by assumption) ?_
        · intro w' hS; have z0 : w'.cell? ⟨Bx, 0, none⟩ = some (.int .i64 x1) := (World.cell?_of_block (w := W) (w' := w') (by rw [hS])).trans (BXW.out.cell 0); have z1 : w'.cell? ⟨Bx, 1, none⟩ = some (.int .i64 x2) := (World.cell?_of_block (w := W) (w' := w') (by rw [hS])).trans (BXW.out.cell 1); go_simp; try with_reducible rfl
        simp only [Act.put, List.setIfInBounds_toArray, List.set_cons_zero, List.set_cons_succ]
        refine wpAnyH_take (i := 6) (oi := ⟨some 43, _, _, _, _, _⟩) (v := (.slice (some ⟨bb, off, none⟩) (gatesF N).length c)) rfl (by kernel_rfl) (by kernel_rfl) (by kernel_rfl) (fun _ _ _ h => h) (Or.inl ⟨by rfl, ?_⟩) (by assumption) ?_
        · intro w' hS; have z0 : w'.cell? ⟨P1, 0, none⟩ = some (.slice (some ⟨bb, off, none⟩) (gatesF N).length c) := (World.cell?_of_block (w := W) (w' := w') (by rw [hS])).trans (BWW.out.cell 0); go_simp; try with_reducible rfl
        simp only [Act.put, List.setIfInBounds_toArray, List.set_cons_zero, List.set_cons_succ]
        refine wpAnyH_take (i := 7) (oi := ⟨some 44, _, _, _, _, _⟩) (v := (.int .i64 (pre.length : Nat))) rfl (by kernel_rfl) (by kernel_rfl) (by kernel_rfl) (fun _ _ _ h => h) (Or.inl ⟨by rfl, ?_⟩) (by assumption) ?_
        · intro w' hS; have z0 : w'.cell? ⟨P1 + 1 + 1, 0, none⟩ = some (.int .i64 (pre.length : Nat)) := (World.cell?_of_block (w := W) (w' := w') (by rw [hS])).trans (BAW.out.cell 0); go_simp; try with_reducible rfl
        simp only [Act.put, List.setIfInBounds_toArray, List.set_cons_zero, List.set_cons_succ]
        refine wpAnyH_take (i := 8) (oi := ⟨some 45, _, _, _, _, _⟩) (v := (.pointer (some ⟨bb, off + pre.length * 2, none⟩))) rfl (by kernel_rfl) (by kernel_rfl) (by kernel_rfl) (fun _ _ _ h => h) (Or.inl ⟨by rfl, ?_⟩) (by assumption) ?_
        · intro w' hS; go_simp; try with_reducible rfl
        simp only [Act.put, List.setIfInBounds_toArray, List.set_cons_zero, List.set_cons_succ]
        refine wpAnyH_take (i := 9) (oi := ⟨some 46, _, _, _, _, _⟩) (v := (.agg #[.int .i64 y1, .int .i64 y2])) rfl (by kernel_rfl) (by kernel_rfl) (by kernel_rfl) (fun _ _ _ h => h) (Or.inl ⟨by rfl, ?_⟩) (by assumption) ?_
        · intro w' hS; have z0 : w'.cell? ⟨bb, off + pre.length * 2, none⟩ = some (.int .i64 y1) := (World.cell?_of_block (w := W) (w' := w') (by rw [hS])).trans (Y0.out); have z1 : w'.cell? ⟨bb, off + pre.length * 2 + 1, none⟩ = some (.int .i64 y2) := (World.cell?_of_block (w := W) (w' := w') (by rw [hS])).trans (Y1.out); go_simp; try with_reducible rfl
        simp only [Act.put, List.setIfInBounds_toArray, List.set_cons_zero, List.set_cons_succ]
        refine wpAnyH_take (i := 10) (oi := ⟨some 47, _, _, _, _, _⟩) (v := (.bool false)) rfl (by kernel_rfl) (by kernel_rfl) (by kernel_rfl) (fun _ _ _ h => h) (Or.inl ⟨by rfl, ?_⟩) (by assumption) ?_
        · intro w' hS; obtain ⟨e1, e2⟩ := RN.out; go_simp; try with_reducible rfl
        simp only [Act.put, List.setIfInBounds_toArray, List.set_cons_zero, List.set_cons_succ]
        refine wpAnyH_take (i := 11) (oi := ⟨some 48, _, _, _, _, _⟩) (v := (.bool false)) rfl (by kernel_rfl) (by kernel_rfl) (by kernel_rfl) (fun _ _ _ h => h) (Or.inl ⟨by rfl, ?_⟩) (by assumption) ?_
        · intro w' hS; go_simp; try with_reducible rfl
        simp only [Act.put, List.setIfInBounds_toArray, List.set_cons_zero, List.set_cons_succ]
        refine wpAnyH_done (by kernel_rfl) ?_ _
        simp only [onN]
        have f0 : W.frozen? ⟨P1 + 1 + 1, 0, none⟩ = false := BAW.out.frozen 0
        have g0 : W.cell? ⟨P1 + 1 + 1, 0, none⟩ = some (.int .i64 (pre.length : Nat)) := BAW.out.cell 0
        have m1 : IntKind.i64.wrap ((pre.length : Int) + 1) = ((pre.length + 1 : Nat) : Int) := by have := HLEN.out; rw [IntKind.wrap_i64] <;> omega
        gi_wp2
        exact ⟨((KeepsOthers.drew _).trans (KeepsOthers.setCell _ _ _)).from _, ((Below.refl (P1 + 1 + 1) W).drew).setCell (p := ⟨P1 + 1 + 1, 0, none⟩) (Nat.le_refl _) _, HP2.out, by rw [List.length_append]; exact Blk.set (w := W.drew) BAW.out 0 _, (HBW.out.drew).setCell (p := ⟨P1 + 1 + 1, 0, none⟩) (Nat.le_refl _) _⟩
      · have HN2 : Hid (¬ pre ++ [x] <+: gatesF N) := Lib.hid (pref_not hat hx)
        obtain ⟨x1, x2⟩ := x
        obtain ⟨y1, hy1⟩ : ∃ y, ((gatesF N).getD pre.length (0, 0)).1 = y := ⟨_, rfl⟩
        obtain ⟨y2, hy2⟩ : ∃ y, ((gatesF N).getD pre.length (0, 0)).2 = y := ⟨_, rfl⟩
        rw [hy1] at Y0
        rw [hy2] at Y1
        have RN : Hid (¬ x1 = y1 ∨ (x1 = y1 ∧ ¬ x2 = y2)) := Lib.hid (by
          by_cases h1 : x1 = y1
          · by_cases h2 : x2 = y2
            · exact absurd (by rw [Prod.ext_iff]; exact ⟨h1.trans hy1.symm, h2.trans hy2.symm⟩) hx
            · exact .inr ⟨h1, h2⟩
          · exact .inl h1)
        clear hx hy1 hy2
        dsimp only at BXW ⊢
        refine region_round (S := fun w' => w'.heap = W.heap) (by kernel_rfl) (by kernel_rfl) rfl (fun hHeld => ?_)
        refine wpAnyH_take (i := 0) (oi := ⟨some 37, _, _, _, _, _⟩) (v := (.int .i64 (pre.length : Nat))) rfl (by kernel_rfl) (by kernel_rfl) (by kernel_rfl) (fun _ _ _ h => h) (Or.inl ⟨by rfl, ?_⟩) (by assumption) ?_
        · intro w' hS; have z0 : w'.cell? ⟨P1 + 1 + 1, 0, none⟩ = some (.int .i64 (pre.length : Nat)) := (World.cell?_of_block (w := W) (w' := w') (by rw [hS])).trans (BAW.out.cell 0); go_simp; try with_reducible rfl
        simp only [Act.put, List.setIfInBounds_toArray, List.set_cons_zero, List.set_cons_succ]
        refine wpAnyH_take (i := 1) (oi := ⟨some 38, _, _, _, _, _⟩) (v := (.slice (some ⟨bb, off, none⟩) (gatesF N).length c)) rfl (by kernel_rfl) (by kernel_rfl) (by kernel_rfl) (fun _ _ _ h => h) (Or.inl ⟨by rfl, ?_⟩) (by assumption) ?_
        · intro w' hS; have z0 : w'.cell? ⟨P1, 0, none⟩ = some (.slice (some ⟨bb, off, none⟩) (gatesF N).length c) := (World.cell?_of_block (w := W) (w' := w') (by rw [hS])).trans (BWW.out.cell 0); go_simp; try with_reducible rfl
        simp only [Act.put, List.setIfInBounds_toArray, List.set_cons_zero, List.set_cons_succ]
        refine wpAnyH_take (i := 2) (oi := ⟨some 39, _, _, _, _, _⟩) (v := (.int .i64 ((gatesF N).length : Nat))) rfl (by kernel_rfl) (by kernel_rfl) (by kernel_rfl) (fun _ _ _ h => h) (Or.inl ⟨by rfl, ?_⟩) (by assumption) ?_
        · intro w' hS; go_simp; try with_reducible rfl
        simp only [Act.put, List.setIfInBounds_toArray, List.set_cons_zero, List.set_cons_succ]
        refine wpAnyH_take (i := 3) (oi := ⟨some 40, _, _, _, _, _⟩) (v := (.bool false)) rfl (by kernel_rfl) (by kernel_rfl) (by kernel_rfl) (fun _ _ _ h => h) (Or.inl ⟨by rfl, ?_⟩) (by assumption) ?_
        · intro w' hS; go_simp; try with_reducible rfl
        simp only [Act.put, List.setIfInBounds_toArray, List.set_cons_zero, List.set_cons_succ]
        refine wpAnyH_take (i := 4) (oi := ⟨some 41, _, _, _, _, _⟩) (v := (.bool false)) rfl (by kernel_rfl) (by kernel_rfl) (by kernel_rfl) (fun _ _ _ h => h) (Or.inl ⟨by rfl, ?_⟩) (by assumption) ?_
        · intro w' hS; go_simp; try with_reducible rfl
        simp only [Act.put, List.setIfInBounds_toArray, List.set_cons_zero, List.set_cons_succ]
        refine wpAnyH_take (i := 5) (oi := ⟨some 42, _, _, _, _, _⟩) (v := (.agg #[.int .i64 x1, .int .i64 x2])) rfl (by kernel_rfl) (by kernel_rfl) (by kernel_rfl) (fun _ _ _ h => h) (Or.inl ⟨by rfl, ?_⟩) (by assumption) ?_
        · intro w' hS; have z0 : w'.cell? ⟨Bx, 0, none⟩ = some (.int .i64 x1) := (World.cell?_of_block (w := W) (w' := w') (by rw [hS])).trans (BXW.out.cell 0); have z1 : w'.cell? ⟨Bx, 1, none⟩ = some (.int .i64 x2) := (World.cell?_of_block (w := W) (w' := w') (by rw [hS])).trans (BXW.out.cell 1); go_simp; try with_reducible rfl
        simp only [Act.put, List.setIfInBounds_toArray, List.set_cons_zero, List.set_cons_succ]
        refine wpAnyH_take (i := 6) (oi := ⟨some 43, _, _, _, _, _⟩) (v := (.slice (some ⟨bb, off, none⟩) (gatesF N).length c)) rfl (by kernel_rfl) (by kernel_rfl) (by kernel_rfl) (fun _ _ _ h => h) (Or.inl ⟨by rfl, ?_⟩) (by assumption) ?_
        · intro w' hS; have z0 : w'.cell? ⟨P1, 0, none⟩ = some (.slice (some ⟨bb, off, none⟩) (gatesF N).length c) := (World.cell?_of_block (w := W) (w' := w') (by rw [hS])).trans (BWW.out.cell 0); go_simp; try with_reducible rfl
        simp only [Act.put, List.setIfInBounds_toArray, List.set_cons_zero, List.set_cons_succ]
        refine wpAnyH_take (i := 7) (oi := ⟨some 44, _, _, _, _, _⟩) (v := (.int .i64 (pre.length : Nat))) rfl (by kernel_rfl) (by kernel_rfl) (by kernel_rfl) (fun _ _ _ h => h) (Or.inl ⟨by rfl, ?_⟩) (by assumption) ?_
        · intro w' hS; have z0 : w'.cell? ⟨P1 + 1 + 1, 0, none⟩ = some (.int .i64 (pre.length : Nat)) := (World.cell?_of_block (w := W) (w' := w') (by rw [hS])).trans (BAW.out.cell 0); go_simp; try with_reducible rfl
        simp only [Act.put, List.setIfInBounds_toArray, List.set_cons_zero, List.set_cons_succ]
        refine wpAnyH_take (i := 8) (oi := ⟨some 45, _, _, _, _, _⟩) (v := (.pointer (some ⟨bb, off + pre.length * 2, none⟩))) rfl (by kernel_rfl) (by kernel_rfl) (by kernel_rfl) (fun _ _ _ h => h) (Or.inl ⟨by rfl, ?_⟩) (by assumption) ?_
        · intro w' hS; go_simp; try with_reducible rfl
        simp only [Act.put, List.setIfInBounds_toArray, List.set_cons_zero, List.set_cons_succ]
        refine wpAnyH_take (i := 9) (oi := ⟨some 46, _, _, _, _, _⟩) (v := (.agg #[.int .i64 y1, .int .i64 y2])) rfl (by kernel_rfl) (by kernel_rfl) (by kernel_rfl) (fun _ _ _ h => h) (Or.inl ⟨by rfl, ?_⟩) (by assumption) ?_
        · intro w' hS; have z0 : w'.cell? ⟨bb, off + pre.length * 2, none⟩ = some (.int .i64 y1) := (World.cell?_of_block (w := W) (w' := w') (by rw [hS])).trans (Y0.out); have z1 : w'.cell? ⟨bb, off + pre.length * 2 + 1, none⟩ = some (.int .i64 y2) := (World.cell?_of_block (w := W) (w' := w') (by rw [hS])).trans (Y1.out); go_simp; try with_reducible rfl
        simp only [Act.put, List.setIfInBounds_toArray, List.set_cons_zero, List.set_cons_succ]
        refine wpAnyH_take (i := 10) (oi := ⟨some 47, _, _, _, _, _⟩) (v := (.bool true)) rfl (by kernel_rfl) (by kernel_rfl) (by kernel_rfl) (fun _ _ _ h => h) (Or.inl ⟨by rfl, ?_⟩) (by assumption) ?_
        · intro w' hS; rcases RN.out with e1 | ⟨e1, e2⟩ <;> (go_simp; try with_reducible rfl)
        simp only [Act.put, List.setIfInBounds_toArray, List.set_cons_zero, List.set_cons_succ]
        refine wpAnyH_take (i := 11) (oi := ⟨some 48, _, _, _, _, _⟩) (v := (.bool true)) rfl (by kernel_rfl) (by kernel_rfl) (by kernel_rfl) (fun _ _ _ h => h) (Or.inl ⟨by rfl, ?_⟩) (by assumption) ?_
        · intro w' hS; go_simp; try with_reducible rfl
        simp only [Act.put, List.setIfInBounds_toArray, List.set_cons_zero, List.set_cons_succ]
        refine wpAnyH_done (by kernel_rfl) ?_ _
        simp only [onN]
        have f0 : W.frozen? ⟨R, 0, none⟩ = false := BRW.out.frozen 0
        have g0 : W.cell? ⟨R, 0, none⟩ = some (.bool false) := BRW.out.cell 0
        gi_wp2
        exact ⟨((KeepsOthers.drew _).trans (KeepsOthers.setCell _ _ _)).from _, rfl, HN2.out⟩
    · have HN2 : Hid (¬ pre ++ [x] <+: gatesF N) := Lib.hid (fun h => by have := h.length_le; simp at this; omega)
      have hb1 : decide (((gatesF N).length : Int) ≤ (pre.length : Int)) = true := by simp; omega
      have hb3 : (gatesF N).length ≤ pre.length := by omega
      refine region_round (S := fun w' => w'.heap = W.heap) (by kernel_rfl) (by kernel_rfl) rfl (fun hHeld => ?_)
      refine wpAnyH_take (i := 0) (oi := ⟨some 37, _, _, _, _, _⟩) (v := (.int .i64 (pre.length : Nat))) rfl (by kernel_rfl) (by kernel_rfl) (by kernel_rfl) (fun _ _ _ h => h) (Or.inl ⟨by rfl, ?_⟩) (by assumption) ?_
      · intro w' hS; have z0 : w'.cell? ⟨P1 + 1 + 1, 0, none⟩ = some (.int .i64 (pre.length : Nat)) := (World.cell?_of_block (w := W) (w' := w') (by rw [hS])).trans (BAW.out.cell 0); go_simp; try with_reducible rfl
      simp only [Act.put, List.setIfInBounds_toArray, List.set_cons_zero, List.set_cons_succ]
      refine wpAnyH_take (i := 1) (oi := ⟨some 38, _, _, _, _, _⟩) (v := (.slice A (gatesF N).length c)) rfl (by kernel_rfl) (by kernel_rfl) (by kernel_rfl) (fun _ _ _ h => h) (Or.inl ⟨by rfl, ?_⟩) (by assumption) ?_
      · intro w' hS; have z0 : w'.cell? ⟨P1, 0, none⟩ = some (.slice A (gatesF N).length c) := (World.cell?_of_block (w := W) (w' := w') (by rw [hS])).trans (BWW.out.cell 0); go_simp; try with_reducible rfl
      simp only [Act.put, List.setIfInBounds_toArray, List.set_cons_zero, List.set_cons_succ]
      refine wpAnyH_take (i := 2) (oi := ⟨some 39, _, _, _, _, _⟩) (v := (.int .i64 ((gatesF N).length : Nat))) rfl (by kernel_rfl) (by kernel_rfl) (by kernel_rfl) (fun _ _ _ h => h) (Or.inl ⟨by rfl, ?_⟩) (by assumption) ?_
      · intro w' hS; go_simp; try with_reducible rfl
      simp only [Act.put, List.setIfInBounds_toArray, List.set_cons_zero, List.set_cons_succ]
      refine wpAnyH_take (i := 3) (oi := ⟨some 40, _, _, _, _, _⟩) (v := (.bool true)) rfl (by kernel_rfl) (by kernel_rfl) (by kernel_rfl) (fun _ _ _ h => h) (Or.inl ⟨by rfl, ?_⟩) (by assumption) ?_
      · intro w' hS; go_simp; try with_reducible rfl
      simp only [Act.put, List.setIfInBounds_toArray, List.set_cons_zero, List.set_cons_succ]
      refine wpAnyH_take (i := 4) (oi := ⟨some 41, _, _, _, _, _⟩) (v := (.bool true)) rfl (by kernel_rfl) (by kernel_rfl) (by kernel_rfl) (fun _ _ _ h => h) (Or.inl ⟨by rfl, ?_⟩) (by assumption) ?_
      · intro w' hS; go_simp; try with_reducible rfl
      simp only [Act.put, List.setIfInBounds_toArray, List.set_cons_zero, List.set_cons_succ]
      refine wpAnyH_take (i := 5) (oi := ⟨some 42, _, _, _, _, _⟩) (v := undef) rfl (by kernel_rfl) (by kernel_rfl) (by kernel_rfl) (fun _ _ _ h => h) (Or.inr ⟨by rfl, rfl⟩) (by assumption) ?_
      simp only [Act.put, List.setIfInBounds_toArray, List.set_cons_zero, List.set_cons_succ]
      refine wpAnyH_take (i := 6) (oi := ⟨some 43, _, _, _, _, _⟩) (v := undef) rfl (by kernel_rfl) (by kernel_rfl) (by kernel_rfl) (fun _ _ _ h => h) (Or.inr ⟨by rfl, rfl⟩) (by assumption) ?_
      simp only [Act.put, List.setIfInBounds_toArray, List.set_cons_zero, List.set_cons_succ]
      refine wpAnyH_take (i := 7) (oi := ⟨some 44, _, _, _, _, _⟩) (v := undef) rfl (by kernel_rfl) (by kernel_rfl) (by kernel_rfl) (fun _ _ _ h => h) (Or.inr ⟨by rfl, rfl⟩) (by assumption) ?_
      simp only [Act.put, List.setIfInBounds_toArray, List.set_cons_zero, List.set_cons_succ]
      refine wpAnyH_take (i := 8) (oi := ⟨some 45, _, _, _, _, _⟩) (v := undef) rfl (by kernel_rfl) (by kernel_rfl) (by kernel_rfl) (fun _ _ _ h => h) (Or.inr ⟨by rfl, rfl⟩) (by assumption) ?_
      simp only [Act.put, List.setIfInBounds_toArray, List.set_cons_zero, List.set_cons_succ]
      refine wpAnyH_take (i := 9) (oi := ⟨some 46, _, _, _, _, _⟩) (v := undef) rfl (by kernel_rfl) (by kernel_rfl) (by kernel_rfl) (fun _ _ _ h => h) (Or.inr ⟨by rfl, rfl⟩) (by assumption) ?_
      simp only [Act.put, List.setIfInBounds_toArray, List.set_cons_zero, List.set_cons_succ]
      refine wpAnyH_take (i := 10) (oi := ⟨some 47, _, _, _, _, _⟩) (v := undef) rfl (by kernel_rfl) (by kernel_rfl) (by kernel_rfl) (fun _ _ _ h => h) (Or.inr ⟨by rfl, rfl⟩) (by assumption) ?_
      simp only [Act.put, List.setIfInBounds_toArray, List.set_cons_zero, List.set_cons_succ]
      refine wpAnyH_take (i := 11) (oi := ⟨some 48, _, _, _, _, _⟩) (v := (.bool true)) rfl (by kernel_rfl) (by kernel_rfl) (by kernel_rfl) (fun _ _ _ h => h) (Or.inl ⟨by rfl, ?_⟩) (by assumption) ?_
      · intro w' hS; go_simp; try with_reducible rfl
      simp only [Act.put, List.setIfInBounds_toArray, List.set_cons_zero, List.set_cons_succ]
      refine wpAnyH_done (by kernel_rfl) ?_ _
      simp only [onN]
      have f0 : W.frozen? ⟨R, 0, none⟩ = false := BRW.out.frozen 0
      have g0 : W.cell? ⟨R, 0, none⟩ = some (.bool false) := BRW.out.cell 0
      gi_wp2
      exact ⟨((KeepsOthers.drew _).trans (KeepsOthers.setCell _ _ _)).from _, rfl, HN2.out⟩
  case done =>
    rintro D xs W hD rfl ⟨-, bA, hB⟩ hK
    have BAW := Lib.hid bA
    have HBW := Lib.hid hB
    have BWW : Hid (Blk W P1 32 [.slice A (gatesF N).length c]) := Lib.hid (BW.out.below hB (by omega))
    have BRW : Hid (Blk W R 4 [.bool false]) := Lib.hid (BR.out.below hB (by have := HRP.out; omega))
    have HK1 := Lib.hid hK
    have HD1 : Hid (P1 + 3 ≤ D ∧ D < W.heap.size) := Lib.hid ⟨by have := HSZ.out; omega, (Array.getElem?_eq_some_iff.1 hK).1⟩
    have ca : W.cell? ⟨P1 + 1 + 1, 0, none⟩ = some (.int .i64 ((gatesF N).length : Nat)) := bA.cell 0
    have cw : W.cell? ⟨P1, 0, none⟩ = some (.slice A (gatesF N).length c) := BWW.out.cell 0
    have fa : W.frozen? ⟨P1 + 1 + 1, 0, none⟩ = false := bA.frozen 0
    have hsz2 : P1 + 1 + 1 < W.heap.size := Blk.lt bA
    clear bA hB hK hD
    gi_wp2
    obtain ⟨mm, hmm, hm40⟩ := most_ok E
    rw [hmm]
    have HM40 := Lib.hid hm40
    clear hmm hm40
    generalize hWM : ((W.setCell ⟨P1 + 1 + 1, 0, none⟩ (.int .i64 0)).alloc (.cells #[.int .i64 (mm : Int)] 3)) = wM
    have BA2 : Hid (Blk wM (P1 + 1 + 1) 3 [.int .i64 0]) := Lib.hid (hWM ▸ (Blk.alloc (Blk.set BAW.out 0 (.int .i64 0)) _))
    have BM : Hid (Blk wM W.heap.size 3 [.int .i64 (mm : Int)]) := Lib.hid (hWM ▸ (Blk.new_at (W.setCell ⟨P1 + 1 + 1, 0, none⟩ (.int .i64 0)) 3 [.int .i64 (mm : Int)] (by simp)))
    have HB2 : Hid (Below (P1 + 1 + 1) wL wM) := Lib.hid (hWM ▸ ((HBW.out.setCell (p := ⟨P1 + 1 + 1, 0, none⟩) (Nat.le_refl _) _).alloc (by simp; omega) _))
    have HKM : Hid (wM.heap[D]? = some (.deferred (some []))) := Lib.hid (hWM ▸ ((Below.heap_alloc _ _ D (by simp; have := HD1.out; omega)).trans ((Below.heap_setCell W ⟨P1 + 1 + 1, 0, none⟩ (.int .i64 0) D (by show D ≠ P1 + 1 + 1; have := HD1.out; omega)).trans HK1.out)))
    have HSM : Hid (W.heap.size < wM.heap.size ∧ D < W.heap.size ∧ P1 + 3 ≤ D) := Lib.hid ⟨Blk.lt BM.out, HD1.out.2, HD1.out.1⟩
    have BNM : Hid (Blk wM (P1 + 1) 3 [.int .i64 N]) := Lib.hid (BN.out.below HB2.out (by omega))
    have BWM : Hid (Blk wM P1 32 [.slice A (gatesF N).length c]) := Lib.hid (BW.out.below HB2.out (by omega))
    have BRM : Hid (Blk wM R 4 [.bool false]) := Lib.hid (BR.out.below HB2.out (by have := HRP.out; omega))
    clear hWM ca cw fa hsz2 HK1 HD1 BAW HBW BWW BRW
    generalize W.heap.size = Mb at *
    refine wpIn_rangeFunc_ownH rfl (by omega) (gf := 42) (lb := #[.pointer (some ⟨P1 + 1, 0, none⟩)]) rfl trivial (enters_of Try.func42 (by kernel_rfl) rfl)
      (gates_stops (8 - 1) (by omega) (P1 + 1) (P1 + 1 + 1) N wM (by omega) (by have := HSM.out; omega) (BNM.out.cell 0)) belowK_t (belowK_b (by have := HSM.out; omega)) (Below.refl _ _) (fun _ => rfl)
      (fun pre W => (pre <+: gatesF N ∧ pre.length ≤ mm) ∧ Blk W (P1 + 1 + 1) 3 [.int .i64 (pre.length : Nat)] ∧ Below (P1 + 1 + 1) wM W ∧ Blk W Mb 3 [.int .i64 (mm : Int)] ∧ W.heap[D]? = some (.deferred (some [])))
      (fun cd pre W => (cd = .ret ∧ ¬ pre <+: gatesF N) ∨ (cd = .exit 2 ∧ pre.length = mm + 1 ∧ Blk W (P1 + 1 + 1) 3 [.int .i64 (mm : Int)] ∧ Below (P1 + 1 + 1) wM W ∧ Blk W Mb 3 [.int .i64 (mm : Int)] ∧ W.heap[D]? = some (.deferred (some []))))
      (OwnFrom.and (ownFrom_pure _ _) (OwnFrom.and (Go.Own.from (blk_own _ _ _) _) (OwnFrom.and (ownFrom_below (by have := HSM.out; omega) (by have := HSM.out; omega)) (OwnFrom.and (Go.Own.from (blk_own _ _ _) _) (def_own (by have := HSM.out; omega))))))
      (fun cd pre X Y row hs hg hr => by
        rcases hs with hs | ⟨h1, h2, h3, h4, h5, h6⟩
        · exact .inl hs
        · exact .inr ⟨h1, h2, blk_own _ _ (fun (_ : Unit) => [Value.int .i64 (mm : Int)]) () X Y row h3 hg (fun r e => (hr r e).2), (ownFrom_below (β := Unit) (by have := HSM.out; omega) (by have := HSM.out; omega)) () X Y row h4 hg hr, blk_own _ _ (fun (_ : Unit) => [Value.int .i64 (mm : Int)]) () X Y row h5 hg (fun r e => (hr r e).2), (def_own (β := Unit) (by have := HSM.out; omega)) () X Y row h6 hg hr⟩)
      ⟨⟨⟨_, rfl⟩, Nat.zero_le _⟩, BA2.out, Below.refl _ _, BM.out, HKM.out⟩
      (fun x a' W => ∃ Bx, Mb < Bx ∧ Blk W Bx 38 [.int .i64 x.1, .int .i64 x.2] ∧ a' = { tmps := #[.int .i64 N, .int .i64 E, undef, undef, .pointer (some ⟨R, 0, none⟩), .pointer (some ⟨P1, 0, none⟩), (.func (.func 42) #[] #[.pointer (some ⟨P1 + 1, 0, none⟩)]), .pointer (some ⟨P1 + 1 + 1, 0, none⟩), undef, .pointer (some ⟨Mb, 0, none⟩), .pointer (some ⟨Bx, 0, none⟩), .int .i64 N, .slice A (gatesF N).length c, .int .i64 N, (.func (.func 42) #[] #[.pointer (some ⟨P1 + 1, 0, none⟩)]), .int .i64 N, .int .i64 (padF N), .int .i64 N, .int .i64 (padF N), .bool false, .bool false, .int .i64 N, .int .i64 ((gatesF N).length : Nat), .slice A (gatesF N).length c, .int .i64 ((gatesF N).length : Nat), .bool false, .bool false, .bool false, (.func (.func 42) #[] #[.pointer (some ⟨P1 + 1, 0, none⟩)]), .bool false, .bool false, .bool false, .int .i64 8, .bool false, .bool false, (.func (.func 42) #[] #[.pointer (some ⟨P1 + 1, 0, none⟩)]), undef, undef, undef, undef, undef, undef, undef, undef, undef, undef, undef, undef, undef, undef, undef, .int .i64 ((gatesF N).length : Nat), .slice A (gatesF N).length c, .int .i64 ((gatesF N).length : Nat), .bool false, .int .i64 E, .int .u64 (IntKind.u64.wrap E), .int .u64 ((IntKind.u64.wrap E).tmod 40), .int .i64 (mm : Int), (.func (.func 42) #[] #[.pointer (some ⟨P1 + 1, 0, none⟩)]), .agg #[.int .i64 x.1, .int .i64 x.2], undef, undef, undef, undef, undef, undef, undef, undef, undef, undef, undef, undef, undef, undef, undef, undef, undef, undef, undef, undef, undef, undef, undef, undef, undef, undef, undef], defers := [] })
      (fun x a' _ X Y row hs hg hr => by obtain ⟨Bx, h1, h2, h3⟩ := hs; exact ⟨Bx, h1, blk_own Bx 38 (fun (_ : Unit) => [Value.int .i64 x.1, Value.int .i64 x.2]) () X Y row h2 hg (fun r e => (hr r e).2), h3⟩)
      ?assign2 ?body2 ?done2 ?stop2
    case assign2 =>
      rintro l pre x W K ⟨hp, bA, hB, bM, hk⟩ hK
      have hlt := Blk.lt bM
      have KK := Lib.hid hK
      have hk2 := Lib.hid hk
      clear hK hk
      unfold encH
      gi_wp2
      exact KK.out _ _ ((KeepsOthers.alloc _ _).from _) ((Below.refl _ W).alloc (by have := hB.size; have := HSM.out; omega) _) ⟨hp, Blk.alloc bA _, hB.alloc (by have := hB.size; have := HSM.out; omega) _, Blk.alloc bM _, (Below.heap_alloc _ _ D (Array.getElem?_eq_some_iff.1 hk2.out).1).trans hk2.out⟩ ⟨W.heap.size, by omega, Blk.new W 38 [.int .i64 x.1, .int .i64 x.2], rfl⟩
    case body2 =>
      rintro l pre x a' W hl - ⟨⟨hp, hpm⟩, bA, hB, bM, hk⟩ ⟨Bx, hBx, bX, rfl⟩ -
      have BAW := Lib.hid bA
      have BXW := Lib.hid bX
      have BMW := Lib.hid bM
      have HKW := Lib.hid hk
      have HBW : Hid (Below (P1 + 1 + 1) wL W) := Lib.hid (HB2.out.trans hB)
      have HBM := Lib.hid hB
      have BWW : Hid (Blk W P1 32 [.slice A (gatesF N).length c]) := Lib.hid (BWM.out.below hB (by omega))
      have BRW : Hid (Blk W R 4 [.bool false]) := Lib.hid (BRM.out.below hB (by have := HRP.out; omega))
      have HP := Lib.hid hp
      have HPM := Lib.hid hpm
      have ca : W.cell? ⟨P1 + 1 + 1, 0, none⟩ = some (.int .i64 (pre.length : Nat)) := bA.cell 0
      have cm : W.cell? ⟨Mb, 0, none⟩ = some (.int .i64 (mm : Int)) := bM.cell 0
      clear hp bA hB bX hl hk bM hpm
      by_cases hstop : pre.length = mm
      · have hd : ((pre.length : Int) == (mm : Int)) = true := by simp [hstop]
        have BA3 : Hid (Blk W (P1 + 1 + 1) 3 [.int .i64 (mm : Int)]) := Lib.hid (hstop ▸ BAW.out)
        gi_wp2
        exact ⟨(KeepsOthers.refl _).from _, .inr ⟨rfl, by simp; omega, BA3.out, HBM.out, BMW.out, HKW.out⟩⟩
      · have hd : ((pre.length : Int) == (mm : Int)) = false := by simp; omega
        have HPL : Hid (pre.length + 1 ≤ mm) := Lib.hid (by have := HPM.out; omega)
        clear hstop
        gi_wp2
        clear ca cm hd
        by_cases hat : pre.length < (gatesF N).length
        · obtain ⟨bb, off, hA, hbl, y0, y1⟩ := O2.out pre.length hat
          subst hA
          have hb1 : decide (((gatesF N).length : Int) ≤ (pre.length : Int)) = false := by simp; omega
          have hb2 : (pre.length : Int) < ((gatesF N).length : Int) := by omega
          have Y0 : Hid (W.cell? ⟨bb, off + pre.length * 2, none⟩ = some (.int .i64 ((gatesF N).getD pre.length (0, 0)).1)) := Lib.hid ((HBW.out.cell (p := ⟨bb, _, none⟩) (by show bb < P1 + 1 + 1; omega)).trans y0)
          have Y1 : Hid (W.cell? ⟨bb, off + pre.length * 2 + 1, none⟩ = some (.int .i64 ((gatesF N).getD pre.length (0, 0)).2)) := Lib.hid ((HBW.out.cell (p := ⟨bb, _, none⟩) (by show bb < P1 + 1 + 1; omega)).trans y1)
          clear y0 y1 hbl
          by_cases hx : x = (gatesF N).getD pre.length (0, 0)
          · have HX := Lib.hid hx
            have HP2 : Hid (pre ++ [x] <+: gatesF N) := Lib.hid (pref_snoc HP.out hat hx)
            obtain ⟨x1, x2⟩ := x
            obtain ⟨y1, hy1⟩ : ∃ y, ((gatesF N).getD pre.length (0, 0)).1 = y := ⟨_, rfl⟩
            obtain ⟨y2, hy2⟩ : ∃ y, ((gatesF N).getD pre.length (0, 0)).2 = y := ⟨_, rfl⟩
            rw [hy1] at Y0
            rw [hy2] at Y1
            have RN : Hid (x1 = y1 ∧ x2 = y2) := Lib.hid (by rw [← hy1, ← hy2, ← hx]; simp)
            clear hx hy1 hy2
            dsimp only at BXW ⊢
            refine region_round (S := fun w' => w'.heap = W.heap) (by kernel_rfl) (by kernel_rfl) rfl (fun hHeld => ?_)
            refine wpAnyH_take (i := 0) (oi := ⟨some 64, _, _, _, _, _⟩) (v := (.int .i64 (pre.length : Nat))) rfl (by kernel_rfl) (by kernel_rfl) (by kernel_rfl) (fun _ _ _ h => h) (Or.inl ⟨by rfl, ?_⟩) (by assumption) ?_
            · intro w' hS; have z0 : w'.cell? ⟨P1 + 1 + 1, 0, none⟩ = some (.int .i64 (pre.length : Nat)) := (World.cell?_of_block (w := W) (w' := w') (by rw [hS])).trans (BAW.out.cell 0); go_simp; try with_reducible rfl
            simp only [Act.put, List.setIfInBounds_toArray, List.set_cons_zero, List.set_cons_succ]
            refine wpAnyH_take (i := 1) (oi := ⟨some 65, _, _, _, _, _⟩) (v := (.slice (some ⟨bb, off, none⟩) (gatesF N).length c)) rfl (by kernel_rfl) (by kernel_rfl) (by kernel_rfl) (fun _ _ _ h => h) (Or.inl ⟨by rfl, ?_⟩) (by assumption) ?_
            · intro w' hS; have z0 : w'.cell? ⟨P1, 0, none⟩ = some (.slice (some ⟨bb, off, none⟩) (gatesF N).length c) := (World.cell?_of_block (w := W) (w' := w') (by rw [hS])).trans (BWW.out.cell 0); go_simp; try with_reducible rfl
            simp only [Act.put, List.setIfInBounds_toArray, List.set_cons_zero, List.set_cons_succ]
            refine wpAnyH_take (i := 2) (oi := ⟨some 66, _, _, _, _, _⟩) (v := (.int .i64 ((gatesF N).length : Nat))) rfl (by kernel_rfl) (by kernel_rfl) (by kernel_rfl) (fun _ _ _ h => h) (Or.inl ⟨by rfl, ?_⟩) (by assumption) ?_
            · intro w' hS; go_simp; try with_reducible rfl
            simp only [Act.put, List.setIfInBounds_toArray, List.set_cons_zero, List.set_cons_succ]
            refine wpAnyH_take (i := 3) (oi := ⟨some 67, _, _, _, _, _⟩) (v := (.bool false)) rfl (by kernel_rfl) (by kernel_rfl) (by kernel_rfl) (fun _ _ _ h => h) (Or.inl ⟨by rfl, ?_⟩) (by assumption) ?_
            · intro w' hS; go_simp; try with_reducible rfl
            simp only [Act.put, List.setIfInBounds_toArray, List.set_cons_zero, List.set_cons_succ]
            refine wpAnyH_take (i := 4) (oi := ⟨some 68, _, _, _, _, _⟩) (v := (.bool false)) rfl (by kernel_rfl) (by kernel_rfl) (by kernel_rfl) (fun _ _ _ h => h) (Or.inl ⟨by rfl, ?_⟩) (by assumption) ?_
            · intro w' hS; go_simp; try with_reducible rfl
            simp only [Act.put, List.setIfInBounds_toArray, List.set_cons_zero, List.set_cons_succ]
            refine wpAnyH_take (i := 5) (oi := ⟨some 69, _, _, _, _, _⟩) (v := (.agg #[.int .i64 x1, .int .i64 x2])) rfl (by kernel_rfl) (by kernel_rfl) (by kernel_rfl) (fun _ _ _ h => h) (Or.inl ⟨by rfl, ?_⟩) (by assumption) ?_
            · intro w' hS; have z0 : w'.cell? ⟨Bx, 0, none⟩ = some (.int .i64 x1) := (World.cell?_of_block (w := W) (w' := w') (by rw [hS])).trans (BXW.out.cell 0); have z1 : w'.cell? ⟨Bx, 1, none⟩ = some (.int .i64 x2) := (World.cell?_of_block (w := W) (w' := w') (by rw [hS])).trans (BXW.out.cell 1); go_simp; try with_reducible rfl
            simp only [Act.put, List.setIfInBounds_toArray, List.set_cons_zero, List.set_cons_succ]
            refine wpAnyH_take (i := 6) (oi := ⟨some 70, _, _, _, _, _⟩) (v := (.slice (some ⟨bb, off, none⟩) (gatesF N).length c)) rfl (by kernel_rfl) (by kernel_rfl) (by kernel_rfl) (fun _ _ _ h => h) (Or.inl ⟨by rfl, ?_⟩) (by assumption) ?_
            · intro w' hS; have z0 : w'.cell? ⟨P1, 0, none⟩ = some (.slice (some ⟨bb, off, none⟩) (gatesF N).length c) := (World.cell?_of_block (w := W) (w' := w') (by rw [hS])).trans (BWW.out.cell 0); go_simp; try with_reducible rfl
            simp only [Act.put, List.setIfInBounds_toArray, List.set_cons_zero, List.set_cons_succ]
            refine wpAnyH_take (i := 7) (oi := ⟨some 71, _, _, _, _, _⟩) (v := (.int .i64 (pre.length : Nat))) rfl (by kernel_rfl) (by kernel_rfl) (by kernel_rfl) (fun _ _ _ h => h) (Or.inl ⟨by rfl, ?_⟩) (by assumption) ?_
            · intro w' hS; have z0 : w'.cell? ⟨P1 + 1 + 1, 0, none⟩ = some (.int .i64 (pre.length : Nat)) := (World.cell?_of_block (w := W) (w' := w') (by rw [hS])).trans (BAW.out.cell 0); go_simp; try with_reducible rfl
            simp only [Act.put, List.setIfInBounds_toArray, List.set_cons_zero, List.set_cons_succ]
            refine wpAnyH_take (i := 8) (oi := ⟨some 72, _, _, _, _, _⟩) (v := (.pointer (some ⟨bb, off + pre.length * 2, none⟩))) rfl (by kernel_rfl) (by kernel_rfl) (by kernel_rfl) (fun _ _ _ h => h) (Or.inl ⟨by rfl, ?_⟩) (by assumption) ?_
            · intro w' hS; go_simp; try with_reducible rfl
            simp only [Act.put, List.setIfInBounds_toArray, List.set_cons_zero, List.set_cons_succ]
            refine wpAnyH_take (i := 9) (oi := ⟨some 73, _, _, _, _, _⟩) (v := (.agg #[.int .i64 y1, .int .i64 y2])) rfl (by kernel_rfl) (by kernel_rfl) (by kernel_rfl) (fun _ _ _ h => h) (Or.inl ⟨by rfl, ?_⟩) (by assumption) ?_
            · intro w' hS; have z0 : w'.cell? ⟨bb, off + pre.length * 2, none⟩ = some (.int .i64 y1) := (World.cell?_of_block (w := W) (w' := w') (by rw [hS])).trans (Y0.out); have z1 : w'.cell? ⟨bb, off + pre.length * 2 + 1, none⟩ = some (.int .i64 y2) := (World.cell?_of_block (w := W) (w' := w') (by rw [hS])).trans (Y1.out); go_simp; try with_reducible rfl
            simp only [Act.put, List.setIfInBounds_toArray, List.set_cons_zero, List.set_cons_succ]
            refine wpAnyH_take (i := 10) (oi := ⟨some 74, _, _, _, _, _⟩) (v := (.bool false)) rfl (by kernel_rfl) (by kernel_rfl) (by kernel_rfl) (fun _ _ _ h => h) (Or.inl ⟨by rfl, ?_⟩) (by assumption) ?_
            · intro w' hS; obtain ⟨e1, e2⟩ := RN.out; go_simp; try with_reducible rfl
            simp only [Act.put, List.setIfInBounds_toArray, List.set_cons_zero, List.set_cons_succ]
            refine wpAnyH_take (i := 11) (oi := ⟨some 75, _, _, _, _, _⟩) (v := (.bool false)) rfl (by kernel_rfl) (by kernel_rfl) (by kernel_rfl) (fun _ _ _ h => h) (Or.inl ⟨by rfl, ?_⟩) (by assumption) ?_
            · intro w' hS; go_simp; try with_reducible rfl
            simp only [Act.put, List.setIfInBounds_toArray, List.set_cons_zero, List.set_cons_succ]
            refine wpAnyH_done (by kernel_rfl) ?_ _
            simp only [onN]
            have f0 : W.frozen? ⟨P1 + 1 + 1, 0, none⟩ = false := BAW.out.frozen 0
            have g0 : W.cell? ⟨P1 + 1 + 1, 0, none⟩ = some (.int .i64 (pre.length : Nat)) := BAW.out.cell 0
            have m1 : IntKind.i64.wrap ((pre.length : Int) + 1) = ((pre.length + 1 : Nat) : Int) := by have := HLEN.out; rw [IntKind.wrap_i64] <;> omega
            gi_wp2
            exact ⟨((KeepsOthers.drew _).trans (KeepsOthers.setCell _ _ _)).from _, ((Below.refl (P1 + 1 + 1) W).drew).setCell (p := ⟨P1 + 1 + 1, 0, none⟩) (Nat.le_refl _) _, ⟨HP2.out, by rw [List.length_append]; exact HPL.out⟩, by rw [List.length_append]; exact Blk.set (w := W.drew) BAW.out 0 _, (HBM.out.drew).setCell (p := ⟨P1 + 1 + 1, 0, none⟩) (Nat.le_refl _) _, Blk.other (w := W.drew) BMW.out (by show Mb ≠ P1 + 1 + 1; have := HSM.out; omega) _, (Below.heap_setCell W.drew ⟨P1 + 1 + 1, 0, none⟩ _ D (by show D ≠ P1 + 1 + 1; have := HSM.out; omega)).trans HKW.out⟩
          · have HN2 : Hid (¬ pre ++ [x] <+: gatesF N) := Lib.hid (pref_not hat hx)
            obtain ⟨x1, x2⟩ := x
            obtain ⟨y1, hy1⟩ : ∃ y, ((gatesF N).getD pre.length (0, 0)).1 = y := ⟨_, rfl⟩
            obtain ⟨y2, hy2⟩ : ∃ y, ((gatesF N).getD pre.length (0, 0)).2 = y := ⟨_, rfl⟩
            rw [hy1] at Y0
            rw [hy2] at Y1
            have RN : Hid (¬ x1 = y1 ∨ (x1 = y1 ∧ ¬ x2 = y2)) := Lib.hid (by
              by_cases h1 : x1 = y1
              · by_cases h2 : x2 = y2
                · exact absurd (by rw [Prod.ext_iff]; exact ⟨h1.trans hy1.symm, h2.trans hy2.symm⟩) hx
                · exact .inr ⟨h1, h2⟩
              · exact .inl h1)
            clear hx hy1 hy2
            dsimp only at BXW ⊢
            refine region_round (S := fun w' => w'.heap = W.heap) (by kernel_rfl) (by kernel_rfl) rfl (fun hHeld => ?_)
            refine wpAnyH_take (i := 0) (oi := ⟨some 64, _, _, _, _, _⟩) (v := (.int .i64 (pre.length : Nat))) rfl (by kernel_rfl) (by kernel_rfl) (by kernel_rfl) (fun _ _ _ h => h) (Or.inl ⟨by rfl, ?_⟩) (by assumption) ?_
            · intro w' hS; have z0 : w'.cell? ⟨P1 + 1 + 1, 0, none⟩ = some (.int .i64 (pre.length : Nat)) := (World.cell?_of_block (w := W) (w' := w') (by rw [hS])).trans (BAW.out.cell 0); go_simp; try with_reducible rfl
            simp only [Act.put, List.setIfInBounds_toArray, List.set_cons_zero, List.set_cons_succ]
            refine wpAnyH_take (i := 1) (oi := ⟨some 65, _, _, _, _, _⟩) (v := (.slice (some ⟨bb, off, none⟩) (gatesF N).length c)) rfl (by kernel_rfl) (by kernel_rfl) (by kernel_rfl) (fun _ _ _ h => h) (Or.inl ⟨by rfl, ?_⟩) (by assumption) ?_
            · intro w' hS; have z0 : w'.cell? ⟨P1, 0, none⟩ = some (.slice (some ⟨bb, off, none⟩) (gatesF N).length c) := (World.cell?_of_block (w := W) (w' := w') (by rw [hS])).trans (BWW.out.cell 0); go_simp; try with_reducible rfl
            simp only [Act.put, List.setIfInBounds_toArray, List.set_cons_zero, List.set_cons_succ]
            refine wpAnyH_take (i := 2) (oi := ⟨some 66, _, _, _, _, _⟩) (v := (.int .i64 ((gatesF N).length : Nat))) rfl (by kernel_rfl) (by kernel_rfl) (by kernel_rfl) (fun _ _ _ h => h) (Or.inl ⟨by rfl, ?_⟩) (by assumption) ?_
            · intro w' hS; go_simp; try with_reducible rfl
            simp only [Act.put, List.setIfInBounds_toArray, List.set_cons_zero, List.set_cons_succ]
            refine wpAnyH_take (i := 3) (oi := ⟨some 67, _, _, _, _, _⟩) (v := (.bool false)) rfl (by kernel_rfl) (by kernel_rfl) (by kernel_rfl) (fun _ _ _ h => h) (Or.inl ⟨by rfl, ?_⟩) (by assumption) ?_
            · intro w' hS; go_simp; try with_reducible rfl
            simp only [Act.put, List.setIfInBounds_toArray, List.set_cons_zero, List.set_cons_succ]
            refine wpAnyH_take (i := 4) (oi := ⟨some 68, _, _, _, _, _⟩) (v := (.bool false)) rfl (by kernel_rfl) (by kernel_rfl) (by kernel_rfl) (fun _ _ _ h => h) (Or.inl ⟨by rfl, ?_⟩) (by assumption) ?_
            · intro w' hS; go_simp; try with_reducible rfl
            simp only [Act.put, List.setIfInBounds_toArray, List.set_cons_zero, List.set_cons_succ]
            refine wpAnyH_take (i := 5) (oi := ⟨some 69, _, _, _, _, _⟩) (v := (.agg #[.int .i64 x1, .int .i64 x2])) rfl (by kernel_rfl) (by kernel_rfl) (by kernel_rfl) (fun _ _ _ h => h) (Or.inl ⟨by rfl, ?_⟩) (by assumption) ?_
            · intro w' hS; have z0 : w'.cell? ⟨Bx, 0, none⟩ = some (.int .i64 x1) := (World.cell?_of_block (w := W) (w' := w') (by rw [hS])).trans (BXW.out.cell 0); have z1 : w'.cell? ⟨Bx, 1, none⟩ = some (.int .i64 x2) := (World.cell?_of_block (w := W) (w' := w') (by rw [hS])).trans (BXW.out.cell 1); go_simp; try with_reducible rfl
            simp only [Act.put, List.setIfInBounds_toArray, List.set_cons_zero, List.set_cons_succ]
            refine wpAnyH_take (i := 6) (oi := ⟨some 70, _, _, _, _, _⟩) (v := (.slice (some ⟨bb, off, none⟩) (gatesF N).length c)) rfl (by kernel_rfl) (by kernel_rfl) (by kernel_rfl) (fun _ _ _ h => h) (Or.inl ⟨by rfl, ?_⟩) (by assumption) ?_
            · intro w' hS; have z0 : w'.cell? ⟨P1, 0, none⟩ = some (.slice (some ⟨bb, off, none⟩) (gatesF N).length c) := (World.cell?_of_block (w := W) (w' := w') (by rw [hS])).trans (BWW.out.cell 0); go_simp; try with_reducible rfl
            simp only [Act.put, List.setIfInBounds_toArray, List.set_cons_zero, List.set_cons_succ]
            refine wpAnyH_take (i := 7) (oi := ⟨some 71, _, _, _, _, _⟩) (v := (.int .i64 (pre.length : Nat))) rfl (by kernel_rfl) (by kernel_rfl) (by kernel_rfl) (fun _ _ _ h => h) (Or.inl ⟨by rfl, ?_⟩) (by assumption) ?_
            · intro w' hS; have z0 : w'.cell? ⟨P1 + 1 + 1, 0, none⟩ = some (.int .i64 (pre.length : Nat)) := (World.cell?_of_block (w := W) (w' := w') (by rw [hS])).trans (BAW.out.cell 0); go_simp; try with_reducible rfl
            simp only [Act.put, List.setIfInBounds_toArray, List.set_cons_zero, List.set_cons_succ]
            refine wpAnyH_take (i := 8) (oi := ⟨some 72, _, _, _, _, _⟩) (v := (.pointer (some ⟨bb, off + pre.length * 2, none⟩))) rfl (by kernel_rfl) (by kernel_rfl) (by kernel_rfl) (fun _ _ _ h => h) (Or.inl ⟨by rfl, ?_⟩) (by assumption) ?_
            · intro w' hS; go_simp; try with_reducible rfl
            simp only [Act.put, List.setIfInBounds_toArray, List.set_cons_zero, List.set_cons_succ]
            refine wpAnyH_take (i := 9) (oi := ⟨some 73, _, _, _, _, _⟩) (v := (.agg #[.int .i64 y1, .int .i64 y2])) rfl (by kernel_rfl) (by kernel_rfl) (by kernel_rfl) (fun _ _ _ h => h) (Or.inl ⟨by rfl, ?_⟩) (by assumption) ?_
            · intro w' hS; have z0 : w'.cell? ⟨bb, off + pre.length * 2, none⟩ = some (.int .i64 y1) := (World.cell?_of_block (w := W) (w' := w') (by rw [hS])).trans (Y0.out); have z1 : w'.cell? ⟨bb, off + pre.length * 2 + 1, none⟩ = some (.int .i64 y2) := (World.cell?_of_block (w := W) (w' := w') (by rw [hS])).trans (Y1.out); go_simp; try with_reducible rfl
            simp only [Act.put, List.setIfInBounds_toArray, List.set_cons_zero, List.set_cons_succ]
            refine wpAnyH_take (i := 10) (oi := ⟨some 74, _, _, _, _, _⟩) (v := (.bool true)) rfl (by kernel_rfl) (by kernel_rfl) (by kernel_rfl) (fun _ _ _ h => h) (Or.inl ⟨by rfl, ?_⟩) (by assumption) ?_
            · intro w' hS; rcases RN.out with e1 | ⟨e1, e2⟩ <;> (go_simp; try with_reducible rfl)
            simp only [Act.put, List.setIfInBounds_toArray, List.set_cons_zero, List.set_cons_succ]
            refine wpAnyH_take (i := 11) (oi := ⟨some 75, _, _, _, _, _⟩) (v := (.bool true)) rfl (by kernel_rfl) (by kernel_rfl) (by kernel_rfl) (fun _ _ _ h => h) (Or.inl ⟨by rfl, ?_⟩) (by assumption) ?_
            · intro w' hS; go_simp; try with_reducible rfl
            simp only [Act.put, List.setIfInBounds_toArray, List.set_cons_zero, List.set_cons_succ]
            refine wpAnyH_done (by kernel_rfl) ?_ _
            simp only [onN]
            have f0 : W.frozen? ⟨R, 0, none⟩ = false := BRW.out.frozen 0
            have g0 : W.cell? ⟨R, 0, none⟩ = some (.bool false) := BRW.out.cell 0
            gi_wp2
            exact ⟨((KeepsOthers.drew _).trans (KeepsOthers.setCell _ _ _)).from _, (.inl ⟨rfl, HN2.out⟩)⟩
        · have HN2 : Hid (¬ pre ++ [x] <+: gatesF N) := Lib.hid (fun h => by have := h.length_le; simp at this; omega)
          have hb1 : decide (((gatesF N).length : Int) ≤ (pre.length : Int)) = true := by simp; omega
          have hb3 : (gatesF N).length ≤ pre.length := by omega
          refine region_round (S := fun w' => w'.heap = W.heap) (by kernel_rfl) (by kernel_rfl) rfl (fun hHeld => ?_)
          refine wpAnyH_take (i := 0) (oi := ⟨some 64, _, _, _, _, _⟩) (v := (.int .i64 (pre.length : Nat))) rfl (by kernel_rfl) (by kernel_rfl) (by kernel_rfl) (fun _ _ _ h => h) (Or.inl ⟨by rfl, ?_⟩) (by assumption) ?_
          · intro w' hS; have z0 : w'.cell? ⟨P1 + 1 + 1, 0, none⟩ = some (.int .i64 (pre.length : Nat)) := (World.cell?_of_block (w := W) (w' := w') (by rw [hS])).trans (BAW.out.cell 0); go_simp; try with_reducible rfl
          simp only [Act.put, List.setIfInBounds_toArray, List.set_cons_zero, List.set_cons_succ]
          refine wpAnyH_take (i := 1) (oi := ⟨some 65, _, _, _, _, _⟩) (v := (.slice A (gatesF N).length c)) rfl (by kernel_rfl) (by kernel_rfl) (by kernel_rfl) (fun _ _ _ h => h) (Or.inl ⟨by rfl, ?_⟩) (by assumption) ?_
          · intro w' hS; have z0 : w'.cell? ⟨P1, 0, none⟩ = some (.slice A (gatesF N).length c) := (World.cell?_of_block (w := W) (w' := w') (by rw [hS])).trans (BWW.out.cell 0); go_simp; try with_reducible rfl
          simp only [Act.put, List.setIfInBounds_toArray, List.set_cons_zero, List.set_cons_succ]
          refine wpAnyH_take (i := 2) (oi := ⟨some 66, _, _, _, _, _⟩) (v := (.int .i64 ((gatesF N).length : Nat))) rfl (by kernel_rfl) (by kernel_rfl) (by kernel_rfl) (fun _ _ _ h => h) (Or.inl ⟨by rfl, ?_⟩) (by assumption) ?_
          · intro w' hS; go_simp; try with_reducible rfl
          simp only [Act.put, List.setIfInBounds_toArray, List.set_cons_zero, List.set_cons_succ]
          refine wpAnyH_take (i := 3) (oi := ⟨some 67, _, _, _, _, _⟩) (v := (.bool true)) rfl (by kernel_rfl) (by kernel_rfl) (by kernel_rfl) (fun _ _ _ h => h) (Or.inl ⟨by rfl, ?_⟩) (by assumption) ?_
          · intro w' hS; go_simp; try with_reducible rfl
          simp only [Act.put, List.setIfInBounds_toArray, List.set_cons_zero, List.set_cons_succ]
          refine wpAnyH_take (i := 4) (oi := ⟨some 68, _, _, _, _, _⟩) (v := (.bool true)) rfl (by kernel_rfl) (by kernel_rfl) (by kernel_rfl) (fun _ _ _ h => h) (Or.inl ⟨by rfl, ?_⟩) (by assumption) ?_
          · intro w' hS; go_simp; try with_reducible rfl
          simp only [Act.put, List.setIfInBounds_toArray, List.set_cons_zero, List.set_cons_succ]
          refine wpAnyH_take (i := 5) (oi := ⟨some 69, _, _, _, _, _⟩) (v := undef) rfl (by kernel_rfl) (by kernel_rfl) (by kernel_rfl) (fun _ _ _ h => h) (Or.inr ⟨by rfl, rfl⟩) (by assumption) ?_
          simp only [Act.put, List.setIfInBounds_toArray, List.set_cons_zero, List.set_cons_succ]
          refine wpAnyH_take (i := 6) (oi := ⟨some 70, _, _, _, _, _⟩) (v := undef) rfl (by kernel_rfl) (by kernel_rfl) (by kernel_rfl) (fun _ _ _ h => h) (Or.inr ⟨by rfl, rfl⟩) (by assumption) ?_
          simp only [Act.put, List.setIfInBounds_toArray, List.set_cons_zero, List.set_cons_succ]
          refine wpAnyH_take (i := 7) (oi := ⟨some 71, _, _, _, _, _⟩) (v := undef) rfl (by kernel_rfl) (by kernel_rfl) (by kernel_rfl) (fun _ _ _ h => h) (Or.inr ⟨by rfl, rfl⟩) (by assumption) ?_
          simp only [Act.put, List.setIfInBounds_toArray, List.set_cons_zero, List.set_cons_succ]
          refine wpAnyH_take (i := 8) (oi := ⟨some 72, _, _, _, _, _⟩) (v := undef) rfl (by kernel_rfl) (by kernel_rfl) (by kernel_rfl) (fun _ _ _ h => h) (Or.inr ⟨by rfl, rfl⟩) (by assumption) ?_
          simp only [Act.put, List.setIfInBounds_toArray, List.set_cons_zero, List.set_cons_succ]
          refine wpAnyH_take (i := 9) (oi := ⟨some 73, _, _, _, _, _⟩) (v := undef) rfl (by kernel_rfl) (by kernel_rfl) (by kernel_rfl) (fun _ _ _ h => h) (Or.inr ⟨by rfl, rfl⟩) (by assumption) ?_
          simp only [Act.put, List.setIfInBounds_toArray, List.set_cons_zero, List.set_cons_succ]
          refine wpAnyH_take (i := 10) (oi := ⟨some 74, _, _, _, _, _⟩) (v := undef) rfl (by kernel_rfl) (by kernel_rfl) (by kernel_rfl) (fun _ _ _ h => h) (Or.inr ⟨by rfl, rfl⟩) (by assumption) ?_
          simp only [Act.put, List.setIfInBounds_toArray, List.set_cons_zero, List.set_cons_succ]
          refine wpAnyH_take (i := 11) (oi := ⟨some 75, _, _, _, _, _⟩) (v := (.bool true)) rfl (by kernel_rfl) (by kernel_rfl) (by kernel_rfl) (fun _ _ _ h => h) (Or.inl ⟨by rfl, ?_⟩) (by assumption) ?_
          · intro w' hS; go_simp; try with_reducible rfl
          simp only [Act.put, List.setIfInBounds_toArray, List.set_cons_zero, List.set_cons_succ]
          refine wpAnyH_done (by kernel_rfl) ?_ _
          simp only [onN]
          have f0 : W.frozen? ⟨R, 0, none⟩ = false := BRW.out.frozen 0
          have g0 : W.cell? ⟨R, 0, none⟩ = some (.bool false) := BRW.out.cell 0
          gi_wp2
          exact ⟨((KeepsOthers.drew _).trans (KeepsOthers.setCell _ _ _)).from _, (.inl ⟨rfl, HN2.out⟩)⟩
    case done2 =>
      rintro D2 xs W hD rfl ⟨⟨-, hlm⟩, bA, hB, bM, hk⟩ hK
      have ca : W.cell? ⟨P1 + 1 + 1, 0, none⟩ = some (.int .i64 ((gatesF N).length : Nat)) := bA.cell 0
      have cm : W.cell? ⟨Mb, 0, none⟩ = some (.int .i64 (mm : Int)) := bM.cell 0
      have cw : W.cell? ⟨P1, 0, none⟩ = some (.slice A (gatesF N).length c) := (BWM.out.below hB (by omega)).cell 0
      have cr : W.cell? ⟨R, 0, none⟩ = some (.bool false) := (BRM.out.below hB (by have := HRP.out; omega)).cell 0
      have fr : W.frozen? ⟨R, 0, none⟩ = false := (BRM.out.below hB (by have := HRP.out; omega)).frozen 0
      have BRW := Lib.hid (BRM.out.below hB (by have := HRP.out; omega))
      have HK2 := Lib.hid hK
      have HKW := Lib.hid hk
      have HBW : Hid (Below w.heap.size w W) := Lib.hid (HB1.out.trans ((HB2.out.trans hB).mono (by have := HRP.out; have := HRE.out; omega)))
      have hle : ((gatesF N).length : Int) ≤ (mm : Int) := by omega
      have HDD : Hid (D2 ≠ D ∧ P1 + 3 ≤ D ∧ D < D2 ∧ R < P1) := Lib.hid ⟨by have := HSM.out; omega, HSM.out.2.2, by have := HSM.out; omega, HRP.out⟩
      clear bA bM hB hk hK hlm
      gi_wp2_with (refine ⟨trivial, ?_⟩; gi_at_call 14; refine (callsIn_wide.2 (gates8 _)).mono ?_; rintro e w' ⟨rfl, hww⟩; obtain rfl : W = w' := hww.symm)
      all_goals
        rename_i hmin
        first
          | exact absurd hmin (by omega)
          | (try rw [show ((((gatesF N).length : Nat) : Int) == ((mm : Nat) : Int)) = true from by simp; omega]
             exact leave4 w _ R D D2 (by rfl) (HBW.out.setCell (p := ⟨R, 0, none⟩) (by have := HRE.out; show w.heap.size ≤ R; omega) _) (BRW.out.set 0 (.bool true)) ((Below.heap_setCell W ⟨R, 0, none⟩ _ D2 (by have := HDD.out; show D2 ≠ R; omega)).trans HK2.out) ((Below.heap_setCell W ⟨R, 0, none⟩ _ D (by have := HDD.out; show D ≠ R; omega)).trans HKW.out) (by have := HDD.out; omega) (by have := HDD.out; omega) (by have := HDD.out; have := HRE.out; omega))
    case stop2 =>
      rintro D2 cd pre W hD hsp hix hK
      rcases hix with ⟨_, hn⟩ | ⟨rfl, hlen, bA, hB, bM, hk⟩
      · exact absurd hsp hn
      have hlm : mm < (gatesF N).length := by have := hsp.length_le; omega
      have ca : W.cell? ⟨P1 + 1 + 1, 0, none⟩ = some (.int .i64 (mm : Int)) := bA.cell 0
      have cm : W.cell? ⟨Mb, 0, none⟩ = some (.int .i64 (mm : Int)) := bM.cell 0
      have cw : W.cell? ⟨P1, 0, none⟩ = some (.slice A (gatesF N).length c) := (BWM.out.below hB (by omega)).cell 0
      have cr : W.cell? ⟨R, 0, none⟩ = some (.bool false) := (BRM.out.below hB (by have := HRP.out; omega)).cell 0
      have fr : W.frozen? ⟨R, 0, none⟩ = false := (BRM.out.below hB (by have := HRP.out; omega)).frozen 0
      have BRW := Lib.hid (BRM.out.below hB (by have := HRP.out; omega))
      have HK2 := Lib.hid hK
      have HKW := Lib.hid hk
      have HBW : Hid (Below w.heap.size w W) := Lib.hid (HB1.out.trans ((HB2.out.trans hB).mono (by have := HRP.out; have := HRE.out; omega)))
      have HDD : Hid (D2 ≠ D ∧ P1 + 3 ≤ D ∧ D < D2 ∧ R < P1) := Lib.hid ⟨by have := HSM.out; omega, HSM.out.2.2, by have := HSM.out; omega, HRP.out⟩
      clear bA bM hB hk hK hsp hlen
      gi_wp2_with (refine ⟨trivial, ?_⟩; gi_at_call 14; refine (callsIn_wide.2 (gates8 _)).mono ?_; rintro e w' ⟨rfl, hww⟩; obtain rfl : W = w' := hww.symm)
      all_goals
        rename_i hmin
        first
          | exact absurd hmin (by omega)
          | (try rw [show (((mm : Nat) : Int) == (((gatesF N).length : Nat) : Int)) = true from by simp; omega]
             exact leave4 w _ R D D2 (by rfl) (HBW.out.setCell (p := ⟨R, 0, none⟩) (by have := HRE.out; show w.heap.size ≤ R; omega) _) (BRW.out.set 0 (.bool true)) ((Below.heap_setCell W ⟨R, 0, none⟩ _ D2 (by have := HDD.out; show D2 ≠ R; omega)).trans HK2.out) ((Below.heap_setCell W ⟨R, 0, none⟩ _ D (by have := HDD.out; show D ≠ R; omega)).trans HKW.out) (by have := HDD.out; omega) (by have := HDD.out; omega) (by have := HDD.out; have := HRE.out; omega))
  case stop =>
    rintro D cd pre W _ hsp ⟨_, hn⟩ _
    exact absurd hsp hn
end Go.Proofs.Ytpglocgfdonmaaa

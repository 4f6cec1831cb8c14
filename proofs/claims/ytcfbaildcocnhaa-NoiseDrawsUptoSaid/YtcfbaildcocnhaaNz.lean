/-
  Walks: sources and budgets that are not there.
-/
import Derived.Test.YtcfbaildcocnhaaAx
import Derived.Stop.BytesEq
set_option linter.unusedVariables false
set_option linter.unusedSimpArgs false
namespace Go.Proofs.Ytcfbaildcocnhaa
open Go.RowKit

/-! ### bytes as cells -/
def ub (l : List Int) : List UInt8 := l.map fun z => UInt8.ofNat z.toNat
theorem B8.mem {l : List Int} (h : B8 l) {z : Int} (hz : z ∈ l) : 0 ≤ z ∧ z ≤ 255 := by
  obtain ⟨i, hi, rfl⟩ := List.getElem_of_mem hz
  have := h i
  simpa [List.getD, hi] using this
theorem ub_cell {l : List Int} (h : B8 l) : (ub l).map Go.Extern.Stop.cell = l.map (Value.int .u8) := by
  unfold ub
  rw [List.map_map]
  apply List.map_congr_left
  intro z hz
  have := h.mem hz
  have hlt : z.toNat < 256 := by omega
  show Value.int .u8 ((UInt8.ofNat z.toNat).toNat : Int) = _
  rw [UInt8.toNat_ofNat_of_lt' hlt]
  congr 1
  omega
theorem map_int_inj : ∀ {l l' : List Int}, l.map (Value.int .u8) = l'.map (Value.int .u8) → l = l'
  | [], [], _ => rfl
  | [], _ :: _, h => by simp at h
  | _ :: _, [], h => by simp at h
  | a :: l, b :: l', h => by
    simp only [List.map_cons, List.cons.injEq] at h
    obtain ⟨h1, h2⟩ := h
    injection h1 with _ h1
    rw [h1, map_int_inj h2]
theorem ub_eq {l l' : List Int} (h : B8 l) (h' : B8 l') : (ub l == ub l') = decide (l = l') := by
  rw [Bool.eq_iff_iff]
  simp only [beq_iff_eq, decide_eq_true_eq]
  constructor
  · intro e
    have := congrArg (List.map Go.Extern.Stop.cell) e
    rw [ub_cell h, ub_cell h'] at this
    exact map_int_inj this
  · intro e; rw [e]
theorem size5w : ∀ w : World, (sizeOf 5).run Try.prog w = .ok 1 w := fun w => by
  obtain ⟨i, hi, _, h1, _⟩ := info_parts info5
  simp [sizeOf, typeInfo, hi, h1]

theorem exec_build {P : Program} {o : Oper} {a : Act} {w : World} (t : TypeId) (parts : Array (Nat × Operand)) (ho : o.op = .build t parts) (cells : Array Value) (hc : P.built t (parts.map fun (i, x) => (i, a.eval x)).toList = some cells) :
    (execOp a.eval o).run P w = .ok (.value (.agg cells)) w := by
  unfold execOp
  simp only [ho, Sem.run_bind, run_build w t _ cells hc, Result.andThen_ok]
  rfl

theorem wpList_buildG {P : Program} {ops : Array Oper} {rest : List Oper} {o : Oper} {a : Act} {w : World} {Q : Exit → Act → World → Prop} (hw : Region.wanted o (yielded ops a.tmps) = true) (t : TypeId) (parts : Array (Nat × Operand)) (dst : Option Tmp) (hd : o.dst = dst) (ho : o.op = .build t parts)
    (cells : Array Value) (hc : P.built t (parts.map fun (i, x) => (i, a.eval x)).toList = some cells) (h : wpList P ops Q rest (a.put dst (.agg cells)) w) : wpList P ops Q (o :: rest) a w :=
  wpList_step fun K hK => by
    rw [if_pos hw]
    unfold Oper.wp
    rw [exec_build t parts ho cells hc]
    exact hK _ _ (by rw [hd]; exact h)
theorem wpList_buildG0 {P : Program} {ops : Array Oper} {rest : List Oper} {o : Oper} {a : Act} {w : World} {Q : Exit → Act → World → Prop} (hw : Region.wanted o (yielded ops a.tmps) = true) (t : TypeId) (dst : Option Tmp) (hd : o.dst = dst) (ho : o.op = .build t #[])
    (cells : Array Value) (hc : P.built t [] = some cells) (h : wpList P ops Q rest (a.put dst (.agg cells)) w) : wpList P ops Q (o :: rest) a w :=
  wpList_buildG hw t #[] dst hd ho cells (by simpa using hc) h

def Z32 : List Int := List.replicate 32 0
theorem Z32_8 : B8 Z32 := B8.of fun y hy => by obtain rfl := List.eq_of_mem_replicate hy; decide
theorem zero_built : Try.prog.built 53 [] = some (AY .u8 Z32) := by rw [AY_eq]; kernel_rfl
theorem eq_key {a b : List Int} (ha : B8 a) (hb : B8 b) (la : a.length = 32) (lb : b.length = 32) (v : Bool) (hv : decide (a = b) = v) (w : World) : (Op.equalIn 10000 53 (.agg (AY .u8 a)) (.agg (AY .u8 b))).run Try.prog w = .ok v w := by
  have h := run_equalIn_bytes (P := Try.prog) w 9998 53 5 32 Try.underlying53 Try.underlying5 size5w (ub a) (ub b) (by simp [ub, la]) (by simp [ub, lb])
  rw [ub_cell ha, ub_cell hb, ub_eq ha hb] at h
  rw [← hv, AY_eq, AY_eq]
  exact h
theorem rounds_nil (le ld : Nat) (w : World) : Calls Try.prog 33 #[.pointer none, .agg #[.float .f64 le, .float .f64 ld]] w fun e w' => e = .returned (.tuple #[.int .i64 0, .int .i64 1]) ∧ Below w.heap.size w w' := by
  have F0 := Lib.hid ((Below.refl w.heap.size w).alloc (Nat.le_refl _) (.cells #[.float .f64 le, .float .f64 ld] 34))
  go_enter Try.func33, Try.ntmps33
  go_wp2_with fail
  go_ret2
  exact ⟨rfl, F0.out⟩
theorem spend_nil (le ld : Nat) (w : World) : Calls Try.prog 34 #[.pointer none, .agg #[.float .f64 le, .float .f64 ld]] w fun e w' => e = .returned (.int .i64 1) ∧ Below w.heap.size w w' := by
  have F0 := Lib.hid ((Below.refl w.heap.size w).alloc (Nat.le_refl _) (.cells #[.float .f64 le, .float .f64 ld] 34))
  go_enter Try.func34, Try.ntmps34
  go_wp2_with fail
  go_ret
  exact ⟨rfl, F0.out⟩
theorem shuffle_nil (n : Int) (w : World) : Calls Try.prog 39 #[.pointer none, .int .i64 n] w fun e w' => e = .returned (.slice none 0 0) ∧ w' = w := by
  go_enter Try.func39, Try.ntmps39
  go_wp2_with fail
  go_ret
  exact ⟨rfl, rfl⟩
theorem spent_nil (w : World) : Calls Try.prog 32 #[.pointer none] w fun e w' => e = .returned (.agg #[.float .f64 0, .float .f64 0]) ∧ Below w.heap.size w w' := by
  have hb : Below w.heap.size w (w.alloc (.cells #[.float .f64 0, .float .f64 0] 34)) := (Below.refl _ _).alloc (Nat.le_refl _) _
  have HW := Lib.hid hb
  clear hb
  go_enter Try.func32, Try.ntmps32
  go_wp2_with (refine wpList_store_row rfl 34 _ _ rfl w.heap.size #[.float .f64 0, .float .f64 0] rfl rfl 34 #[.float .f64 0, .float .f64 0] (heap_alloc_new _ _) (by kernel_rfl) rfl (by kernel_rfl) ?_)
  have hR : Blk ((w.alloc (.cells #[.float .f64 0, .float .f64 0] 34)).setRow w.heap.size #[.float .f64 0, .float .f64 0]) w.heap.size 34 [.float .f64 0, .float .f64 0] := setRow_heap _ _ _ _ _ _ (heap_alloc_new _ _)
  have r0 : ((w.alloc (.cells #[.float .f64 0, .float .f64 0] 34)).setRow w.heap.size #[.float .f64 0, .float .f64 0]).cell? ⟨w.heap.size, 0, none⟩ = some (.float .f64 0) := hR.cell 0
  have r1 : ((w.alloc (.cells #[.float .f64 0, .float .f64 0] 34)).setRow w.heap.size #[.float .f64 0, .float .f64 0]).cell? ⟨w.heap.size, 1, none⟩ = some (.float .f64 0) := hR.cell 1
  have HWR := Lib.hid (below_setRow HW.out (Nat.le_refl _) #[.float .f64 0, .float .f64 0])
  clear hR
  refine bodyPost_ret (v := .agg #[.float .f64 0, .float .f64 0]) (by simp [results, Try.results32, go_sem, r0, r1]) rfl ?_
  exact ⟨rfl, HWR.out⟩
set_option maxRecDepth 100000 in
theorem key_nil (w : World) : Calls Try.prog 47 #[.pointer none] w fun e w' => e = .returned (.agg (AY .u8 Z32)) ∧ Below w.heap.size w w' := by
  have HBD : Hid (Try.prog.built 53 [] = some (AY .u8 Z32)) := Lib.hid zero_built
  have I2 : Hid ((Try.prog.info? 53).map (·.size) = some (AY .u8 Z32).size) := Lib.hid (by rw [info31, AY_size]; rfl)
  have Z2 : Hid (((Z32.map (Value.int .u8)).toArray).size = (AY .u8 Z32).size) := Lib.hid (by rw [AY_size]; rfl)
  go_enter Try.func47, Try.ntmps47
  go_upto_region 1 with fail
  generalize hG : w.heap.size = G
  generalize hW1 : w.alloc _ = w1
  have R1 : Hid (Blk w1 G 53 (Z32.map (Value.int .u8))) := Lib.hid (by rw [← hW1]; exact Blk.new_at _ 53 _ hG.symm)
  have F1 : Hid (Below G w w1) := Lib.hid (by rw [← hW1]; exact (Below.refl _ w).alloc (by omega) _)
  have HGE := Lib.hid hG
  clear hG hW1
  go_wp2_with (first
    | (show wpList _ _ _ ({ dst := some 5, op := _, type := _, pos := _, after := _, guard := _ } :: _) _ _; refine wpList_buildE rfl 53 _ rfl (AY .u8 Z32) (by simpa using HBD.out) ?_)
    | (show wpList _ _ _ ({ dst := none, op := _, type := _, pos := _, after := _, guard := _ } :: _) _ _; refine wpList_store_row rfl 53 _ _ rfl G (AY .u8 Z32) rfl rfl 53 _ R1.out I2.out Z2.out (AY_one _ _) ?_))

  refine bodyPost_ret (results_cell_row rfl _ _ G 53 (AY .u8 Z32) (0, 0) _ rfl (setRow_heap _ _ _ _ _ _ R1.out) Try.underlying53 rfl I2.out) rfl ⟨rfl, below_setRow (by rw [HGE.out]; exact F1.out) (by rw [HGE.out]; omega) _⟩
end Go.Proofs.Ytcfbaildcocnhaa

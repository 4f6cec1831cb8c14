/-
  Walk: nonce.
-/
import Derived.Test.YtcfbaildcocnhaaWq
import Derived.Test.YtcfbaildcocnhaaBl
import Derived.Deep.MidRow
set_option linter.unusedVariables false
set_option linter.unusedSimpArgs false
namespace Go.Proofs.Ytcfbaildcocnhaa
open Go.RowKit

def nonL (n : Nat) : List Int := leN 4 4 ++ leN n 8
theorem nonL_len (n : Nat) : (nonL n).length = 12 := by unfold nonL; rw [List.length_append, leN_len, leN_len]
theorem byt_8 (X k : Nat) : 0 ≤ byt X k ∧ byt X k ≤ 255 := by unfold byt; omega
theorem leN_B8 (X k : Nat) : B8 (leN X k) := fun i => by
  rw [List.getD_eq_getElem?_getD]
  unfold leN
  rw [List.getElem?_map]
  rcases Nat.lt_or_ge i k with h | h
  · rw [List.getElem?_range h]; exact byt_8 X i
  · rw [List.getElem?_eq_none (by simpa using h)]; simp
theorem B8.append {xs ys : List Int} (h : B8 xs) (h2 : B8 ys) : B8 (xs ++ ys) := fun i => by
  rw [List.getD_eq_getElem?_getD, List.getElem?_append]
  split
  · exact h i
  · exact h2 _
theorem nonL_B8 (n : Nat) : B8 (nonL n) := (leN_B8 4 4).append (leN_B8 n 8)
/-- The first cells of a row of one's own. -/
theorem Rd.range {w : World} {k : IntKind} {g : Nat} {xs : List Int} (h : Rd w k (some ⟨g, 0, none⟩) xs) : w.rangeAt g 0 (xs.map (Value.int k)) := by
  intro j v hv
  rw [List.getElem?_map] at hv
  rcases Nat.lt_or_ge j xs.length with hj | hj
  · obtain ⟨b, off, hA, hc⟩ := h j hj
    injection hA with hA
    injection hA with h1 h2
    subst h1 h2
    rw [hc, ← hv, List.getElem?_eq_getElem hj, List.getD_eq_getElem?_getD, List.getElem?_eq_getElem hj]
    rfl
  · rw [List.getElem?_eq_none hj] at hv; cases hv
theorem load_AY {P : Program} {ops : Array Oper} {rest : List Oper} {op : Oper} {a : Act} {w : World} {Q : Exit → Act → World → Prop} (hgd : op.guard = none) (ty : TypeId) (x : Operand) (ho : op.op = .load ty x)
    (b : Nat) (hx : a.eval x = .pointer (some ⟨b, 0, none⟩)) (k : IntKind) (xs : List Int) (d : TypeDesc) (hr : Rd w k (some ⟨b, 0, none⟩) xs)
    (hu : P.underlying ty = some d) (hd : d.isRow = true) (hi : (P.info? ty).map (·.size) = some xs.length)
    (h : wpList P ops Q rest (a.put op.dst (.agg (AY k xs))) w) : wpList P ops Q (op :: rest) a w :=
  wpList_load_mid hgd ty x ho b 0 hx (xs.map (Value.int k)) d hr.range hu hd (by rw [hi, List.length_map]) (by rw [← AY_eq]; exact h)

set_option maxHeartbeats 4000000 in
theorem nonce_any (n : Nat) (w : World) (hn : n < 18446744073709551616) : Calls Try.prog 77 #[.int .u64 (n : Int)] w fun e w' => e = .returned (.agg (AY .u8 (nonL n))) ∧ Below w.heap.size w w' := by
  have HP1 : Hid (∀ W, Calls Try.prog 84 #[.slice none 0 0, .int .u32 4] W (Made 5 .u8 (leN 4 4) W)) := Lib.hid (fun W => by
    have h := pl32_any none 0 0 [] 4 W rfl (Rd.nil _ _ _) (by simp) (by omega)
    rw [List.nil_append] at h
    exact h)
  have HP2 := Lib.hid (fun A c W hr => pl64_any A c 4 (leN 4 4) n W (leN_len 4 4).symm hr (by rw [leN_len]; omega) hn)
  go_enter Try.func77, Try.ntmps77
  go_upto_region 1 with fail
  generalize hG : w.heap.size = G
  generalize hW1 : w.alloc _ = w1
  have R1 : Hid (Blk w1 G 121 ((List.replicate 12 0).map (Value.int .u8))) := Lib.hid (by rw [← hW1]; exact Blk.new_at _ 121 _ hG.symm)
  have F1 : Hid (Below G w w1) := Lib.hid (by rw [← hW1]; exact (Below.refl _ w).alloc (by omega) _)
  have HGE := Lib.hid hG
  clear hG hW1
  go_wp2_with fail
  refine (HP1.out w1).mono ?_
  rintro e w2 ⟨v, rfl, ho, hb⟩
  obtain ⟨A, c, rfl, -, -, hr, -⟩ := ho.slice
  rw [leN_len]
  have R2 : Hid (Blk w2 G 121 ((List.replicate 12 0).map (Value.int .u8))) := Lib.hid (R1.out.below hb R1.out.lt)
  have F2 : Hid (Below G w w2) := Lib.hid (F1.out.trans (hb.mono (by have := R1.out.lt; omega)))
  have HR2 := Lib.hid hr
  clear ho hb hr HP1
  go_wp2_with fail
  refine (HP2.out A c w2 HR2.out).mono ?_
  rintro e w3 ⟨v, rfl, ho, hb⟩
  have R3 : Hid (Blk w3 G 121 ((List.replicate 12 0).map (Value.int .u8))) := Lib.hid (R2.out.below hb R2.out.lt)
  have F3 : Hid (Below G w w3) := Lib.hid (F2.out.trans (hb.mono (by have := R2.out.lt; omega)))
  have ho2 : Own w3 w2.heap.size 5 .u8 v (nonL n) := ho
  obtain ⟨A', c', rfl, -, -, hr', -⟩ := ho2.slice
  rcases ho2.form with ⟨h1, h2⟩ | ⟨g, c2, rest, h1, -⟩
  · have := nonL_len n; rw [h2] at this; simp at this
  rw [nonL_len] at h1 ⊢
  injection h1 with q1 q2 q3
  subst q1
  have HR3 := Lib.hid hr'
  clear ho ho2 hb hr' HP2 R2 F2 q2 q3
  have har : (Instr.arrayAt 121 (.slice (some ⟨g, 0, none⟩) 12 c')).run Try.prog w3 = .ok (.pointer (some ⟨g, 0, none⟩)) w3 := run_arrayAt w3 121 5 12 _ 12 c' Try.underlying121 (by omega)
  have I1 : Hid ((Try.prog.info? 121).map (·.size) = some (nonL n).length) := Lib.hid (by rw [info33, nonL_len])
  have I2 : Hid ((Try.prog.info? 121).map (·.size) = some (AY .u8 (nonL n)).size) := Lib.hid (by rw [info33, AY_size, nonL_len])
  have Z2 : Hid ((((List.replicate 12 0).map (Value.int .u8)).toArray).size = (AY .u8 (nonL n)).size) := Lib.hid (by rw [AY_size, nonL_len]; rfl)
  go_wp2_with (first
    | (show wpList _ _ _ ({ dst := some 7, op := _, type := _, pos := _, after := _, guard := _ } :: _) _ _; refine load_AY rfl 121 _ rfl g rfl .u8 (nonL n) _ HR3.out Try.underlying121 rfl I1.out ?_)
    | (show wpList _ _ _ ({ dst := none, op := _, type := _, pos := _, after := _, guard := _ } :: _) _ _; refine wpList_store_row rfl 121 _ _ rfl G (AY .u8 (nonL n)) rfl rfl 121 _ R3.out I2.out Z2.out (AY_one _ _) ?_))
  trace_state
  refine bodyPost_ret (results_cell_row rfl _ _ G 121 (AY .u8 (nonL n)) (0, 0) _ rfl (setRow_heap _ _ _ _ _ _ R3.out) Try.underlying121 rfl I2.out) rfl ⟨rfl, below_setRow (by rw [HGE.out]; exact F3.out) (by rw [HGE.out]; omega) _⟩
end Go.Proofs.Ytcfbaildcocnhaa

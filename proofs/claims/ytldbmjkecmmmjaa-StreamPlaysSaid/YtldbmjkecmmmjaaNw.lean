/-
  Walks: New: the program's and the document's.
-/
import Derived.Test.YtldbmjkecmmmjaaSg
set_option linter.unusedVariables false
set_option linter.unusedSimpArgs false
namespace Go.Proofs.Ytldbmjkecmmmjaa
open Go.RowKit

theorem wpList_buildE {P : Program} {ops : Array Oper} {rest : List Oper} {o : Oper} {a : Act} {w : World} {Q : Exit → Act → World → Prop} (hg : o.guard = none) (t : TypeId) (parts : Array (Nat × Operand)) (ho : o.op = .build t parts)
    (cells : Array Value) (hc : P.built t (parts.map fun (i, x) => (i, a.eval x)).toList = some cells) (h : wpList P ops Q rest (a.put o.dst (.agg cells)) w) : wpList P ops Q (o :: rest) a w :=
  wpList_build hg t parts ho (by rw [hc]; rfl) (by rw [hc]; exact h)

set_option maxRecDepth 100000 in
set_option maxHeartbeats 4000000 in
theorem new_any (ks ns : List Int) (c : Nat) (w : World) (hk : ks.length = 32) (hn : ns.length = 12) (hc : c < 4294967296) :
    Calls Try.prog 27 #[.agg (AY .u8 ks), .agg (AY .u8 ns), .int .u32 (c : Int)] w fun e w' => ∃ g, e = .returned (.pointer (some ⟨g, 0, none⟩)) ∧ w.heap.size ≤ g ∧ Blk w' g 87 (SGl ks ns (64 * c)) ∧ Below w.heap.size w w' := by
  have I31 : Hid ((Try.prog.info? 31).map (·.size) = some (AY .u8 ks).size) := Lib.hid (by rw [info31, AY_size, hk])
  have I33 : Hid ((Try.prog.info? 33).map (·.size) = some (AY .u8 ns).size) := Lib.hid (by rw [info33, AY_size, hn])
  have HBD : Hid (Try.prog.built 87 [(0, .agg (AY .u8 ks)), (1, .agg (AY .u8 ns)), (2, .int .u64 (64 * (c : Int)))] = some (SG ks ns (64 * c))) := Lib.hid (by
    rw [built87, ← fill_SG ks ns (64 * c) hk hn]; simp)
  clear hk hn
  go_enter Try.func27, Try.ntmps27
  go_upto_region 1 with fail
  generalize hG : w.heap.size = G
  generalize hW2 : (w.alloc _).alloc _ = w2
  have K2 : Hid (w2.heap[G]? = some (.cells (AY .u8 ks) 31 (0, 0))) := Lib.hid (blk_AY (by rw [← hW2]; exact (AY_new_at .u8 w 31 ks hG.symm).alloc _))
  have N2 : Hid (w2.heap[G + 1]? = some (.cells (AY .u8 ns) 33 (0, 0))) := Lib.hid (blk_AY (by rw [← hW2]; exact (AY_new_at .u8 _ 33 ns (by rw [← hG]; simp))))
  have F2 : Hid (Below G w w2) := Lib.hid (by rw [← hW2]; exact ((Below.refl _ w).alloc (by omega) _).alloc (by simp; omega) _)
  have HGE := Lib.hid hG
  clear hG hW2
  go_wp2_with (first
    | (show wpList _ _ _ ({ dst := some 7, op := _, type := _, pos := _, after := _, guard := _ } :: _) _ _; refine wpList_load_row rfl 31 _ rfl G rfl 31 (AY .u8 ks) (0, 0) _ K2.out Try.underlying31 rfl I31.out ?_)
    | (show wpList _ _ _ ({ dst := some 8, op := _, type := _, pos := _, after := _, guard := _ } :: _) _ _; refine wpList_load_row rfl 33 _ rfl (G + 1) rfl 33 (AY .u8 ns) (0, 0) _ N2.out Try.underlying33 rfl I33.out ?_)
    | (show wpList _ _ _ ({ dst := some 12, op := _, type := _, pos := _, after := _, guard := _ } :: _) _ _; refine wpList_buildE rfl 87 _ rfl (SG ks ns (64 * c)) (by simp only [List.map_toArray, List.map_cons, List.map_nil]; exact HBD.out) ?_))
  go_ret
  have hlt := (Array.getElem?_eq_some_iff.1 N2.out).1
  exact ⟨w2.heap.size, rfl, by rw [HGE.out]; omega, by rw [SG_eq]; exact Blk.new w2 87 _, by rw [HGE.out]; exact F2.out.alloc (by omega) _⟩

set_option maxRecDepth 100000 in
set_option maxHeartbeats 4000000 in
theorem rnew_any (ks ns : List Int) (c : Nat) (w : World) (hk : ks.length = 32) (hn : ns.length = 12) (hc : c < 4294967296) :
    Calls Try.prog 18 #[.agg (AY .u8 ks), .agg (AY .u8 ns), .int .u32 (c : Int)] w fun e w' => ∃ g, e = .returned (.pointer (some ⟨g, 0, none⟩)) ∧ w.heap.size ≤ g ∧ Blk w' g 66 (SGl ks ns (64 * c)) ∧ Below w.heap.size w w' := by
  have I31 : Hid ((Try.prog.info? 31).map (·.size) = some (AY .u8 ks).size) := Lib.hid (by rw [info31, AY_size, hk])
  have I33 : Hid ((Try.prog.info? 33).map (·.size) = some (AY .u8 ns).size) := Lib.hid (by rw [info33, AY_size, hn])
  have HBD : Hid (Try.prog.built 66 [(0, .agg (AY .u8 ks)), (1, .agg (AY .u8 ns)), (2, .int .u64 (64 * (c : Int)))] = some (SG ks ns (64 * c))) := Lib.hid (by
    rw [built66, ← fill_SG ks ns (64 * c) hk hn]; simp)
  clear hk hn
  go_enter Try.func18, Try.ntmps18
  go_upto_region 1 with fail
  generalize hG : w.heap.size = G
  generalize hW2 : (w.alloc _).alloc _ = w2
  have K2 : Hid (w2.heap[G]? = some (.cells (AY .u8 ks) 31 (0, 0))) := Lib.hid (blk_AY (by rw [← hW2]; exact (AY_new_at .u8 w 31 ks hG.symm).alloc _))
  have N2 : Hid (w2.heap[G + 1]? = some (.cells (AY .u8 ns) 33 (0, 0))) := Lib.hid (blk_AY (by rw [← hW2]; exact (AY_new_at .u8 _ 33 ns (by rw [← hG]; simp))))
  have F2 : Hid (Below G w w2) := Lib.hid (by rw [← hW2]; exact ((Below.refl _ w).alloc (by omega) _).alloc (by simp; omega) _)
  have HGE := Lib.hid hG
  clear hG hW2
  go_wp2_with (first
    | (show wpList _ _ _ ({ dst := some 7, op := _, type := _, pos := _, after := _, guard := _ } :: _) _ _; refine wpList_load_row rfl 31 _ rfl G rfl 31 (AY .u8 ks) (0, 0) _ K2.out Try.underlying31 rfl I31.out ?_)
    | (show wpList _ _ _ ({ dst := some 8, op := _, type := _, pos := _, after := _, guard := _ } :: _) _ _; refine wpList_load_row rfl 33 _ rfl (G + 1) rfl 33 (AY .u8 ns) (0, 0) _ N2.out Try.underlying33 rfl I33.out ?_)
    | (show wpList _ _ _ ({ dst := some 12, op := _, type := _, pos := _, after := _, guard := _ } :: _) _ _; refine wpList_buildE rfl 66 _ rfl (SG ks ns (64 * c)) (by simp only [List.map_toArray, List.map_cons, List.map_nil]; exact HBD.out) ?_))
  go_ret
  have hlt := (Array.getElem?_eq_some_iff.1 N2.out).1
  exact ⟨w2.heap.size, rfl, by rw [HGE.out]; omega, by rw [SG_eq]; exact Blk.new w2 66 _, by rw [HGE.out]; exact F2.out.alloc (by omega) _⟩
end Go.Proofs.Ytldbmjkecmmmjaa

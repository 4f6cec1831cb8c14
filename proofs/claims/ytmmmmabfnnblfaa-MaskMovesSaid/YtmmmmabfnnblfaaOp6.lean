/-
  The law MaskMoves at arguments as the row reads them.
-/
import Derived.Test.YtmmmmabfnnblfaaMv
import Derived.Test.YtmmmmabfnnblfaaOp3
set_option linter.unusedVariables false
namespace Go.Proofs.Ytmmmmabfnnblfaa
open Go.ChangeShapes Go.WideShapes Go.ChangeAt Go.RowKit

theorem maskMoves_open {H : Type} {enc : TypeId × Value → H} (W : World) (base : Nat) (v0 : Value) (d0 : DataW H) (p0 : List MemPlace) (v1 : Value) (d1 : DataW H) (p1 : List MemPlace) (v2 : Value) (d2 : DataW H) (p2 : List MemPlace)
    (o0 : Value.okWide Try.prog W .any base 22 v0) (o1 : Value.okWide Try.prog W .any base 47 v1) (o2 : Value.okWide Try.prog W .any base 47 v2)
    (h0 : DataW.Trod enc Try.prog W 0 (fun _ => true) true 22 v0 d0 p0) (h1 : DataW.Trod enc Try.prog W 0 (fun _ => true) true 47 v1 d1 p1) (h2 : DataW.Trod enc Try.prog W 0 (fun _ => true) true 47 v2 d2 p2)
    (_hsz : (DataW.weightsEach Try.prog [22, 47, 47] [d0, d1, d2]).all (· ≤ reachBytes) = true) :
    Calls Try.prog 6 #[v0, v1, v2] W fun e w' => e = .returned (.bool true) ∧ Below W.heap.size W w' := by
  obtain ⟨a0, rfl, rfl, rfl, w0⟩ := open_int Try.underlying22 o0 h0
  obtain ⟨M, rfl, hM⟩ := wf64 w0
  obtain ⟨A, c, xs, rfl, r1, f1, l1⟩ := open_row 1 _hsz rfl rfl Try.underlying47 Try.underlying5 (by kernel_rfl) (B := 1) (by kernel_rfl) o1 h1
  obtain ⟨B, d, ys, rfl, r2, f2, l2⟩ := open_row 2 _hsz rfl rfl Try.underlying47 Try.underlying5 (by kernel_rfl) (B := 1) (by kernel_rfl) o2 h2
  exact moves_walk M A B c d xs ys W hM r1 r2 f1.b8 f2.b8 (by omega) (by omega)

end Go.Proofs.Ytmmmmabfnnblfaa

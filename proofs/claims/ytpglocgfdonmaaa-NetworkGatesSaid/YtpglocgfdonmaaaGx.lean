/-
  The law NetworkGates at arguments as the row reads them.
-/
import Derived.Test.YtpglocgfdonmaaaGw
import Derived.Test.YtpglocgfdonmaaaHo
set_option linter.unusedVariables false
namespace Go.Proofs.Ytpglocgfdonmaaa
open Go.ChangeShapes Go.WideShapes Go.ChangeAt Go.RowKit

theorem networkGates_open {H : Type} {enc : TypeId × Value → H} (W : World) (base : Nat) (v0 : Value) (d0 : DataW H) (p0 : List MemPlace) (v1 : Value) (d1 : DataW H) (p1 : List MemPlace)
    (o0 : Value.okWide Try.prog W .any base 3 v0) (o1 : Value.okWide Try.prog W .any base 3 v1)
    (h0 : DataW.Trod enc Try.prog W 0 (fun _ => true) true 3 v0 d0 p0) (h1 : DataW.Trod enc Try.prog W 0 (fun _ => true) true 3 v1 d1 p1)
    (_hsz : (DataW.weightsEach Try.prog [3, 3] [d0, d1]).all (· ≤ reachBytes) = true) :
    Calls Try.prog 4 #[v0, v1] W fun e w' => e = .returned (.bool true) ∧ Below W.heap.size W w' := by
  obtain ⟨N, rfl, hN⟩ := open_int Try.underlying3 o0 h0
  obtain ⟨E, rfl, hE⟩ := open_int Try.underlying3 o1 h1
  exact gates_law N E W (wf64 hN.2.2) (wf64 hE.2.2)
end Go.Proofs.Ytpglocgfdonmaaa

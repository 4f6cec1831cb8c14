/-
  The law NetworkLayers at arguments as the row reads them.
-/
import Derived.Test.YtpglocgfdonmaaaLl
import Derived.Test.YtpglocgfdonmaaaSy
import Derived.Test.YtpglocgfdonmaaaHo
set_option linter.unusedVariables false
namespace Go.Proofs.Ytpglocgfdonmaaa
open Go.ChangeShapes Go.WideShapes Go.ChangeAt Go.RowKit

theorem networkLayers_open {H : Type} {enc : TypeId × Value → H} (W : World) (base : Nat) (v0 : Value) (d0 : DataW H) (p0 : List MemPlace)
    (o0 : Value.okWide Try.prog W .any base 3 v0)
    (h0 : DataW.Trod enc Try.prog W 0 (fun _ => true) true 3 v0 d0 p0)
    (_hsz : (DataW.weightsEach Try.prog [3] [d0]).all (· ≤ reachBytes) = true) :
    Calls Try.prog 7 #[v0] W fun e w' => e = .returned (.bool true) ∧ Below W.heap.size W w' := by
  obtain ⟨z, rfl, hz⟩ := open_int Try.underlying3 o0 h0
  exact layers_law z W (wf64 hz.2.2)
end Go.Proofs.Ytpglocgfdonmaaa

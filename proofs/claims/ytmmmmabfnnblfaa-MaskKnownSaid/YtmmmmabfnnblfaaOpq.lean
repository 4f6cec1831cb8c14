/-
  The closed law MaskKnown as the row reads it.
-/
import Derived.Test.YtmmmmabfnnblfaaKn
set_option linter.unusedVariables false
namespace Go.Proofs.Ytmmmmabfnnblfaa
open Go.RowKit

theorem maskKnown_open {p : Prop} (W : World) (base : Nat) (_hsz : p) :
    Calls Try.prog 11 #[] W fun e w' => e = .returned (.bool true) ∧ Below W.heap.size W w' := known_law W
end Go.Proofs.Ytmmmmabfnnblfaa

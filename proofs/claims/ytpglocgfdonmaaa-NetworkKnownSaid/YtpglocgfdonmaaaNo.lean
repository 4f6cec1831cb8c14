/-
  The closed law NetworkKnown as the row reads it.
-/
import Derived.Test.YtpglocgfdonmaaaNk
import Derived.Test.YtpglocgfdonmaaaRow
import Derived.Test.YtpglocgfdonmaaaOpn
set_option linter.unusedVariables false
namespace Go.Proofs.Ytpglocgfdonmaaa
open Go.RowKit

theorem networkKnown_open {p : Prop} (W : World) (base : Nat) (_hsz : p) :
    Calls Try.prog 11 #[] W fun e w' => e = .returned (.bool true) ∧ Below W.heap.size W w' := known_law W
end Go.Proofs.Ytpglocgfdonmaaa

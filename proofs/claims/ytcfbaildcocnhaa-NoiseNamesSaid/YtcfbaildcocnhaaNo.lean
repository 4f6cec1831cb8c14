/-
  The closed law NoiseNames as the row reads it.
-/
import Derived.Test.YtcfbaildcocnhaaNm
import Derived.Test.YtcfbaildcocnhaaOpn
set_option linter.unusedVariables false
namespace Go.Proofs.Ytcfbaildcocnhaa
open Go.RowKit

theorem noiseNames_open {p : Prop} (W : World) (base : Nat) (_hsz : p) :
    Calls Try.prog 12 #[] W fun e w' => e = .returned (.bool true) ∧ Below W.heap.size W w' := names_law W
end Go.Proofs.Ytcfbaildcocnhaa

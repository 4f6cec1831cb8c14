/-
  The closed laws StreamNil, StreamNames as the rows read them.
-/
import Derived.Test.YtldbmjkecmmmjaaNn
set_option linter.unusedVariables false
namespace Go.Proofs.Ytldbmjkecmmmjaa
open Go.RowKit

theorem streamNil_open {p : Prop} (W : World) (base : Nat) (_hsz : p) :
    Calls Try.prog 12 #[] W fun e w' => e = .returned (.bool true) ∧ Below W.heap.size W w' := snil_any W
theorem streamNames_open {p : Prop} (W : World) (base : Nat) (_hsz : p) :
    Calls Try.prog 7 #[] W fun e w' => e = .returned (.bool true) ∧ Below W.heap.size W w' := snames_any W
end Go.Proofs.Ytldbmjkecmmmjaa

/-
  The law NetworkShifts at arguments as the row reads them.
-/
import Derived.Test.YtpglocgfdonmaaaNl
import Derived.Test.YtpglocgfdonmaaaSy
set_option linter.unusedVariables false
namespace Go.Proofs.Ytpglocgfdonmaaa
open Go.ChangeShapes Go.WideShapes Go.ChangeAt Go.RowKit

theorem networkShifts_open {H : Type} {enc : TypeId × Value → H} (W : World) (base : Nat) (v0 : Value) (d0 : DataW H) (p0 : List MemPlace)
    (o0 : Value.okWide Try.prog W .any base 39 v0)
    (h0 : DataW.Trod enc Try.prog W 0 (fun _ => true) true 39 v0 d0 p0)
    (_hsz : (DataW.weightsEach Try.prog [39] [d0]).all (· ≤ reachBytes) = true) :
    Calls Try.prog 9 #[v0] W fun e w' => e = .returned (.bool true) ∧ Below W.heap.size W w' := by
  obtain ⟨A, c, xs, rfl, hr, hf, hl⟩ := open_row 0 _hsz rfl rfl Try.underlying39 Try.underlying3 (by kernel_rfl) (B := 8) (by kernel_rfl) o0 h0
  exact shifts_law A _ c xs W rfl hr (by omega) (fit_r64 hf)
end Go.Proofs.Ytpglocgfdonmaaa

/-
  The law RecordParses at arguments as the row reads them.
-/
import Derived.Test.YtedejkfhgpnhpaaPd
import Derived.Test.YtedejkfhgpnhpaaOpn
set_option linter.unusedVariables false
namespace Go.Proofs.Ytedejkfhgpnhpaa
open Go.ChangeShapes Go.WideShapes Go.ChangeAt Go.RowKit

theorem recordParses_open {H : Type} {enc : TypeId × Value → H} (W : World) (base : Nat) (v0 : Value) (d0 : DataW H) (p0 : List MemPlace)
    (o0 : Value.okWide Try.prog W .any base 27 v0)
    (h0 : DataW.Trod enc Try.prog W 0 (fun _ => true) true 27 v0 d0 p0)
    (_hsz : (DataW.weightsEach Try.prog [27] [d0]).all (· ≤ reachBytes) = true) :
    Calls Try.prog 5 #[v0] W fun e w' => e = .returned (.bool true) ∧ Below W.heap.size W w' := by
  obtain ⟨A, c, xs, rfl, r0, f0, l0, hc, hm⟩ := open_rowc 0 _hsz rfl rfl Try.underlying27 Try.underlying5 (by kernel_rfl) (B := 1) (by kernel_rfl) o0 h0
  exact parses_any A _ c xs W rfl r0 (fun i => f0.u8 i) (by omega)
end Go.Proofs.Ytedejkfhgpnhpaa

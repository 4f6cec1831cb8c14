/-
  The law RecordMakes at arguments as the row reads them.
-/
import Derived.Test.YtedejkfhgpnhpaaMk
import Derived.Test.YtedejkfhgpnhpaaOh
set_option linter.unusedVariables false
namespace Go.Proofs.Ytedejkfhgpnhpaa
open Go.ChangeShapes Go.WideShapes Go.ChangeAt Go.RowKit

theorem recordMakes_open {H : Type} {enc : TypeId × Value → H} (W : World) (base : Nat) (v0 : Value) (d0 : DataW H) (p0 : List MemPlace) (v1 : Value) (d1 : DataW H) (p1 : List MemPlace)
    (o0 : Value.okWide Try.prog W .any base 26 v0) (o1 : Value.okWide Try.prog W .any base 27 v1)
    (h0 : DataW.Trod enc Try.prog W 0 (fun _ => true) true 26 v0 d0 p0) (h1 : DataW.Trod enc Try.prog W 0 (fun _ => true) true 27 v1 d1 p1)
    (_hsz : (DataW.weightsEach Try.prog [26, 27] [d0, d1]).all (· ≤ reachBytes) = true) :
    Calls Try.prog 3 #[v0, v1] W fun e w' => e = .returned (.bool true) ∧ Below W.heap.size W w' := by
  obtain ⟨A, c, xs, rfl, r0, f0, l0, hc, hm⟩ := open_rowc 1 _hsz rfl rfl Try.underlying27 Try.underlying5 (by kernel_rfl) (B := 1) (by kernel_rfl) o1 h1
  obtain ⟨l, f, i, r, g, rfl, hl, hf, hi, hr, hg⟩ := open_head o0 h0
  exact makes_any l f i r g A _ c xs W rfl r0 hi hr (by omega)
end Go.Proofs.Ytedejkfhgpnhpaa

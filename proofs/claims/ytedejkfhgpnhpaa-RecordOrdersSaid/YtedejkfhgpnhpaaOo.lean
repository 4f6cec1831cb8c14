/-
  The law RecordOrders at arguments as the row reads them.
-/
import Derived.Test.YtedejkfhgpnhpaaLo
import Derived.Test.YtedejkfhgpnhpaaOpn
set_option linter.unusedVariables false
namespace Go.Proofs.Ytedejkfhgpnhpaa
open Go.ChangeShapes Go.WideShapes Go.ChangeAt Go.RowKit

theorem recordOrders_open {H : Type} {enc : TypeId × Value → H} (W : World) (base : Nat) (v0 : Value) (d0 : DataW H) (p0 : List MemPlace) (v1 : Value) (d1 : DataW H) (p1 : List MemPlace)
    (o0 : Value.okWide Try.prog W .any base 27 v0) (o1 : Value.okWide Try.prog W .any base 27 v1)
    (h0 : DataW.Trod enc Try.prog W 0 (fun _ => true) true 27 v0 d0 p0) (h1 : DataW.Trod enc Try.prog W 0 (fun _ => true) true 27 v1 d1 p1)
    (_hsz : (DataW.weightsEach Try.prog [27, 27] [d0, d1]).all (· ≤ reachBytes) = true) :
    Calls Try.prog 6 #[v0, v1] W fun e w' => e = .returned (.bool true) ∧ Below W.heap.size W w' := by
  obtain ⟨A, c, xs, rfl, r0, f0, l0, hc, hm⟩ := open_rowc 0 _hsz rfl rfl Try.underlying27 Try.underlying5 (by kernel_rfl) (B := 1) (by kernel_rfl) o0 h0
  obtain ⟨B, d, ys, rfl, r1, f1, l1, hd, hm1⟩ := open_rowc 1 _hsz rfl rfl Try.underlying27 Try.underlying5 (by kernel_rfl) (B := 1) (by kernel_rfl) o1 h1
  exact orders_any A B _ c _ d xs ys W rfl rfl r0 r1 (fun i => f0.u8 i) (fun i => f1.u8 i) (by omega) (by omega)
end Go.Proofs.Ytedejkfhgpnhpaa

/-
  The law RecordOrder at arguments as the row reads them.
-/
import Derived.Test.YtedejkfhgpnhpaaOu
import Derived.Test.YtedejkfhgpnhpaaOh
set_option linter.unusedVariables false
namespace Go.Proofs.Ytedejkfhgpnhpaa
open Go.ChangeShapes Go.WideShapes Go.ChangeAt Go.RowKit

set_option maxRecDepth 100000 in
theorem recordOrder_open {H : Type} {enc : TypeId × Value → H} (W : World) (base : Nat) (v0 : Value) (d0 : DataW H) (p0 : List MemPlace) (v1 : Value) (d1 : DataW H) (p1 : List MemPlace) (v2 : Value) (d2 : DataW H) (p2 : List MemPlace)
    (o0 : Value.okWide Try.prog W .any base 27 v0) (o1 : Value.okWide Try.prog W .any base 27 v1) (o2 : Value.okWide Try.prog W .any base 27 v2)
    (h0 : DataW.Trod enc Try.prog W 0 (fun _ => true) true 27 v0 d0 p0) (h1 : DataW.Trod enc Try.prog W 0 (fun _ => true) true 27 v1 d1 p1) (h2 : DataW.Trod enc Try.prog W 0 (fun _ => true) true 27 v2 d2 p2)
    (_hsz : (DataW.weightsEach Try.prog [27, 27, 27] [d0, d1, d2]).all (· ≤ reachBytes) = true) :
    Calls Try.prog 10 #[v0, v1, v2] W fun e w' => e = .returned (.bool true) ∧ Below W.heap.size W w' := by
  obtain ⟨A, c, xs, rfl, r0, f0, l0, hc0, hm0⟩ := open_rowc 0 _hsz rfl rfl Try.underlying27 Try.underlying5 (by kernel_rfl) (B := 1) (by kernel_rfl) o0 h0
  obtain ⟨B, d, ys, rfl, r1, f1, l1, hc1, hm1⟩ := open_rowc 1 _hsz rfl rfl Try.underlying27 Try.underlying5 (by kernel_rfl) (B := 1) (by kernel_rfl) o1 h1
  obtain ⟨C, e, zs, rfl, r2, f2, l2, hc2, hm2⟩ := open_rowc 2 _hsz rfl rfl Try.underlying27 Try.underlying5 (by kernel_rfl) (B := 1) (by kernel_rfl) o2 h2
  exact orders_law A _ c xs B _ d ys C _ e zs W rfl rfl rfl hc0 hc1 hc2 (by unfold maxLen at hm0; omega) (by unfold maxLen at hm1; omega) (by unfold maxLen at hm2; omega) r0 r1 r2 (fun i => f0.u8 i) (fun i => f1.u8 i) (fun i => f2.u8 i) (by omega) (by omega) (by omega)
end Go.Proofs.Ytedejkfhgpnhpaa

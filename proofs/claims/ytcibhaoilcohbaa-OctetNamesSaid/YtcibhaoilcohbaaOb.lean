/-
  The laws OctetBack and OctetNames at arguments as the rows read them.
-/
import Derived.Test.YtcibhaoilcohbaaLb
import Derived.Test.YtcibhaoilcohbaaOpn
set_option linter.unusedVariables false
namespace Go.Proofs.Ytcibhaoilcohbaa
open Go.ChangeShapes Go.WideShapes Go.ChangeAt Go.RowKit

theorem wf64b {x : Int} (h : (Lit.int .u64 x).wf = true) : ∃ n : Nat, x = n ∧ n < 18446744073709551616 := by
  have : 0 ≤ x ∧ x ≤ 18446744073709551615 := by simpa [Lit.wf, IntKind.min, IntKind.max, IntKind.signed, IntKind.bits] using h
  exact ⟨x.toNat, by omega, by omega⟩
set_option maxRecDepth 100000 in
theorem octetBack_open {H : Type} {enc : TypeId × Value → H} (W : World) (base : Nat) (v0 : Value) (d0 : DataW H) (p0 : List MemPlace)
    (o0 : Value.okWide Try.prog W .any base 23 v0) (h0 : DataW.Trod enc Try.prog W 0 (fun _ => true) true 23 v0 d0 p0)
    (_hsz : (DataW.weightsEach Try.prog [23] [d0]).all (· ≤ reachBytes) = true) :
    Calls Try.prog 10 #[v0] W fun e w' => e = .returned (.bool true) ∧ Below W.heap.size W w' := by
  obtain ⟨a0, rfl, rfl, rfl, w0⟩ := open_int Try.underlying23 o0 h0
  obtain ⟨X, rfl, hX⟩ := wf64b w0
  exact back_any X W hX
theorem octetNames_open {p : Prop} (W : World) (base : Nat) (_hsz : p) :
    Calls Try.prog 9 #[] W fun e w' => e = .returned (.bool true) ∧ Below W.heap.size W w' := names_any W
end Go.Proofs.Ytcibhaoilcohbaa

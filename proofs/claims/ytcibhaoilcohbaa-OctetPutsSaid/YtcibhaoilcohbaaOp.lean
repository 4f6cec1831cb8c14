/-
  Numbers and lists as the rows read them; the law OctetPuts at these.
-/
import Derived.Test.YtcibhaoilcohbaaLp
import Derived.Test.YtcibhaoilcohbaaOpn
set_option linter.unusedVariables false
namespace Go.Proofs.Ytcibhaoilcohbaa
open Go.ChangeShapes Go.WideShapes Go.ChangeAt Go.RowKit

theorem wf64 {x : Int} (h : (Lit.int .u64 x).wf = true) : ∃ n : Nat, x = n ∧ n < 18446744073709551616 := by
  have : 0 ≤ x ∧ x ≤ 18446744073709551615 := by simpa [Lit.wf, IntKind.min, IntKind.max, IntKind.signed, IntKind.bits] using h
  exact ⟨x.toNat, by omega, by omega⟩

set_option maxRecDepth 100000 in
theorem octetPuts_open {H : Type} {enc : TypeId × Value → H} (W : World) (base : Nat) (v0 : Value) (d0 : DataW H) (p0 : List MemPlace) (v1 : Value) (d1 : DataW H) (p1 : List MemPlace)
    (o0 : Value.okWide Try.prog W .any base 22 v0) (o1 : Value.okWide Try.prog W .any base 23 v1)
    (h0 : DataW.Trod enc Try.prog W 0 (fun _ => true) true 22 v0 d0 p0) (h1 : DataW.Trod enc Try.prog W 0 (fun _ => true) true 23 v1 d1 p1)
    (_hsz : (DataW.weightsEach Try.prog [22, 23] [d0, d1]).all (· ≤ reachBytes) = true) :
    Calls Try.prog 3 #[v0, v1] W fun e w' => e = .returned (.bool true) ∧ Below W.heap.size W w' := by
  obtain ⟨A, c, xs, rfl, r0, f0, l0, hc, hm⟩ := open_rowc 0 _hsz rfl rfl Try.underlying22 Try.underlying5 (by kernel_rfl) (B := 1) (by kernel_rfl) o0 h0
  obtain ⟨a0, rfl, rfl, rfl, w0⟩ := open_int Try.underlying23 o1 h1
  obtain ⟨X, rfl, hX⟩ := wf64 w0
  exact puts_any A _ c X xs W rfl r0 hX (by omega)
end Go.Proofs.Ytcibhaoilcohbaa

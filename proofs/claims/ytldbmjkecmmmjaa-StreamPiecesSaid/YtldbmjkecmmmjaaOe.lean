/-
  The law StreamTells at arguments as the row reads them.
-/
import Derived.Test.YtldbmjkecmmmjaaTe
import Derived.Test.YtldbmjkecmmmjaaOo
set_option linter.unusedVariables false
namespace Go.Proofs.Ytldbmjkecmmmjaa
open Go.ChangeShapes Go.WideShapes Go.ChangeAt Go.RowKit

theorem wf_i64 {x : Int} (h : (Lit.int .i64 x).wf = true) : -9223372036854775808 ≤ x ∧ x ≤ 9223372036854775807 := by
  simpa [Lit.wf, IntKind.min, IntKind.max, IntKind.signed, IntKind.bits] using h
theorem streamTells_open {H : Type} {enc : TypeId × Value → H} (W : World) (base : Nat) (v0 : Value) (d0 : DataW H) (p0 : List MemPlace) (v1 : Value) (d1 : DataW H) (p1 : List MemPlace) (v2 : Value) (d2 : DataW H) (p2 : List MemPlace)
    (o0 : Value.okWide Try.prog W .any base 35 v0) (o1 : Value.okWide Try.prog W .any base 3 v1) (o2 : Value.okWide Try.prog W .any base 3 v2)
    (h0 : DataW.Trod enc Try.prog W 0 (fun _ => true) true 35 v0 d0 p0) (h1 : DataW.Trod enc Try.prog W 0 (fun _ => true) true 3 v1 d1 p1) (h2 : DataW.Trod enc Try.prog W 0 (fun _ => true) true 3 v2 d2 p2)
    (_hsz : (DataW.weightsEach Try.prog [35, 3, 3] [d0, d1, d2]).all (· ≤ reachBytes) = true) :
    Calls Try.prog 9 #[v0, v1, v2] W fun e w' => e = .returned (.bool true) ∧ Below W.heap.size W w' := by
  obtain ⟨b, rfl, ok⟩ := open_begin o0 h0
  obtain ⟨x, rfl, hx⟩ := open_int Try.underlying3 o1 h1
  obtain ⟨y, rfl, hy⟩ := open_int Try.underlying3 o2 h2
  exact tells_law x y b.ks b.ns b.c W (wf_i64 hx.2.2) (wf_i64 hy.2.2) ok.hk ok.hn ok.bk ok.bn ok.hc (fun d hd => ourC ⟨b.ks, b.ns, d⟩ ⟨ok.hk, ok.hn, ok.bk, ok.bn, hd⟩)
end Go.Proofs.Ytldbmjkecmmmjaa

/-
  The law StreamFresh at arguments as the row reads them.
-/
import Derived.Test.YtldbmjkecmmmjaaFr
import Derived.Test.YtldbmjkecmmmjaaOo
set_option linter.unusedVariables false
namespace Go.Proofs.Ytldbmjkecmmmjaa
open Go.ChangeShapes Go.WideShapes Go.ChangeAt Go.RowKit

theorem streamFresh_open {H : Type} {enc : TypeId × Value → H} (W : World) (base : Nat) (v0 : Value) (d0 : DataW H) (p0 : List MemPlace) (v1 : Value) (d1 : DataW H) (p1 : List MemPlace) (v2 : Value) (d2 : DataW H) (p2 : List MemPlace)
    (o0 : Value.okWide Try.prog W .any base 35 v0) (o1 : Value.okWide Try.prog W .any base 39 v1) (o2 : Value.okWide Try.prog W .any base 39 v2)
    (h0 : DataW.Trod enc Try.prog W 0 (fun _ => true) true 35 v0 d0 p0) (h1 : DataW.Trod enc Try.prog W 0 (fun _ => true) true 39 v1 d1 p1) (h2 : DataW.Trod enc Try.prog W 0 (fun _ => true) true 39 v2 d2 p2)
    (_hsz : (DataW.weightsEach Try.prog [35, 39, 39] [d0, d1, d2]).all (· ≤ reachBytes) = true) :
    Calls Try.prog 8 #[v0, v1, v2] W fun e w' => e = .returned (.bool true) ∧ Below W.heap.size W w' := by
  obtain ⟨b, rfl, ok⟩ := open_begin o0 h0
  obtain ⟨A, c, xs, rfl, r1, f1, l1, _, _⟩ := open_rowc 1 _hsz rfl rfl Try.underlying39 Try.underlying5 (by kernel_rfl) (B := 1) (by kernel_rfl) o1 h1
  obtain ⟨B, d, ys, rfl, r2, f2, l2, _, _⟩ := open_rowc 2 _hsz rfl rfl Try.underlying39 Try.underlying5 (by kernel_rfl) (B := 1) (by kernel_rfl) o2 h2
  exact fresh_law A xs.length c xs B ys.length d ys b.ks b.ns b.c W rfl r1 f1.B8 (by omega) rfl r2 f2.B8 (by omega) ok.hk ok.hn ok.bk ok.bn ok.hc
end Go.Proofs.Ytldbmjkecmmmjaa

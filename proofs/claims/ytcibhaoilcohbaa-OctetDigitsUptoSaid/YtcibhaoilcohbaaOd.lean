/-
  The law OctetDigits at arguments as the row reads them.
-/
import Derived.Test.YtcibhaoilcohbaaDg
import Derived.Test.YtcibhaoilcohbaaOh
set_option linter.unusedVariables false
namespace Go.Proofs.Ytcibhaoilcohbaa
open Go.ChangeShapes Go.WideShapes Go.ChangeAt Go.RowKit

set_option maxRecDepth 100000 in
theorem octetDigits_open {H : Type} {enc : TypeId × Value → H} (W : World) (base : Nat) (v0 : Value) (d0 : DataW H) (p0 : List MemPlace) (v1 : Value) (d1 : DataW H) (p1 : List MemPlace) (v2 : Value) (d2 : DataW H) (p2 : List MemPlace)
    (o0 : Value.okWide Try.prog W .any base 22 v0) (o1 : Value.okWide Try.prog W .any base 22 v1) (o2 : Value.okWide Try.prog W .any base 9 v2)
    (h0 : DataW.Trod enc Try.prog W 0 (fun _ => true) true 22 v0 d0 p0) (h1 : DataW.Trod enc Try.prog W 0 (fun _ => true) true 22 v1 d1 p1) (h2 : DataW.Trod enc Try.prog W 0 (fun _ => true) true 9 v2 d2 p2)
    (_hsz : (DataW.weightsEach Try.prog [22, 22, 9] [d0, d1, d2]).all (· ≤ reachBytes) = true) (hk : Rows.uptoSmall H [d0, d1, d2] = true) :
    Calls Try.prog 8 #[v0, v1, v2] W fun e w' => e = .returned (.bool true) ∧ Below W.heap.size W w' := by
  obtain ⟨A, c, xs, rfl, r0, f0, hc, hm, hb⟩ := open_rowu Try.underlying22 Try.underlying5 (by kernel_rfl) o0 h0
  obtain ⟨B, d, ys, rfl, r1, f1, hd, hm1, hb1⟩ := open_rowu Try.underlying22 Try.underlying5 (by kernel_rfl) o1 h1
  obtain ⟨s, rfl, rfl, rfl, hmax⟩ := Go.ChangeMaps.open_string Try.underlying9 o2 h2
  have b0 := bulk_of hk 0 (d := d0) rfl
  have b1 := bulk_of hk 1 (d := d1) rfl
  have b2 := bulk_of hk 2 (d := .lit (.string s.data.toList)) rfl
  rw [bulk_string, data_size] at b2
  exact digits_any A _ c xs B _ d ys s W rfl rfl r0 r1 (fun i => f0.u8 i) (fun i => f1.u8 i) (by omega) (by omega) (by omega)
end Go.Proofs.Ytcibhaoilcohbaa

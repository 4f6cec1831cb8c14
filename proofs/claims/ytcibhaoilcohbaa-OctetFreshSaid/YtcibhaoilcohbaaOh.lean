/-
  The law OctetHexes at arguments as the row reads them.
-/
import Derived.Test.YtcibhaoilcohbaaHl
import Derived.Test.YtcibhaoilcohbaaBk
import Derived.ChangeMaps5
set_option linter.unusedVariables false
namespace Go.Proofs.Ytcibhaoilcohbaa
open Go.ChangeShapes Go.WideShapes Go.ChangeAt Go.RowKit

theorem data_size (s : ByteArray) : s.data.toList.length = s.size := by rw [Array.length_toList]; rfl
set_option maxRecDepth 100000 in
theorem octetHexes_open {H : Type} {enc : TypeId × Value → H} (W : World) (base : Nat) (v0 : Value) (d0 : DataW H) (p0 : List MemPlace) (v1 : Value) (d1 : DataW H) (p1 : List MemPlace)
    (o0 : Value.okWide Try.prog W .any base 22 v0) (o1 : Value.okWide Try.prog W .any base 9 v1)
    (h0 : DataW.Trod enc Try.prog W 0 (fun _ => true) true 22 v0 d0 p0) (h1 : DataW.Trod enc Try.prog W 0 (fun _ => true) true 9 v1 d1 p1)
    (_hsz : (DataW.weightsEach Try.prog [22, 9] [d0, d1]).all (· ≤ reachBytes) = true) (hk : Rows.uptoSmall H [d0, d1] = true) :
    Calls Try.prog 4 #[v0, v1] W fun e w' => e = .returned (.bool true) ∧ Below W.heap.size W w' := by
  obtain ⟨A, c, xs, rfl, r0, f0, hc, hm, hb⟩ := open_rowu Try.underlying22 Try.underlying5 (by kernel_rfl) o0 h0
  obtain ⟨s, rfl, rfl, rfl, hmax⟩ := Go.ChangeMaps.open_string Try.underlying9 o1 h1
  have b0 := bulk_of hk 0 (d := d0) rfl
  have b1 := bulk_of hk 1 (d := .lit (.string s.data.toList)) rfl
  rw [bulk_string, data_size] at b1
  exact hexes_any A _ c xs s W rfl r0 (fun i => f0.u8 i) (by omega) (by omega)
end Go.Proofs.Ytcibhaoilcohbaa

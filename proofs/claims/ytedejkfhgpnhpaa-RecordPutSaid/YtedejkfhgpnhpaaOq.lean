/-
  The law RecordPut at arguments as the row reads them.
-/
import Derived.Test.YtedejkfhgpnhpaaRp
import Derived.Test.YtedejkfhgpnhpaaOh
set_option linter.unusedVariables false
namespace Go.Proofs.Ytedejkfhgpnhpaa
open Go.ChangeShapes Go.WideShapes Go.ChangeAt Go.RowKit

set_option maxRecDepth 100000 in
theorem recordPut_open {H : Type} {enc : TypeId × Value → H} (W : World) (base : Nat) (v0 : Value) (d0 : DataW H) (p0 : List MemPlace) (v1 : Value) (d1 : DataW H) (p1 : List MemPlace) (v2 : Value) (d2 : DataW H) (p2 : List MemPlace)
    (o0 : Value.okWide Try.prog W .any base 26 v0) (o1 : Value.okWide Try.prog W .any base 26 v1) (o2 : Value.okWide Try.prog W .any base 27 v2)
    (h0 : DataW.Trod enc Try.prog W 0 (fun _ => true) true 26 v0 d0 p0) (h1 : DataW.Trod enc Try.prog W 0 (fun _ => true) true 26 v1 d1 p1) (h2 : DataW.Trod enc Try.prog W 0 (fun _ => true) true 27 v2 d2 p2)
    (_hsz : (DataW.weightsEach Try.prog [26, 26, 27] [d0, d1, d2]).all (· ≤ reachBytes) = true) :
    Calls Try.prog 9 #[v0, v1, v2] W fun e w' => e = .returned (.bool true) ∧ Below W.heap.size W w' := by
  obtain ⟨l, f, i, r, g, rfl, hl, hf, hi, hr, hg⟩ := open_head o0 h0
  obtain ⟨l2, f2, i2, r2, g2, rfl, hl2, hf2, hi2, hr2, hg2⟩ := open_head o1 h1
  obtain ⟨A, c, xs, rfl, r0, f0, l0, hc, hm⟩ := open_rowc 2 _hsz rfl rfl Try.underlying27 Try.underlying5 (by kernel_rfl) (B := 1) (by kernel_rfl) o2 h2
  exact put_any l f i r g l2 f2 i2 r2 g2 A _ c xs W rfl r0 (fun i => f0.u8 i) hl hf hi hr hg hl2 hf2 hi2 hr2 hg2 (by omega)
end Go.Proofs.Ytedejkfhgpnhpaa

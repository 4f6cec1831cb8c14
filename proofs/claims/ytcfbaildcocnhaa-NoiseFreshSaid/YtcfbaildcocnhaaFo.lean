/-
  The law NoiseFresh at arguments as the row reads them.
-/
import Derived.Test.YtcfbaildcocnhaaFh
import Derived.Test.YtcfbaildcocnhaaRx
set_option linter.unusedVariables false
namespace Go.Proofs.Ytcfbaildcocnhaa
open Go.ChangeShapes Go.WideShapes Go.ChangeAt Go.RowKit

set_option maxRecDepth 100000 in
theorem noiseFresh_open {H : Type} {enc : TypeId × Value → H} (W : World) (base : Nat) (v0 : Value) (d0 : DataW H) (p0 : List MemPlace) (v1 : Value) (d1 : DataW H) (p1 : List MemPlace)
    (o0 : Value.okWide Try.prog W .any base 53 v0) (o1 : Value.okWide Try.prog W .any base 3 v1)
    (h0 : DataW.Trod enc Try.prog W 0 (fun _ => true) true 53 v0 d0 p0) (h1 : DataW.Trod enc Try.prog W 0 (fun _ => true) true 3 v1 d1 p1)
    (_hsz : (DataW.weightsEach Try.prog [53, 3] [d0, d1]).all (· ≤ reachBytes) = true) :
    Calls Try.prog 9 #[v0, v1] W fun e w' => e = .returned (.bool true) ∧ Below W.heap.size W w' := by
  obtain ⟨ks, rfl, hk, bk⟩ := open_key o0 h0
  obtain ⟨z, rfl, _⟩ := open_int Try.underlying3 o1 h1
  exact fresh_law ks z W hk bk
end Go.Proofs.Ytcfbaildcocnhaa

/-
  The law NoiseFair at arguments as the row reads them.
-/
import Derived.Test.YtcfbaildcocnhaaFa
import Derived.Test.YtcfbaildcocnhaaRx
set_option linter.unusedVariables false
namespace Go.Proofs.Ytcfbaildcocnhaa
open Go.ChangeShapes Go.WideShapes Go.ChangeAt Go.RowKit

set_option maxRecDepth 100000 in
theorem open_step {H : Type} {enc : TypeId × Value → H} {W : World} {base b0 : Nat} {r : Reach} {held : Bool} {spare : Nat → Bool} {v : Value} {d : DataW H} {ps : List MemPlace}
    (o : Value.okWide Try.prog W r base 64 v) (h : DataW.Trod enc Try.prog W b0 spare held 64 v d ps) : ∃ s : Nst, v = .agg s.cells.toArray ∧ NstOk s := by
  obtain ⟨cs, rfl, hsz⟩ := okWide_struct Try.underlying64 o
  obtain ⟨fuel, hf⟩ := h
  have k64 : Try.prog.cellsOf 64 = 6 := by kernel_rfl
  obtain ⟨s, hs, ok⟩ := step_of_trod (x := (d, ps)) (cs := cs.toList) (by rw [Array.length_toList, hsz, k64]) (by simpa [Value.cells] using hf)
  exact ⟨s, by rw [← hs], ok⟩
set_option maxRecDepth 100000 in
theorem noiseFair_open {H : Type} {enc : TypeId × Value → H} (W : World) (base : Nat) (v0 : Value) (d0 : DataW H) (p0 : List MemPlace) (v1 : Value) (d1 : DataW H) (p1 : List MemPlace)
    (o0 : Value.okWide Try.prog W .any base 53 v0) (o1 : Value.okWide Try.prog W .any base 64 v1)
    (h0 : DataW.Trod enc Try.prog W 0 (fun _ => true) true 53 v0 d0 p0) (h1 : DataW.Trod enc Try.prog W 0 (fun _ => true) true 64 v1 d1 p1)
    (_hsz : (DataW.weightsEach Try.prog [53, 64] [d0, d1]).all (· ≤ reachBytes) = true) :
    Calls Try.prog 10 #[v0, v1] W fun e w' => e = .returned (.bool true) ∧ Below W.heap.size W w' := by
  obtain ⟨ks, rfl, hk, bk⟩ := open_key o0 h0
  obtain ⟨⟨sd, su, sn, sm, sx, so⟩, rfl, -, hu, -, -, hx⟩ := open_step o1 h1
  have hu' : 0 ≤ su ∧ su ≤ 18446744073709551615 := by simpa [Lit.wf, IntKind.min, IntKind.max, IntKind.signed, IntKind.bits] using hu
  obtain ⟨U, rfl⟩ : ∃ U : Nat, su = (U : Int) := ⟨su.toNat, by omega⟩
  exact fair_law ks sd U sn sm sx so W hk bk (by omega) hx
end Go.Proofs.Ytcfbaildcocnhaa

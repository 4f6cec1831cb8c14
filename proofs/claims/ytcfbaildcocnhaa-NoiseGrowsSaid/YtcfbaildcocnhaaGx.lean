/-
  The law NoiseGrows at arguments as the row reads them.
-/
import Derived.Test.YtcfbaildcocnhaaGv
set_option linter.unusedVariables false
namespace Go.Proofs.Ytcfbaildcocnhaa
open Go.ChangeShapes Go.WideShapes Go.ChangeAt Go.RowKit

set_option maxRecDepth 100000 in
theorem noiseGrows_open {H : Type} {enc : TypeId × Value → H} (W : World) (base : Nat) (v0 : Value) (d0 : DataW H) (p0 : List MemPlace)
    (o0 : Value.okWide Try.prog W .any base 46 v0) (h0 : DataW.Trod enc Try.prog W 0 (fun _ => true) true 46 v0 d0 p0)
    (_hsz : (DataW.weightsEach Try.prog [46] [d0]).all (· ≤ reachBytes) = true) :
    Calls Try.prog 11 #[v0] W fun e w' => e = .returned (.bool true) ∧ Below W.heap.size W w' := by
  obtain ⟨cs, xs, n, rfl, hsz, hd, hl, hf⟩ := open_struct Try.underlying46 o0 h0
  have k46 : Try.prog.cellsOf 46 = 9 := by kernel_rfl
  have k24 : Try.prog.cellsOf 24 = 2 := by kernel_rfl
  have k3 : Try.prog.cellsOf 3 = 1 := by kernel_rfl
  rw [k46] at hsz
  obtain ⟨l⟩ := cs
  obtain ⟨a0, a1, a2, a3, a4, a5, a6, a7, a8, rfl⟩ := len9 (l := l) (by simpa using hsz)
  obtain ⟨y0, y1, y2, y3, y4, rfl⟩ := len5 hl
  have g0 := hf 0 _ rfl
  have g1 := hf 1 _ rfl
  have g2 := hf 2 _ rfl
  have g3 := hf 3 _ rfl
  have g4 := hf 4 _ rfl
  simp [k24, k3] at g0 g1 g2 g3 g4
  obtain ⟨x0, o0', rfl, rfl, w0⟩ := open_float2 g0
  obtain ⟨x1, o1', rfl, rfl, w1⟩ := open_float2 g1
  obtain ⟨x2, o2', rfl, rfl, w2⟩ := open_float2 g2
  obtain ⟨x3, o3', rfl, rfl, w3⟩ := open_float2 g3
  obtain ⟨rn, e4, _, _⟩ := DataW.trod_int Try.underlying3 g4
  simp at e4
  subst e4
  exact grows_law x0 o0' x1 o1' x2 o2' x3 o3' rn W w0 w1 w2 w3
end Go.Proofs.Ytcfbaildcocnhaa

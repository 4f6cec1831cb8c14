/-
  The law NoiseNeverOver at arguments as the row reads them.
-/
import Derived.Test.YtcfbaildcocnhaaNv
set_option linter.unusedVariables false
namespace Go.Proofs.Ytcfbaildcocnhaa
open Go.ChangeShapes Go.WideShapes Go.ChangeAt Go.RowKit

theorem len4' {α : Type} {l : List α} (h : l.length = 4) : ∃ a b c d, l = [a, b, c, d] := by
  match l, h with
  | [a, b, c, d], _ => exact ⟨a, b, c, d, rfl⟩
set_option maxRecDepth 100000 in
theorem noiseNeverOver_open {H : Type} {enc : TypeId × Value → H} (W : World) (base : Nat) (v0 : Value) (d0 : DataW H) (p0 : List MemPlace) (v1 : Value) (d1 : DataW H) (p1 : List MemPlace)
    (o0 : Value.okWide Try.prog W .any base 67 v0) (o1 : Value.okWide Try.prog W .any base 32 v1)
    (h0 : DataW.Trod enc Try.prog W 0 (fun _ => true) true 67 v0 d0 p0) (h1 : DataW.Trod enc Try.prog W 0 (fun _ => true) true 32 v1 d1 p1)
    (_hsz : (DataW.weightsEach Try.prog [67, 32] [d0, d1]).all (· ≤ reachBytes) = true) :
    Calls Try.prog 7 #[v0, v1] W fun e w' => e = .returned (.bool true) ∧ Below W.heap.size W w' := by
  obtain ⟨cs, rfl, hsz⟩ := okWide_array Try.underlying67 o0
  obtain ⟨fuel, hf⟩ := h0
  obtain ⟨xs, n, -, -, hcl, hxl, hel⟩ := DataW.trod_array Try.underlying67 hf
  have k67 : Try.prog.cellsOf 67 = 4 := by kernel_rfl
  have k24 : Try.prog.cellsOf 24 = 2 := by kernel_rfl
  rw [k67] at hsz
  obtain ⟨l⟩ := cs
  obtain ⟨a0, a1, a2, a3, rfl⟩ := len4' (l := l) (by simpa using hsz)
  have g0 := hel 0 (by omega)
  have g1 := hel 1 (by omega)
  simp [k24, Value.cells] at g0 g1
  rw [List.getElem?_eq_getElem (by omega)] at g0 g1
  obtain ⟨x0, o0', rfl, rfl, w0⟩ := open_float2 g0
  obtain ⟨x1, o1', rfl, rfl, w1⟩ := open_float2 g1
  have L1 := Light.of_each (P := Try.prog) (ts := [67, 32]) (ds := [d0, d1]) _hsz 1 rfl rfl
  obtain ⟨A1, m1, c1, rfl⟩ := okWide_slice Try.underlying32 o1
  obtain ⟨f1, hf1⟩ := h1
  obtain ⟨S1, k1, e1, ss1, q1, s1, n1, b1⟩ := open_spns (y := (d1, p1)) (by simpa [Value.cells] using hf1) L1
  rw [q1]
  exact never_law x0 o0' x1 o1' S1 k1 e1 ss1 W w0 w1 s1 n1 (by omega)
end Go.Proofs.Ytcfbaildcocnhaa

/-
  The law StreamQuarters at arguments as the row reads them.
-/
import Derived.Test.YtldbmjkecmmmjaaSq
import Derived.Test.YtldbmjkecmmmjaaRq
import Derived.Test.YtldbmjkecmmmjaaOpn
set_option linter.unusedVariables false
namespace Go.Proofs.Ytldbmjkecmmmjaa
open Go.ChangeShapes Go.WideShapes Go.ChangeAt Go.RowKit

theorem len4 {α : Type} {l : List α} (h : l.length = 4) : ∃ a b c d, l = [a, b, c, d] := by
  match l, h with
  | [a, b, c, d], _ => exact ⟨a, b, c, d, rfl⟩
theorem wf32 {x : Int} (h : (Lit.int .u32 x).wf = true) : ∃ n : Nat, x = n ∧ n < 4294967296 := by
  have : 0 ≤ x ∧ x ≤ 4294967295 := by simpa [Lit.wf, IntKind.min, IntKind.max, IntKind.signed, IntKind.bits] using h
  exact ⟨x.toNat, by omega, by omega⟩

theorem streamQuarters_open {H : Type} {enc : TypeId × Value → H} (W : World) (base : Nat) (v0 : Value) (d0 : DataW H) (p0 : List MemPlace)
    (o0 : Value.okWide Try.prog W .any base 23 v0) (h0 : DataW.Trod enc Try.prog W 0 (fun _ => true) true 23 v0 d0 p0)
    (_hsz : (DataW.weightsEach Try.prog [23] [d0]).all (· ≤ reachBytes) = true) :
    Calls Try.prog 3 #[v0] W fun e w' => e = .returned (.bool true) ∧ Below W.heap.size W w' := by
  obtain ⟨zs, rfl, hl, hf⟩ := open_array Try.underlying23 Try.underlying22 (by kernel_rfl) (by kernel_rfl) o0 h0
  obtain ⟨a, b, c, d, rfl⟩ := len4 hl
  obtain ⟨A, rfl, hA⟩ := wf32 (hf a (by simp))
  obtain ⟨B, rfl, hB⟩ := wf32 (hf b (by simp))
  obtain ⟨C, rfl, hC⟩ := wf32 (hf c (by simp))
  obtain ⟨D, rfl, hD⟩ := wf32 (hf d (by simp))
  exact squarters_walk rquarter_any A B C D W ⟨hA, hB, hC, hD⟩
end Go.Proofs.Ytldbmjkecmmmjaa

/-
  The law NetworkSorts at arguments as the row reads them.
-/
import Derived.Test.YtpglocgfdonmaaaSl
import Derived.Test.YtpglocgfdonmaaaHo
set_option linter.unusedVariables false
namespace Go.Proofs.Ytpglocgfdonmaaa
open Go.ChangeShapes Go.WideShapes Go.ChangeAt Go.RowKit

theorem fit_r64 {xs : List Int} (h : Fit .i64 xs) : ∀ i, R64 (xs.getD i 0) := fun i => by
  rcases Nat.lt_or_ge i xs.length with hi | hi
  · rw [List.getD_eq_getElem?_getD, List.getElem?_eq_getElem hi]
    exact wf64 (h xs[i] (List.getElem_mem hi))
  · rw [List.getD_eq_getElem?_getD, List.getElem?_eq_none hi]
    unfold R64; simp
theorem networkSorts_open {H : Type} {enc : TypeId × Value → H} (W : World) (base : Nat) (v0 : Value) (d0 : DataW H) (p0 : List MemPlace) (v1 : Value) (d1 : DataW H) (p1 : List MemPlace)
    (o0 : Value.okWide Try.prog W .any base 39 v0) (o1 : Value.okWide Try.prog W .any base 3 v1)
    (h0 : DataW.Trod enc Try.prog W 0 (fun _ => true) true 39 v0 d0 p0) (h1 : DataW.Trod enc Try.prog W 0 (fun _ => true) true 3 v1 d1 p1)
    (_hsz : (DataW.weightsEach Try.prog [39, 3] [d0, d1]).all (· ≤ reachBytes) = true) :
    Calls Try.prog 5 #[v0, v1] W fun e w' => e = .returned (.bool true) ∧ Below W.heap.size W w' := by
  obtain ⟨A, c, xs, rfl, hr, hf, hl⟩ := open_row 0 _hsz rfl rfl Try.underlying39 Try.underlying3 (by kernel_rfl) (B := 8) (by kernel_rfl) o0 h0
  obtain ⟨m, rfl, hm⟩ := open_int Try.underlying3 o1 h1
  exact sorts_law A _ c xs m W rfl hr (by omega) (fit_r64 hf) (wf64 hm.2.2)
end Go.Proofs.Ytpglocgfdonmaaa

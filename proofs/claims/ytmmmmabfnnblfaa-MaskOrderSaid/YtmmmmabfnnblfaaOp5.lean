/-
  The laws MaskOrder, MaskLists at arguments as the row reads them.
-/
import Derived.Test.YtmmmmabfnnblfaaLo
import Derived.Test.YtmmmmabfnnblfaaLi
import Derived.Test.YtmmmmabfnnblfaaOp3
set_option linter.unusedVariables false
namespace Go.Proofs.Ytmmmmabfnnblfaa
open Go.ChangeShapes Go.WideShapes Go.ChangeAt Go.RowKit

theorem maskLists_open {H : Type} {enc : TypeId × Value → H} (W : World) (base : Nat) (v0 : Value) (d0 : DataW H) (p0 : List MemPlace) (v1 : Value) (d1 : DataW H) (p1 : List MemPlace)
    (o0 : Value.okWide Try.prog W .any base 47 v0) (o1 : Value.okWide Try.prog W .any base 47 v1)
    (h0 : DataW.Trod enc Try.prog W 0 (fun _ => true) true 47 v0 d0 p0) (h1 : DataW.Trod enc Try.prog W 0 (fun _ => true) true 47 v1 d1 p1)
    (_hsz : (DataW.weightsEach Try.prog [47, 47] [d0, d1]).all (· ≤ reachBytes) = true) :
    Calls Try.prog 9 #[v0, v1] W fun e w' => e = .returned (.bool true) ∧ Below W.heap.size W w' := by
  obtain ⟨A, c, xs, rfl, r1, f1, l1⟩ := open_row 0 _hsz rfl rfl Try.underlying47 Try.underlying5 (by kernel_rfl) (B := 1) (by kernel_rfl) o0 h0
  obtain ⟨B, d, ys, rfl, r2, f2, l2⟩ := open_row 1 _hsz rfl rfl Try.underlying47 Try.underlying5 (by kernel_rfl) (B := 1) (by kernel_rfl) o1 h1
  exact lists_walk A B c d xs ys W r1 r2 f1.b8 f2.b8 (by omega) (by omega)

theorem size5 {cs : Array Value} (h : cs.size = 5) : ∃ a b c d e, cs = #[a, b, c, d, e] := by
  obtain ⟨l⟩ := cs
  match l, h with
  | [a, b, c, d, e], _ => exact ⟨a, b, c, d, e, rfl⟩
theorem len5 {α : Type} {l : List α} (h : l.length = 5) : ∃ a b c d e, l = [a, b, c, d, e] := by
  match l, h with
  | [a, b, c, d, e], _ => exact ⟨a, b, c, d, e, rfl⟩

theorem maskOrder_open {H : Type} {enc : TypeId × Value → H} (W : World) (base : Nat) (v0 : Value) (d0 : DataW H) (p0 : List MemPlace)
    (o0 : Value.okWide Try.prog W .any base 69 v0) (h0 : DataW.Trod enc Try.prog W 0 (fun _ => true) true 69 v0 d0 p0)
    (_hsz : (DataW.weightsEach Try.prog [69] [d0]).all (· ≤ reachBytes) = true) :
    Calls Try.prog 10 #[v0] W fun e w' => e = .returned (.bool true) ∧ Below W.heap.size W w' := by
  obtain ⟨cs, xs, n, rfl, hsz, hd, hl, hf⟩ := open_struct Try.underlying69 o0 h0
  have L := Light.of_each _hsz 0 rfl rfl
  obtain ⟨c0, c1, c2, c3, c4, rfl⟩ := size5 (hsz.trans (by kernel_rfl))
  obtain ⟨y0, y1, y2, y3, y4, rfl⟩ := len5 hl
  have k22 : Try.prog.cellsOf 22 = 1 := by kernel_rfl
  have k47 : Try.prog.cellsOf 47 = 1 := by kernel_rfl
  have g0 := hf 0 _ rfl
  have g1 := hf 1 _ rfl
  have g2 := hf 2 _ rfl
  have g3 := hf 3 _ rfl
  have g4 := hf 4 _ rfl
  simp [k22, k47] at g0 g1 g2 g3 g4
  subst hd
  obtain ⟨a0, e0, _, w0⟩ := DataW.trod_int Try.underlying22 g0
  obtain ⟨a1, e1, _, w1⟩ := DataW.trod_int Try.underlying22 g1
  simp at e0 e1
  subst e0 e1
  obtain ⟨X, rfl, hX⟩ := wf64 w0
  obtain ⟨Y, rfl, hY⟩ := wf64 w1
  obtain ⟨A, c, xs, rfl, r1, f1, l1⟩ := row_of_trod Try.underlying47 Try.underlying5 (by kernel_rfl) (B := 1) (by kernel_rfl) g2 (L.field Try.underlying69 (i := 2) rfl rfl)
  obtain ⟨B, d, ys, rfl, r2, f2, l2⟩ := row_of_trod Try.underlying47 Try.underlying5 (by kernel_rfl) (B := 1) (by kernel_rfl) g3 (L.field Try.underlying69 (i := 3) rfl rfl)
  obtain ⟨C, ce, zs, rfl, r3, f3, l3⟩ := row_of_trod Try.underlying47 Try.underlying5 (by kernel_rfl) (B := 1) (by kernel_rfl) g4 (L.field Try.underlying69 (i := 4) rfl rfl)
  exact order_walk X Y A B C c d ce xs ys zs W hX hY r1 r2 r3 f1.b8 f2.b8 f3.b8 (by omega) (by omega) (by omega)
end Go.Proofs.Ytmmmmabfnnblfaa

/-
  A head, a list of bytes, as the rows read them; the law RecordPuts at these.
-/
import Derived.Test.YtedejkfhgpnhpaaLp
import Derived.Test.YtedejkfhgpnhpaaOpn
set_option linter.unusedVariables false
namespace Go.Proofs.Ytedejkfhgpnhpaa
open Go.ChangeShapes Go.WideShapes Go.ChangeAt Go.RowKit

theorem some_of_lt {α : Type} {xs : List α} {i : Nat} (h : i < xs.length) : ∃ x, xs[i]? = some x := ⟨_, List.getElem?_eq_getElem h⟩
theorem wf_u32 {x : Int} (h : (Lit.int .u32 x).wf = true) : ∃ n : Nat, x = n ∧ n < 4294967296 := by
  have : 0 ≤ x ∧ x ≤ 4294967295 := by simpa [Lit.wf, IntKind.min, IntKind.max, IntKind.signed, IntKind.bits] using h
  exact ⟨x.toNat, by omega, by omega⟩
theorem wf_u8 {x : Int} (h : (Lit.int .u8 x).wf = true) : ∃ n : Nat, x = n ∧ n < 256 := by
  have : 0 ≤ x ∧ x ≤ 255 := by simpa [Lit.wf, IntKind.min, IntKind.max, IntKind.signed, IntKind.bits] using h
  exact ⟨x.toNat, by omega, by omega⟩

theorem open_head {H : Type} {enc : TypeId × Value → H} {W : World} {base b0 : Nat} {r : Reach} {held : Bool} {spare : Nat → Bool} {v : Value} {d : DataW H} {ps : List MemPlace}
    (o : Value.okWide Try.prog W r base 26 v) (h : DataW.Trod enc Try.prog W b0 spare held 26 v d ps) :
    ∃ (l f i rr : Nat) (g : Nat → Int), v = .agg (hArr l f i rr g) ∧ l < 256 ∧ f < 256 ∧ i < 4294967296 ∧ rr < 4294967296 ∧ ∀ k, 0 ≤ g k ∧ g k ≤ 255 := by
  obtain ⟨cs, xs, n, rfl, hsz, _, hl, hf⟩ := open_struct Try.underlying26 o h
  have hl5 : xs.length = 5 := hl
  have hsz20 : cs.size = 20 := hsz.trans (by kernel_rfl)
  have c5 : Try.prog.cellsOf 5 = 1 := by kernel_rfl
  have c22 : Try.prog.cellsOf 22 = 1 := by kernel_rfl
  have c24 : Try.prog.cellsOf 24 = 16 := by kernel_rfl
  have f0 : DataW.trod enc Try.prog W b0 spare held n 5 (List.take (Try.prog.cellsOf 5) (List.drop 0 cs.toList)) = xs[0]? := hf 0 _ rfl
  have f1 : DataW.trod enc Try.prog W b0 spare held n 5 (List.take (Try.prog.cellsOf 5) (List.drop 1 cs.toList)) = xs[1]? := hf 1 _ rfl
  have f2 : DataW.trod enc Try.prog W b0 spare held n 22 (List.take (Try.prog.cellsOf 22) (List.drop 2 cs.toList)) = xs[2]? := hf 2 _ rfl
  have f3 : DataW.trod enc Try.prog W b0 spare held n 22 (List.take (Try.prog.cellsOf 22) (List.drop 3 cs.toList)) = xs[3]? := hf 3 _ rfl
  have f4 : DataW.trod enc Try.prog W b0 spare held n 24 (List.take (Try.prog.cellsOf 24) (List.drop 4 cs.toList)) = xs[4]? := hf 4 _ rfl
  obtain ⟨x0, h0⟩ := some_of_lt (xs := xs) (i := 0) (by omega)
  obtain ⟨x1, h1⟩ := some_of_lt (xs := xs) (i := 1) (by omega)
  obtain ⟨x2, h2⟩ := some_of_lt (xs := xs) (i := 2) (by omega)
  obtain ⟨x3, h3⟩ := some_of_lt (xs := xs) (i := 3) (by omega)
  obtain ⟨x4, h4⟩ := some_of_lt (xs := xs) (i := 4) (by omega)
  rw [h0] at f0; rw [h1] at f1; rw [h2] at f2; rw [h3] at f3; rw [h4] at f4
  obtain ⟨z0, e0, _, w0⟩ := DataW.trod_int Try.underlying5 f0
  obtain ⟨z1, e1, _, w1⟩ := DataW.trod_int Try.underlying5 f1
  obtain ⟨z2, e2, _, w2⟩ := DataW.trod_int Try.underlying22 f2
  obtain ⟨z3, e3, _, w3⟩ := DataW.trod_int Try.underlying22 f3
  obtain ⟨zs, e4, hz, fz⟩ := ints_of_array Try.underlying24 Try.underlying5 c5 c24 f4
  obtain ⟨l, rfl, hl'⟩ := wf_u8 w0
  obtain ⟨f, rfl, hf'⟩ := wf_u8 w1
  obtain ⟨i, rfl, hi'⟩ := wf_u32 w2
  obtain ⟨rr, rfl, hr'⟩ := wf_u32 w3
  refine ⟨l, f, i, rr, fun k => zs.getD k 0, ?_, hl', hf', hi', hr', fun k => fz.u8 k⟩
  congr 1
  rw [c5] at e0 e1; rw [c22] at e2 e3; rw [c24] at e4
  obtain ⟨ls⟩ := cs
  simp only [List.size_toArray] at hsz20
  unfold hArr hlist
  congr 1
  match ls, hsz20 with
  | [a0, a1, a2, a3, a4, a5, a6, a7, a8, a9, a10, a11, a12, a13, a14, a15, a16, a17, a18, a19], _ =>
    match zs, hz with
    | [b0, b1, b2, b3, b4, b5, b6, b7, b8, b9, b10, b11, b12, b13, b14, b15], _ =>
      simp at e0 e1 e2 e3 e4
      simp [e0, e1, e2, e3, e4]

theorem recordPuts_open {H : Type} {enc : TypeId × Value → H} (W : World) (base : Nat) (v0 : Value) (d0 : DataW H) (p0 : List MemPlace) (v1 : Value) (d1 : DataW H) (p1 : List MemPlace)
    (o0 : Value.okWide Try.prog W .any base 27 v0) (o1 : Value.okWide Try.prog W .any base 26 v1)
    (h0 : DataW.Trod enc Try.prog W 0 (fun _ => true) true 27 v0 d0 p0) (h1 : DataW.Trod enc Try.prog W 0 (fun _ => true) true 26 v1 d1 p1)
    (_hsz : (DataW.weightsEach Try.prog [27, 26] [d0, d1]).all (· ≤ reachBytes) = true) :
    Calls Try.prog 4 #[v0, v1] W fun e w' => e = .returned (.bool true) ∧ Below W.heap.size W w' := by
  obtain ⟨A, c, xs, rfl, r0, f0, l0, hc, hm⟩ := open_rowc 0 _hsz rfl rfl Try.underlying27 Try.underlying5 (by kernel_rfl) (B := 1) (by kernel_rfl) o0 h0
  obtain ⟨l, f, i, r, g, rfl, hl, hf, hi, hr, hg⟩ := open_head o1 h1
  exact puts_any l f i r g A _ c xs W rfl hc (by unfold maxLen at hm; omega) r0 hi hr (by omega)
end Go.Proofs.Ytedejkfhgpnhpaa

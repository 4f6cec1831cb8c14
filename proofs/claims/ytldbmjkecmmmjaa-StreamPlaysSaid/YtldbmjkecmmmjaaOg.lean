/-
  Where a stream begins, as the rows read it; the law StreamBlocks at these.
-/
import Derived.Test.YtldbmjkecmmmjaaSb
import Derived.Test.YtldbmjkecmmmjaaBd
import Derived.Test.YtldbmjkecmmmjaaOpn
set_option linter.unusedVariables false
namespace Go.Proofs.Ytldbmjkecmmmjaa
open Go.ChangeShapes Go.WideShapes Go.ChangeAt Go.RowKit

theorem some_of_lt {α : Type} {xs : List α} {i : Nat} (h : i < xs.length) : ∃ x, xs[i]? = some x := ⟨_, List.getElem?_eq_getElem h⟩
theorem wf_u32 {x : Int} (h : (Lit.int .u32 x).wf = true) : ∃ n : Nat, x = n ∧ n < 4294967296 := by
  have : 0 ≤ x ∧ x ≤ 4294967295 := by simpa [Lit.wf, IntKind.min, IntKind.max, IntKind.signed, IntKind.bits] using h
  exact ⟨x.toNat, by omega, by omega⟩
theorem Fit.B8 {xs : List Int} (h : Fit .u8 xs) : B8 xs := B8.of fun x hx => by
  have := h x hx
  simpa [Lit.wf, IntKind.min, IntKind.max, IntKind.signed, IntKind.bits] using this

/-- A beginning: key, nonce, counter. -/
structure Beg where
  ks : List Int
  ns : List Int
  c : Nat
structure Beg.ok (b : Beg) : Prop where
  hk : b.ks.length = 32
  hn : b.ns.length = 12
  bk : B8 b.ks
  bn : B8 b.ns
  hc : b.c < 4294967296
theorem begin_of_trod {H : Type} {enc : TypeId × Value → H} {W : World} {b0 fuel : Nat} {held : Bool} {spare : Nat → Bool} {cs : List Value} {x : DataW H × List MemPlace}
    (hsz : cs.length = 45) (h : DataW.trod enc Try.prog W b0 spare held fuel 35 cs = some x) : ∃ b : Beg, cs = BGl b.ks b.ns b.c ∧ b.ok := by
  obtain ⟨xs, n, _, _, _, hl, hf⟩ := DataW.trod_struct Try.underlying35 h
  have hl3 : xs.length = 3 := hl
  have c5 : Try.prog.cellsOf 5 = 1 := by kernel_rfl
  have c22 : Try.prog.cellsOf 22 = 1 := by kernel_rfl
  have c31 : Try.prog.cellsOf 31 = 32 := by kernel_rfl
  have c33 : Try.prog.cellsOf 33 = 12 := by kernel_rfl
  have f0 : DataW.trod enc Try.prog W b0 spare held n 31 (List.take (Try.prog.cellsOf 31) (List.drop 0 cs)) = xs[0]? := hf 0 _ rfl
  have f1 : DataW.trod enc Try.prog W b0 spare held n 33 (List.take (Try.prog.cellsOf 33) (List.drop 32 cs)) = xs[1]? := hf 1 _ rfl
  have f2 : DataW.trod enc Try.prog W b0 spare held n 22 (List.take (Try.prog.cellsOf 22) (List.drop 44 cs)) = xs[2]? := hf 2 _ rfl
  obtain ⟨x0, h0⟩ := some_of_lt (xs := xs) (i := 0) (by omega)
  obtain ⟨x1, h1⟩ := some_of_lt (xs := xs) (i := 1) (by omega)
  obtain ⟨x2, h2⟩ := some_of_lt (xs := xs) (i := 2) (by omega)
  rw [h0] at f0; rw [h1] at f1; rw [h2] at f2
  obtain ⟨zs, e0, hz, fz⟩ := ints_of_array Try.underlying31 Try.underlying5 c5 c31 f0
  obtain ⟨ys, e1, hy, fy⟩ := ints_of_array Try.underlying33 Try.underlying5 c5 c33 f1
  obtain ⟨z2, e2, _, w2⟩ := DataW.trod_int Try.underlying22 f2
  obtain ⟨c, rfl, hc⟩ := wf_u32 w2
  rw [c31, List.drop_zero] at e0; rw [c33] at e1; rw [c22] at e2
  refine ⟨⟨zs, ys, c⟩, ?_, ⟨hz, hy, fz.B8, fy.B8, hc⟩⟩
  unfold BGl
  rw [← e0, ← e1, ← e2]
  have h1 : List.take 1 (List.drop 44 cs) = List.drop 44 cs := List.take_of_length_le (by simp; omega)
  have h2 : List.drop 44 cs = List.drop 12 (List.drop 32 cs) := by rw [List.drop_drop]
  rw [h1, h2, List.take_append_drop, List.take_append_drop]
theorem open_begin {H : Type} {enc : TypeId × Value → H} {W : World} {base b0 : Nat} {r : Reach} {held : Bool} {spare : Nat → Bool} {v : Value} {d : DataW H} {ps : List MemPlace}
    (o : Value.okWide Try.prog W r base 35 v) (h : DataW.Trod enc Try.prog W b0 spare held 35 v d ps) :
    ∃ b : Beg, v = .agg (BG b.ks b.ns b.c) ∧ b.ok := by
  obtain ⟨cs, rfl, hsz⟩ := okWide_struct Try.underlying35 o
  obtain ⟨fuel, hf⟩ := h
  obtain ⟨b, hb, ok⟩ := begin_of_trod (x := (d, ps)) (cs := cs.toList) (by rw [Array.length_toList, hsz]; kernel_rfl) (by simpa [Value.cells] using hf)
  refine ⟨b, ?_, ok⟩
  rw [BG_eq, ← hb]

theorem streamBlocks_open {H : Type} {enc : TypeId × Value → H} (W : World) (base : Nat) (v0 : Value) (d0 : DataW H) (p0 : List MemPlace)
    (o0 : Value.okWide Try.prog W .any base 35 v0) (h0 : DataW.Trod enc Try.prog W 0 (fun _ => true) true 35 v0 d0 p0)
    (_hsz : (DataW.weightsEach Try.prog [35] [d0]).all (· ≤ reachBytes) = true) :
    Calls Try.prog 4 #[v0] W fun e w' => e = .returned (.bool true) ∧ Below W.heap.size W w' := by
  obtain ⟨b, rfl, ok⟩ := open_begin o0 h0
  exact sblocks_walk rblock_any b.ks b.ns b.c W ok.hk ok.hn ok.bk ok.bn ok.hc
end Go.Proofs.Ytldbmjkecmmmjaa

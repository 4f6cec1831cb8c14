/-
  Steps opened; the law NoiseRow at arguments as the row reads them.
-/
import Derived.Test.YtcfbaildcocnhaaRw
import Derived.Test.YtcfbaildcocnhaaBo
set_option linter.unusedVariables false
namespace Go.Proofs.Ytcfbaildcocnhaa
open Go.ChangeShapes Go.WideShapes Go.ChangeAt Go.RowKit

theorem Fit.B8 {xs : List Int} (h : Fit .u8 xs) : B8 xs := B8.of fun x hx => by
  have := h x hx
  simpa [Lit.wf, IntKind.min, IntKind.max, IntKind.signed, IntKind.bits] using this
theorem len6 {α : Type} {l : List α} (h : l.length = 6) : ∃ a b c d e f, l = [a, b, c, d, e, f] := by
  match l, h with
  | [a, b, c, d, e, f], _ => exact ⟨a, b, c, d, e, f, rfl⟩
set_option maxRecDepth 100000 in
theorem open_key {H : Type} {enc : TypeId × Value → H} {W : World} {base b0 : Nat} {r : Reach} {held : Bool} {spare : Nat → Bool} {v : Value} {d : DataW H} {ps : List MemPlace}
    (o : Value.okWide Try.prog W r base 53 v) (h : DataW.Trod enc Try.prog W b0 spare held 53 v d ps) : ∃ ks : List Int, v = .agg (AY .u8 ks) ∧ ks.length = 32 ∧ B8 ks := by
  obtain ⟨zs, h1, h2, h3⟩ := open_array Try.underlying53 Try.underlying5 (by kernel_rfl) (by kernel_rfl) o h
  exact ⟨zs, by rw [h1, AY_eq], h2, h3.B8⟩
open Classical in
theorem pick {α : Type} {p : Nat → α → Prop} {n : Nat} (z : α) (h : ∀ i, i < n → ∃ x, p i x) : ∃ f : Nat → α, ∀ i, i < n → p i (f i) :=
  ⟨fun i => if hi : i < n then Classical.choose (h i hi) else z, fun i hi => by simp only [hi, dif_pos]; exact Classical.choose_spec (h i hi)⟩
/-- A step's whole numbers are of their kinds. -/
def NstOk (s : Nst) : Prop := (Lit.int .i64 s.d).wf = true ∧ (Lit.int .u64 s.u).wf = true ∧ (Lit.int .i64 s.n).wf = true ∧ (Lit.int .i64 s.m).wf = true ∧ (Lit.float .f64 s.x).wf = true
set_option maxRecDepth 100000 in
theorem step_of_trod {H : Type} {enc : TypeId × Value → H} {W : World} {b0 : Nat} {held : Bool} {spare : Nat → Bool} {fuel : Nat} {cs : List Value} {x : DataW H × List MemPlace} (hl : cs.length = 6) (ht : DataW.trod enc Try.prog W b0 spare held fuel 64 cs = some x) :
    ∃ s : Nst, cs = s.cells ∧ NstOk s := by
  have k3 : Try.prog.cellsOf 3 = 1 := by kernel_rfl
  have k62 : Try.prog.cellsOf 62 = 1 := by kernel_rfl
  have k24 : Try.prog.cellsOf 24 = 2 := by kernel_rfl
  obtain ⟨ys, n', hn', hy, hlen, hyl, hf⟩ := DataW.trod_struct Try.underlying64 ht
  obtain ⟨v0, v1, v2, v3, v4, v5, rfl⟩ := len6 hl
  obtain ⟨y0, y1, y2, y3, y4, rfl⟩ := len5 hyl
  have g0 := hf 0 _ rfl
  have g1 := hf 1 _ rfl
  have g2 := hf 2 _ rfl
  have g3 := hf 3 _ rfl
  have g4 := hf 4 _ rfl
  simp [k3, k62, k24] at g0 g1 g2 g3 g4
  obtain ⟨z0, e0, _, w0⟩ := DataW.trod_int Try.underlying3 g0
  obtain ⟨z1, e1, _, w1⟩ := DataW.trod_int Try.underlying62 g1
  obtain ⟨z2, e2, _, w2⟩ := DataW.trod_int Try.underlying3 g2
  obtain ⟨z3, e3, _, w3⟩ := DataW.trod_int Try.underlying3 g3
  obtain ⟨x4, o4, rfl, rfl, w4⟩ := open_float2 g4
  simp at e0 e1 e2 e3
  subst e0 e1 e2 e3
  exact ⟨⟨z0, z1, z2, z3, x4, o4⟩, rfl, w0, w1, w2, w3, w4⟩
def nostep : Nst := ⟨0, 0, 0, 0, 0, 0⟩
set_option maxRecDepth 100000 in
theorem open_steps {H : Type} {enc : TypeId × Value → H} {W : World} {b0 : Nat} {held : Bool} {v : Value} {y : DataW H × List MemPlace} {fuel : Nat}
    (hf : DataW.trod enc Try.prog W b0 (fun _ => true) held fuel 54 [v] = some y) :
    ∃ A m c ss, v = .slice A m c ∧ RdN W A ss m ∧ m ≤ c := by
  rcases Go.Deep.open_slice Try.underlying54 hf with ⟨hcs, _⟩ | ⟨a, len, cap, m, n, D, Pl, hcs, hb, hl, hm, hmm, hx, hi⟩
  · obtain rfl : v = .slice none 0 0 := by simpa using hcs
    exact ⟨none, 0, 0, fun _ => nostep, rfl, fun i h => absurd h (Nat.not_lt_zero _), Nat.le_refl _⟩
  · obtain rfl : v = .slice (some a) len cap := by simpa using hcs
    have hmc : len ≤ m := by rw [hmm]; split <;> omega
    have kc : Try.prog.cellsOf 64 = 6 := by kernel_rfl
    obtain ⟨b, off, spot⟩ := a
    by_cases h0 : len = 0
    · subst h0
      exact ⟨_, 0, cap, fun _ => nostep, rfl, fun i h => absurd h (Nat.not_lt_zero _), Nat.zero_le _⟩
    have hspot : spot = none := by
      obtain ⟨cs', hc, ht⟩ := hi 0 (by omega)
      rw [kc] at hc
      obtain ⟨_, hcl, hat⟩ := World.cells?_some hc
      have := hat 0 (by omega)
      rw [Go.Deep.add_add, Nat.add_zero, List.getElem?_eq_getElem (by omega)] at this
      simpa [Addr.add] using World.cell?_spot this
    subst hspot
    have each : ∀ i, i < len → ∃ s : Nst, W.rangeAt b (off + i * 6) s.cells ∧ b < W.heap.size := by
      intro i hil
      obtain ⟨cs', hc, ht⟩ := hi i (by omega)
      rw [kc] at hc
      obtain ⟨_, hcl, hat⟩ := World.cells?_some hc
      obtain ⟨s, hs, -⟩ := step_of_trod hcl ht
      subst hs
      have hr : W.rangeAt b (off + i * 6) s.cells := by
        intro j v hv
        have hj := (List.getElem?_eq_some_iff.1 hv).1
        have h := hat j (by rw [← hcl]; exact hj)
        rw [Go.Deep.add_add, addN] at h
        rw [Nat.add_assoc]
        exact h.trans hv
      refine ⟨s, hr, ?_⟩
      have h := hr 0 (.int .i64 s.d) rfl
      exact World.block_lt_of_cell? W _ h
    obtain ⟨ss, hss⟩ := pick nostep each
    exact ⟨_, len, cap, ss, rfl, fun i hil => ⟨b, off, rfl, (hss i hil).2, (hss i hil).1⟩, hl⟩
set_option maxRecDepth 100000 in
theorem noiseRow_open {H : Type} {enc : TypeId × Value → H} (W : World) (base : Nat) (v0 : Value) (d0 : DataW H) (p0 : List MemPlace) (v1 : Value) (d1 : DataW H) (p1 : List MemPlace)
    (o0 : Value.okWide Try.prog W .any base 53 v0) (o1 : Value.okWide Try.prog W .any base 54 v1)
    (h0 : DataW.Trod enc Try.prog W 0 (fun _ => true) true 53 v0 d0 p0) (h1 : DataW.Trod enc Try.prog W 0 (fun _ => true) true 54 v1 d1 p1)
    (_hsz : (DataW.weightsEach Try.prog [53, 54] [d0, d1]).all (· ≤ reachBytes) = true) :
    Calls Try.prog 8 #[v0, v1] W fun e w' => e = .returned (.bool true) ∧ Below W.heap.size W w' := by
  obtain ⟨ks, rfl, hk, bk⟩ := open_key o0 h0
  obtain ⟨A1, m1, c1, rfl⟩ := okWide_slice Try.underlying54 o1
  obtain ⟨f1, hf1⟩ := h1
  obtain ⟨S1, k1, e1, ss1, q1, s1, hc⟩ := open_steps (y := (d1, p1)) (by simpa [Value.cells] using hf1)
  rw [q1]
  exact row_law ks S1 k1 e1 ss1 W hk bk s1 hc
end Go.Proofs.Ytcfbaildcocnhaa

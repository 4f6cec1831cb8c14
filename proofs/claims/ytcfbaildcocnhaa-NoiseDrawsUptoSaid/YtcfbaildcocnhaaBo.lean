/-
  Rows of spendings opened; the law NoiseBudgets at arguments as the row reads them.
-/
import Derived.Test.YtcfbaildcocnhaaBw
import Derived.Test.YtcfbaildcocnhaaOpn
import Derived.Deep.Slices
set_option linter.unusedVariables false
namespace Go.Proofs.Ytcfbaildcocnhaa
open Go.ChangeShapes Go.WideShapes Go.ChangeAt Go.RowKit

theorem len2 {α : Type} {l : List α} (h : l.length = 2) : ∃ a b, l = [a, b] := by
  match l, h with
  | [a, b], _ => exact ⟨a, b, rfl⟩
theorem len3 {α : Type} {l : List α} (h : l.length = 3) : ∃ a b c, l = [a, b, c] := by
  match l, h with
  | [a, b, c], _ => exact ⟨a, b, c, rfl⟩
theorem len5 {α : Type} {l : List α} (h : l.length = 5) : ∃ a b c d e, l = [a, b, c, d, e] := by
  match l, h with
  | [a, b, c, d, e], _ => exact ⟨a, b, c, d, e, rfl⟩
theorem len8 {α : Type} {l : List α} (h : l.length = 8) : ∃ a b c d e f g i, l = [a, b, c, d, e, f, g, i] := by
  match l, h with
  | [a, b, c, d, e, f, g, i], _ => exact ⟨a, b, c, d, e, f, g, i, rfl⟩
theorem Light.of {H : Type} {P : Program} {t : TypeId} {d : DataW H} (h : Light P t d) {d' : DataW H} (e : d = d') : Light P t d' := e ▸ h
theorem addN (b off k : Nat) : (⟨b, off, none⟩ : Addr).add k = ⟨b, off + k, none⟩ := by
  unfold Addr.add
  split
  · subst_vars; rfl
  · rfl
/-- A Float's two cells. -/
theorem open_float2 {H : Type} {enc : TypeId × Value → H} {W : World} {b0 : Nat} {held : Bool} {spare : Nat → Bool} {fuel : Nat} {v0 v1 : Value} {y : DataW H × List MemPlace} (h : DataW.trod enc Try.prog W b0 spare held fuel 24 [v0, v1] = some y) :
    ∃ x o, v0 = .float .f64 x ∧ v1 = .int .i64 o ∧ (Lit.float .f64 x).wf = true := by
  obtain ⟨ys, n', hn', hy, hlen, hyl, hf⟩ := DataW.trod_struct Try.underlying24 h
  obtain ⟨y0, y1, rfl⟩ := len2 hyl
  have k3 : Try.prog.cellsOf 3 = 1 := by kernel_rfl
  have k22 : Try.prog.cellsOf 22 = 1 := by kernel_rfl
  have g0 := hf 0 _ rfl
  have g1 := hf 1 _ rfl
  simp [k3, k22] at g0 g1
  obtain ⟨x, e0, wx⟩ := trod_float Try.underlying22 g0
  obtain ⟨o, e1, _, _⟩ := DataW.trod_int Try.underlying3 g1
  simp at e0 e1
  exact ⟨x, o, e0, e1, wx⟩
def boolV : Value → Bool
  | .bool b => b
  | _ => false
def numV : Value → Int
  | .int _ z => z
  | _ => 0
def fltV : Value → Nat
  | .float _ z => z
  | _ => 0

set_option maxRecDepth 100000 in
theorem open_spns {H : Type} {enc : TypeId × Value → H} {W : World} {b0 : Nat} {held : Bool} {v : Value} {y : DataW H × List MemPlace} {fuel : Nat}
    (hf : DataW.trod enc Try.prog W b0 (fun _ => true) held fuel 32 [v] = some y) (L : Light Try.prog 32 y.1) :
    ∃ A m c ss, v = .slice A m c ∧ RdP W A ss m ∧ SpnOk ss m ∧ m ≤ 140737488351232 := by
  rcases Go.Deep.open_slice Try.underlying32 hf with ⟨hcs, _⟩ | ⟨a, len, cap, m, n, D, Pl, hcs, hb, hl, hm, hmm, hx, hi⟩
  · obtain rfl : v = .slice none 0 0 := by simpa using hcs
    exact ⟨none, 0, 0, fun _ => ⟨false, 0, 0, 0, 0⟩, rfl, fun i h => absurd h (Nat.not_lt_zero _), fun i h => absurd h (Nat.not_lt_zero _), by simp⟩
  · obtain rfl : v = .slice (some a) len cap := by simpa using hcs
    have L' := L.of (congrArg Prod.fst hx)
    have hmc : len ≤ m := by rw [hmm]; split <;> omega
    have z := L'.len Try.underlying32
    have kb : Try.prog.bytesOf 43 = 40 := by kernel_rfl
    have kc : Try.prog.cellsOf 43 = 5 := by kernel_rfl
    have k4 : Try.prog.cellsOf 4 = 1 := by kernel_rfl
    have k24 : Try.prog.cellsOf 24 = 2 := by kernel_rfl
    obtain ⟨b, off, spot⟩ := a
    by_cases h0 : len = 0
    · subst h0
      exact ⟨_, 0, cap, fun _ => ⟨false, 0, 0, 0, 0⟩, rfl, fun i h => absurd h (Nat.not_lt_zero _), fun i h => absurd h (Nat.not_lt_zero _), by simp⟩
    have hspot : spot = none := by
      obtain ⟨cs', hc, ht⟩ := hi 0 (by omega)
      rw [kc] at hc
      obtain ⟨_, hcl, hat⟩ := World.cells?_some hc
      have := hat 0 (by omega)
      rw [Go.Deep.add_add, Nat.add_zero, List.getElem?_eq_getElem (by omega)] at this
      simpa [Addr.add] using World.cell?_spot this
    subst hspot
    have each : ∀ i, i < len → ∃ q x o x' o', W.cell? ⟨b, off + i * 5, none⟩ = some (.bool q) ∧ W.cell? ⟨b, off + i * 5 + 1, none⟩ = some (.float .f64 x) ∧ W.cell? ⟨b, off + i * 5 + 2, none⟩ = some (.int .i64 o) ∧ W.cell? ⟨b, off + i * 5 + 3, none⟩ = some (.float .f64 x') ∧ W.cell? ⟨b, off + i * 5 + 4, none⟩ = some (.int .i64 o') ∧
        (Lit.float .f64 x).wf = true ∧ (Lit.float .f64 x').wf = true := by
      intro i hil
      obtain ⟨cs', hc, ht⟩ := hi i (by omega)
      rw [kc] at hc
      obtain ⟨_, hcl, hat⟩ := World.cells?_some hc
      obtain ⟨ys, n', hn', hy, hlen, hyl, hf⟩ := DataW.trod_struct Try.underlying43 ht
      obtain ⟨v0, v1, v2, v3, v4, rfl⟩ := len5 hcl
      obtain ⟨y0, y1, y2, rfl⟩ := len3 hyl
      have g0 := hf 0 _ rfl
      have g1 := hf 1 _ rfl
      have g2 := hf 2 _ rfl
      simp [k4, k24] at g0 g1 g2
      obtain ⟨q, e0, _⟩ := DataW.trod_bool Try.underlying4 g0
      obtain ⟨x, o, rfl, rfl, w1⟩ := open_float2 g1
      obtain ⟨x', o', rfl, rfl, w2⟩ := open_float2 g2
      simp at e0
      subst e0
      have c0 := hat 0 (by omega)
      have c1 := hat 1 (by omega)
      have c2 := hat 2 (by omega)
      have c3 := hat 3 (by omega)
      have c4 := hat 4 (by omega)
      rw [Go.Deep.add_add, addN] at c0 c1 c2 c3 c4
      exact ⟨q, x, o, x', o', c0, c1, c2, c3, c4, w1, w2⟩
    let ss : Nat → Spn := fun i => ⟨boolV ((W.cell? ⟨b, off + i * 5, none⟩).getD (.bool false)), fltV ((W.cell? ⟨b, off + i * 5 + 1, none⟩).getD (.bool false)), numV ((W.cell? ⟨b, off + i * 5 + 2, none⟩).getD (.bool false)), fltV ((W.cell? ⟨b, off + i * 5 + 3, none⟩).getD (.bool false)), numV ((W.cell? ⟨b, off + i * 5 + 4, none⟩).getD (.bool false))⟩
    refine ⟨_, len, cap, ss, rfl, ?_, ?_, ?_⟩
    · intro i hil
      obtain ⟨q, x, o, x', o', c0, c1, c2, c3, c4, _, _⟩ := each i hil
      refine ⟨b, off, rfl, ?_, ?_, ?_, ?_, ?_, ?_⟩
      · exact World.block_lt_of_cell? W _ c0
      · simp only [ss, c0]; rfl
      · simp only [ss, c1]; rfl
      · simp only [ss, c2]; rfl
      · simp only [ss, c3]; rfl
      · simp only [ss, c4]; rfl
    · intro i hil
      obtain ⟨q, x, o, x', o', c0, c1, c2, c3, c4, w1, w2⟩ := each i hil
      simp only [ss, c1, c3, Option.getD, fltV]
      exact ⟨w1, w2⟩
    · have h1 : ((List.range len).map D).length = len := by simp
      rw [h1, kb] at z
      have : reachBytes = 140737488351232 := by kernel_rfl
      rw [this] at z
      omega

set_option maxRecDepth 100000 in
theorem noiseBudgets_open {H : Type} {enc : TypeId × Value → H} (W : World) (base : Nat) (v0 : Value) (d0 : DataW H) (p0 : List MemPlace) (v1 : Value) (d1 : DataW H) (p1 : List MemPlace) (v2 : Value) (d2 : DataW H) (p2 : List MemPlace)
    (o0 : Value.okWide Try.prog W .any base 31 v0) (o1 : Value.okWide Try.prog W .any base 32 v1) (o2 : Value.okWide Try.prog W .any base 32 v2)
    (h0 : DataW.Trod enc Try.prog W 0 (fun _ => true) true 31 v0 d0 p0) (h1 : DataW.Trod enc Try.prog W 0 (fun _ => true) true 32 v1 d1 p1) (h2 : DataW.Trod enc Try.prog W 0 (fun _ => true) true 32 v2 d2 p2)
    (_hsz : (DataW.weightsEach Try.prog [31, 32, 32] [d0, d1, d2]).all (· ≤ reachBytes) = true) :
    Calls Try.prog 4 #[v0, v1, v2] W fun e w' => e = .returned (.bool true) ∧ Below W.heap.size W w' := by
  obtain ⟨cs, rfl, hsz⟩ := okWide_array Try.underlying31 o0
  obtain ⟨fuel, hf⟩ := h0
  obtain ⟨xs, n, -, -, hcl, hxl, hel⟩ := DataW.trod_array Try.underlying31 hf
  have k31 : Try.prog.cellsOf 31 = 8 := by kernel_rfl
  have k24 : Try.prog.cellsOf 24 = 2 := by kernel_rfl
  rw [k31] at hsz
  obtain ⟨l⟩ := cs
  obtain ⟨a0, a1, a2, a3, a4, a5, a6, a7, rfl⟩ := len8 (l := l) (by simpa using hsz)
  have g0 := hel 0 (by omega)
  have g1 := hel 1 (by omega)
  have g2 := hel 2 (by omega)
  have g3 := hel 3 (by omega)
  simp [k24, Value.cells] at g0 g1 g2 g3
  have t0 : (xs[0]?).isSome = true := by simp [hxl]
  rw [List.getElem?_eq_getElem (by omega)] at g0 g1 g2 g3
  obtain ⟨x0, o0', rfl, rfl, w0⟩ := open_float2 g0
  obtain ⟨x1, o1', rfl, rfl, w1⟩ := open_float2 g1
  obtain ⟨x2, o2', rfl, rfl, w2⟩ := open_float2 g2
  obtain ⟨x3, o3', rfl, rfl, w3⟩ := open_float2 g3
  have L1 := Light.of_each (P := Try.prog) (ts := [31, 32, 32]) (ds := [d0, d1, d2]) _hsz 1 rfl rfl
  have L2 := Light.of_each (P := Try.prog) (ts := [31, 32, 32]) (ds := [d0, d1, d2]) _hsz 2 rfl rfl
  obtain ⟨A1, m1, c1, rfl⟩ := okWide_slice Try.underlying32 o1
  obtain ⟨A2, m2, c2, rfl⟩ := okWide_slice Try.underlying32 o2
  obtain ⟨f1, hf1⟩ := h1
  obtain ⟨f2, hf2⟩ := h2
  obtain ⟨S1, k1, e1, ss1, q1, s1, n1, b1⟩ := open_spns (y := (d1, p1)) (by simpa [Value.cells] using hf1) L1
  obtain ⟨S2, k2, e2, ss2, q2, s2, n2, b2⟩ := open_spns (y := (d2, p2)) (by simpa [Value.cells] using hf2) L2
  rw [q1, q2]
  exact budgets_law x0 o0' x1 o1' x2 o2' x3 o3' S1 k1 e1 ss1 S2 k2 e2 ss2 W w0 w1 w2 w3 s1 s2 n1 n2 (by omega) (by omega)
end Go.Proofs.Ytcfbaildcocnhaa

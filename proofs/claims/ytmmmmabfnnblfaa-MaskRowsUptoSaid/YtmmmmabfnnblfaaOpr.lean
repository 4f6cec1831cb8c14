/-
  The law MaskRows at arguments as the row reads them.
-/
import Derived.Test.YtmmmmabfnnblfaaRf
import Derived.Test.YtmmmmabfnnblfaaBk
import Derived.Deep.Slices
set_option linter.unusedVariables false
namespace Go.Proofs.Ytmmmmabfnnblfaa
open Go.ChangeShapes Go.WideShapes Go.ChangeAt Go.RowKit

theorem addN (b off k : Nat) : (⟨b, off, none⟩ : Addr).add k = ⟨b, off + k, none⟩ := by
  unfold Addr.add
  split
  · subst_vars; rfl
  · rfl
theorem len1 {α : Type} {l : List α} (h : l.length = 1) : ∃ a, l = [a] := by
  match l, h with
  | [a], _ => exact ⟨a, rfl⟩
open Classical in
theorem pick {α : Type} {p : Nat → α → Prop} {n : Nat} (z : α) (h : ∀ i, i < n → ∃ x, p i x) : ∃ f : Nat → α, ∀ i, i < n → p i (f i) :=
  ⟨fun i => if hi : i < n then Classical.choose (h i hi) else z, fun i hi => by simp only [hi, dif_pos]; exact Classical.choose_spec (h i hi)⟩
set_option maxRecDepth 100000 in
theorem open_rows {H : Type} {enc : TypeId × Value → H} {W : World} {b0 : Nat} {held : Bool} {v : Value} {y : DataW H × List MemPlace} {fuel : Nat}
    (hf : DataW.trod enc Try.prog W b0 (fun _ => true) held fuel 58 [v] = some y) (hk : Rows.uptoBulk y.1 ≤ 1048576) :
    ∃ A m c hs xss, v = .slice A m c ∧ RdH W A hs m ∧ CtH W hs xss m ∧ (∀ i, i < m → B8 (xss i)) ∧ (∀ i, i < m → (xss i).length ≤ 1048576) ∧ m ≤ 1048576 := by
  rcases Go.Deep.open_slice Try.underlying58 hf with ⟨hcs, _⟩ | ⟨a, len, cap, m, n, D, Pl, hcs, hb, hl, hm, hmm, hx, hi⟩
  · obtain rfl : v = .slice none 0 0 := by simpa using hcs
    exact ⟨none, 0, 0, fun _ => ⟨none, 0, 0⟩, fun _ => [], rfl, fun i h => absurd h (Nat.not_lt_zero _), fun i h => absurd h (Nat.not_lt_zero _), fun i h => absurd h (Nat.not_lt_zero _), fun i h => absurd h (Nat.not_lt_zero _), by simp⟩
  · obtain rfl : v = .slice (some a) len cap := by simpa using hcs
    have hmc : len ≤ m := by rw [hmm]; split <;> omega
    have kc : Try.prog.cellsOf 47 = 1 := by kernel_rfl
    obtain ⟨b, off, spot⟩ := a
    by_cases h0 : len = 0
    · subst h0
      exact ⟨_, 0, cap, fun _ => ⟨none, 0, 0⟩, fun _ => [], rfl, fun i h => absurd h (Nat.not_lt_zero _), fun i h => absurd h (Nat.not_lt_zero _), fun i h => absurd h (Nat.not_lt_zero _), fun i h => absurd h (Nat.not_lt_zero _), by simp⟩
    have hspot : spot = none := by
      obtain ⟨cs', hc, ht⟩ := hi 0 (by omega)
      rw [kc] at hc
      obtain ⟨_, hcl, hat⟩ := World.cells?_some hc
      have := hat 0 (by omega)
      rw [Go.Deep.add_add, Nat.add_zero, List.getElem?_eq_getElem (by omega)] at this
      simpa [Addr.add] using World.cell?_spot this
    subst hspot
    have e1 := congrArg Prod.fst hx
    rw [e1] at hk
    have hk2 : Rows.uptoBulk (DataW.slice (List.map D (List.range len)) (List.map (fun j => D (len + j)) (List.range (m - len)))) ≤ 1048576 := hk
    have hbl := bulk_slice ((List.range len).map D) ((List.range (m - len)).map fun j => D (len + j))
    have each : ∀ i, i < len → ∃ s : Hd × List Int, W.cell? ⟨b, off + i, none⟩ = some (.slice s.1.A s.1.m s.1.c) ∧ s.1.m = s.2.length ∧ Rd W .u8 s.1.A s.2 ∧ B8 s.2 ∧ s.2.length ≤ 1048576 := by
      intro i hil
      obtain ⟨cs', hc, ht⟩ := hi i (by omega)
      rw [kc] at hc
      obtain ⟨_, hcl, hat⟩ := World.cells?_some hc
      obtain ⟨v0, rfl⟩ := len1 hcl
      obtain ⟨A, c, xs, rfl, r2, f2, l2, l3, l4⟩ := row_of_trodu Try.underlying47 Try.underlying5 (by kernel_rfl) ht
      have hbe := bulk_elem (spare := (List.range (m - len)).map fun j => D (len + j)) (List.mem_map.2 ⟨i, List.mem_range.2 hil, rfl⟩ : D i ∈ (List.range len).map D)
      have hl4 : c ≤ Rows.uptoBulk (D i) := l4
      have c0 := hat 0 (by omega)
      rw [Go.Deep.add_add, addN, Nat.mul_one, Nat.add_zero] at c0
      exact ⟨⟨⟨A, xs.length, c⟩, xs⟩, c0, rfl, r2, f2.b8, by show xs.length ≤ 1048576; omega⟩
    obtain ⟨ss, hss⟩ := pick (⟨none, 0, 0⟩, []) each
    refine ⟨_, len, cap, fun i => (ss i).1, fun i => (ss i).2, rfl, ?_, fun i hil => ⟨(hss i hil).2.1, (hss i hil).2.2.1⟩, fun i hil => (hss i hil).2.2.2.1, fun i hil => (hss i hil).2.2.2.2, by rw [List.length_map, List.length_range] at hbl; omega⟩
    intro i hil
    have c0 := (hss i hil).1
    exact ⟨b, off, rfl, World.block_lt_of_cell? W _ c0, c0⟩

set_option maxRecDepth 100000 in
theorem maskRows_open {H : Type} {enc : TypeId × Value → H} (W : World) (base : Nat) (v0 : Value) (d0 : DataW H) (p0 : List MemPlace) (v1 : Value) (d1 : DataW H) (p1 : List MemPlace)
    (o0 : Value.okWide Try.prog W .any base 58 v0) (o1 : Value.okWide Try.prog W .any base 3 v1)
    (h0 : DataW.Trod enc Try.prog W 0 (fun _ => true) true 58 v0 d0 p0) (h1 : DataW.Trod enc Try.prog W 0 (fun _ => true) true 3 v1 d1 p1)
    (_hsz : (DataW.weightsEach Try.prog [58, 3] [d0, d1]).all (· ≤ reachBytes) = true) (hk : Rows.uptoSmall H [d0, d1] = true) :
    Calls Try.prog 8 #[v0, v1] W fun e w' => e = .returned (.bool true) ∧ Below W.heap.size W w' := by
  have b0 := bulk_of hk 0 (d := d0) rfl
  obtain ⟨A, len, cap, rfl⟩ := okWide_slice Try.underlying58 o0
  obtain ⟨fuel, hf⟩ := h0
  obtain ⟨A', m, c, hs, xss, e, r1, r2, r3, r4, r5⟩ := open_rows (y := (d0, p0)) (by simpa [Value.cells] using hf) b0
  rw [e]
  obtain ⟨z, rfl, _, _, wz⟩ := open_int Try.underlying3 o1 h1
  have hz : -9223372036854775808 ≤ z ∧ z ≤ 9223372036854775807 := by simpa [Lit.wf, IntKind.min, IntKind.max, IntKind.signed, IntKind.bits] using wz
  exact rows_law A' m c hs xss z W r1 r2 r3 r5 r4 hz
end Go.Proofs.Ytmmmmabfnnblfaa

/-
  Apart of two rows that lie in the cells of a new block.
-/
import Derived.Test.YtldbmjkecmmmjaaAp
set_option linter.unusedVariables false
namespace Go.Proofs.Ytldbmjkecmmmjaa
open Go.RowKit

/-- Two values. -/
def two (a b : Value) : Nat → Value := fun j => if j = 0 then a else b
theorem two_cells {W : World} {a b : Value} {T : TypeId} {G : Nat} (h : Blk W G T [a, b]) : ∀ j, j < 2 → W.cell? ⟨G, j, none⟩ = some (two a b j) := fun j hj => by
  have : j = 0 ∨ j = 1 := by omega
  rcases this with rfl | rfl
  · exact h.cell 0
  · exact h.cell 1
theorem two_all {P : Nat → Value → Prop} {a b : Value} (ha : P 0 a) (hb : P 1 b) : ∀ j, j < 2 → P j (two a b j) := fun j hj => by
  have : j = 0 ∨ j = 1 := by omega
  rcases this with rfl | rfl
  · exact ha
  · exact hb
theorem two_dist {a b : Value} (h : ∀ g, a.ownBlock = some g → b.ownBlock ≠ some g) : Dist 2 (two a b) := fun i j hi hj hne g hg hg2 => by
  have hi' : i = 0 ∨ i = 1 := by omega
  have hj' : j = 0 ∨ j = 1 := by omega
  rcases hi' with rfl | rfl <;> rcases hj' with rfl | rfl
  · exact hne rfl
  · exact h g hg hg2
  · exact h g hg2 hg
  · exact hne rfl
theorem two_blks {a b : Value} {g : Nat} (h : Blks 2 (two a b) g) : a.ownBlock = some g ∨ b.ownBlock = some g := by
  obtain ⟨j, hj, h⟩ := h
  have : j = 0 ∨ j = 1 := by omega
  rcases this with rfl | rfl
  · exact .inl h
  · exact .inr h
theorem apart_two_fr {base : Nat} {W : World} {va vb : Value} {xs ys : List Int} (ha : Own W base 5 .u8 va xs) (hb : Own W base 5 .u8 vb ys) (hne : ∀ g, va.ownBlock = some g → vb.ownBlock ≠ some g) (hbase : base ≤ W.heap.size)
    (h1 : xs.length + 101 ≤ 140737488355328) (h2 : ys.length + 101 ≤ 140737488355328) :
    Calls Try.prog 23 #[.slice (some ⟨W.heap.size, 0, none⟩) 2 2] (W.alloc (.cells #[va, vb] 39)) fun e w' => e = .returned (.bool true) ∧ Fr (fun g => va.ownBlock = some g ∨ vb.ownBlock = some g) W w' := by
  have hB := Blk.new W 39 [va, vb]
  have bel := (Below.refl W.heap.size W).alloc (Nat.le_refl _) (.cells #[va, vb] 39)
  have ha' := ha.below bel
  have hb' := hb.below bel
  refine (apart_any base W.heap.size 2 2 (two va vb) (fun j => if j = 0 then xs.length else ys.length) (fun j => if j = 0 then xs else ys) _ (by decide) (fun j _ => by split <;> rfl) ?_ (two_dist hne) ?_ (two_cells hB) (by simp; omega) ?_).mono ?_
  · exact two_all (P := fun j v => Own (W.alloc (.cells #[va, vb] 39)) base 5 .u8 v (if j = 0 then xs else ys)) ha' hb'
  · refine two_all (P := fun j v => v.ownBlock ≠ some W.heap.size) (fun h => ?_) (fun h => ?_)
    · have := (ha.base_le h).2; omega
    · have := (hb.base_le h).2; omega
  · intro j _
    split <;> assumption
  · rintro e w' ⟨rfl, hf⟩
    exact ⟨rfl, ((Fr.refl _ W).alloc _).trans (hf.mono (fun g hg => two_blks hg))⟩
theorem apart_two {base : Nat} {W : World} {va vb : Value} {xs ys : List Int} (ha : Own W base 5 .u8 va xs) (hb : Own W base 5 .u8 vb ys) (hne : ∀ g, va.ownBlock = some g → vb.ownBlock ≠ some g) (hbase : base ≤ W.heap.size)
    (h1 : xs.length + 101 ≤ 140737488355328) (h2 : ys.length + 101 ≤ 140737488355328) :
    Calls Try.prog 23 #[.slice (some ⟨W.heap.size, 0, none⟩) 2 2] (W.alloc (.cells #[va, vb] 39)) fun e w' => e = .returned (.bool true) ∧ Fr (fun g => base ≤ g) W w' :=
  (apart_two_fr ha hb hne hbase h1 h2).mono fun e w' ⟨he, hf⟩ => ⟨he, hf.mono (fun g hg => by rcases hg with h | h; exact (ha.base_le h).1; exact (hb.base_le h).1)⟩
end Go.Proofs.Ytldbmjkecmmmjaa

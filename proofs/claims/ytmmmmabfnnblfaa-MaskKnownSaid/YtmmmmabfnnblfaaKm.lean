/-
  The thirteen rows of the law MaskKnown.
-/
import Derived.Test.YtmmmmabfnnblfaaRl
import Derived.Test.YtmmmmabfnnblfaaPl
set_option linter.unusedVariables false
namespace Go.Proofs.Ytmmmmabfnnblfaa
open Go.RowKit

def LSx : List (List Int) := [[0], [0, 0], [1], [1, 0], [0, 1], [255], [255, 0], [1, 2, 3], [1, 2, 4], [1, 3, 3], [2, 2, 3], [1, 2]]
def lx (i : Nat) : List Int := ([] :: LSx).getD i []
theorem lx_b8 (i : Nat) : B8 (lx i) := by
  by_cases h : i < 13
  · have : ∀ j : Fin 13, ∀ x ∈ lx j.val, 0 ≤ x ∧ x ≤ 255 := by decide +kernel
    exact this ⟨i, h⟩
  · unfold lx
    rw [List.getD_eq_getElem?_getD, List.getElem?_eq_none (by show 13 ≤ i; omega)]
    intro x hx
    simp at hx
theorem lx_len (i : Nat) : (lx i).length ≤ 3 := by
  by_cases h : i < 13
  · have : ∀ j : Fin 13, (lx j.val).length ≤ 3 := by decide +kernel
    exact this ⟨i, h⟩
  · unfold lx
    rw [List.getD_eq_getElem?_getD, List.getElem?_eq_none (by show 13 ≤ i; omega)]
    simp
def allocs (w : World) : List (List Int) → World
  | [] => w
  | xs :: r => allocs (w.alloc (.cells (xs.map (Value.int .u8)).toArray 5)) r
theorem allocs_size : ∀ (r : List (List Int)) (w : World), (allocs w r).heap.size = w.heap.size + r.length
  | [], w => by simp [allocs]
  | xs :: r, w => by
    have h : (w.alloc (.cells (xs.map (Value.int .u8)).toArray 5)).heap.size = w.heap.size + 1 := Array.size_push _
    simp only [allocs, allocs_size r, h, List.length_cons]
    omega
theorem allocs_below : ∀ (r : List (List Int)) (w : World), Below w.heap.size w (allocs w r)
  | [], w => Below.refl _ _
  | xs :: r, w => by
    have h1 := (Below.refl w.heap.size w).alloc (Nat.le_refl _) (.cells (xs.map (Value.int .u8)).toArray 5)
    exact h1.trans ((allocs_below r _).mono h1.size)
theorem allocs_at : ∀ (r : List (List Int)) (w : World) (i : Nat) (hi : i < r.length), Blk (allocs w r) (w.heap.size + i) 5 ((r.getD i []).map (Value.int .u8))
  | [], w, i, hi => by simp at hi
  | xs :: r, w, 0, hi => by
    have h := Blk.new w 5 (xs.map (Value.int .u8))
    exact h.below (allocs_below r _) h.lt
  | xs :: r, w, i + 1, hi => by
    have h : (w.alloc (.cells (xs.map (Value.int .u8)).toArray 5)).heap.size = w.heap.size + 1 := Array.size_push _
    have ih := allocs_at r (w.alloc (.cells (xs.map (Value.int .u8)).toArray 5)) i (by simpa using hi)
    rw [h, show w.heap.size + 1 + i = w.heap.size + (i + 1) by omega] at ih
    exact ih
def hx (g i : Nat) : Hd := if i = 0 then ⟨none, 0, 0⟩ else ⟨some ⟨g + (i - 1), 0, none⟩, (lx i).length, (lx i).length⟩
def heads (g : Nat) : List Value := (List.range 13).map fun i => (hx g i).v
theorem lists_new (w : World) : RdH ((allocs w LSx).alloc (.cells (heads w.heap.size).toArray 47)) (some ⟨w.heap.size + 12, 0, none⟩) (hx w.heap.size) 13 ∧
    CtH ((allocs w LSx).alloc (.cells (heads w.heap.size).toArray 47)) (hx w.heap.size) lx 13 ∧ Below w.heap.size w ((allocs w LSx).alloc (.cells (heads w.heap.size).toArray 47)) := by
  have hsz : (allocs w LSx).heap.size = w.heap.size + 12 := by rw [allocs_size]; rfl
  have hb : Below (allocs w LSx).heap.size (allocs w LSx) ((allocs w LSx).alloc (.cells (heads w.heap.size).toArray 47)) := (Below.refl _ _).alloc (Nat.le_refl _) _
  have hN := Blk.new (allocs w LSx) 47 (heads w.heap.size)
  rw [hsz] at hN
  refine ⟨fun i hi => ⟨_, 0, rfl, hN.lt, ?_⟩, fun i hi => ?_, (allocs_below LSx w).trans (hb.mono (by omega))⟩
  · rw [Nat.zero_add, hN.cell]
    unfold heads
    rw [List.getElem?_map, List.getElem?_range hi]
    rfl
  · by_cases h0 : i = 0
    · subst h0
      exact ⟨rfl, Rd.nil _ _ _⟩
    · have hb1 := (allocs_at LSx w (i - 1) (by show i - 1 < 12; omega)).below hb (by rw [hsz]; omega)
      have e : LSx.getD (i - 1) [] = lx i := by
        unfold lx
        obtain ⟨j, rfl⟩ : ∃ j, i = j + 1 := ⟨i - 1, by omega⟩
        simp
      rw [e] at hb1
      unfold hx
      rw [if_neg h0]
      refine ⟨rfl, fun k hk => ⟨_, 0, rfl, ?_⟩⟩
      rw [Nat.zero_add, hb1.cell, List.getElem?_map, List.getElem?_eq_getElem hk]
      simp [List.getD, hk]
end Go.Proofs.Ytmmmmabfnnblfaa

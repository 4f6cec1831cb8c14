/-
  Heads and their bytes, there and back. No program in sight but the head's cells.
-/
import Derived.Test.YtedejkfhgpnhpaaPd
set_option linter.unusedVariables false
set_option linter.unusedSimpArgs false
namespace Go.Proofs.Ytedejkfhgpnhpaa
open Go.RowKit

theorem hArr_congr (l f i r : Nat) {g g' : Nat → Int} (h : ∀ j, j < 16 → g j = g' j) : hArr l f i r g = hArr l f i r g' := by
  unfold hArr hlist
  rw [h 0 (by decide), h 1 (by decide), h 2 (by decide), h 3 (by decide), h 4 (by decide), h 5 (by decide), h 6 (by decide), h 7 (by decide), h 8 (by decide), h 9 (by decide), h 10 (by decide), h 11 (by decide), h 12 (by decide), h 13 (by decide), h 14 (by decide), h 15 (by decide)]
theorem leV_leN (X : Nat) (h : X < 4294967296) : leV (leN X 4) 4 = X := by
  have e : leN X 4 = [byt X 0, byt X 1, byt X 2, byt X 3] := rfl
  rw [e]
  simp [leV, byt]
  omega
theorem four2 (l f i r : Nat) (g : Nat → Int) (ys : List Int) : four (hb l f i r g ++ ys) 2 = leN i 4 := rfl
theorem four6 (l f i r : Nat) (g : Nat → Int) (ys : List Int) : four (hb l f i r g ++ ys) 6 = leN r 4 := rfl
theorem hb_g (l f i r : Nat) (g : Nat → Int) (ys : List Int) (j : Nat) (hj : j < 16) : (hb l f i r g ++ ys).getD (10 + j) 0 = g j := by
  have : j = 0 ∨ j = 1 ∨ j = 2 ∨ j = 3 ∨ j = 4 ∨ j = 5 ∨ j = 6 ∨ j = 7 ∨ j = 8 ∨ j = 9 ∨ j = 10 ∨ j = 11 ∨ j = 12 ∨ j = 13 ∨ j = 14 ∨ j = 15 := by omega
  rcases this with rfl | rfl | rfl | rfl | rfl | rfl | rfl | rfl | rfl | rfl | rfl | rfl | rfl | rfl | rfl | rfl <;> rfl
theorem hb_hdr (l f i r : Nat) (g : Nat → Int) (ys : List Int) (hi : i < 4294967296) (hr : r < 4294967296) : hdr (hb l f i r g ++ ys) = hArr l f i r g := by
  unfold hdr numR
  rw [four2, four6, leV_leN i hi, leV_leN r hr]
  have e0 : ((hb l f i r g ++ ys).getD 0 0).toNat = l := by show ((l : Int)).toNat = l; omega
  have e1 : ((hb l f i r g ++ ys).getD 1 0).toNat = f := by show ((f : Int)).toNat = f; omega
  rw [e0, e1]
  exact hArr_congr l f i r (fun j hj => hb_g l f i r g ys j hj)
theorem hb_drop (l f i r : Nat) (g : Nat → Int) (ys : List Int) : (hb l f i r g ++ ys).drop 26 = ys := rfl
theorem hb_isR (l f i r : Nat) (g : Nat → Int) (ys : List Int) : isR (hb l f i r g ++ ys) (26 + ys.length) = (decide (l < 2) && decide (f < 2)) := by
  unfold isR
  have e0 : ((hb l f i r g ++ ys).getD 0 0).toNat = l := by show ((l : Int)).toNat = l; omega
  have e1 : ((hb l f i r g ++ ys).getD 1 0).toNat = f := by show ((f : Int)).toNat = f; omega
  rw [e0, e1, decide_eq_true (show 26 ≤ 26 + ys.length by omega), Bool.true_and]
theorem hb_len2 (l f i r : Nat) (g : Nat → Int) (ys : List Int) : (hb l f i r g ++ ys).length = 26 + ys.length := by rw [List.length_append, hb_len]
theorem byt_u8 (X k : Nat) : 0 ≤ byt X k ∧ byt X k ≤ 255 := by unfold byt; omega
theorem b8_of {xs : List Int} (h : ∀ x ∈ xs, 0 ≤ x ∧ x ≤ 255) : B8 xs := fun i => by
  by_cases hi : i < xs.length
  · rw [show xs.getD i 0 = xs[i] from by simp [List.getD, hi]]; exact h _ (List.getElem_mem hi)
  · rw [show xs.getD i 0 = 0 from by simp [List.getD, Nat.le_of_not_lt hi]]; omega
theorem b8_mem {xs : List Int} (h : B8 xs) : ∀ x ∈ xs, 0 ≤ x ∧ x ≤ 255 := fun x hx => by
  obtain ⟨i, hi, rfl⟩ := List.getElem_of_mem hx
  have := h i
  rwa [show xs.getD i 0 = xs[i] from by simp [List.getD, hi]] at this
theorem hb_b8 {l f i r : Nat} {g : Nat → Int} {ys : List Int} (hl : l < 256) (hf : f < 256) (hg : ∀ k, 0 ≤ g k ∧ g k ≤ 255) (hy : B8 ys) : B8 (hb l f i r g ++ ys) := by
  apply b8_of
  intro x hx
  rcases List.mem_append.1 hx with h | h
  · unfold hb at h
    simp only [List.mem_append, List.mem_cons, List.not_mem_nil, or_false] at h
    rcases h with (((rfl | rfl) | h) | h) | h
    · omega
    · omega
    · unfold leN at h
      obtain ⟨k, _, rfl⟩ := List.mem_map.1 h
      exact byt_u8 i k
    · unfold leN at h
      obtain ⟨k, _, rfl⟩ := List.mem_map.1 h
      exact byt_u8 r k
    · unfold gl at h
      obtain ⟨k, _, rfl⟩ := List.mem_map.1 h
      exact hg k
  · exact b8_mem hy x h
/-- What a record's head tells makes its bytes. -/
theorem hb_back {xs : List Int} (hB : B8 xs) (h26 : 26 ≤ xs.length) : hb (xs.getD 0 0).toNat (xs.getD 1 0).toNat (numR xs 2) (numR xs 6) (fun j => xs.getD (10 + j) 0) ++ xs.drop 26 = xs := by
  have hn : ∀ k, k + 4 ≤ xs.length → leN (numR xs k) 4 = four xs k := by
    intro k hk
    have e : four xs k = [xs.getD k 0, xs.getD (k + 1) 0, xs.getD (k + 2) 0, xs.getD (k + 3) 0] := by
      unfold four
      apply List.ext_getElem (by simp; omega)
      intro j h1 h2
      have hj : j = 0 ∨ j = 1 ∨ j = 2 ∨ j = 3 := by simp at h2; omega
      rcases hj with rfl | rfl | rfl | rfl
      · simp [List.getD, List.getElem?_eq_getElem (show k < xs.length by omega)]
      · simp [List.getD, List.getElem?_eq_getElem (show k + 1 < xs.length by omega)]
      · simp [List.getD, List.getElem?_eq_getElem (show k + 2 < xs.length by omega)]
      · simp [List.getD, List.getElem?_eq_getElem (show k + 3 < xs.length by omega)]
    obtain ⟨y0, h0, c0⟩ : ∃ y : Nat, xs.getD k 0 = y ∧ y ≤ 255 := ⟨(xs.getD k 0).toNat, by have := hB k; omega, by have := hB k; omega⟩
    obtain ⟨y1, h1, c1⟩ : ∃ y : Nat, xs.getD (k + 1) 0 = y ∧ y ≤ 255 := ⟨(xs.getD (k + 1) 0).toNat, by have := hB (k + 1); omega, by have := hB (k + 1); omega⟩
    obtain ⟨y2, h2, c2⟩ : ∃ y : Nat, xs.getD (k + 2) 0 = y ∧ y ≤ 255 := ⟨(xs.getD (k + 2) 0).toNat, by have := hB (k + 2); omega, by have := hB (k + 2); omega⟩
    obtain ⟨y3, h3, c3⟩ : ∃ y : Nat, xs.getD (k + 3) 0 = y ∧ y ≤ 255 := ⟨(xs.getD (k + 3) 0).toNat, by have := hB (k + 3); omega, by have := hB (k + 3); omega⟩
    unfold numR
    rw [e, h0, h1, h2, h3]
    clear e h0 h1 h2 h3
    have ev : leV [(y0 : Int), (y1 : Int), (y2 : Int), (y3 : Int)] 4 = y0 + y1 * 256 + y2 * 65536 + y3 * 16777216 := by
      simp [leV]
    rw [ev]
    generalize hV : y0 + y1 * 256 + y2 * 65536 + y3 * 16777216 = V
    show [byt V 0, byt V 1, byt V 2, byt V 3] = _
    unfold byt
    simp only [List.cons.injEq, and_true, Nat.pow_zero, Nat.div_one, Nat.pow_one, show 256 ^ 2 = 65536 from rfl, show 256 ^ 3 = 16777216 from rfl]
    refine ⟨?_, ?_, ?_, ?_⟩ <;> omega
  have g0 := hB 0
  have g1 := hB 1
  have e2 : xs.take 2 = [((xs.getD 0 0).toNat : Int), ((xs.getD 1 0).toNat : Int)] := by
    rw [show ((xs.getD 0 0).toNat : Int) = xs.getD 0 0 from by omega, show ((xs.getD 1 0).toNat : Int) = xs.getD 1 0 from by omega]
    apply List.ext_getElem (by simp; omega)
    intro j h1 h2
    have hj : j = 0 ∨ j = 1 := by simp at h2; omega
    rcases hj with rfl | rfl
    · simp [List.getD, List.getElem?_eq_getElem (show 0 < xs.length by omega)]
    · simp [List.getD, List.getElem?_eq_getElem (show 1 < xs.length by omega)]
  have eg : gl (fun j => xs.getD (10 + j) 0) = (xs.drop 10).take 16 := by
    unfold gl
    apply List.ext_getElem (by simp; omega)
    intro j h1 h2
    have hj : j < 16 := by simpa using h1
    simp [List.getD, List.getElem?_eq_getElem (show 10 + j < xs.length by omega)]
  have ht : xs.take 26 = xs.take 2 ++ four xs 2 ++ four xs 6 ++ (xs.drop 10).take 16 := by
    unfold four
    rw [show 26 = 2 + 4 + 4 + 16 from rfl, List.take_add, List.take_add, List.take_add]
  unfold hb
  rw [hn 2 (by omega), hn 6 (by omega), eg, ← e2, ← ht, List.take_append_drop]
end Go.Proofs.Ytedejkfhgpnhpaa

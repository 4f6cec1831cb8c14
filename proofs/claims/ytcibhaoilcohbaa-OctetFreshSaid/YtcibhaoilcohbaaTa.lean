/-
  What a writer laid a reader takes: the bytes of items, one behind the other. No program in sight.
-/
import Derived.Test.YtcibhaoilcohbaaWx
import Derived.Test.YtcibhaoilcohbaaAw
import Derived.Test.YtcibhaoilcohbaaLb
set_option linter.unusedVariables false
set_option linter.unusedSimpArgs false
namespace Go.Proofs.Ytcibhaoilcohbaa
open Go.RowKit

/-- An item's bytes. -/
def itm (f : Nat → Stp) (D : Nat → List Int) (i : Nat) : List Int := if (f i).d = 5 then D i else leN ((f i).v.toNat % 256 ^ wdR (f i).d) (wdR (f i).d)
/-- Those of the first n items. -/
def cat (f : Nat → Stp) (D : Nat → List Int) : Nat → List Int
  | 0 => []
  | n + 1 => cat f D n ++ itm f D n
def DataF (w : World) (f : Nat → Stp) (m : Nat) (D : Nat → List Int) : Prop := ∀ i, i < m → ∃ A c, (f i).s = .slice A (D i).length c ∧ Rd w .u8 A (D i) ∧ B8 (D i) ∧ (D i).length ≤ 140737488351232
theorem DataOk.choose {w : World} {f : Nat → Stp} {m : Nat} (h : DataOk w f m) : ∃ D, DataF w f m D := by
  classical
  refine ⟨fun i => if hi : i < m then Classical.choose (Classical.choose_spec (Classical.choose_spec (h i hi))) else [], fun i hi => ?_⟩
  have e := Classical.choose_spec (Classical.choose_spec (Classical.choose_spec (h i hi)))
  simp only [hi, dite_true]
  exact ⟨_, _, e.1, e.2.1, fun j => e.2.2.1.u8 j, e.2.2.2⟩
theorem cat_pre (f : Nat → Stp) (D : Nat → List Int) {i m : Nat} (h : i ≤ m) : ∃ t, cat f D m = cat f D i ++ t := by
  induction m with
  | zero => obtain rfl : i = 0 := by omega
            exact ⟨[], by simp⟩
  | succ n ih =>
    by_cases e : i = n + 1
    · subst e; exact ⟨[], by simp⟩
    · obtain ⟨t, ht⟩ := ih (by omega)
      exact ⟨t ++ itm f D n, by rw [cat, ht, List.append_assoc]⟩
theorem cat_len_le (f : Nat → Stp) (D : Nat → List Int) {i m : Nat} (h : i ≤ m) : (cat f D i).length ≤ (cat f D m).length := by
  obtain ⟨t, ht⟩ := cat_pre f D h
  rw [ht, List.length_append]; omega
theorem cat_succ_len (f : Nat → Stp) (D : Nat → List Int) (i : Nat) : (cat f D (i + 1)).length = (cat f D i).length + (itm f D i).length := by rw [cat, List.length_append]
theorem cat_drop (f : Nat → Stp) (D : Nat → List Int) {i m : Nat} (h : i < m) : (cat f D m).drop (cat f D i).length = itm f D i ++ (cat f D m).drop (cat f D (i + 1)).length := by
  obtain ⟨t, ht⟩ := cat_pre f D (Nat.succ_le_of_lt h)
  have e1 : (cat f D m).drop (cat f D (i + 1)).length = t := by rw [ht, List.drop_left]
  rw [e1, ht, cat, List.append_assoc, List.drop_left]
theorem itm_num {f : Nat → Stp} {D : Nat → List Int} {i : Nat} (h : (f i).d ≠ 5) : itm f D i = leN ((f i).v.toNat % 256 ^ wdR (f i).d) (wdR (f i).d) := if_neg h
theorem itm_data {f : Nat → Stp} {D : Nat → List Int} {i : Nat} (h : (f i).d = 5) : itm f D i = D i := if_pos h
theorem wd_ne5 {d : Int} (h : 0 < wdR d) : d ≠ 5 := fun e => by subst e; exact absurd h (by decide)
theorem b8_append {a b : List Int} (ha : B8 a) (hb : B8 b) : B8 (a ++ b) := fun i => by
  by_cases h : i < a.length
  · have := ha i
    simp only [List.getD, List.getElem?_append_left h] at this ⊢
    exact this
  · have := hb (i - a.length)
    simp only [List.getD, List.getElem?_append_right (Nat.le_of_not_lt h)] at this ⊢
    exact this
theorem b8_nil : B8 [] := fun i => by simp
theorem b8_drop {a : List Int} (ha : B8 a) (n : Nat) : B8 (a.drop n) := fun i => by
  have := ha (n + i)
  simp only [List.getD, List.getElem?_drop] at this ⊢
  exact this
theorem b8_take {a : List Int} (ha : B8 a) (n : Nat) : B8 (a.take n) := fun i => by
  have := ha i
  simp only [List.getD, List.getElem?_take] at this ⊢
  split
  · exact this
  · simp
theorem itm_b8 {w : World} {f : Nat → Stp} {m : Nat} {D : Nat → List Int} (h : DataF w f m D) {i : Nat} (hi : i < m) : B8 (itm f D i) := by
  unfold itm
  split
  · obtain ⟨_, _, _, _, hb, _⟩ := h i hi; exact hb
  · exact b8_leN _ _
theorem cat_b8 {w : World} {f : Nat → Stp} {m : Nat} {D : Nat → List Int} (h : DataF w f m D) : ∀ n, n ≤ m → B8 (cat f D n)
  | 0, _ => b8_nil
  | n + 1, hn => b8_append (cat_b8 h n (by omega)) (itm_b8 h (by omega))
theorem rsL_b8 {xs : List Int} (h : B8 xs) (n e : Int) : B8 (rsL xs n e) := by
  unfold rsL
  split
  · exact b8_drop h _
  · exact h
/-- A reader of a beginning: all went well so far, or the bytes ended. -/
def RInv (xs : List Int) (pos : Nat) (rest : List Int) (e : Int) : Prop := (e = 0 ∧ pos ≤ xs.length ∧ rest = xs.drop pos) ∨ e = 20
theorem RInv.step {xs rest : List Int} {pos : Nat} {e : Int} (h : RInv xs pos rest e) (n : Nat) : RInv xs (pos + n) (rsL rest n e) (erR rest n e) := by
  rcases h with ⟨rfl, hp, rfl⟩ | rfl
  · by_cases hn : pos + n ≤ xs.length
    · refine .inl ⟨?_, hn, ?_⟩
      · unfold erR; rw [if_pos rfl, if_neg (by omega), if_neg (by rw [List.length_drop]; omega)]
      · unfold rsL; rw [if_pos ⟨rfl, by omega, by rw [List.length_drop]; omega⟩, List.drop_drop]; simp
    · right
      unfold erR; rw [if_pos rfl, if_neg (by omega), if_pos (by rw [List.length_drop]; omega)]
  · right; unfold erR; rw [if_neg (by decide)]
theorem whole_step (a t : List Int) (n : Nat) (hn : n = a.length) : rsL (a ++ t) n 0 = t ∧ erR (a ++ t) n 0 = 0 ∧ tkL (a ++ t) n 0 = a := by
  subst hn
  have h : (0 : Int) = 0 ∧ (0 : Int) ≤ (a.length : Int) ∧ (a.length : Int) ≤ ((a ++ t).length : Nat) := ⟨rfl, by omega, by rw [List.length_append]; omega⟩
  refine ⟨?_, ?_, ?_⟩
  · unfold rsL; rw [if_pos h]; simp
  · unfold erR; rw [if_pos rfl, if_neg (by omega), if_neg (by rw [List.length_append]; omega)]
  · unfold tkL; rw [if_pos h]; simp
theorem whole_num (X s : Nat) (t : List Int) : nmR (leN (X % 256 ^ s) s ++ t) s 0 = X % 256 ^ s := by
  unfold nmR
  rw [(whole_step (leN (X % 256 ^ s) s) t s (leN_len _ _).symm).2.2, leN_len, leV_leN _ _ _ (Nat.le_refl _), Nat.mod_mod]
end Go.Proofs.Ytcibhaoilcohbaa

/-
  Plain law: the gates that sort n places, row by row. No program in sight.
-/
import Derived.WalkKit
namespace Go.Proofs.Ytpglocgfdonmaaa

/-- A power of two from 1 to 65536. -/
def pows : List Int := [1, 2, 4, 8, 16, 32, 64, 128, 256, 512, 1024, 2048, 4096, 8192, 16384, 32768, 65536]
def sizeB (n : Int) : Bool := pows.contains n
theorem and_pred : ∀ (n : Nat), 1 ≤ n → n &&& (n - 1) = 0 → ∃ e, n = 2 ^ e := by
  intro n
  induction n using Nat.strongRecOn with
  | _ n ih =>
    intro h1 h
    have hh : n / 2 &&& (n - 1) / 2 = 0 := by rw [← Nat.and_div_two, h]
    by_cases hp : n % 2 = 0
    · rw [show (n - 1) / 2 = n / 2 - 1 from by omega] at hh
      obtain ⟨e, he⟩ := ih (n / 2) (by omega) (by omega) hh
      exact ⟨e + 1, by rw [Nat.pow_succ, ← he]; omega⟩
    · rw [show (n - 1) / 2 = n / 2 from by omega, Nat.and_self] at hh
      exact ⟨0, by rw [Nat.pow_zero]; omega⟩
theorem pow_mem {e : Nat} (h : 2 ^ e ≤ 65536) : sizeB ((2 ^ e : Nat) : Int) = true := by
  have he : e ≤ 16 := by
    rcases Nat.lt_or_ge 16 e with h1 | h1
    · have : 2 ^ 17 ≤ 2 ^ e := Nat.pow_le_pow_right (by omega) h1
      omega
    · exact h1
  have : ∀ e : Fin 17, sizeB ((2 ^ e.val : Nat) : Int) = true := by decide
  exact this ⟨e, by omega⟩
theorem size_pow {n : Int} (h : sizeB n = true) : ∃ e : Nat, e ≤ 16 ∧ n = ((2 ^ e : Nat) : Int) := by
  have : ∀ x ∈ pows, ∃ e : Nat, e ≤ 16 ∧ x = ((2 ^ e : Nat) : Int) := by
    intro x hx
    simp only [pows, List.mem_cons, List.not_mem_nil, or_false] at hx
    rcases hx with rfl | rfl | rfl | rfl | rfl | rfl | rfl | rfl | rfl | rfl | rfl | rfl | rfl | rfl | rfl | rfl | rfl
    · exact ⟨0, by omega, by decide⟩
    · exact ⟨1, by omega, by decide⟩
    · exact ⟨2, by omega, by decide⟩
    · exact ⟨3, by omega, by decide⟩
    · exact ⟨4, by omega, by decide⟩
    · exact ⟨5, by omega, by decide⟩
    · exact ⟨6, by omega, by decide⟩
    · exact ⟨7, by omega, by decide⟩
    · exact ⟨8, by omega, by decide⟩
    · exact ⟨9, by omega, by decide⟩
    · exact ⟨10, by omega, by decide⟩
    · exact ⟨11, by omega, by decide⟩
    · exact ⟨12, by omega, by decide⟩
    · exact ⟨13, by omega, by decide⟩
    · exact ⟨14, by omega, by decide⟩
    · exact ⟨15, by omega, by decide⟩
    · exact ⟨16, by omega, by decide⟩
  exact this n (by simpa [sizeB] using h)
theorem size_range {n : Int} (h : sizeB n = true) : 1 ≤ n ∧ n ≤ 65536 := by
  obtain ⟨e, he, rfl⟩ := size_pow h
  have h1 : 1 ≤ 2 ^ e := Nat.one_le_two_pow
  have h2 : 2 ^ e ≤ 2 ^ 16 := Nat.pow_le_pow_right (by omega) he
  omega
theorem pow_and (e : Nat) : 2 ^ e &&& (2 ^ e - 1) = 0 := by
  apply Nat.eq_of_testBit_eq
  intro t
  rw [Nat.testBit_and, Nat.testBit_two_pow, Nat.testBit_two_pow_sub_one, Nat.zero_testBit]
  by_cases h : e = t
  · subst h; simp
  · simp [h]
/-- As the program asks it. -/
theorem size_bits (n : Nat) (h1 : 1 ≤ n) (h2 : n ≤ 65536) : (n &&& (n - 1) = 0) ↔ sizeB (n : Int) = true := by
  constructor
  · intro h
    obtain ⟨e, rfl⟩ := and_pred n h1 h
    exact pow_mem h2
  · intro h
    obtain ⟨e, he, hn⟩ := size_pow h
    obtain rfl : n = 2 ^ e := by omega
    exact pow_and e
/-- Is the bit set? -/
theorem and_pow (i b : Nat) : i &&& 2 ^ b = if i / 2 ^ b % 2 = 1 then 2 ^ b else 0 := by
  apply Nat.eq_of_testBit_eq
  intro t
  rw [Nat.testBit_and, Nat.testBit_two_pow]
  by_cases h : b = t
  · subst h
    rw [Nat.testBit_eq_decide_div_mod_eq]
    by_cases h2 : i / 2 ^ b % 2 = 1
    · rw [if_pos h2, decide_eq_true h2, Nat.testBit_two_pow]
      simp
    · rw [if_neg h2, decide_eq_false h2, Nat.zero_testBit]
      simp
  · rw [decide_eq_false h, Bool.and_false]
    split
    · rw [Nat.testBit_two_pow, decide_eq_false h]
    · rw [Nat.zero_testBit]
theorem or_pow {i b : Nat} (h : ¬ i / 2 ^ b % 2 = 1) : i ||| 2 ^ b = i + 2 ^ b := by
  have hp : 0 < 2 ^ b := Nat.two_pow_pos b
  have hs : 2 ^ (b + 1) = 2 ^ b * 2 := Nat.pow_succ 2 b
  have hlo : i % 2 ^ b < 2 ^ b := Nat.mod_lt _ hp
  have hi : i = 2 ^ (b + 1) * (i / 2 ^ b / 2) + i % 2 ^ b := by
    have e1 := Nat.div_add_mod i (2 ^ b)
    have e2 := Nat.div_add_mod (i / 2 ^ b) 2
    have e3 : i / 2 ^ b % 2 = 0 := by omega
    rw [e3, Nat.add_zero] at e2
    rw [hs, Nat.mul_assoc, e2]
    exact e1.symm
  generalize i / 2 ^ b / 2 = q at hi
  generalize i % 2 ^ b = r at hi hlo
  have h1 := Nat.two_pow_add_eq_or_of_lt (i := b + 1) (b := r) (by omega) q
  have h2 := Nat.two_pow_add_eq_or_of_lt (i := b + 1) (b := 2 ^ b + r) (by omega) q
  have h3 := Nat.two_pow_add_eq_or_of_lt (i := b) (b := r) hlo 1
  rw [Nat.mul_one] at h3
  subst hi
  rw [show 2 ^ (b + 1) * q + r + 2 ^ b = 2 ^ (b + 1) * q + (2 ^ b + r) from by omega, h2, h3, h1, Nat.or_assoc, Nat.or_comm r]

def gate (k j i : Nat) : Int × Int := if i / k % 2 = 1 then (((i + j : Nat) : Int), ((i : Nat) : Int)) else (((i : Nat) : Int), ((i + j : Nat) : Int))
/-- The gates of a row, from place i on. -/
def rowG (k j : Nat) : Nat → Nat → List (Int × Int)
  | 0, _ => []
  | f + 1, i => if i / j % 2 = 1 then rowG k j f (i + 1) else gate k j i :: rowG k j f (i + 1)
/-- The rows for one k, from j on. -/
def rowsJ (n k : Nat) : Nat → Nat → List (List (Int × Int))
  | 0, _ => []
  | f + 1, j => if 0 < j then rowG k j n 0 :: rowsJ n k f (j / 2) else []
/-- All rows from k on. -/
def rowsK (n : Nat) : Nat → Nat → List (List (Int × Int))
  | 0, _ => []
  | f + 1, k => if k ≤ n then rowsJ n k 17 (k / 2) ++ rowsK n f (2 * k) else []
def layersF (n : Int) : List (List (Int × Int)) := if sizeB n = true then rowsK n.toNat 17 2 else []
def gatesF (n : Int) : List (Int × Int) := (layersF n).flatten
theorem rowG_len (k j : Nat) : ∀ f i, (rowG k j f i).length ≤ f
  | 0, _ => Nat.le_refl _
  | f + 1, i => by
    simp only [rowG]
    have := rowG_len k j f (i + 1)
    split
    · omega
    · rw [List.length_cons]; omega
theorem rowsJ_len (n k : Nat) : ∀ f j, (rowsJ n k f j).length ≤ f ∧ (rowsJ n k f j).flatten.length ≤ f * n
  | 0, _ => ⟨Nat.le_refl _, by simp [rowsJ]⟩
  | f + 1, j => by
    simp only [rowsJ]
    have h1 := rowsJ_len n k f (j / 2)
    have h2 := rowG_len k j n 0
    have hm : (f + 1) * n = f * n + n := Nat.succ_mul f n
    split
    · rw [List.length_cons, List.flatten_cons, List.length_append]; omega
    · simp
theorem rowsK_len (n : Nat) : ∀ f k, (rowsK n f k).length ≤ f * 17 ∧ (rowsK n f k).flatten.length ≤ f * (17 * n)
  | 0, _ => ⟨by simp [rowsK], by simp [rowsK]⟩
  | f + 1, k => by
    simp only [rowsK]
    have h1 := rowsK_len n f (2 * k)
    have h2 := rowsJ_len n k 17 (k / 2)
    have hm : (f + 1) * (17 * n) = f * (17 * n) + 17 * n := Nat.succ_mul f (17 * n)
    split
    · rw [List.length_append, List.flatten_append, List.length_append]; omega
    · simp
theorem gates_len (n : Int) : (gatesF n).length ≤ 18939904 ∧ (layersF n).length ≤ 289 := by
  unfold gatesF layersF
  split
  · rename_i h
    have h1 := rowsK_len n.toNat 17 2
    have h2 := size_range h
    omega
  · simp
theorem rowsJ_stop {n k f : Nat} : rowsJ n k f 0 = [] := by cases f <;> simp [rowsJ]
theorem rowsK_stop {n k f : Nat} (h : n < k) : rowsK n f k = [] := by
  cases f with
  | zero => rfl
  | succ f => simp only [rowsK]; rw [if_neg (by omega)]
end Go.Proofs.Ytpglocgfdonmaaa

/-
  Plain law: where the gates stand; sorting by the gates. No program in sight.
-/
import Derived.Test.YtpglocgfdonmaaaGp
set_option linter.unusedVariables false
namespace Go.Proofs.Ytpglocgfdonmaaa

theorem rowG_mem {k j : Nat} : ∀ f i x, x ∈ rowG k j f i → ∃ t, i ≤ t ∧ t < i + f ∧ ¬ t / j % 2 = 1 ∧ x = gate k j t
  | 0, i, x, h => by simp [rowG] at h
  | f + 1, i, x, h => by
    simp only [rowG] at h
    split at h
    · obtain ⟨t, h1, h2, h3⟩ := rowG_mem f (i + 1) x h
      exact ⟨t, by omega, by omega, h3⟩
    · rename_i hi
      rcases List.mem_cons.1 h with rfl | h
      · exact ⟨i, by omega, by omega, hi, rfl⟩
      · obtain ⟨t, h1, h2, h3⟩ := rowG_mem f (i + 1) x h
        exact ⟨t, by omega, by omega, h3⟩
theorem rowsJ_mem {n k : Nat} : ∀ f b row, row ∈ rowsJ n k f (2 ^ b) → ∃ b', b' ≤ b ∧ row = rowG k (2 ^ b') n 0
  | 0, b, row, h => by simp [rowsJ] at h
  | f + 1, b, row, h => by
    simp only [rowsJ] at h
    rw [if_pos (Nat.two_pow_pos b)] at h
    rcases List.mem_cons.1 h with rfl | h
    · exact ⟨b, by omega, rfl⟩
    · cases b with
      | zero => rw [show 2 ^ 0 / 2 = 0 from rfl, rowsJ_stop] at h; cases h
      | succ b =>
        rw [show 2 ^ (b + 1) / 2 = 2 ^ b from by rw [Nat.pow_succ]; simp] at h
        obtain ⟨b', h1, h2⟩ := rowsJ_mem f b row h
        exact ⟨b', by omega, h2⟩
theorem rowsK_mem {n : Nat} : ∀ f m row, 1 ≤ m → row ∈ rowsK n f (2 ^ m) → ∃ m' b', 2 ^ m' ≤ n ∧ b' < m' ∧ row = rowG (2 ^ m') (2 ^ b') n 0
  | 0, m, row, _, h => by simp [rowsK] at h
  | f + 1, m, row, hm, h => by
    simp only [rowsK] at h
    split at h
    · rename_i hk
      rcases List.mem_append.1 h with h | h
      · rw [show 2 ^ m / 2 = 2 ^ (m - 1) from by rw [show m = (m - 1) + 1 from by omega, Nat.pow_succ]; simp] at h
        obtain ⟨b', h1, h2⟩ := rowsJ_mem 17 (m - 1) row h
        exact ⟨m, b', hk, by omega, h2⟩
      · rw [show 2 * 2 ^ m = 2 ^ (m + 1) from by rw [Nat.pow_succ, Nat.mul_comm]] at h
        exact rowsK_mem f (m + 1) row (by omega) h
    · cases h
/-- Room for the partner. -/
theorem partner_lt {i b e : Nat} (hb : b < e) (hi : i < 2 ^ e) (h : ¬ i / 2 ^ b % 2 = 1) : i + 2 ^ b < 2 ^ e := by
  obtain ⟨d, rfl⟩ : ∃ d, e = b + 1 + d := ⟨e - b - 1, by omega⟩
  have hp : 0 < 2 ^ b := Nat.two_pow_pos b
  have e1 : 2 ^ (b + 1 + d) = 2 ^ b * (2 * 2 ^ d) := by rw [Nat.pow_add, Nat.pow_succ, Nat.mul_assoc]
  rw [e1] at hi ⊢
  have hq : i / 2 ^ b < 2 * 2 ^ d := (Nat.div_lt_iff_lt_mul hp).2 (by rw [Nat.mul_comm]; exact hi)
  have h2 := Nat.div_add_mod i (2 ^ b)
  have h3 := Nat.mod_lt i hp
  have h4 : i / 2 ^ b + 2 ≤ 2 * 2 ^ d := by omega
  have h5 : 2 ^ b * (i / 2 ^ b + 2) ≤ 2 ^ b * (2 * 2 ^ d) := Nat.mul_le_mul_left _ h4
  rw [Nat.mul_add] at h5
  omega
theorem gates_mem {N : Int} {x : Int × Int} (h : x ∈ gatesF N) : ∃ a b n : Nat, N = n ∧ x = ((a : Int), (b : Int)) ∧ a < n ∧ b < n ∧ a ≠ b := by
  unfold gatesF layersF at h
  split at h
  · rename_i hs
    obtain ⟨e, he, rfl⟩ := size_pow hs
    obtain ⟨row, hr, hx⟩ := List.mem_flatten.1 h
    rw [Int.toNat_natCast] at hr
    obtain ⟨m, b, hm, hb, rfl⟩ := rowsK_mem 17 1 row (by omega) hr
    obtain ⟨t, -, ht, hno, rfl⟩ := rowG_mem _ _ _ hx
    have hme : m ≤ e := by
      rcases Nat.lt_or_ge e m with h | h
      · have : 2 ^ (e + 1) ≤ 2 ^ m := Nat.pow_le_pow_right (by omega) h
        have h1 : 0 < 2 ^ e := Nat.two_pow_pos e
        rw [Nat.pow_succ] at this
        omega
      · exact h
    have hp : 0 < 2 ^ b := Nat.two_pow_pos b
    have h2 := partner_lt (by omega : b < e) (by omega) hno
    unfold gate
    split
    · exact ⟨t + 2 ^ b, t, 2 ^ e, rfl, rfl, h2, by omega, by omega⟩
    · exact ⟨t, t + 2 ^ b, 2 ^ e, rfl, rfl, by omega, h2, by omega⟩
  · simp at h

def swapL {α : Type} (d : α) (l : List α) (a b : Nat) : List α := (l.set b (l.getD a d)).set a (l.getD b d)
def stepS {α : Type} (d : α) (lt : α → α → Bool) (l : List α) (g : Int × Int) : List α := if lt (l.getD g.2.toNat d) (l.getD g.1.toNat d) = true then swapL d l g.1.toNat g.2.toNat else l
def sortG {α : Type} (d : α) (lt : α → α → Bool) (l : List α) (gs : List (Int × Int)) : List α := gs.foldl (stepS d lt) l
def sortF {α : Type} (d : α) (lt : α → α → Bool) (l : List α) : List α := sortG d lt l (gatesF l.length)
theorem step_len {α : Type} (d : α) (lt : α → α → Bool) (l : List α) (g : Int × Int) : (stepS d lt l g).length = l.length := by unfold stepS swapL; split <;> simp
theorem sortG_snoc {α : Type} (d : α) (lt : α → α → Bool) (l : List α) (gs : List (Int × Int)) (g : Int × Int) : sortG d lt l (gs ++ [g]) = stepS d lt (sortG d lt l gs) g := by simp [sortG]
theorem sortG_len {α : Type} (d : α) (lt : α → α → Bool) : ∀ (gs : List (Int × Int)) (l : List α), (sortG d lt l gs).length = l.length
  | [], l => rfl
  | g :: gs, l => by
    show (sortG d lt (stepS d lt l g) gs).length = _
    rw [sortG_len d lt gs, step_len]
theorem getD_set {α : Type} (l : List α) (i j : Nat) (x d : α) : (l.set i x).getD j d = if i = j ∧ j < l.length then x else l.getD j d := by
  rw [List.getD_eq_getElem?_getD, List.getElem?_set, List.getD_eq_getElem?_getD]
  by_cases h : i = j
  · subst h
    by_cases h2 : i < l.length
    · simp [h2]
    · simp [h2]
  · simp [h]
theorem swap_all {α : Type} {p : α → Prop} (d : α) (l : List α) (a b : Nat) (h : ∀ i, p (l.getD i d)) : ∀ i, p ((swapL d l a b).getD i d) := fun i => by
  unfold swapL
  rw [getD_set, getD_set]
  split
  · exact h _
  · split
    · exact h _
    · exact h _
theorem step_all {α : Type} {p : α → Prop} (d : α) (lt : α → α → Bool) (l : List α) (g : Int × Int) (h : ∀ i, p (l.getD i d)) : ∀ i, p ((stepS d lt l g).getD i d) := by
  unfold stepS
  split
  · exact swap_all d l _ _ h
  · exact h
theorem sortG_all {α : Type} {p : α → Prop} (d : α) (lt : α → α → Bool) : ∀ (gs : List (Int × Int)) (l : List α), (∀ i, p (l.getD i d)) → ∀ i, p ((sortG d lt l gs).getD i d)
  | [], l, h => h
  | g :: gs, l, h => sortG_all d lt gs _ (step_all d lt l g h)
end Go.Proofs.Ytpglocgfdonmaaa

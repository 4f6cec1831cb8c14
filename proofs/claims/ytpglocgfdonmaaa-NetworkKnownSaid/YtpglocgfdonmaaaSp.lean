/-
  Plain law: the shift network, as a row of places. No program in sight.
-/
import Derived.Test.YtpglocgfdonmaaaHp
import Derived.Test.YtpglocgfdonmaaaGm
set_option linter.unusedVariables false
namespace Go.Proofs.Ytpglocgfdonmaaa

theorem rowF_mem {n d i : Nat} {x : Int × Int} (h : x ∈ rowF n d i) : ∃ t, i ≤ t ∧ t < n ∧ x = ((t : Int), (t : Int) - d) := by
  unfold rowF at h
  obtain ⟨j, hj, rfl⟩ := List.mem_map.1 h
  rw [List.mem_range] at hj
  exact ⟨i + j, by omega, by omega, rfl⟩
theorem hopF_mem {n : Nat} {x : Int × Int} : ∀ f k, x ∈ hopF n f (2 ^ k) → ∃ t c, 2 ^ c ≤ t ∧ t < n ∧ x = ((t : Int), (t : Int) - (2 ^ c : Nat))
  | 0, k, h => by simp [hopF] at h
  | f + 1, k, h => by
    simp only [hopF] at h
    split at h
    · rcases List.mem_append.1 h with h | h
      · obtain ⟨t, h1, h2, h3⟩ := rowF_mem h
        exact ⟨t, k, h1, h2, h3⟩
      · rw [show 2 * 2 ^ k = 2 ^ (k + 1) from by rw [Nat.pow_succ, Nat.mul_comm]] at h
        exact hopF_mem f (k + 1) h
    · simp at h
/-- A hop leads from a place down by a power of two. -/
theorem hops_mem {N : Int} {x : Int × Int} (h : x ∈ hops N) : ∃ a b n c : Nat, N = n ∧ x = ((a : Int), (b : Int)) ∧ a < n ∧ b + 2 ^ c = a := by
  unfold hops at h
  split at h
  · simp at h
  · obtain ⟨t, c, h1, h2, rfl⟩ := hopF_mem 17 0 (by simpa using h)
    refine ⟨t, t - 2 ^ c, N.toNat, c, by omega, ?_, h2, by omega⟩
    generalize 2 ^ c = d at h1
    rw [Int.ofNat_sub h1]

/-- The dead ones ahead of a place. -/
def deadF (L : List Bool) (i : Nat) : Nat := (L.take i).count false
theorem dead_zero (L : List Bool) : deadF L 0 = 0 := by simp [deadF]
theorem dead_succ (L : List Bool) (i : Nat) (h : i < L.length) : deadF L (i + 1) = if L.getD i false = true then deadF L i else deadF L i + 1 := by
  unfold deadF
  rw [List.take_add_one, List.getElem?_eq_getElem h, List.count_append, List.getD_eq_getElem?_getD, List.getElem?_eq_getElem h]
  cases L[i] <;> simp
theorem dead_le (L : List Bool) (i : Nat) : deadF L i ≤ i := by
  unfold deadF
  exact Nat.le_trans List.count_le_length (by simp; omega)
/-- Does the one that stood at place p go d places? -/
def goF (L : List Bool) (p d : Nat) : Bool := L.getD p false && (deadF L p / d % 2 == 1)
def stepH (L : List Bool) (l : List Nat) (h : Int × Int) : List Nat := if goF L (l.getD h.1.toNat 0) (h.1 - h.2).toNat = true then swapL 0 l h.1.toNat h.2.toNat else l
def shG (L : List Bool) (l : List Nat) (hs : List (Int × Int)) : List Nat := hs.foldl (stepH L) l
/-- Who stands where behind the network. -/
def shF (L : List Bool) : List Nat := shG L (List.range L.length) (hops L.length)
theorem stepH_len (L : List Bool) (l : List Nat) (h : Int × Int) : (stepH L l h).length = l.length := by unfold stepH swapL; split <;> simp
theorem shG_snoc (L : List Bool) (l : List Nat) (hs : List (Int × Int)) (h : Int × Int) : shG L l (hs ++ [h]) = stepH L (shG L l hs) h := by simp [shG]
theorem shG_len (L : List Bool) : ∀ (hs : List (Int × Int)) (l : List Nat), (shG L l hs).length = l.length
  | [], l => rfl
  | h :: hs, l => by
    show (shG L (stepH L l h) hs).length = _
    rw [shG_len L hs, stepH_len]
theorem shF_len (L : List Bool) : (shF L).length = L.length := by unfold shF; rw [shG_len]; simp
/-- Every entry is a place. -/
def Pl (n : Nat) (l : List Nat) : Prop := l.length = n ∧ ∀ i, i < n → l.getD i 0 < n
theorem Pl.range (n : Nat) : Pl n (List.range n) := ⟨by simp, fun i hi => by simp [hi]⟩
theorem Pl.swap {n : Nat} {l : List Nat} (h : Pl n l) {a b : Nat} (ha : a < n) (hb : b < n) : Pl n (swapL 0 l a b) := by
  refine ⟨by simp [swapL, h.1], fun i hi => ?_⟩
  unfold swapL
  rw [getD_set, getD_set]
  split
  · exact h.2 _ hb
  · split
    · exact h.2 _ ha
    · exact h.2 _ hi
theorem Pl.step {n : Nat} {L : List Bool} {l : List Nat} (h : Pl n l) {x : Int × Int} (hx : x ∈ hops n) : Pl n (stepH L l x) := by
  obtain ⟨a, b, n', c, h1, rfl, h3, h4⟩ := hops_mem hx
  have hp : 0 < 2 ^ c := Nat.two_pow_pos c
  unfold stepH
  split
  · exact h.swap (by simp; omega) (by simp; omega)
  · exact h
theorem Pl.all {n : Nat} {L : List Bool} : ∀ (hs : List (Int × Int)) {l : List Nat}, Pl n l → (∀ x ∈ hs, x ∈ hops n) → Pl n (shG L l hs)
  | [], l, h, _ => h
  | x :: hs, l, h, hm => Pl.all hs (h.step (hm x (by simp))) (fun y hy => hm y (by simp [hy]))
theorem Pl.shF (L : List Bool) : Pl L.length (shF L) := Pl.all _ (Pl.range _) (fun _ h => h)
theorem swap_map {α : Type} (f : Nat → α) (l : List Nat) (a b : Nat) : (swapL 0 l a b).map f = ((l.map f).set b (f (l.getD a 0))).set a (f (l.getD b 0)) := by
  unfold swapL
  rw [List.map_set, List.map_set]
theorem range_map {α : Type} (d : α) (xs : List α) : (List.range xs.length).map (fun p => xs.getD p d) = xs := by
  apply List.ext_getElem?
  intro i
  rw [List.getElem?_map]
  rcases Nat.lt_or_ge i xs.length with h | h
  · simp [h]
  · simp [h]
end Go.Proofs.Ytpglocgfdonmaaa

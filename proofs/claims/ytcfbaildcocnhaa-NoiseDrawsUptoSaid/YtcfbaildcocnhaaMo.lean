/-
  Plain: rounding goes with the order: what is at least a word's number is rounded to that word at least, what is at most a word's number to that word at most.
-/
import Derived.Test.YtcfbaildcocnhaaUf
set_option linter.unusedVariables false
set_option linter.unusedSimpArgs false
namespace Go.Proofs.Ytcfbaildcocnhaa
open Go.RowKit

theorem gap_eq {n d : Nat} (h : d ≤ n.log2 + 2) : 1 <<< min d (n.log2 + 2) = 2 ^ d := by
  rw [Nat.min_eq_left h, Nat.shiftLeft_eq, Nat.one_mul]
theorem gap_far {n d : Nat} (h : n.log2 + 2 < d) : 2 * n < 1 <<< min d (n.log2 + 2) := by
  rw [Nat.min_eq_right (by omega), Nat.shiftLeft_eq, Nat.one_mul, Nat.pow_succ]
  have := log2_lt (M := n)
  omega
/-- A cut is at least the floor. -/
theorem cut_ge (s : Bool) {n d m : Nat} (h : m * 2 ^ d ≤ n) : m ≤ Ieee.Toward.even.cut s n d := by
  unfold Ieee.Toward.cut
  have hp : 0 < 2 ^ d := Nat.two_pow_pos d
  by_cases hd : d ≤ n.log2 + 2
  · have : m ≤ n / 2 ^ d := (Nat.le_div_iff_mul_le hp).2 h
    simp only [gap_eq hd]
    omega
  · have h2 := gap_far (n := n) (d := d) (by omega)
    rw [Nat.min_eq_right (by omega), Nat.shiftLeft_eq, Nat.one_mul] at h2
    have h3 : 2 ^ (n.log2 + 2) ≤ 2 ^ d := Nat.pow_le_pow_right (by omega) (by omega)
    rcases Nat.eq_zero_or_pos m with rfl | hm
    · exact Nat.zero_le _
    · have : 1 * 2 ^ d ≤ m * 2 ^ d := Nat.mul_le_mul_right _ hm
      omega
/-- A cut is at most what the number is at most. -/
theorem cut_le (s : Bool) {n d m : Nat} (h : n ≤ m * 2 ^ d) : Ieee.Toward.even.cut s n d ≤ m := by
  unfold Ieee.Toward.cut
  have hp : 0 < 2 ^ d := Nat.two_pow_pos d
  by_cases hd : d ≤ n.log2 + 2
  · simp only [gap_eq hd]
    have h1 : n / 2 ^ d ≤ m := by
      rw [Nat.div_le_iff_le_mul hp]
      omega
    rcases Nat.lt_or_ge (n / 2 ^ d) m with h2 | h2
    · have : ∀ b : Bool, b.toNat ≤ 1 := by intro b; cases b <;> decide
      have := this (decide (2 ^ d < 2 * (n % 2 ^ d)) || 2 ^ d == 2 * (n % 2 ^ d) && n / 2 ^ d % 2 == 1)
      omega
    · have h3 : n / 2 ^ d = m := by omega
      have h4 := Nat.div_add_mod n (2 ^ d)
      rw [h3, Nat.mul_comm] at h4
      have h5 : n % 2 ^ d = 0 := by omega
      have h6 : (2 ^ d == 2 * 0) = false := by simp
      rw [h5, h3, h6]
      simp
  · have h2 := gap_far (n := n) (d := d) (by omega)
    generalize 1 <<< min d (n.log2 + 2) = G at h2
    have h3 : n / G = 0 := Nat.div_eq_of_lt (by omega)
    have h4 : n % G = n := Nat.mod_eq_of_lt (by omega)
    simp only [h3, h4]
    have h5 : decide (G < 2 * n) = false := by simp; omega
    have h6 : (G == 2 * n) = false := by simp; omega
    simp [h5, h6]

/-- a·2^p ≤ n·2^e. -/
def leP (m : Nat) (p : Int) (n : Nat) (e : Int) : Prop := m * 2 ^ (p - min p e).toNat ≤ n * 2 ^ (e - min p e).toNat
theorem pow_pos' (k : Nat) : 0 < 2 ^ k := Nat.two_pow_pos k
theorem leP_base {m n : Nat} {p e : Int} (b : Int) (h1 : b ≤ p) (h2 : b ≤ e) : leP m p n e ↔ m * 2 ^ (p - b).toNat ≤ n * 2 ^ (e - b).toNat := by
  obtain ⟨k, hk⟩ : ∃ k : Nat, min p e = b + k := ⟨(min p e - b).toNat, by omega⟩
  unfold leP
  rw [show (p - b).toNat = (p - min p e).toNat + k from by omega, show (e - b).toNat = (e - min p e).toNat + k from by omega, Nat.pow_add, Nat.pow_add, ← Nat.mul_assoc, ← Nat.mul_assoc]
  exact ⟨fun h => Nat.mul_le_mul_right _ h, fun h => Nat.le_of_mul_le_mul_right h (pow_pos' k)⟩
theorem leP_trans {m n q : Nat} {p e f : Int} (h1 : leP m p n e) (h2 : leP n e q f) : leP m p q f := by
  have a := (leP_base (min p (min e f)) (by omega) (by omega)).1 h1
  have b := (leP_base (min p (min e f)) (by omega) (by omega)).1 h2
  exact (leP_base (min p (min e f)) (by omega) (by omega)).2 (Nat.le_trans a b)
/-- A word's number, in the lattice of words. -/
structure Rung (r m : Nat) (p : Int) : Prop where
  eq : (r : Int) = (p + 1074) * 4503599627370496 + m
  lt : m < 9007199254740992
  lo : -1074 ≤ p
  hi : p ≤ 971
  full : 4503599627370496 ≤ m ∨ p = -1074
theorem read_rung {r : Nat} (hr : r < 9218868437227405312) : ∃ m p, Ieee.double.read r = .number false m p ∧ Rung r m p := by
  have hw : Ieee.double.signWeight = 9223372036854775808 := by decide
  unfold Ieee.Format.read
  have e2 : r / 9223372036854775808 % 2 = 0 := by omega
  have e3 : r % 9223372036854775808 = r := by omega
  simp only [hw, dBin, dInf, least, e2, e3]
  by_cases h1 : r < 4503599627370496
  · rw [if_pos h1]
    exact ⟨_, _, rfl, by omega, by omega, by omega, by omega, .inr rfl⟩
  · rw [if_neg h1, if_pos hr]
    exact ⟨_, _, rfl, by omega, by omega, by omega, by omega, .inl (by omega)⟩
theorem read_inf : Ieee.double.read 9218868437227405312 = .infinity false := by decide
/-- The place of the last digit that is kept. -/
def lastP (n : Nat) (e : Int) : Int := max (e + n.log2 - 52) (-1074)
def keptP (n : Nat) (e : Int) : Nat := Ieee.Toward.even.cut false (n <<< (e - lastP n e).toNat) (lastP n e - e).toNat
theorem near_is (n : Nat) (e : Int) (hn : n ≠ 0) : Ieee.double.nearest false n e = min ((lastP n e + 1074).toNat * 4503599627370496 + keptP n e) 9218868437227405312 := by
  rw [near_gen n e hn, dInf, dBin, least, dFrac]
  unfold keptP lastP
  congr 3
theorem kept_ge {n m : Nat} {e : Int} (h : leP m (lastP n e) n e) : m ≤ keptP n e := by
  unfold keptP
  refine cut_ge _ ?_
  have := (leP_base (min (lastP n e) e) (by omega) (by omega)).1 h
  rw [Nat.shiftLeft_eq]
  rwa [show (lastP n e - e).toNat = (lastP n e - min (lastP n e) e).toNat from by omega, show (e - lastP n e).toNat = (e - min (lastP n e) e).toNat from by omega]
theorem kept_le {n m : Nat} {e : Int} (h : leP n e m (lastP n e)) : keptP n e ≤ m := by
  unfold keptP
  refine cut_le _ ?_
  have := (leP_base (min (lastP n e) e) (by omega) (by omega)).1 h
  rw [Nat.shiftLeft_eq]
  rwa [show (lastP n e - e).toNat = (lastP n e - min (lastP n e) e).toNat from by omega, show (e - lastP n e).toNat = (e - min (lastP n e) e).toNat from by omega]
/-- n·2^e < 2^(last + 53). -/
theorem last_top {n : Nat} {e : Int} : leP n e 9007199254740992 (lastP n e) := by
  have h := log2_lt (M := n)
  refine (leP_base (min (lastP n e) e) (by omega) (by omega)).2 ?_
  have e1 : (9007199254740992 : Nat) = 2 ^ 53 := by decide
  rw [e1, ← Nat.pow_add]
  refine Nat.le_trans (Nat.mul_le_mul_right _ (Nat.le_of_lt h)) ?_
  rw [← Nat.pow_add]
  refine Nat.pow_le_pow_right (by omega) ?_
  unfold lastP
  omega
theorem last_bot {n : Nat} {e : Int} (hn : n ≠ 0) (hl : -1074 < lastP n e) : leP 4503599627370496 (lastP n e) n e := by
  have h := log2_le (M := n) (by omega)
  refine (leP_base (min (lastP n e) e) (by omega) (by omega)).2 ?_
  have e1 : (4503599627370496 : Nat) = 2 ^ 52 := by decide
  rw [e1, ← Nat.pow_add]
  refine Nat.le_trans ?_ (Nat.mul_le_mul_right _ h)
  rw [← Nat.pow_add]
  refine Nat.pow_le_pow_right (by omega) ?_
  unfold lastP at hl ⊢
  omega
theorem leP_shift {a b : Nat} {p q : Int} (h : leP a p b q) (hpq : q < p) : 2 * a ≤ b := by
  have h1 := (leP_base q (by omega) (Int.le_refl _)).1 h
  rw [show (q - q).toNat = 0 from by omega, Nat.pow_zero, Nat.mul_one] at h1
  have h2 : 2 ^ 1 ≤ 2 ^ (p - q).toNat := Nat.pow_le_pow_right (by omega) (by omega)
  have h3 : a * 2 ^ 1 ≤ a * 2 ^ (p - q).toNat := Nat.mul_le_mul_left _ h2
  omega
theorem leP_same {a b : Nat} {p : Int} (h : leP a p b p) : a ≤ b := by
  have h1 := (leP_base p (Int.le_refl _) (Int.le_refl _)).1 h
  rw [show (p - p).toNat = 0 from by omega, Nat.pow_zero, Nat.mul_one, Nat.mul_one] at h1
  exact h1
theorem leP_of {a b : Nat} {p : Int} (h : a ≤ b) : leP a p b p := by
  refine (leP_base p (Int.le_refl _) (Int.le_refl _)).2 ?_
  rw [show (p - p).toNat = 0 from by omega, Nat.pow_zero, Nat.mul_one, Nat.mul_one]
  exact h
/-- n·2^e < 2^(last + 53), sharply. -/
theorem last_top' {n : Nat} {e : Int} {m : Nat} {p : Int} (hm : 4503599627370496 ≤ m) (hp : lastP n e < p) : ¬ leP m p n e := by
  intro h
  have h0 := log2_lt (M := n)
  have h1 := (leP_base (min p e) (by omega) (by omega)).1 h
  have e1 : (4503599627370496 : Nat) = 2 ^ 52 := by decide
  rw [e1] at hm
  have h2 := Nat.lt_of_le_of_lt (Nat.le_trans (Nat.mul_le_mul_right _ hm) h1) (Nat.mul_lt_mul_of_pos_right h0 (pow_pos' _))
  rw [← Nat.pow_add, ← Nat.pow_add] at h2
  have h3 := (Nat.pow_lt_pow_iff_right (a := 2) (by omega)).1 h2
  unfold lastP at hp
  omega
/-- What is at least a word's number is rounded to that word at least. -/
theorem near_ge {r m n : Nat} {p e : Int} (hr : Rung r m p) (h : leP m p n e) (hn : n ≠ 0) : r ≤ Ieee.double.nearest false n e := by
  obtain ⟨h1, h2, h3, h4, h5⟩ := hr
  rw [near_is n e hn]
  have hl : -1074 ≤ lastP n e := by unfold lastP; omega
  rcases Int.lt_trichotomy p (lastP n e) with hp | hp | hp
  · have hb := kept_ge (last_bot hn (by omega : -1074 < lastP n e))
    omega
  · subst hp
    have hb := kept_ge h
    omega
  · exact absurd h (last_top' (by omega) hp)
/-- What is at most a word's number is rounded to that word at most. -/
theorem near_le {r m n : Nat} {p e : Int} (hr : Rung r m p) (h : leP n e m p) : Ieee.double.nearest false n e ≤ r := by
  obtain ⟨h1, h2, h3, h4, h5⟩ := hr
  by_cases hn : n = 0
  · subst hn
    have : Ieee.double.nearest false 0 e = 0 := by simp [Ieee.Format.nearest, Ieee.Format.word]
    omega
  rw [near_is n e hn]
  have hl : -1074 ≤ lastP n e := by unfold lastP; omega
  rcases Int.lt_trichotomy p (lastP n e) with hp | hp | hp
  · have hb := leP_shift (leP_trans (last_bot hn (by omega)) h) hp
    omega
  · subst hp
    have hb := kept_le h
    omega
  · have hb := kept_le (last_top (n := n) (e := e))
    omega
/-- A word's number is rounded to that word. -/
theorem near_self {r m : Nat} {p : Int} (hr : Rung r m p) {n : Nat} {e : Int} (h1 : leP m p n e) (h2 : leP n e m p) : Ieee.double.nearest false n e = r := by
  by_cases hn : n = 0
  · subst hn
    have h3 := (leP_base (min p e) (by omega) (by omega)).1 h1
    rw [Nat.zero_mul] at h3
    have hm : m = 0 := by
      rcases Nat.eq_zero_or_pos m with h | h
      · exact h
      · have := Nat.mul_pos h (pow_pos' (p - min p e).toNat); omega
    obtain ⟨a1, a2, a3, a4, a5⟩ := hr
    have : Ieee.double.nearest false 0 e = 0 := by simp [Ieee.Format.nearest, Ieee.Format.word]
    omega
  · exact Nat.le_antisymm (near_le hr h2) (near_ge hr h1 hn)
end Go.Proofs.Ytcfbaildcocnhaa

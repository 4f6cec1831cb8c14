/-
  Plain: whole numbers times a power of two, as floats: exact.
-/
import Derived.Test.YtcfbaildcocnhaaBu
set_option linter.unusedVariables false
set_option linter.unusedSimpArgs false
namespace Go.Proofs.Ytcfbaildcocnhaa
open Go.RowKit

theorem log2_le {M : Nat} (hM : 0 < M) : 2 ^ M.log2 ≤ M := Nat.log2_self_le (by omega)
theorem log2_lt {M : Nat} : M < 2 ^ (M.log2 + 1) := Nat.lt_log2_self
theorem log2_52 {M : Nat} (h : M < 9007199254740992) : M.log2 ≤ 52 := by
  rcases Nat.eq_zero_or_pos M with rfl | hM
  · decide
  · rcases Nat.lt_or_ge 52 M.log2 with h1 | h1
    · have := Nat.pow_le_pow_right (n := 2) (by omega) (show 53 ≤ M.log2 by omega)
      have := log2_le hM
      have e : (2 : Nat) ^ 53 = 9007199254740992 := by decide
      omega
    · exact h1
theorem log2_mul {M : Nat} (hM : 0 < M) (k : Nat) : (M * 2 ^ k).log2 = M.log2 + k := by
  have h1 := log2_le hM
  have h2 := log2_lt (M := M)
  have hp : 0 < 2 ^ k := Nat.two_pow_pos k
  have hn : M * 2 ^ k ≠ 0 := Nat.mul_ne_zero (by omega) (by omega)
  rw [Nat.log2_eq_iff hn]
  constructor
  · rw [Nat.pow_add]; exact Nat.mul_le_mul_right _ h1
  · rw [show M.log2 + k + 1 = (M.log2 + 1) + k from by omega, Nat.pow_add]
    exact Nat.mul_lt_mul_of_pos_right h2 hp
/-- The word of M times a power of two. -/
def W (M : Nat) (p : Int) : Nat := (p + M.log2 - 52 + 1074).toNat * 4503599627370496 + M * 2 ^ (52 - M.log2)
theorem kept_range {M : Nat} (hM : 0 < M) (h : M < 9007199254740992) : 4503599627370496 ≤ M * 2 ^ (52 - M.log2) ∧ M * 2 ^ (52 - M.log2) < 9007199254740992 := by
  have h0 := log2_52 h
  have h1 := log2_le hM
  have h2 := log2_lt (M := M)
  have hp : 0 < 2 ^ (52 - M.log2) := Nat.two_pow_pos _
  have a := Nat.mul_le_mul_right (2 ^ (52 - M.log2)) h1
  have b := Nat.mul_lt_mul_of_pos_right h2 hp
  rw [← Nat.pow_add] at a b
  rw [show M.log2 + (52 - M.log2) = 52 from by omega] at a
  rw [show M.log2 + 1 + (52 - M.log2) = 53 from by omega] at b
  exact ⟨a, b⟩
theorem cut_zero (n : Nat) : Ieee.Toward.even.cut false n 0 = n := by
  unfold Ieee.Toward.cut
  simp [Nat.mod_one]
theorem cut_exact (q d : Nat) (hq : 0 < q) : Ieee.Toward.even.cut false (q * 2 ^ d) d = q := by
  have hl : d ≤ (q * 2 ^ d).log2 + 2 := by rw [log2_mul hq]; omega
  have hp : 0 < 2 ^ d := Nat.two_pow_pos d
  unfold Ieee.Toward.cut
  have e1 : min d ((q * 2 ^ d).log2 + 2) = d := by omega
  have e2 : 1 <<< d = 2 ^ d := by rw [Nat.shiftLeft_eq, Nat.one_mul]
  simp only [e1, e2, Nat.mul_mod_left, Nat.mul_div_cancel _ hp]
  have hz : (2 ^ d == 0) = false := by simp
  simp [hz]
theorem least : Ieee.double.leastPlace = -1074 := by decide
theorem near_gen (n : Nat) (e : Int) (hn : n ≠ 0) : Ieee.double.nearest false n e = min ((max (e + n.log2 - Ieee.double.fractionBits) Ieee.double.leastPlace - Ieee.double.leastPlace).toNat * Ieee.double.binade + Ieee.Toward.even.cut false (n <<< (e - max (e + n.log2 - Ieee.double.fractionBits) Ieee.double.leastPlace).toNat) (max (e + n.log2 - Ieee.double.fractionBits) Ieee.double.leastPlace - e).toNat) Ieee.double.infRung := by
  simp only [Ieee.Format.nearest, if_neg hn, Ieee.Format.word, Bool.false_eq_true, if_false]
theorem dInf : Ieee.double.infRung = 9218868437227405312 := by decide
theorem dBin : Ieee.double.binade = 4503599627370496 := by decide
theorem dFrac : (Ieee.double.fractionBits : Int) = 52 := rfl
theorem kept_is (M k : Nat) (e : Int) (hM : 0 < M) (hl : M.log2 ≤ 52) : Ieee.Toward.even.cut false ((M * 2 ^ k) <<< (e - (e + k + M.log2 - 52)).toNat) ((e + k + M.log2 - 52) - e).toNat = M * 2 ^ (52 - M.log2) := by
  by_cases h : M.log2 + k ≤ 52
  · rw [show (e - (e + k + M.log2 - 52)).toNat = 52 - M.log2 - k from by omega, show ((e + k + M.log2 - 52) - e).toNat = 0 from by omega, cut_zero, Nat.shiftLeft_eq, Nat.mul_assoc, ← Nat.pow_add]
    congr 2
    omega
  · rw [show (e - (e + k + M.log2 - 52)).toNat = 0 from by omega, Nat.shiftLeft_zero]
    obtain ⟨d, hd⟩ : ∃ d, d = ((e + k + M.log2 - 52) - e).toNat := ⟨_, rfl⟩
    have hkd : k = (52 - M.log2) + d := by omega
    have hq : 0 < M * 2 ^ (52 - M.log2) := Nat.mul_pos hM (Nat.two_pow_pos _)
    rw [← hd]
    have e4 : M * 2 ^ k = M * 2 ^ (52 - M.log2) * 2 ^ d := by rw [Nat.mul_assoc, ← Nat.pow_add, ← hkd]
    rw [e4]
    exact cut_exact _ _ hq
theorem W_cap (L K : Nat) (hL : L ≤ 2045) (hK : K < 9007199254740992) : min (L * 4503599627370496 + K) 9218868437227405312 = L * 4503599627370496 + K := by omega
theorem near_W (M k : Nat) (e : Int) (hM : 0 < M) (h53 : M < 9007199254740992) (hlo : -1022 ≤ e + k + M.log2) (hhi : e + k + M.log2 ≤ 1023) : Ieee.double.nearest false (M * 2 ^ k) e = W M (e + k) := by
  have hl := log2_52 h53
  have hk := (kept_range hM h53).2
  have hp : 0 < 2 ^ k := Nat.two_pow_pos k
  have hn : M * 2 ^ k ≠ 0 := Nat.mul_ne_zero (by omega) (by omega)
  have hlast : max (e + ((M.log2 + k : Nat) : Int) - (Ieee.double.fractionBits : Int)) (-1074) = e + k + M.log2 - 52 := by rw [dFrac]; omega
  rw [near_gen _ _ hn, log2_mul hM, least, hlast, kept_is M k e hM hl, dInf, dBin, W_cap _ _ (by omega) hk]
  unfold W
  congr 2
theorem near_W0 (M : Nat) (e : Int) (hM : 0 < M) (h53 : M < 9007199254740992) (hlo : -1022 ≤ e + M.log2) (hhi : e + M.log2 ≤ 1023) : Ieee.double.nearest false M e = W M e := by
  have h := near_W M 0 e hM h53 (by simpa using hlo) (by simpa using hhi)
  simpa using h
theorem read_gen (L K : Nat) (hL : L ≤ 2045) (h1 : 4503599627370496 ≤ K) (h2 : K < 9007199254740992) : Ieee.double.read (L * 4503599627370496 + K) = .number false K ((L : Int) - 1074) := by
  have hsw : Ieee.double.signWeight = 9223372036854775808 := by decide
  have e2 : (L * 4503599627370496 + K) % 9223372036854775808 = L * 4503599627370496 + K := Nat.mod_eq_of_lt (by omega)
  have e3 : (L * 4503599627370496 + K) / 9223372036854775808 = 0 := Nat.div_eq_of_lt (by omega)
  have e4 : (L * 4503599627370496 + K) % 4503599627370496 = K - 4503599627370496 := by omega
  have e5 : (L * 4503599627370496 + K) / 4503599627370496 = L + 1 := by omega
  have e6 : 4503599627370496 + (K - 4503599627370496) = K := by omega
  have c1 : ¬ (L * 4503599627370496 + K < 4503599627370496) := by omega
  have c2 : L * 4503599627370496 + K < 9218868437227405312 := by omega
  unfold Ieee.Format.read
  rw [hsw, dBin, dInf, least]
  generalize hN : L * 4503599627370496 + K = N at *
  rw [e2, e3]
  show (if N < 4503599627370496 then _ else if N < 9218868437227405312 then _ else _) = _
  rw [if_neg c1, if_pos c2, e4, e5, e6]
  have e7 : (-1074 : Int) + ((L + 1 - 1 : Nat) : Int) = (L : Int) - 1074 := by omega
  rw [e7]
  rfl
theorem read_W (M : Nat) (p : Int) (hM : 0 < M) (h53 : M < 9007199254740992) (hlo : -1022 ≤ p + M.log2) (hhi : p + M.log2 ≤ 1023) : Ieee.double.read (W M p) = .number false (M * 2 ^ (52 - M.log2)) (p + M.log2 - 52) := by
  have hk := kept_range hM h53
  have hr : (p + M.log2 - 52 + 1074).toNat ≤ 2045 := by omega
  have hsw : Ieee.double.signWeight = 9223372036854775808 := by decide
  have hinf : Ieee.double.infRung = 9218868437227405312 := by decide
  have hbin : Ieee.double.binade = 4503599627370496 := by decide
  obtain ⟨L, hL⟩ : ∃ L : Nat, (L : Int) = p + M.log2 - 52 + 1074 := ⟨(p + M.log2 - 52 + 1074).toNat, by omega⟩
  have e1 : (p + M.log2 - 52 + 1074).toNat = L := by omega
  have e0 : p + M.log2 - 52 = (L : Int) - 1074 := by omega
  unfold W
  rw [e1, e0]
  generalize M * 2 ^ (52 - M.log2) = K at hk ⊢
  have hL2 : L ≤ 2045 := by omega
  exact read_gen L K hL2 hk.1 hk.2
end Go.Proofs.Ytcfbaildcocnhaa

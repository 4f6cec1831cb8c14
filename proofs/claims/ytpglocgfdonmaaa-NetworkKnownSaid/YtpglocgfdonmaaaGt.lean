/-
  Walks: Len, Pad, the document's Pad, Gates.
-/
import Derived.Test.YtpglocgfdonmaaaGs
set_option linter.unusedVariables false
set_option linter.unusedSimpArgs false
namespace Go.Proofs.Ytpglocgfdonmaaa
open Go.RowKit

def lenN (x : Nat) : Nat := if x = 0 then 0 else Nat.log2 x + 1
theorem len_lt (x : Nat) : x < 2 ^ lenN x := by
  unfold lenN
  split
  · subst_vars; decide
  · exact Nat.lt_log2_self
theorem len_le {x j : Nat} (h : j < lenN x) : 2 ^ j ≤ x := by
  unfold lenN at h
  split at h
  · omega
  · rename_i hx
    exact Nat.le_trans (Nat.pow_le_pow_right (by omega) (by omega : j ≤ Nat.log2 x)) (Nat.log2_self_le hx)
theorem len_is {x k : Nat} (h1 : ∀ j, j < k → 2 ^ j ≤ x) (h2 : x < 2 ^ k) : lenN x = k := by
  rcases Nat.lt_trichotomy (lenN x) k with h | h | h
  · have := h1 _ h
    have := len_lt x
    omega
  · exact h
  · have := len_le h
    omega
theorem len_pow (e : Nat) : lenN (2 ^ e) = e + 1 := len_is (fun j hj => Nat.pow_le_pow_right (by omega) (by omega)) (by rw [Nat.pow_succ]; have : 1 ≤ 2 ^ e := Nat.one_le_two_pow; omega)
theorem len_shift {x : Nat} (b : Nat) (h : 2 ^ b ≤ x) : lenN x = lenN (x / 2 ^ b) + b := by
  refine len_is (fun j hj => ?_) ?_
  · rcases Nat.lt_or_ge j b with h1 | h1
    · exact Nat.le_trans (Nat.pow_le_pow_right (by omega) (by omega)) h
    · obtain ⟨i, rfl⟩ : ∃ i, j = i + b := ⟨j - b, by omega⟩
      have := len_le (x := x / 2 ^ b) (j := i) (by omega)
      rw [Nat.pow_add]
      exact (Nat.le_div_iff_mul_le (Nat.two_pow_pos b)).1 this
  · rw [Nat.pow_add]
    exact (Nat.div_lt_iff_lt_mul (Nat.two_pow_pos b)).1 (len_lt _)
abbrev tbl : ByteArray := ⟨#[0, 1, 2, 2, 3, 3, 3, 3, 4, 4, 4, 4, 4, 4, 4, 4, 5, 5, 5, 5, 5, 5, 5, 5, 5, 5, 5, 5, 5, 5, 5, 5, 6, 6, 6, 6, 6, 6, 6, 6, 6, 6, 6, 6, 6, 6, 6, 6, 6, 6, 6, 6, 6, 6, 6, 6, 6, 6, 6, 6, 6, 6, 6, 6, 7, 7, 7, 7, 7, 7, 7, 7, 7, 7, 7, 7, 7, 7, 7, 7, 7, 7, 7, 7, 7, 7, 7, 7, 7, 7, 7, 7, 7, 7, 7, 7, 7, 7, 7, 7, 7, 7, 7, 7, 7, 7, 7, 7, 7, 7, 7, 7, 7, 7, 7, 7, 7, 7, 7, 7, 7, 7, 7, 7, 7, 7, 7, 7, 8, 8, 8, 8, 8, 8, 8, 8, 8, 8, 8, 8, 8, 8, 8, 8, 8, 8, 8, 8, 8, 8, 8, 8, 8, 8, 8, 8, 8, 8, 8, 8, 8, 8, 8, 8, 8, 8, 8, 8, 8, 8, 8, 8, 8, 8, 8, 8, 8, 8, 8, 8, 8, 8, 8, 8, 8, 8, 8, 8, 8, 8, 8, 8, 8, 8, 8, 8, 8, 8, 8, 8, 8, 8, 8, 8, 8, 8, 8, 8, 8, 8, 8, 8, 8, 8, 8, 8, 8, 8, 8, 8, 8, 8, 8, 8, 8, 8, 8, 8, 8, 8, 8, 8, 8, 8, 8, 8, 8, 8, 8, 8, 8, 8, 8, 8, 8, 8, 8, 8, 8, 8, 8, 8, 8, 8, 8, 8]⟩
set_option maxRecDepth 100000 in
theorem tbl_all : ∀ m : Fin 256, ((tbl[m.val]'(Nat.lt_of_lt_of_le m.isLt (by decide))).toNat : Int) = (lenN m.val : Int) := by decide +kernel
theorem tbl_val (m : Nat) (hm : m < 256) (h : m < tbl.size) : ((tbl[m]'h).toNat : Int) = (lenN m : Int) := tbl_all ⟨m, hm⟩
theorem len_256 (m : Nat) (hm : m < 256) : lenN m ≤ 8 := by
  rcases Nat.lt_or_ge 8 (lenN m) with h | h
  · have := len_le h
    omega
  · exact h
theorem wraps0 (T : Int) (m : Nat) (hm : m < 256) (h : T = (lenN m : Int)) : wrap64 (wrap64 T) = (lenN m : Int) := by
  have := len_256 m hm
  subst h
  rw [show wrap64 (lenN m : Int) = (lenN m : Int) from IntWalk.wrap64_in (lenN m : Int) (by omega)]
  exact IntWalk.wrap64_in (lenN m : Int) (by omega)
theorem wraps8 (T : Int) (m : Nat) (hm : m < 256) (h : T = (lenN m : Int)) : wrap64 (8 + wrap64 T) = ((lenN m + 8 : Nat) : Int) := by
  have := len_256 m hm
  subst h
  rw [show wrap64 (lenN m : Int) = (lenN m : Int) from IntWalk.wrap64_in (lenN m : Int) (by omega)]
  rw [IntWalk.wrap64_in (8 + (lenN m : Int)) (by omega)]
  omega

set_option maxRecDepth 100000 in
theorem len64_any (x : Nat) (hx : x ≤ 65536) (w : World) : Calls Try.prog 48 #[.int .u64 (x : Int)] w fun e w' => e = .returned (.int .i64 (lenN x : Int)) ∧ w' = w := by
  have a1 : decide (4294967296 ≤ (x : Int)) = false := by simp; omega
  by_cases h2 : x = 65536
  · subst h2
    go_enter Try.func48, Try.ntmps48
    go_wp2_with fail
    go_ret
    exact ⟨by kernel_rfl, rfl⟩
  · have a2 : decide (65536 ≤ (x : Int)) = false := by simp; omega
    by_cases h3 : 256 ≤ x
    · have a3 : decide (256 ≤ (x : Int)) = true := by simp; omega
      go_enter Try.func48, Try.ntmps48
      go_wp2_with fail
      go_ret
      refine ⟨?_, rfl⟩
      rw [show lenN x = lenN (x / 256) + 8 from len_shift 8 h3]
      exact congrArg (fun t => Ending.returned (.int .i64 t)) (wraps8 _ (x / 256) (by omega) (tbl_val _ (by omega) _))
    · have a3 : decide (256 ≤ (x : Int)) = false := by simp; omega
      go_enter Try.func48, Try.ntmps48
      go_wp2_with fail
      go_ret
      exact ⟨congrArg (fun t => Ending.returned (.int .i64 t)) (wraps0 _ x (by omega) (tbl_val _ (by omega) _)), rfl⟩
theorem len_any (x : Nat) (hx : x ≤ 65536) (w : World) : Calls Try.prog 41 #[.int .u64 (x : Int)] w fun e w' => e = .returned (.int .i64 (lenN x : Int)) ∧ w' = w := by
  go_enter Try.func41, Try.ntmps41
  go_wp2_with fail
  refine (len64_any x hx w).mono ?_
  rintro e w' ⟨rfl, rfl⟩
  go_wp2_with fail
  go_ret
  exact ⟨rfl, rfl⟩
def padF (n : Int) : Int := if 1 ≤ n ∧ n ≤ 65536 then ((2 ^ lenN (n - 1).toNat : Nat) : Int) else 0
theorem len_16 (m : Nat) (hm : m < 65536) : lenN m ≤ 16 := by
  rcases Nat.lt_or_ge 16 (lenN m) with h | h
  · have := len_le h
    omega
  · exact h
set_option maxRecDepth 100000 in
theorem pad_any (N : Int) (w : World) : Calls Try.prog 17 #[.int .i64 N] w fun e w' => e = .returned (.int .i64 (padF N)) ∧ w' = w := by
  by_cases h1 : 1 ≤ N
  · by_cases h2 : N ≤ 65536
    · obtain ⟨n, hn⟩ : ∃ n : Nat, N - 1 = (n : Int) := ⟨(N - 1).toNat, by omega⟩
      have hP : padF N = ((2 ^ lenN n : Nat) : Int) := by unfold padF; rw [if_pos ⟨h1, h2⟩, hn]; simp
      have HP := Lib.hid hP
      have hl := len_16 n (by omega)
      have HL := Lib.hid hl
      have d1 : decide (N < 1) = false := by simp; omega
      have d2 : decide ((65536 : Int) < N) = false := by simp; omega
      have m1 : IntKind.i64.wrap (N - 1) = (n : Int) := by rw [IntKind.wrap_i64] <;> omega
      have hc := fun w => len_any n (by omega) w
      have HC := Lib.hid hc
      have HN := Lib.hid hn
      have hn2 : (n : Int) < 65536 := by omega
      clear hP hc hl hn
      go_enter Try.func17, Try.ntmps17
      go_wp2_with fail
      refine (HC.out _).mono ?_
      rintro e w' ⟨rfl, rfl⟩
      have h16 := HL.out
      generalize lenN n = L at *
      have d3 : (L : Int) ≤ 16 := by omega
      go_wp2_with fail
      go_ret
      refine ⟨congrArg (fun t => Ending.returned (.int .i64 t)) ?_, rfl⟩
      have h3 : 2 ^ L ≤ 2 ^ 16 := Nat.pow_le_pow_right (by omega) h16
      have h4 : (2 : Int) ^ L = ((2 ^ L : Nat) : Int) := by simp
      rw [h4, HP.out]
      generalize 2 ^ L = s at *
      exact IntWalk.wrap64_in (s : Int) (by omega)
    · have hP : Hid (padF N = 0) := Lib.hid (by unfold padF; rw [if_neg (by omega)])
      have d1 : decide (N < 1) = false := by simp; omega
      have d2 : decide ((65536 : Int) < N) = true := by simp; omega
      go_enter Try.func17, Try.ntmps17
      go_wp2_with fail
      go_ret
      exact ⟨by rw [hP.out]; rfl, rfl⟩
  · have hP : Hid (padF N = 0) := Lib.hid (by unfold padF; rw [if_neg (by omega)])
    have d1 : decide (N < 1) = true := by simp; omega
    go_enter Try.func17, Try.ntmps17
    go_wp2_with fail
    go_ret
    exact ⟨by rw [hP.out]; rfl, rfl⟩
theorem rpad_any (N : Int) (w : World) : Calls Try.prog 18 #[.int .i64 N] w fun e w' => e = .returned (.int .i64 (padF N)) ∧ w' = w := by
  by_cases h1 : 1 ≤ N
  · by_cases h2 : N ≤ 65536
    · obtain ⟨n, hn⟩ : ∃ n : Nat, N - 1 = (n : Int) := ⟨(N - 1).toNat, by omega⟩
      have hP : padF N = ((2 ^ lenN n : Nat) : Int) := by unfold padF; rw [if_pos ⟨h1, h2⟩, hn]; simp
      have HP := Lib.hid hP
      have HL := Lib.hid (len_16 n (by omega))
      have d1 : decide (N < 1) = false := by simp; omega
      have d2 : decide ((65536 : Int) < N) = false := by simp; omega
      have HN := Lib.hid hn
      clear hP hn
      go_enter Try.func18, Try.ntmps18
      go_wp2_with fail
      go_loopw [3] (fun sv wr => ∃ k : Nat, sv = .int .i64 ((2 ^ k : Nat) : Int) ∧ k ≤ lenN n ∧ wr = w) (fun sv _ => (N - intOf sv).toNat)
      case atStart => exact ⟨0, rfl, by omega, rfl⟩
      case round =>
        obtain ⟨k, rfl, hk, rfl⟩ := hrel
        have hp1 : 1 ≤ 2 ^ k := Nat.one_le_two_pow
        have hp2 : 2 ^ (k + 1) = 2 * 2 ^ k := by rw [Nat.pow_succ, Nat.mul_comm]
        have hpb : 2 ^ k ≤ 2 ^ 16 := Nat.pow_le_pow_right (by omega) (by have := HL.out; omega)
        have hpb2 : 2 ^ k ≤ 65536 := hpb
        by_cases hs : 2 ^ k < n + 1
        · have hk2 : Hid (k + 1 ≤ lenN n) := Lib.hid (by
            rcases Nat.lt_or_ge k (lenN n) with h | h
            · exact h
            · have := len_lt n
              have : 2 ^ lenN n ≤ 2 ^ k := Nat.pow_le_pow_right (by omega) h
              omega)
          have HP2 := Lib.hid hp2
          have hlt : ((2 ^ k : Nat) : Int) < N := by have := HN.out; omega
          clear hp2 hpb hs
          generalize hsk : 2 ^ k = s at *
          have m2 : IntKind.i64.wrap (2 * (s : Int)) = ((2 * s : Nat) : Int) := by rw [IntKind.wrap_i64] <;> omega
          clear hsk
          go_wp2_with fail
          go_roundw
          case rel => exact ⟨k + 1, by rw [HP2.out]; simp, hk2.out, by first | rfl | trivial⟩
          case measure => simp [intOf]; omega
        · have hlt : ¬ ((2 ^ k : Nat) : Int) < N := by have := HN.out; omega
          have HE : Hid (padF N = ((2 ^ k : Nat) : Int)) := Lib.hid (by
            rw [HP.out]
            rcases Nat.lt_or_ge k (lenN n) with h | h
            · have := len_le h
              omega
            · rw [show k = lenN n from by omega])
          clear hp2 hpb hs
          generalize 2 ^ k = s at *
          go_wp2_with fail
          go_ret
          exact ⟨by rw [HE.out]; rfl, rfl⟩
    · have hP : Hid (padF N = 0) := Lib.hid (by unfold padF; rw [if_neg (by omega)])
      have d1 : decide (N < 1) = false := by simp; omega
      have d2 : decide ((65536 : Int) < N) = true := by simp; omega
      go_enter Try.func18, Try.ntmps18
      go_wp2_with fail
      go_ret
      exact ⟨by rw [hP.out]; rfl, rfl⟩
  · have hP : Hid (padF N = 0) := Lib.hid (by unfold padF; rw [if_neg (by omega)])
    have d1 : decide (N < 1) = true := by simp; omega
    go_enter Try.func18, Try.ntmps18
    go_wp2_with fail
    go_ret
    exact ⟨by rw [hP.out]; rfl, rfl⟩

theorem rowG_split (k j : Nat) : ∀ f g i, rowG k j (f + g) i = rowG k j f i ++ rowG k j g (i + f)
  | 0, g, i => by simp [rowG]
  | f + 1, g, i => by
    rw [show f + 1 + g = (f + g) + 1 from by omega]
    simp only [rowG]
    rw [rowG_split k j f g (i + 1), show i + 1 + f = i + (f + 1) from by omega]
    split <;> simp
theorem rowG_take (k j : Nat) (hj : 0 < j) (s : Nat) : ∀ f d, d + f ≤ j → (rowG k j f (2 * s * j + d)).length = f
  | 0, d, _ => rfl
  | f + 1, d, h => by
    have e : (2 * s * j + d) / j = 2 * s := by rw [Nat.mul_comm (2 * s) j, Nat.mul_add_div hj, Nat.div_eq_of_lt (by omega)]; omega
    simp only [rowG]
    rw [e, if_neg (by omega), List.length_cons, Nat.add_assoc, rowG_take k j hj s f (d + 1) (by omega)]
theorem rowG_drop (k j : Nat) (hj : 0 < j) (s : Nat) : ∀ f d, d + f ≤ j → (rowG k j f ((2 * s + 1) * j + d)).length = 0
  | 0, d, _ => rfl
  | f + 1, d, h => by
    have e : ((2 * s + 1) * j + d) / j = 2 * s + 1 := by rw [Nat.mul_comm (2 * s + 1) j, Nat.mul_add_div hj, Nat.div_eq_of_lt (by omega)]
    simp only [rowG]
    rw [e, if_pos (by omega), Nat.add_assoc, rowG_drop k j hj s f (d + 1) (by omega)]
theorem rowG_pairs (k j : Nat) (hj : 0 < j) : ∀ t s, (rowG k j (2 * t * j) (2 * s * j)).length = t * j
  | 0, s => by simp [rowG]
  | t + 1, s => by
    rw [show 2 * (t + 1) * j = j + (j + 2 * t * j) from by rw [Nat.mul_add, Nat.add_mul]; omega, rowG_split, rowG_split, List.length_append, List.length_append,
      show 2 * s * j + j = (2 * s + 1) * j + 0 from by rw [Nat.add_mul]; omega, rowG_drop k j hj s j 0 (by omega),
      show (2 * s + 1) * j + 0 + j = 2 * (s + 1) * j from by rw [Nat.add_mul, Nat.mul_add, Nat.add_mul]; omega, rowG_pairs k j hj t (s + 1)]
    have := rowG_take k j hj s j 0 (by omega)
    rw [Nat.add_zero] at this
    rw [this, Nat.add_mul]
    omega
theorem rowG_half {k b e : Nat} (h : b < e) : (rowG k (2 ^ b) (2 ^ e) 0).length = 2 ^ (e - 1) := by
  obtain ⟨d, rfl⟩ : ∃ d, e = b + 1 + d := ⟨e - b - 1, by omega⟩
  have := rowG_pairs k (2 ^ b) (Nat.two_pow_pos b) (2 ^ d) 0
  rw [Nat.mul_zero, Nat.zero_mul] at this
  rw [show 2 ^ (b + 1 + d) = 2 * 2 ^ d * 2 ^ b from by rw [Nat.pow_add, Nat.pow_succ, Nat.mul_comm (2 ^ b) 2, Nat.mul_assoc, Nat.mul_assoc, Nat.mul_comm (2 ^ b)], this, show b + 1 + d - 1 = d + b from by omega, Nat.pow_add]
theorem rowsJ_count {k e : Nat} : ∀ (b f : Nat), b < e → b + 1 ≤ f → (rowsJ (2 ^ e) k f (2 ^ b)).flatten.length = (b + 1) * 2 ^ (e - 1)
  | 0, f, h, hf => by
    obtain ⟨f, rfl⟩ : ∃ g, f = g + 1 := ⟨f - 1, by omega⟩
    simp only [rowsJ]
    rw [if_pos (by decide), show (2 : Nat) ^ 0 / 2 = 0 from rfl, rowsJ_stop, List.flatten_cons, List.length_append, rowG_half h]
    simp
  | b + 1, f, h, hf => by
    obtain ⟨f, rfl⟩ : ∃ g, f = g + 1 := ⟨f - 1, by omega⟩
    simp only [rowsJ]
    rw [if_pos (Nat.two_pow_pos _), show 2 ^ (b + 1) / 2 = 2 ^ b from by rw [Nat.pow_succ]; simp, List.flatten_cons, List.length_append, rowG_half h, rowsJ_count b f (by omega) (by omega)]
    rw [Nat.add_mul (b + 1) 1]
    omega
/-- 1 + 2 + .. + e, from m on. -/
def tri : Nat → Nat → Nat
  | 0, _ => 0
  | f + 1, m => m + tri f (m + 1)
theorem tri_is : ∀ f m, 2 * tri f m = f * (2 * m + f - 1)
  | 0, m => by simp [tri]
  | f + 1, m => by
    simp only [tri]
    rw [Nat.mul_add, tri_is f (m + 1), show 2 * m + (f + 1) - 1 = 2 * m + f from by omega, show 2 * (m + 1) + f - 1 = 2 * m + f + 1 from by omega, Nat.mul_add f, Nat.mul_one, Nat.add_mul, Nat.one_mul]
    omega
theorem rowsK_count {e : Nat} (he : e ≤ 16) : ∀ (f m : Nat), 1 ≤ m → m + f = e + 1 → ∀ g, f ≤ g → (rowsK (2 ^ e) g (2 ^ m)).flatten.length = tri f m * 2 ^ (e - 1)
  | 0, m, h1, hm, g, hg => by
    rw [rowsK_stop (by rw [show m = e + 1 from by omega, Nat.pow_succ]; have : 1 ≤ 2 ^ e := Nat.one_le_two_pow; omega)]
    simp [tri]
  | f + 1, m, h1, hm, g, hg => by
    obtain ⟨g, rfl⟩ : ∃ q, g = q + 1 := ⟨g - 1, by omega⟩
    simp only [rowsK]
    rw [if_pos (Nat.pow_le_pow_right (by omega) (by omega)), List.flatten_append, List.length_append, show 2 * 2 ^ m = 2 ^ (m + 1) from by rw [Nat.pow_succ, Nat.mul_comm], rowsK_count he f (m + 1) (by omega) (by omega) g (by omega)]
    rw [show 2 ^ m / 2 = 2 ^ (m - 1) from by rw [show m = (m - 1) + 1 from by omega, Nat.pow_succ]; simp, rowsJ_count (m - 1) 17 (by omega) (by omega), show m - 1 + 1 = m from by omega]
    simp only [tri]
    rw [Nat.add_mul]
theorem gates_count {e : Nat} (he : e ≤ 16) : 4 * (gatesF ((2 ^ e : Nat) : Int)).length = 2 ^ e * e * (e + 1) := by
  have h1 : sizeB ((2 ^ e : Nat) : Int) = true := pow_mem (Nat.pow_le_pow_right (by omega) he)
  unfold gatesF layersF
  rw [if_pos h1, Int.toNat_natCast]
  have h2 := rowsK_count he e 1 (by omega) (by omega) 17 (by omega)
  rw [Nat.pow_one] at h2
  rw [h2]
  have h3 := tri_is e 1
  rw [show 2 * 1 + e - 1 = e + 1 from by omega] at h3
  cases e with
  | zero => simp [tri]
  | succ d =>
    rw [show d + 1 - 1 = d from by omega, show 2 ^ (d + 1) = 2 * 2 ^ d from by rw [Nat.pow_succ, Nat.mul_comm], show 4 * (tri (d + 1) 1 * 2 ^ d) = (2 * tri (d + 1) 1) * (2 * 2 ^ d) from by rw [Nat.mul_mul_mul_comm, ← Nat.mul_assoc], h3, Nat.mul_comm, Nat.mul_assoc, Nat.mul_assoc, Nat.mul_assoc]
theorem gates_any (N : Int) (w : World) : Calls Try.prog 14 #[.int .i64 N] w fun e w' => e = .returned (.int .i64 ((gatesF N).length : Int)) ∧ w' = w := by
  have hsa := fun w => size_any N w
  cases hsz : sizeB N
  · rw [hsz] at hsa
    have HG : Hid (gatesF N = []) := Lib.hid (by unfold gatesF layersF; rw [hsz]; rfl)
    have HS := Lib.hid hsa
    clear hsz hsa
    go_enter Try.func14, Try.ntmps14
    go_wp2_with fail
    refine (HS.out _).mono ?_
    rintro e w' ⟨rfl, rfl⟩
    go_wp2_with fail
    go_ret
    exact ⟨by rw [HG.out]; rfl, rfl⟩
  · rw [hsz] at hsa
    have HS := Lib.hid hsa
    clear hsa
    obtain ⟨e, he, rfl⟩ := size_pow hsz
    have hp1 : 1 ≤ 2 ^ e := Nat.one_le_two_pow
    have hp2 : 2 ^ e ≤ 2 ^ 16 := Nat.pow_le_pow_right (by omega) he
    have hpb : 2 ^ e ≤ 65536 := hp2
    have HC : Hid (4 * (gatesF ((2 ^ e : Nat) : Int)).length = 2 ^ e * e * (e + 1)) := Lib.hid (gates_count he)
    have HL : Hid (∀ w, Calls Try.prog 41 #[.int .u64 ((2 ^ e : Nat) : Int)] w fun t w' => t = .returned (.int .i64 ((e + 1 : Nat) : Int)) ∧ w' = w) := Lib.hid (fun w => by have := len_any (2 ^ e) hpb w; rw [len_pow] at this; exact this)
    have hm : 2 ^ e * e * (e + 1) ≤ 17825792 := by
      have h1 : 2 ^ e * e ≤ 65536 * 16 := Nat.mul_le_mul hpb he
      exact Nat.le_trans (Nat.mul_le_mul h1 (by omega : e + 1 ≤ 17)) (by omega)
    have hm0 : 2 ^ e * e ≤ 1048576 := Nat.mul_le_mul hpb he
    clear hsz hp2
    generalize 2 ^ e = p at *
    have c1 : (p : Int) * (e : Int) = ((p * e : Nat) : Int) := by simp
    generalize hq : p * e = q at *
    have c2 : (q : Int) * ((e : Int) + 1) = ((q * (e + 1) : Nat) : Int) := by simp
    generalize hr : q * (e + 1) = r at *
    generalize hg : (gatesF (p : Int)).length = g at *
    have m1 : IntKind.i64.wrap (p * e : Int) = (q : Int) := by rw [c1, IntKind.wrap_i64] <;> omega
    have m2 : IntKind.i64.wrap ((q : Int) * ((e : Int) + 1)) = (r : Int) := by rw [c2, IntKind.wrap_i64] <;> omega
    have m3 : Int.tdiv (r : Int) 4 = (g : Int) := by rw [Int.tdiv_eq_ediv_of_nonneg (by omega)]; have := HC.out; omega
    clear hq hr hg c1 c2
    go_enter Try.func14, Try.ntmps14
    go_wp2_with fail
    refine (HS.out _).mono ?_
    rintro e' w' ⟨rfl, rfl⟩
    go_wp2_with fail
    refine (HL.out _).mono ?_
    rintro e' w' ⟨rfl, rfl⟩
    go_wp2_with fail
    go_ret
    have hg2 : g ≤ 17825792 := by have := HC.out; omega
    exact ⟨congrArg (fun t => Ending.returned (.int .i64 t)) (IntWalk.wrap64_in (g : Int) (by omega)), rfl⟩
end Go.Proofs.Ytpglocgfdonmaaa

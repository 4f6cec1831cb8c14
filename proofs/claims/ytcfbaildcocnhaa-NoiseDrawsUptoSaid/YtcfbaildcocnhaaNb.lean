/-
  Walks: number, within, Key, KeyBytes.
-/
import Derived.Test.YtcfbaildcocnhaaNz
set_option linter.unusedVariables false
set_option linter.unusedSimpArgs false
namespace Go.Proofs.Ytcfbaildcocnhaa
open Go.RowKit

/-- The first eight bytes, from the eighth down. -/
def numB (xs : List Int) : Nat → Nat
  | 0 => 0
  | k + 1 => numB xs k * 256 + (xs.getD (7 - k) 0).toNat
theorem numB_lt {xs : List Int} (h : B8 xs) (k : Nat) : numB xs k < 256 ^ k := by
  induction k with
  | zero => simp [numB]
  | succ k ih =>
    have h1 := h (7 - k)
    have h2 : (xs.getD (7 - k) 0).toNat ≤ 255 := by omega
    unfold numB
    rw [Nat.pow_succ]
    omega
theorem numB_eq (xs : List Int) : numB xs 8 = leV xs 8 := by
  simp [numB, leV]
  omega
set_option maxHeartbeats 2000000 in
theorem number_any (A : Option Addr) (n c : Nat) (xs : List Int) (w : World) (hn : n = xs.length) (hr : Rd w .u8 A xs) (hB : B8 xs) (hs : 8 ≤ n) :
    Calls Try.prog 37 #[.slice A n c] w fun e w' => e = .returned (.int .u64 (leV xs 8 : Nat)) ∧ w' = w := by
  have HR := Lib.hid hr
  have HN := Lib.hid hn
  have HB := Lib.hid hB
  clear hr hn hB
  go_enter Try.func37, Try.ntmps37
  go_wp2_with fail
  go_loop [3, 4] (fun v i => ∃ k V : Nat, k ≤ 8 ∧ i = .int .i64 (7 - (k : Int)) ∧ v = .int .u64 V ∧ Hid (V = numB xs k)) (fun _ i => (intOf i + 1).toNat)
  case atStart => exact ⟨0, 0, Nat.zero_le _, rfl, rfl, Lib.hid rfl⟩
  case round =>
    obtain ⟨k, V, hk, rfl, rfl, HV⟩ := hrel
    by_cases hlt : k < 8
    · obtain ⟨b, off, y, rfl, hc, HY⟩ := HR.out.at (7 - k) (by have := HN.out; omega)
      obtain ⟨Y, hY⟩ : ∃ Y : Nat, y = (Y : Int) := ⟨y.toNat, by have := HB.out (7 - k); have := HY.out; omega⟩
      have hY8 : Y < 256 := by have := HB.out (7 - k); have := HY.out; omega
      subst hY
      have HY2 : Hid ((xs.getD (7 - k) 0).toNat = Y) := Lib.hid (by have := HY.out; omega)
      have hVC : V < 256 ^ k := by rw [HV.out]; exact numB_lt HB.out k
      have hk4 : k = 0 ∨ k = 1 ∨ k = 2 ∨ k = 3 ∨ k = 4 ∨ k = 5 ∨ k = 6 ∨ k = 7 := by omega
      rcases hk4 with rfl | rfl | rfl | rfl | rfl | rfl | rfl | rfl
      · have i1 : (7 : Int) - (((0 : Nat) : Nat) : Int) = 7 := rfl
        rw [i1]
        have w1 : IntKind.u64.wrap ((V : Int) * 256) = ((V * 256 : Nat) : Int) := by rw [IntKind.wrap_u64] <;> omega
        have w2 : IntKind.u64.wrap (((V * 256 : Nat) : Int) + (Y : Int)) = ((V * 256 + Y : Nat) : Int) := by rw [IntKind.wrap_u64] <;> omega
        have w3 : IntKind.u64.wrap (Y : Int) = (Y : Int) := by rw [IntKind.wrap_u64] <;> omega
        have w4 : IntKind.u64.wrap ((V : Int) * 256 + (Y : Int)) = ((V * 256 + Y : Nat) : Int) := by rw [IntKind.wrap_u64] <;> omega
        have hlen : decide ((7 : Int) < (n : Int)) = true := decide_eq_true (by omega)
        have hlen2 : decide (7 < n) = true := decide_eq_true (by omega)
        go_wp2_with fail
        go_round
        case rel => exact ⟨1, V * 256 + Y, by omega, rfl, rfl, Lib.hid (by unfold numB; rw [← HV.out, HY2.out])⟩
        case measure => simp [intOf]
      · have i1 : (7 : Int) - (((1 : Nat) : Nat) : Int) = 6 := rfl
        rw [i1]
        have w1 : IntKind.u64.wrap ((V : Int) * 256) = ((V * 256 : Nat) : Int) := by rw [IntKind.wrap_u64] <;> omega
        have w2 : IntKind.u64.wrap (((V * 256 : Nat) : Int) + (Y : Int)) = ((V * 256 + Y : Nat) : Int) := by rw [IntKind.wrap_u64] <;> omega
        have w3 : IntKind.u64.wrap (Y : Int) = (Y : Int) := by rw [IntKind.wrap_u64] <;> omega
        have w4 : IntKind.u64.wrap ((V : Int) * 256 + (Y : Int)) = ((V * 256 + Y : Nat) : Int) := by rw [IntKind.wrap_u64] <;> omega
        have hlen : decide ((6 : Int) < (n : Int)) = true := decide_eq_true (by omega)
        have hlen2 : decide (6 < n) = true := decide_eq_true (by omega)
        go_wp2_with fail
        go_round
        case rel => exact ⟨2, V * 256 + Y, by omega, rfl, rfl, Lib.hid (by unfold numB; rw [← HV.out, HY2.out])⟩
        case measure => simp [intOf]
      · have i1 : (7 : Int) - (((2 : Nat) : Nat) : Int) = 5 := rfl
        rw [i1]
        have w1 : IntKind.u64.wrap ((V : Int) * 256) = ((V * 256 : Nat) : Int) := by rw [IntKind.wrap_u64] <;> omega
        have w2 : IntKind.u64.wrap (((V * 256 : Nat) : Int) + (Y : Int)) = ((V * 256 + Y : Nat) : Int) := by rw [IntKind.wrap_u64] <;> omega
        have w3 : IntKind.u64.wrap (Y : Int) = (Y : Int) := by rw [IntKind.wrap_u64] <;> omega
        have w4 : IntKind.u64.wrap ((V : Int) * 256 + (Y : Int)) = ((V * 256 + Y : Nat) : Int) := by rw [IntKind.wrap_u64] <;> omega
        have hlen : decide ((5 : Int) < (n : Int)) = true := decide_eq_true (by omega)
        have hlen2 : decide (5 < n) = true := decide_eq_true (by omega)
        go_wp2_with fail
        go_round
        case rel => exact ⟨3, V * 256 + Y, by omega, rfl, rfl, Lib.hid (by unfold numB; rw [← HV.out, HY2.out])⟩
        case measure => simp [intOf]
      · have i1 : (7 : Int) - (((3 : Nat) : Nat) : Int) = 4 := rfl
        rw [i1]
        have w1 : IntKind.u64.wrap ((V : Int) * 256) = ((V * 256 : Nat) : Int) := by rw [IntKind.wrap_u64] <;> omega
        have w2 : IntKind.u64.wrap (((V * 256 : Nat) : Int) + (Y : Int)) = ((V * 256 + Y : Nat) : Int) := by rw [IntKind.wrap_u64] <;> omega
        have w3 : IntKind.u64.wrap (Y : Int) = (Y : Int) := by rw [IntKind.wrap_u64] <;> omega
        have w4 : IntKind.u64.wrap ((V : Int) * 256 + (Y : Int)) = ((V * 256 + Y : Nat) : Int) := by rw [IntKind.wrap_u64] <;> omega
        have hlen : decide ((4 : Int) < (n : Int)) = true := decide_eq_true (by omega)
        have hlen2 : decide (4 < n) = true := decide_eq_true (by omega)
        go_wp2_with fail
        go_round
        case rel => exact ⟨4, V * 256 + Y, by omega, rfl, rfl, Lib.hid (by unfold numB; rw [← HV.out, HY2.out])⟩
        case measure => simp [intOf]
      · have i1 : (7 : Int) - (((4 : Nat) : Nat) : Int) = 3 := rfl
        rw [i1]
        have w1 : IntKind.u64.wrap ((V : Int) * 256) = ((V * 256 : Nat) : Int) := by rw [IntKind.wrap_u64] <;> omega
        have w2 : IntKind.u64.wrap (((V * 256 : Nat) : Int) + (Y : Int)) = ((V * 256 + Y : Nat) : Int) := by rw [IntKind.wrap_u64] <;> omega
        have w3 : IntKind.u64.wrap (Y : Int) = (Y : Int) := by rw [IntKind.wrap_u64] <;> omega
        have w4 : IntKind.u64.wrap ((V : Int) * 256 + (Y : Int)) = ((V * 256 + Y : Nat) : Int) := by rw [IntKind.wrap_u64] <;> omega
        have hlen : decide ((3 : Int) < (n : Int)) = true := decide_eq_true (by omega)
        have hlen2 : decide (3 < n) = true := decide_eq_true (by omega)
        go_wp2_with fail
        go_round
        case rel => exact ⟨5, V * 256 + Y, by omega, rfl, rfl, Lib.hid (by unfold numB; rw [← HV.out, HY2.out])⟩
        case measure => simp [intOf]
      · have i1 : (7 : Int) - (((5 : Nat) : Nat) : Int) = 2 := rfl
        rw [i1]
        have w1 : IntKind.u64.wrap ((V : Int) * 256) = ((V * 256 : Nat) : Int) := by rw [IntKind.wrap_u64] <;> omega
        have w2 : IntKind.u64.wrap (((V * 256 : Nat) : Int) + (Y : Int)) = ((V * 256 + Y : Nat) : Int) := by rw [IntKind.wrap_u64] <;> omega
        have w3 : IntKind.u64.wrap (Y : Int) = (Y : Int) := by rw [IntKind.wrap_u64] <;> omega
        have w4 : IntKind.u64.wrap ((V : Int) * 256 + (Y : Int)) = ((V * 256 + Y : Nat) : Int) := by rw [IntKind.wrap_u64] <;> omega
        have hlen : decide ((2 : Int) < (n : Int)) = true := decide_eq_true (by omega)
        have hlen2 : decide (2 < n) = true := decide_eq_true (by omega)
        go_wp2_with fail
        go_round
        case rel => exact ⟨6, V * 256 + Y, by omega, rfl, rfl, Lib.hid (by unfold numB; rw [← HV.out, HY2.out])⟩
        case measure => simp [intOf]
      · have i1 : (7 : Int) - (((6 : Nat) : Nat) : Int) = 1 := rfl
        rw [i1]
        have w1 : IntKind.u64.wrap ((V : Int) * 256) = ((V * 256 : Nat) : Int) := by rw [IntKind.wrap_u64] <;> omega
        have w2 : IntKind.u64.wrap (((V * 256 : Nat) : Int) + (Y : Int)) = ((V * 256 + Y : Nat) : Int) := by rw [IntKind.wrap_u64] <;> omega
        have w3 : IntKind.u64.wrap (Y : Int) = (Y : Int) := by rw [IntKind.wrap_u64] <;> omega
        have w4 : IntKind.u64.wrap ((V : Int) * 256 + (Y : Int)) = ((V * 256 + Y : Nat) : Int) := by rw [IntKind.wrap_u64] <;> omega
        have hlen : decide ((1 : Int) < (n : Int)) = true := decide_eq_true (by omega)
        have hlen2 : decide (1 < n) = true := decide_eq_true (by omega)
        go_wp2_with fail
        go_round
        case rel => exact ⟨7, V * 256 + Y, by omega, rfl, rfl, Lib.hid (by unfold numB; rw [← HV.out, HY2.out])⟩
        case measure => simp [intOf]
      · have i1 : (7 : Int) - (((7 : Nat) : Nat) : Int) = 0 := rfl
        rw [i1]
        have w1 : IntKind.u64.wrap ((V : Int) * 256) = ((V * 256 : Nat) : Int) := by rw [IntKind.wrap_u64] <;> omega
        have w2 : IntKind.u64.wrap (((V * 256 : Nat) : Int) + (Y : Int)) = ((V * 256 + Y : Nat) : Int) := by rw [IntKind.wrap_u64] <;> omega
        have w3 : IntKind.u64.wrap (Y : Int) = (Y : Int) := by rw [IntKind.wrap_u64] <;> omega
        have w4 : IntKind.u64.wrap ((V : Int) * 256 + (Y : Int)) = ((V * 256 + Y : Nat) : Int) := by rw [IntKind.wrap_u64] <;> omega
        rw [Nat.add_zero] at hc
        have hlen : decide ((0 : Int) < (n : Int)) = true := decide_eq_true (by omega)
        have hlen2 : decide (0 < n) = true := decide_eq_true (by omega)
        go_wp2_with fail
        go_round
        case rel => exact ⟨8, V * 256 + Y, by omega, rfl, rfl, Lib.hid (by unfold numB; rw [← HV.out, HY2.out])⟩
        case measure => simp [intOf]
    · have HK : Hid (k = 8) := Lib.hid (by omega)
      obtain rfl : k = 8 := by omega
      have i1 : (7 : Int) - (((8 : Nat) : Nat) : Int) = -1 := rfl
      rw [i1]
      have i2 : decide ((0 : Int) ≤ -1) = false := by decide
      clear i1
      go_wp2_with fail
      go_ret
      exact ⟨by rw [← numB_eq, ← HV.out]; rfl, rfl⟩
theorem within_any (i : Int) (n : Nat) (w : World) (h : 0 < n) (hn : n ≤ 1000) : Calls Try.prog 38 #[.int .i64 i, .int .i64 (n : Int)] w fun e w' => e = .returned (.int .i64 (i % (n : Int))) ∧ w' = w := by
  have hn0 : ¬ (n : Int) = 0 := by omega
  have hn1 : ((n : Int) == 0) = false := by simpa using hn0
  obtain ⟨r, hr⟩ : ∃ r, i.tmod (n : Int) = r := ⟨_, rfl⟩
  have hb : -(n : Int) < r ∧ r < n := by
    rw [← hr]
    exact ⟨Int.lt_tmod_of_pos i (by omega), Int.tmod_lt_of_pos i (by omega)⟩
  have he : i % (n : Int) = if r < 0 then r + n else r := by
    obtain ⟨q, hq⟩ : ∃ q, i = (n : Int) * q + r := ⟨i.tdiv n, by rw [← hr]; exact (Int.mul_tdiv_add_tmod i n).symm⟩
    by_cases h0 : r < 0
    · rw [if_pos h0]
      have e : i = (r + n) + (n : Int) * (q - 1) := by rw [hq, Int.mul_sub]; omega
      rw [e, Int.add_mul_emod_self_left]
      exact Int.emod_eq_of_lt (by omega) (by omega)
    · rw [if_neg h0]
      have e : i = r + (n : Int) * q := by rw [hq]; omega
      rw [e, Int.add_mul_emod_self_left]
      exact Int.emod_eq_of_lt (by omega) (by omega)
  have w1 : IntKind.i64.wrap r = r := by rw [IntKind.wrap_i64] <;> omega
  have w2 : IntKind.i64.wrap (r + (n : Int)) = r + n := by rw [IntKind.wrap_i64] <;> omega
  have HE := Lib.hid he
  clear he
  by_cases h0 : r < 0
  · have d0 : decide (r < 0) = true := decide_eq_true h0
    go_enter Try.func38, Try.ntmps38
    go_wp2_with fail
    go_ret
    exact ⟨by rw [HE.out, if_pos (by omega)]; rfl, rfl⟩
  · have d0 : decide (r < 0) = false := decide_eq_false h0
    go_enter Try.func38, Try.ntmps38
    go_wp2_with fail
    go_ret
    exact ⟨by rw [HE.out, if_neg (by omega)]; rfl, rfl⟩
end Go.Proofs.Ytcfbaildcocnhaa

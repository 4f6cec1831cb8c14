/-
  Walks: low, fits, Little, Big at each width.
-/
import Derived.Test.YtcibhaoilcohbaaPt
import Derived.Laws.BitsAllLaws
set_option linter.unusedVariables false
set_option linter.unusedSimpArgs false
namespace Go.Proofs.Ytcibhaoilcohbaa
open Go.RowKit

/-- The number whose bytes these are, the first k; the same from the highest of s bytes on. -/
def leV (xs : List Int) : Nat → Nat
  | 0 => 0
  | k + 1 => leV xs k + (xs.getD k 0).toNat * 256 ^ k
def hiV (xs : List Int) (s : Nat) : Nat → Nat
  | 0 => 0
  | k + 1 => hiV xs s k + (xs.getD k 0).toNat * 256 ^ (s - 1 - k)
def B8 (xs : List Int) : Prop := ∀ i, 0 ≤ xs.getD i 0 ∧ xs.getD i 0 ≤ 255
theorem leV_lt {xs : List Int} (h : B8 xs) (k : Nat) : leV xs k < 256 ^ k := by
  induction k with
  | zero => simp [leV]
  | succ k ih =>
    have h1 := h k
    have h2 : (xs.getD k 0).toNat ≤ 255 := by omega
    have h3 : (xs.getD k 0).toNat * 256 ^ k ≤ 255 * 256 ^ k := Nat.mul_le_mul_right _ h2
    have h4 : 256 ^ (k + 1) = 256 * 256 ^ k := by rw [Nat.pow_succ, Nat.mul_comm]
    have e : leV xs (k + 1) = leV xs k + (xs.getD k 0).toNat * 256 ^ k := rfl
    rw [e, h4]; omega
theorem hiV_ok {xs : List Int} (h : B8 xs) (s k : Nat) (hk : k ≤ s) : 256 ^ (s - k) ∣ hiV xs s k ∧ hiV xs s k + 256 ^ (s - k) ≤ 256 ^ s := by
  induction k with
  | zero => exact ⟨Nat.dvd_zero _, by simp [hiV]⟩
  | succ k ih =>
    obtain ⟨ih1, ih2⟩ := ih (by omega)
    have h1 := h k
    have h2 : (xs.getD k 0).toNat ≤ 255 := by omega
    have e1 : s - k = (s - (k + 1)) + 1 := by omega
    have e2 : s - 1 - k = s - (k + 1) := by omega
    have h4 : 256 ^ (s - k) = 256 * 256 ^ (s - (k + 1)) := by rw [e1, Nat.pow_succ, Nat.mul_comm]
    have h3 : (xs.getD k 0).toNat * 256 ^ (s - (k + 1)) ≤ 255 * 256 ^ (s - (k + 1)) := Nat.mul_le_mul_right _ h2
    have e : hiV xs s (k + 1) = hiV xs s k + (xs.getD k 0).toNat * 256 ^ (s - (k + 1)) := by
      show hiV xs s k + (xs.getD k 0).toNat * 256 ^ (s - 1 - k) = _
      rw [e2]
    rw [h4] at ih1 ih2
    rw [e]
    exact ⟨Nat.dvd_add (Nat.dvd_trans ⟨256, Nat.mul_comm _ _⟩ ih1) (Nat.dvd_mul_left _ _), by omega⟩
theorem lev_next {xs : List Int} {k V Y C : Nat} (h : V = leV xs k) (hy : (Y : Int) = xs.getD k 0) (hC : C = 256 ^ k) : V + Y * C = leV xs (k + 1) := by
  have e : (xs.getD k 0).toNat = Y := by rw [← hy]; rfl
  show V + Y * C = leV xs k + (xs.getD k 0).toNat * 256 ^ k
  rw [h, e, hC]
theorem hiv_next {xs : List Int} {s k V Y C : Nat} (h : V = hiV xs s k) (hy : (Y : Int) = xs.getD k 0) (hC : C = 256 ^ (s - 1 - k)) : V + Y * C = hiV xs s (k + 1) := by
  have e : (xs.getD k 0).toNat = Y := by rw [← hy]; rfl
  show V + Y * C = hiV xs s k + (xs.getD k 0).toNat * 256 ^ (s - 1 - k)
  rw [h, e, hC]
def litR (xs : List Int) (n s : Nat) : Nat := if n = s then leV xs n else 0
def bigR (xs : List Int) (n s : Nat) : Nat := if n = s then leV xs.reverse n else 0
def errR (n s : Nat) : Int := if n < s then 20 else if s < n then 21 else 0
theorem hi_rev1 {xs : List Int} (h : xs.length = 1) : hiV xs 1 1 = leV xs.reverse 1 := by
  match xs, h with
  | [x0], _ => simp [hiV, leV]; try omega
theorem hi_rev2 {xs : List Int} (h : xs.length = 2) : hiV xs 2 2 = leV xs.reverse 2 := by
  match xs, h with
  | [x0, x1], _ => simp [hiV, leV]; try omega
theorem hi_rev4 {xs : List Int} (h : xs.length = 4) : hiV xs 4 4 = leV xs.reverse 4 := by
  match xs, h with
  | [x0, x1, x2, x3], _ => simp [hiV, leV]; try omega
theorem hi_rev8 {xs : List Int} (h : xs.length = 8) : hiV xs 8 8 = leV xs.reverse 8 := by
  match xs, h with
  | [x0, x1, x2, x3, x4, x5, x6, x7], _ => simp [hiV, leV]; try omega

set_option maxHeartbeats 2000000 in
theorem low8_any (A : Option Addr) (n c : Nat) (xs : List Int) (w : World) (hn : n = xs.length) (hr : Rd w .u8 A xs) (hB : B8 xs) (hs : n ≤ 1) :
    Calls Try.prog 89 #[.slice A n c] w fun e w' => e = .returned (.int .u8 (leV xs n : Nat)) ∧ w' = w := by
  have HR := Lib.hid hr
  have HN := Lib.hid hn
  have HB := Lib.hid hB
  clear hr hn hB
  go_enter Try.func89, Try.ntmps89
  go_wp2_with fail
  go_loop [3, 8] (fun v i => ∃ k V : Nat, k ≤ n ∧ i = .int .i64 k ∧ v = .int .u8 V ∧ Hid (V = leV xs k)) (fun _ i => n - (intOf i).toNat)
  case atStart => exact ⟨0, 0, Nat.zero_le _, rfl, rfl, Lib.hid rfl⟩
  case round =>
    obtain ⟨k, V, hk, rfl, rfl, HV⟩ := hrel
    by_cases hlt : k < n
    · obtain ⟨b, off, y, rfl, hc, HY⟩ := HR.out.at k (by have := HN.out; omega)
      obtain ⟨Y, hY⟩ : ∃ Y : Nat, y = (Y : Int) := ⟨y.toNat, by have := HB.out k; have := HY.out; omega⟩
      have hY8 : Y < 256 := by have := HB.out k; have := HY.out; omega
      subst hY
      have hVC : V < 256 ^ k := by rw [HV.out]; exact leV_lt HB.out k
      have hk4 : k = 0 := by omega
      subst hk4
      rw [Nat.add_zero] at hc
      go_wp2_with fail
      go_round
      case rel => exact ⟨1, V + Y * 1, by omega, rfl, congrArg (Value.int .u8) (by have h := u8_or_nat V Y (by omega) (by omega); have hv : V = 0 := (by omega); subst hv; rw [Nat.zero_or] at h; rw [Nat.zero_add, Nat.mul_one]; exact h), Lib.hid (lev_next HV.out HY.out (by decide))⟩
      case measure => simp [intOf]; omega
    · have HK : Hid (k = n) := Lib.hid (by omega)
      have hge : decide ((k : Int) < (n : Int)) = false := by simp; omega
      go_wp2_with fail
      go_ret
      exact ⟨by rw [HV.out, HK.out]; first | done | rfl, rfl⟩

theorem fits8_any (A : Option Addr) (n c : Nat) (w : World) : Calls Try.prog 97 #[.slice A n c] w fun e w' => e = .returned (.int .i64 (errR n 1)) ∧ w' = w := by
  go_enter Try.func97, Try.ntmps97
  go_wp2_with fail
  refine (width8_any w).mono ?_
  rintro e w' ⟨rfl, rfl⟩
  by_cases h1 : n < 1
  · have h2 : decide ((n : Int) < 1) = true := by simp; omega
    go_wp2_with fail
    go_ret
    exact ⟨by simp [errR, h1], rfl⟩
  · have h2 : decide ((n : Int) < 1) = false := by simp; omega
    by_cases h3 : 1 < n
    · have h4 : decide (1 < (n : Int)) = true := by simp; omega
      go_wp2_with fail
      go_ret
      exact ⟨by simp [errR, h1, h3], rfl⟩
    · have h4 : decide (1 < (n : Int)) = false := by simp; omega
      go_wp2_with fail
      go_ret
      exact ⟨by simp [errR, h1, h3], rfl⟩

theorem little8_any (A : Option Addr) (n c : Nat) (xs : List Int) (w : World) (hn : n = xs.length) (hr : Rd w .u8 A xs) (hB : B8 xs) :
    Calls Try.prog 74 #[.slice A n c] w fun e w' => e = .returned (.tuple #[.int .u8 (litR xs n 1 : Nat), .int .i64 (errR n 1)]) ∧ w' = w := by
  have HR := Lib.hid hr
  have HN := Lib.hid hn
  have HB := Lib.hid hB
  clear hr hn hB
  go_enter Try.func74, Try.ntmps74
  go_wp2_with fail
  refine (fits8_any A n c w).mono ?_
  rintro e w' ⟨rfl, rfl⟩
  by_cases h1 : n < 1
  · have he : errR n 1 = 20 := by simp [errR, h1]
    have hv : litR xs n 1 = 0 := by unfold litR; rw [if_neg (by omega)]
    have HVV := Lib.hid hv
    have HEE := Lib.hid he
    rw [he]
    clear he hv
    go_wp2_with fail
    go_ret2
    exact ⟨by rw [HVV.out, HEE.out]; first | done | rfl, rfl⟩
  · by_cases h3 : 1 < n
    · have he : errR n 1 = 21 := by simp [errR, h1, h3]
      have hv : litR xs n 1 = 0 := by unfold litR; rw [if_neg (by omega)]
      have HVV := Lib.hid hv
      have HEE := Lib.hid he
      rw [he]
      clear he hv
      go_wp2_with fail
      go_ret2
      exact ⟨by rw [HVV.out, HEE.out]; first | done | rfl, rfl⟩
    · have he : errR n 1 = 0 := by simp [errR, h1, h3]
      have hv : litR xs n 1 = leV xs n := by unfold litR; rw [if_pos (by omega)]
      have HVV := Lib.hid hv
      have HEE := Lib.hid he
      rw [he]
      clear he hv
      go_wp2_with fail
      refine (low8_any A n c xs w' HN.out HR.out HB.out (by omega)).mono ?_
      rintro e w2 ⟨rfl, rfl⟩
      go_wp2_with fail
      go_ret2
      exact ⟨by rw [HVV.out, HEE.out]; first | done | rfl, rfl⟩

set_option maxHeartbeats 4000000 in
theorem big8_any (A : Option Addr) (n c : Nat) (xs : List Int) (w : World) (hn : n = xs.length) (hr : Rd w .u8 A xs) (hB : B8 xs) :
    Calls Try.prog 78 #[.slice A n c] w fun e w' => e = .returned (.tuple #[.int .u8 (bigR xs n 1 : Nat), .int .i64 (errR n 1)]) ∧ w' = w := by
  have HR := Lib.hid hr
  have HN := Lib.hid hn
  have HB := Lib.hid hB
  clear hr hn hB
  go_enter Try.func78, Try.ntmps78
  go_wp2_with fail
  refine (fits8_any A n c w).mono ?_
  rintro e w' ⟨rfl, rfl⟩
  by_cases h1 : n < 1
  · have he : errR n 1 = 20 := by simp [errR, h1]
    have hv : bigR xs n 1 = 0 := by unfold bigR; rw [if_neg (by omega)]
    have HVV := Lib.hid hv
    have HEE := Lib.hid he
    rw [he]
    clear he hv
    go_wp2_with fail
    go_ret2
    exact ⟨by rw [HVV.out, HEE.out]; first | done | rfl, rfl⟩
  · by_cases h3 : 1 < n
    · have he : errR n 1 = 21 := by simp [errR, h1, h3]
      have hv : bigR xs n 1 = 0 := by unfold bigR; rw [if_neg (by omega)]
      have HVV := Lib.hid hv
      have HEE := Lib.hid he
      rw [he]
      clear he hv
      go_wp2_with fail
      go_ret2
      exact ⟨by rw [HVV.out, HEE.out]; first | done | rfl, rfl⟩
    · have he : errR n 1 = 0 := by simp [errR, h1, h3]
      obtain rfl : n = 1 := by omega
      have hv : bigR xs 1 1 = hiV xs 1 1 := by unfold bigR; rw [if_pos rfl, hi_rev1 HN.out.symm]
      have HVV := Lib.hid hv
      have HEE := Lib.hid he
      rw [he]
      clear hv he h1 h3
      go_wp2_with fail
      go_loop [5, 15] (fun v i => ∃ k V : Nat, k ≤ 1 ∧ i = .int .i64 k ∧ v = .int .u8 V ∧ Hid (V = hiV xs 1 k)) (fun _ i => 1 - (intOf i).toNat)
      case atStart => exact ⟨0, 0, Nat.zero_le _, rfl, rfl, Lib.hid rfl⟩
      case round =>
        obtain ⟨k, V, hk, rfl, rfl, HV⟩ := hrel
        by_cases hlt : k < 1
        · obtain ⟨b, off, y, rfl, hc, HY⟩ := HR.out.at k (by have := HN.out; omega)
          obtain ⟨Y, hY⟩ : ∃ Y : Nat, y = (Y : Int) := ⟨y.toNat, by have := HB.out k; have := HY.out; omega⟩
          have hY8 : Y < 256 := by have := HB.out k; have := HY.out; omega
          subst hY
          have hok := hiV_ok HB.out 1 k (by omega)
          rw [← HV.out] at hok
          obtain ⟨hd, hle⟩ := hok
          have HD := Lib.hid (Nat.mod_eq_zero_of_dvd hd)
          clear hd
          have hk4 : k = 0 := by omega
          subst hk4
          rw [Nat.add_zero] at hc
          go_wp2_with fail
          go_round
          case rel => exact ⟨1, V + Y * 1, by omega, rfl, congrArg (Value.int .u8) (by have h := u8_or_nat V (Y * 1) (by omega) (by omega); rw [nat_join 8 V (Y * 1) HD.out (by omega)] at h; first | exact h | (rw [Nat.mul_one] at h ⊢; exact h)), Lib.hid (hiv_next HV.out HY.out (by decide))⟩
          case measure => simp [intOf]
        · have HK : Hid (k = 1) := Lib.hid (by omega)
          have hge : decide ((k : Int) < 1) = false := by simp; omega
          go_wp2_with fail
          go_ret2
          exact ⟨by rw [HVV.out, HEE.out, HV.out, HK.out]; first | done | rfl, rfl⟩

set_option maxHeartbeats 2000000 in
theorem low16_any (A : Option Addr) (n c : Nat) (xs : List Int) (w : World) (hn : n = xs.length) (hr : Rd w .u8 A xs) (hB : B8 xs) (hs : n ≤ 2) :
    Calls Try.prog 99 #[.slice A n c] w fun e w' => e = .returned (.int .u16 (leV xs n : Nat)) ∧ w' = w := by
  have HR := Lib.hid hr
  have HN := Lib.hid hn
  have HB := Lib.hid hB
  clear hr hn hB
  go_enter Try.func99, Try.ntmps99
  go_wp2_with fail
  go_loop [3, 8] (fun v i => ∃ k V : Nat, k ≤ n ∧ i = .int .i64 k ∧ v = .int .u16 V ∧ Hid (V = leV xs k)) (fun _ i => n - (intOf i).toNat)
  case atStart => exact ⟨0, 0, Nat.zero_le _, rfl, rfl, Lib.hid rfl⟩
  case round =>
    obtain ⟨k, V, hk, rfl, rfl, HV⟩ := hrel
    by_cases hlt : k < n
    · obtain ⟨b, off, y, rfl, hc, HY⟩ := HR.out.at k (by have := HN.out; omega)
      obtain ⟨Y, hY⟩ : ∃ Y : Nat, y = (Y : Int) := ⟨y.toNat, by have := HB.out k; have := HY.out; omega⟩
      have hY8 : Y < 256 := by have := HB.out k; have := HY.out; omega
      subst hY
      have hVC : V < 256 ^ k := by rw [HV.out]; exact leV_lt HB.out k
      have hk4 : k = 0 ∨ k = 1 := by omega
      rcases hk4 with rfl | rfl
      · rw [Nat.add_zero] at hc
        go_wp2_with fail
        go_round
        case rel => exact ⟨1, V + Y * 1, by omega, rfl, congrArg (Value.int .u16) (by have h := u16_or_nat V Y (by omega) (by omega); have hv : V = 0 := (by omega); subst hv; rw [Nat.zero_or] at h; rw [Nat.zero_add, Nat.mul_one]; exact h), Lib.hid (lev_next HV.out HY.out (by decide))⟩
        case measure => simp [intOf]; omega
      · go_wp2_with fail
        go_round
        case rel => exact ⟨2, V + Y * 256, by omega, rfl, congrArg (Value.int .u16) (by have h := u16_or_nat V (Y * 256) (by omega) (by omega); rw [Nat.or_comm, nat_join 8 (Y * 256) V (by omega) (by omega)] at h; rw [show ((Y : Int) * 256) = ((Y * 256 : Nat) : Int) from by omega, h]; omega), Lib.hid (lev_next HV.out HY.out (by decide))⟩
        case measure => simp [intOf]; omega
    · have HK : Hid (k = n) := Lib.hid (by omega)
      have hge : decide ((k : Int) < (n : Int)) = false := by simp; omega
      go_wp2_with fail
      go_ret
      exact ⟨by rw [HV.out, HK.out]; first | done | rfl, rfl⟩

theorem fits16_any (A : Option Addr) (n c : Nat) (w : World) : Calls Try.prog 98 #[.slice A n c] w fun e w' => e = .returned (.int .i64 (errR n 2)) ∧ w' = w := by
  go_enter Try.func98, Try.ntmps98
  go_wp2_with fail
  refine (width16_any w).mono ?_
  rintro e w' ⟨rfl, rfl⟩
  by_cases h1 : n < 2
  · have h2 : decide ((n : Int) < 2) = true := by simp; omega
    go_wp2_with fail
    go_ret
    exact ⟨by simp [errR, h1], rfl⟩
  · have h2 : decide ((n : Int) < 2) = false := by simp; omega
    by_cases h3 : 2 < n
    · have h4 : decide (2 < (n : Int)) = true := by simp; omega
      go_wp2_with fail
      go_ret
      exact ⟨by simp [errR, h1, h3], rfl⟩
    · have h4 : decide (2 < (n : Int)) = false := by simp; omega
      go_wp2_with fail
      go_ret
      exact ⟨by simp [errR, h1, h3], rfl⟩

theorem little16_any (A : Option Addr) (n c : Nat) (xs : List Int) (w : World) (hn : n = xs.length) (hr : Rd w .u8 A xs) (hB : B8 xs) :
    Calls Try.prog 75 #[.slice A n c] w fun e w' => e = .returned (.tuple #[.int .u16 (litR xs n 2 : Nat), .int .i64 (errR n 2)]) ∧ w' = w := by
  have HR := Lib.hid hr
  have HN := Lib.hid hn
  have HB := Lib.hid hB
  clear hr hn hB
  go_enter Try.func75, Try.ntmps75
  go_wp2_with fail
  refine (fits16_any A n c w).mono ?_
  rintro e w' ⟨rfl, rfl⟩
  by_cases h1 : n < 2
  · have he : errR n 2 = 20 := by simp [errR, h1]
    have hv : litR xs n 2 = 0 := by unfold litR; rw [if_neg (by omega)]
    have HVV := Lib.hid hv
    have HEE := Lib.hid he
    rw [he]
    clear he hv
    go_wp2_with fail
    go_ret2
    exact ⟨by rw [HVV.out, HEE.out]; first | done | rfl, rfl⟩
  · by_cases h3 : 2 < n
    · have he : errR n 2 = 21 := by simp [errR, h1, h3]
      have hv : litR xs n 2 = 0 := by unfold litR; rw [if_neg (by omega)]
      have HVV := Lib.hid hv
      have HEE := Lib.hid he
      rw [he]
      clear he hv
      go_wp2_with fail
      go_ret2
      exact ⟨by rw [HVV.out, HEE.out]; first | done | rfl, rfl⟩
    · have he : errR n 2 = 0 := by simp [errR, h1, h3]
      have hv : litR xs n 2 = leV xs n := by unfold litR; rw [if_pos (by omega)]
      have HVV := Lib.hid hv
      have HEE := Lib.hid he
      rw [he]
      clear he hv
      go_wp2_with fail
      refine (low16_any A n c xs w' HN.out HR.out HB.out (by omega)).mono ?_
      rintro e w2 ⟨rfl, rfl⟩
      go_wp2_with fail
      go_ret2
      exact ⟨by rw [HVV.out, HEE.out]; first | done | rfl, rfl⟩

set_option maxHeartbeats 4000000 in
theorem big16_any (A : Option Addr) (n c : Nat) (xs : List Int) (w : World) (hn : n = xs.length) (hr : Rd w .u8 A xs) (hB : B8 xs) :
    Calls Try.prog 79 #[.slice A n c] w fun e w' => e = .returned (.tuple #[.int .u16 (bigR xs n 2 : Nat), .int .i64 (errR n 2)]) ∧ w' = w := by
  have HR := Lib.hid hr
  have HN := Lib.hid hn
  have HB := Lib.hid hB
  clear hr hn hB
  go_enter Try.func79, Try.ntmps79
  go_wp2_with fail
  refine (fits16_any A n c w).mono ?_
  rintro e w' ⟨rfl, rfl⟩
  by_cases h1 : n < 2
  · have he : errR n 2 = 20 := by simp [errR, h1]
    have hv : bigR xs n 2 = 0 := by unfold bigR; rw [if_neg (by omega)]
    have HVV := Lib.hid hv
    have HEE := Lib.hid he
    rw [he]
    clear he hv
    go_wp2_with fail
    go_ret2
    exact ⟨by rw [HVV.out, HEE.out]; first | done | rfl, rfl⟩
  · by_cases h3 : 2 < n
    · have he : errR n 2 = 21 := by simp [errR, h1, h3]
      have hv : bigR xs n 2 = 0 := by unfold bigR; rw [if_neg (by omega)]
      have HVV := Lib.hid hv
      have HEE := Lib.hid he
      rw [he]
      clear he hv
      go_wp2_with fail
      go_ret2
      exact ⟨by rw [HVV.out, HEE.out]; first | done | rfl, rfl⟩
    · have he : errR n 2 = 0 := by simp [errR, h1, h3]
      obtain rfl : n = 2 := by omega
      have hv : bigR xs 2 2 = hiV xs 2 2 := by unfold bigR; rw [if_pos rfl, hi_rev2 HN.out.symm]
      have HVV := Lib.hid hv
      have HEE := Lib.hid he
      rw [he]
      clear hv he h1 h3
      go_wp2_with fail
      go_loop [5, 15] (fun v i => ∃ k V : Nat, k ≤ 2 ∧ i = .int .i64 k ∧ v = .int .u16 V ∧ Hid (V = hiV xs 2 k)) (fun _ i => 2 - (intOf i).toNat)
      case atStart => exact ⟨0, 0, Nat.zero_le _, rfl, rfl, Lib.hid rfl⟩
      case round =>
        obtain ⟨k, V, hk, rfl, rfl, HV⟩ := hrel
        by_cases hlt : k < 2
        · obtain ⟨b, off, y, rfl, hc, HY⟩ := HR.out.at k (by have := HN.out; omega)
          obtain ⟨Y, hY⟩ : ∃ Y : Nat, y = (Y : Int) := ⟨y.toNat, by have := HB.out k; have := HY.out; omega⟩
          have hY8 : Y < 256 := by have := HB.out k; have := HY.out; omega
          subst hY
          have hok := hiV_ok HB.out 2 k (by omega)
          rw [← HV.out] at hok
          obtain ⟨hd, hle⟩ := hok
          have HD := Lib.hid (Nat.mod_eq_zero_of_dvd hd)
          clear hd
          have hk4 : k = 0 ∨ k = 1 := by omega
          rcases hk4 with rfl | rfl
          · rw [Nat.add_zero] at hc
            go_wp2_with fail
            go_round
            case rel => exact ⟨1, V + Y * 256, by omega, rfl, congrArg (Value.int .u16) (by have h := u16_or_nat V (Y * 256) (by omega) (by omega); rw [nat_join 16 V (Y * 256) HD.out (by omega)] at h; rw [show ((Y : Int) * 256) = ((Y * 256 : Nat) : Int) from by omega]; first | exact h | (rw [Nat.mul_one] at h ⊢; exact h)), Lib.hid (hiv_next HV.out HY.out (by decide))⟩
            case measure => simp [intOf]
          · go_wp2_with fail
            go_round
            case rel => exact ⟨2, V + Y * 1, by omega, rfl, congrArg (Value.int .u16) (by have h := u16_or_nat V (Y * 1) (by omega) (by omega); rw [nat_join 8 V (Y * 1) HD.out (by omega)] at h; first | exact h | (rw [Nat.mul_one] at h ⊢; exact h)), Lib.hid (hiv_next HV.out HY.out (by decide))⟩
            case measure => simp [intOf]
        · have HK : Hid (k = 2) := Lib.hid (by omega)
          have hge : decide ((k : Int) < 2) = false := by simp; omega
          go_wp2_with fail
          go_ret2
          exact ⟨by rw [HVV.out, HEE.out, HV.out, HK.out]; first | done | rfl, rfl⟩

set_option maxHeartbeats 2000000 in
theorem low32_any (A : Option Addr) (n c : Nat) (xs : List Int) (w : World) (hn : n = xs.length) (hr : Rd w .u8 A xs) (hB : B8 xs) (hs : n ≤ 4) :
    Calls Try.prog 91 #[.slice A n c] w fun e w' => e = .returned (.int .u32 (leV xs n : Nat)) ∧ w' = w := by
  have HR := Lib.hid hr
  have HN := Lib.hid hn
  have HB := Lib.hid hB
  clear hr hn hB
  go_enter Try.func91, Try.ntmps91
  go_wp2_with fail
  go_loop [3, 8] (fun v i => ∃ k V : Nat, k ≤ n ∧ i = .int .i64 k ∧ v = .int .u32 V ∧ Hid (V = leV xs k)) (fun _ i => n - (intOf i).toNat)
  case atStart => exact ⟨0, 0, Nat.zero_le _, rfl, rfl, Lib.hid rfl⟩
  case round =>
    obtain ⟨k, V, hk, rfl, rfl, HV⟩ := hrel
    by_cases hlt : k < n
    · obtain ⟨b, off, y, rfl, hc, HY⟩ := HR.out.at k (by have := HN.out; omega)
      obtain ⟨Y, hY⟩ : ∃ Y : Nat, y = (Y : Int) := ⟨y.toNat, by have := HB.out k; have := HY.out; omega⟩
      have hY8 : Y < 256 := by have := HB.out k; have := HY.out; omega
      subst hY
      have hVC : V < 256 ^ k := by rw [HV.out]; exact leV_lt HB.out k
      have hk4 : k = 0 ∨ k = 1 ∨ k = 2 ∨ k = 3 := by omega
      rcases hk4 with rfl | rfl | rfl | rfl
      · rw [Nat.add_zero] at hc
        go_wp2_with fail
        go_round
        case rel => exact ⟨1, V + Y * 1, by omega, rfl, congrArg (Value.int .u32) (by have h := u32_or_nat V Y (by omega) (by omega); have hv : V = 0 := (by omega); subst hv; rw [Nat.zero_or] at h; rw [Nat.zero_add, Nat.mul_one]; exact h), Lib.hid (lev_next HV.out HY.out (by decide))⟩
        case measure => simp [intOf]; omega
      · go_wp2_with fail
        go_round
        case rel => exact ⟨2, V + Y * 256, by omega, rfl, congrArg (Value.int .u32) (by have h := u32_or_nat V (Y * 256) (by omega) (by omega); rw [Nat.or_comm, nat_join 8 (Y * 256) V (by omega) (by omega)] at h; rw [show ((Y : Int) * 256) = ((Y * 256 : Nat) : Int) from by omega, h]; omega), Lib.hid (lev_next HV.out HY.out (by decide))⟩
        case measure => simp [intOf]; omega
      · go_wp2_with fail
        go_round
        case rel => exact ⟨3, V + Y * 65536, by omega, rfl, congrArg (Value.int .u32) (by have h := u32_or_nat V (Y * 65536) (by omega) (by omega); rw [Nat.or_comm, nat_join 16 (Y * 65536) V (by omega) (by omega)] at h; rw [show ((Y : Int) * 65536) = ((Y * 65536 : Nat) : Int) from by omega, h]; omega), Lib.hid (lev_next HV.out HY.out (by decide))⟩
        case measure => simp [intOf]; omega
      · go_wp2_with fail
        go_round
        case rel => exact ⟨4, V + Y * 16777216, by omega, rfl, congrArg (Value.int .u32) (by have h := u32_or_nat V (Y * 16777216) (by omega) (by omega); rw [Nat.or_comm, nat_join 24 (Y * 16777216) V (by omega) (by omega)] at h; rw [show ((Y : Int) * 16777216) = ((Y * 16777216 : Nat) : Int) from by omega, h]; omega), Lib.hid (lev_next HV.out HY.out (by decide))⟩
        case measure => simp [intOf]; omega
    · have HK : Hid (k = n) := Lib.hid (by omega)
      have hge : decide ((k : Int) < (n : Int)) = false := by simp; omega
      go_wp2_with fail
      go_ret
      exact ⟨by rw [HV.out, HK.out]; first | done | rfl, rfl⟩

theorem fits32_any (A : Option Addr) (n c : Nat) (w : World) : Calls Try.prog 100 #[.slice A n c] w fun e w' => e = .returned (.int .i64 (errR n 4)) ∧ w' = w := by
  go_enter Try.func100, Try.ntmps100
  go_wp2_with fail
  refine (width32_any w).mono ?_
  rintro e w' ⟨rfl, rfl⟩
  by_cases h1 : n < 4
  · have h2 : decide ((n : Int) < 4) = true := by simp; omega
    go_wp2_with fail
    go_ret
    exact ⟨by simp [errR, h1], rfl⟩
  · have h2 : decide ((n : Int) < 4) = false := by simp; omega
    by_cases h3 : 4 < n
    · have h4 : decide (4 < (n : Int)) = true := by simp; omega
      go_wp2_with fail
      go_ret
      exact ⟨by simp [errR, h1, h3], rfl⟩
    · have h4 : decide (4 < (n : Int)) = false := by simp; omega
      go_wp2_with fail
      go_ret
      exact ⟨by simp [errR, h1, h3], rfl⟩

theorem little32_any (A : Option Addr) (n c : Nat) (xs : List Int) (w : World) (hn : n = xs.length) (hr : Rd w .u8 A xs) (hB : B8 xs) :
    Calls Try.prog 76 #[.slice A n c] w fun e w' => e = .returned (.tuple #[.int .u32 (litR xs n 4 : Nat), .int .i64 (errR n 4)]) ∧ w' = w := by
  have HR := Lib.hid hr
  have HN := Lib.hid hn
  have HB := Lib.hid hB
  clear hr hn hB
  go_enter Try.func76, Try.ntmps76
  go_wp2_with fail
  refine (fits32_any A n c w).mono ?_
  rintro e w' ⟨rfl, rfl⟩
  by_cases h1 : n < 4
  · have he : errR n 4 = 20 := by simp [errR, h1]
    have hv : litR xs n 4 = 0 := by unfold litR; rw [if_neg (by omega)]
    have HVV := Lib.hid hv
    have HEE := Lib.hid he
    rw [he]
    clear he hv
    go_wp2_with fail
    go_ret2
    exact ⟨by rw [HVV.out, HEE.out]; first | done | rfl, rfl⟩
  · by_cases h3 : 4 < n
    · have he : errR n 4 = 21 := by simp [errR, h1, h3]
      have hv : litR xs n 4 = 0 := by unfold litR; rw [if_neg (by omega)]
      have HVV := Lib.hid hv
      have HEE := Lib.hid he
      rw [he]
      clear he hv
      go_wp2_with fail
      go_ret2
      exact ⟨by rw [HVV.out, HEE.out]; first | done | rfl, rfl⟩
    · have he : errR n 4 = 0 := by simp [errR, h1, h3]
      have hv : litR xs n 4 = leV xs n := by unfold litR; rw [if_pos (by omega)]
      have HVV := Lib.hid hv
      have HEE := Lib.hid he
      rw [he]
      clear he hv
      go_wp2_with fail
      refine (low32_any A n c xs w' HN.out HR.out HB.out (by omega)).mono ?_
      rintro e w2 ⟨rfl, rfl⟩
      go_wp2_with fail
      go_ret2
      exact ⟨by rw [HVV.out, HEE.out]; first | done | rfl, rfl⟩

set_option maxHeartbeats 4000000 in
theorem big32_any (A : Option Addr) (n c : Nat) (xs : List Int) (w : World) (hn : n = xs.length) (hr : Rd w .u8 A xs) (hB : B8 xs) :
    Calls Try.prog 80 #[.slice A n c] w fun e w' => e = .returned (.tuple #[.int .u32 (bigR xs n 4 : Nat), .int .i64 (errR n 4)]) ∧ w' = w := by
  have HR := Lib.hid hr
  have HN := Lib.hid hn
  have HB := Lib.hid hB
  clear hr hn hB
  go_enter Try.func80, Try.ntmps80
  go_wp2_with fail
  refine (fits32_any A n c w).mono ?_
  rintro e w' ⟨rfl, rfl⟩
  by_cases h1 : n < 4
  · have he : errR n 4 = 20 := by simp [errR, h1]
    have hv : bigR xs n 4 = 0 := by unfold bigR; rw [if_neg (by omega)]
    have HVV := Lib.hid hv
    have HEE := Lib.hid he
    rw [he]
    clear he hv
    go_wp2_with fail
    go_ret2
    exact ⟨by rw [HVV.out, HEE.out]; first | done | rfl, rfl⟩
  · by_cases h3 : 4 < n
    · have he : errR n 4 = 21 := by simp [errR, h1, h3]
      have hv : bigR xs n 4 = 0 := by unfold bigR; rw [if_neg (by omega)]
      have HVV := Lib.hid hv
      have HEE := Lib.hid he
      rw [he]
      clear he hv
      go_wp2_with fail
      go_ret2
      exact ⟨by rw [HVV.out, HEE.out]; first | done | rfl, rfl⟩
    · have he : errR n 4 = 0 := by simp [errR, h1, h3]
      obtain rfl : n = 4 := by omega
      have hv : bigR xs 4 4 = hiV xs 4 4 := by unfold bigR; rw [if_pos rfl, hi_rev4 HN.out.symm]
      have HVV := Lib.hid hv
      have HEE := Lib.hid he
      rw [he]
      clear hv he h1 h3
      go_wp2_with fail
      go_loop [5, 15] (fun v i => ∃ k V : Nat, k ≤ 4 ∧ i = .int .i64 k ∧ v = .int .u32 V ∧ Hid (V = hiV xs 4 k)) (fun _ i => 4 - (intOf i).toNat)
      case atStart => exact ⟨0, 0, Nat.zero_le _, rfl, rfl, Lib.hid rfl⟩
      case round =>
        obtain ⟨k, V, hk, rfl, rfl, HV⟩ := hrel
        by_cases hlt : k < 4
        · obtain ⟨b, off, y, rfl, hc, HY⟩ := HR.out.at k (by have := HN.out; omega)
          obtain ⟨Y, hY⟩ : ∃ Y : Nat, y = (Y : Int) := ⟨y.toNat, by have := HB.out k; have := HY.out; omega⟩
          have hY8 : Y < 256 := by have := HB.out k; have := HY.out; omega
          subst hY
          have hok := hiV_ok HB.out 4 k (by omega)
          rw [← HV.out] at hok
          obtain ⟨hd, hle⟩ := hok
          have HD := Lib.hid (Nat.mod_eq_zero_of_dvd hd)
          clear hd
          have hk4 : k = 0 ∨ k = 1 ∨ k = 2 ∨ k = 3 := by omega
          rcases hk4 with rfl | rfl | rfl | rfl
          · rw [Nat.add_zero] at hc
            go_wp2_with fail
            go_round
            case rel => exact ⟨1, V + Y * 16777216, by omega, rfl, congrArg (Value.int .u32) (by have h := u32_or_nat V (Y * 16777216) (by omega) (by omega); rw [nat_join 32 V (Y * 16777216) HD.out (by omega)] at h; rw [show ((Y : Int) * 16777216) = ((Y * 16777216 : Nat) : Int) from by omega]; first | exact h | (rw [Nat.mul_one] at h ⊢; exact h)), Lib.hid (hiv_next HV.out HY.out (by decide))⟩
            case measure => simp [intOf]
          · go_wp2_with fail
            go_round
            case rel => exact ⟨2, V + Y * 65536, by omega, rfl, congrArg (Value.int .u32) (by have h := u32_or_nat V (Y * 65536) (by omega) (by omega); rw [nat_join 24 V (Y * 65536) HD.out (by omega)] at h; rw [show ((Y : Int) * 65536) = ((Y * 65536 : Nat) : Int) from by omega]; first | exact h | (rw [Nat.mul_one] at h ⊢; exact h)), Lib.hid (hiv_next HV.out HY.out (by decide))⟩
            case measure => simp [intOf]
          · go_wp2_with fail
            go_round
            case rel => exact ⟨3, V + Y * 256, by omega, rfl, congrArg (Value.int .u32) (by have h := u32_or_nat V (Y * 256) (by omega) (by omega); rw [nat_join 16 V (Y * 256) HD.out (by omega)] at h; rw [show ((Y : Int) * 256) = ((Y * 256 : Nat) : Int) from by omega]; first | exact h | (rw [Nat.mul_one] at h ⊢; exact h)), Lib.hid (hiv_next HV.out HY.out (by decide))⟩
            case measure => simp [intOf]
          · go_wp2_with fail
            go_round
            case rel => exact ⟨4, V + Y * 1, by omega, rfl, congrArg (Value.int .u32) (by have h := u32_or_nat V (Y * 1) (by omega) (by omega); rw [nat_join 8 V (Y * 1) HD.out (by omega)] at h; first | exact h | (rw [Nat.mul_one] at h ⊢; exact h)), Lib.hid (hiv_next HV.out HY.out (by decide))⟩
            case measure => simp [intOf]
        · have HK : Hid (k = 4) := Lib.hid (by omega)
          have hge : decide ((k : Int) < 4) = false := by simp; omega
          go_wp2_with fail
          go_ret2
          exact ⟨by rw [HVV.out, HEE.out, HV.out, HK.out]; first | done | rfl, rfl⟩

set_option maxHeartbeats 2000000 in
theorem low64_any (A : Option Addr) (n c : Nat) (xs : List Int) (w : World) (hn : n = xs.length) (hr : Rd w .u8 A xs) (hB : B8 xs) (hs : n ≤ 8) :
    Calls Try.prog 92 #[.slice A n c] w fun e w' => e = .returned (.int .u64 (leV xs n : Nat)) ∧ w' = w := by
  have HR := Lib.hid hr
  have HN := Lib.hid hn
  have HB := Lib.hid hB
  clear hr hn hB
  go_enter Try.func92, Try.ntmps92
  go_wp2_with fail
  go_loop [3, 8] (fun v i => ∃ k V : Nat, k ≤ n ∧ i = .int .i64 k ∧ v = .int .u64 V ∧ Hid (V = leV xs k)) (fun _ i => n - (intOf i).toNat)
  case atStart => exact ⟨0, 0, Nat.zero_le _, rfl, rfl, Lib.hid rfl⟩
  case round =>
    obtain ⟨k, V, hk, rfl, rfl, HV⟩ := hrel
    by_cases hlt : k < n
    · obtain ⟨b, off, y, rfl, hc, HY⟩ := HR.out.at k (by have := HN.out; omega)
      obtain ⟨Y, hY⟩ : ∃ Y : Nat, y = (Y : Int) := ⟨y.toNat, by have := HB.out k; have := HY.out; omega⟩
      have hY8 : Y < 256 := by have := HB.out k; have := HY.out; omega
      subst hY
      have hVC : V < 256 ^ k := by rw [HV.out]; exact leV_lt HB.out k
      have hk4 : k = 0 ∨ k = 1 ∨ k = 2 ∨ k = 3 ∨ k = 4 ∨ k = 5 ∨ k = 6 ∨ k = 7 := by omega
      rcases hk4 with rfl | rfl | rfl | rfl | rfl | rfl | rfl | rfl
      · rw [Nat.add_zero] at hc
        go_wp2_with fail
        go_round
        case rel => exact ⟨1, V + Y * 1, by omega, rfl, congrArg (Value.int .u64) (by have h := u64_or_nat V Y (by omega) (by omega); have hv : V = 0 := (by omega); subst hv; rw [Nat.zero_or] at h; rw [Nat.zero_add, Nat.mul_one]; exact h), Lib.hid (lev_next HV.out HY.out (by decide))⟩
        case measure => simp [intOf]; omega
      · go_wp2_with fail
        go_round
        case rel => exact ⟨2, V + Y * 256, by omega, rfl, congrArg (Value.int .u64) (by have h := u64_or_nat V (Y * 256) (by omega) (by omega); rw [Nat.or_comm, nat_join 8 (Y * 256) V (by omega) (by omega)] at h; rw [show ((Y : Int) * 256) = ((Y * 256 : Nat) : Int) from by omega, h]; omega), Lib.hid (lev_next HV.out HY.out (by decide))⟩
        case measure => simp [intOf]; omega
      · go_wp2_with fail
        go_round
        case rel => exact ⟨3, V + Y * 65536, by omega, rfl, congrArg (Value.int .u64) (by have h := u64_or_nat V (Y * 65536) (by omega) (by omega); rw [Nat.or_comm, nat_join 16 (Y * 65536) V (by omega) (by omega)] at h; rw [show ((Y : Int) * 65536) = ((Y * 65536 : Nat) : Int) from by omega, h]; omega), Lib.hid (lev_next HV.out HY.out (by decide))⟩
        case measure => simp [intOf]; omega
      · go_wp2_with fail
        go_round
        case rel => exact ⟨4, V + Y * 16777216, by omega, rfl, congrArg (Value.int .u64) (by have h := u64_or_nat V (Y * 16777216) (by omega) (by omega); rw [Nat.or_comm, nat_join 24 (Y * 16777216) V (by omega) (by omega)] at h; rw [show ((Y : Int) * 16777216) = ((Y * 16777216 : Nat) : Int) from by omega, h]; omega), Lib.hid (lev_next HV.out HY.out (by decide))⟩
        case measure => simp [intOf]; omega
      · go_wp2_with fail
        go_round
        case rel => exact ⟨5, V + Y * 4294967296, by omega, rfl, congrArg (Value.int .u64) (by have h := u64_or_nat V (Y * 4294967296) (by omega) (by omega); rw [Nat.or_comm, nat_join 32 (Y * 4294967296) V (by omega) (by omega)] at h; rw [show ((Y : Int) * 4294967296) = ((Y * 4294967296 : Nat) : Int) from by omega, h]; omega), Lib.hid (lev_next HV.out HY.out (by decide))⟩
        case measure => simp [intOf]; omega
      · go_wp2_with fail
        go_round
        case rel => exact ⟨6, V + Y * 1099511627776, by omega, rfl, congrArg (Value.int .u64) (by have h := u64_or_nat V (Y * 1099511627776) (by omega) (by omega); rw [Nat.or_comm, nat_join 40 (Y * 1099511627776) V (by omega) (by omega)] at h; rw [show ((Y : Int) * 1099511627776) = ((Y * 1099511627776 : Nat) : Int) from by omega, h]; omega), Lib.hid (lev_next HV.out HY.out (by decide))⟩
        case measure => simp [intOf]; omega
      · go_wp2_with fail
        go_round
        case rel => exact ⟨7, V + Y * 281474976710656, by omega, rfl, congrArg (Value.int .u64) (by have h := u64_or_nat V (Y * 281474976710656) (by omega) (by omega); rw [Nat.or_comm, nat_join 48 (Y * 281474976710656) V (by omega) (by omega)] at h; rw [show ((Y : Int) * 281474976710656) = ((Y * 281474976710656 : Nat) : Int) from by omega, h]; omega), Lib.hid (lev_next HV.out HY.out (by decide))⟩
        case measure => simp [intOf]; omega
      · go_wp2_with fail
        go_round
        case rel => exact ⟨8, V + Y * 72057594037927936, by omega, rfl, congrArg (Value.int .u64) (by have h := u64_or_nat V (Y * 72057594037927936) (by omega) (by omega); rw [Nat.or_comm, nat_join 56 (Y * 72057594037927936) V (by omega) (by omega)] at h; rw [show ((Y : Int) * 72057594037927936) = ((Y * 72057594037927936 : Nat) : Int) from by omega, h]; omega), Lib.hid (lev_next HV.out HY.out (by decide))⟩
        case measure => simp [intOf]; omega
    · have HK : Hid (k = n) := Lib.hid (by omega)
      have hge : decide ((k : Int) < (n : Int)) = false := by simp; omega
      go_wp2_with fail
      go_ret
      exact ⟨by rw [HV.out, HK.out]; first | done | rfl, rfl⟩

theorem fits64_any (A : Option Addr) (n c : Nat) (w : World) : Calls Try.prog 101 #[.slice A n c] w fun e w' => e = .returned (.int .i64 (errR n 8)) ∧ w' = w := by
  go_enter Try.func101, Try.ntmps101
  go_wp2_with fail
  refine (width64_any w).mono ?_
  rintro e w' ⟨rfl, rfl⟩
  by_cases h1 : n < 8
  · have h2 : decide ((n : Int) < 8) = true := by simp; omega
    go_wp2_with fail
    go_ret
    exact ⟨by simp [errR, h1], rfl⟩
  · have h2 : decide ((n : Int) < 8) = false := by simp; omega
    by_cases h3 : 8 < n
    · have h4 : decide (8 < (n : Int)) = true := by simp; omega
      go_wp2_with fail
      go_ret
      exact ⟨by simp [errR, h1, h3], rfl⟩
    · have h4 : decide (8 < (n : Int)) = false := by simp; omega
      go_wp2_with fail
      go_ret
      exact ⟨by simp [errR, h1, h3], rfl⟩

theorem little64_any (A : Option Addr) (n c : Nat) (xs : List Int) (w : World) (hn : n = xs.length) (hr : Rd w .u8 A xs) (hB : B8 xs) :
    Calls Try.prog 77 #[.slice A n c] w fun e w' => e = .returned (.tuple #[.int .u64 (litR xs n 8 : Nat), .int .i64 (errR n 8)]) ∧ w' = w := by
  have HR := Lib.hid hr
  have HN := Lib.hid hn
  have HB := Lib.hid hB
  clear hr hn hB
  go_enter Try.func77, Try.ntmps77
  go_wp2_with fail
  refine (fits64_any A n c w).mono ?_
  rintro e w' ⟨rfl, rfl⟩
  by_cases h1 : n < 8
  · have he : errR n 8 = 20 := by simp [errR, h1]
    have hv : litR xs n 8 = 0 := by unfold litR; rw [if_neg (by omega)]
    have HVV := Lib.hid hv
    have HEE := Lib.hid he
    rw [he]
    clear he hv
    go_wp2_with fail
    go_ret2
    exact ⟨by rw [HVV.out, HEE.out]; first | done | rfl, rfl⟩
  · by_cases h3 : 8 < n
    · have he : errR n 8 = 21 := by simp [errR, h1, h3]
      have hv : litR xs n 8 = 0 := by unfold litR; rw [if_neg (by omega)]
      have HVV := Lib.hid hv
      have HEE := Lib.hid he
      rw [he]
      clear he hv
      go_wp2_with fail
      go_ret2
      exact ⟨by rw [HVV.out, HEE.out]; first | done | rfl, rfl⟩
    · have he : errR n 8 = 0 := by simp [errR, h1, h3]
      have hv : litR xs n 8 = leV xs n := by unfold litR; rw [if_pos (by omega)]
      have HVV := Lib.hid hv
      have HEE := Lib.hid he
      rw [he]
      clear he hv
      go_wp2_with fail
      refine (low64_any A n c xs w' HN.out HR.out HB.out (by omega)).mono ?_
      rintro e w2 ⟨rfl, rfl⟩
      go_wp2_with fail
      go_ret2
      exact ⟨by rw [HVV.out, HEE.out]; first | done | rfl, rfl⟩

set_option maxHeartbeats 4000000 in
theorem big64_any (A : Option Addr) (n c : Nat) (xs : List Int) (w : World) (hn : n = xs.length) (hr : Rd w .u8 A xs) (hB : B8 xs) :
    Calls Try.prog 81 #[.slice A n c] w fun e w' => e = .returned (.tuple #[.int .u64 (bigR xs n 8 : Nat), .int .i64 (errR n 8)]) ∧ w' = w := by
  have HR := Lib.hid hr
  have HN := Lib.hid hn
  have HB := Lib.hid hB
  clear hr hn hB
  go_enter Try.func81, Try.ntmps81
  go_wp2_with fail
  refine (fits64_any A n c w).mono ?_
  rintro e w' ⟨rfl, rfl⟩
  by_cases h1 : n < 8
  · have he : errR n 8 = 20 := by simp [errR, h1]
    have hv : bigR xs n 8 = 0 := by unfold bigR; rw [if_neg (by omega)]
    have HVV := Lib.hid hv
    have HEE := Lib.hid he
    rw [he]
    clear he hv
    go_wp2_with fail
    go_ret2
    exact ⟨by rw [HVV.out, HEE.out]; first | done | rfl, rfl⟩
  · by_cases h3 : 8 < n
    · have he : errR n 8 = 21 := by simp [errR, h1, h3]
      have hv : bigR xs n 8 = 0 := by unfold bigR; rw [if_neg (by omega)]
      have HVV := Lib.hid hv
      have HEE := Lib.hid he
      rw [he]
      clear he hv
      go_wp2_with fail
      go_ret2
      exact ⟨by rw [HVV.out, HEE.out]; first | done | rfl, rfl⟩
    · have he : errR n 8 = 0 := by simp [errR, h1, h3]
      obtain rfl : n = 8 := by omega
      have hv : bigR xs 8 8 = hiV xs 8 8 := by unfold bigR; rw [if_pos rfl, hi_rev8 HN.out.symm]
      have HVV := Lib.hid hv
      have HEE := Lib.hid he
      rw [he]
      clear hv he h1 h3
      go_wp2_with fail
      go_loop [5, 15] (fun v i => ∃ k V : Nat, k ≤ 8 ∧ i = .int .i64 k ∧ v = .int .u64 V ∧ Hid (V = hiV xs 8 k)) (fun _ i => 8 - (intOf i).toNat)
      case atStart => exact ⟨0, 0, Nat.zero_le _, rfl, rfl, Lib.hid rfl⟩
      case round =>
        obtain ⟨k, V, hk, rfl, rfl, HV⟩ := hrel
        by_cases hlt : k < 8
        · obtain ⟨b, off, y, rfl, hc, HY⟩ := HR.out.at k (by have := HN.out; omega)
          obtain ⟨Y, hY⟩ : ∃ Y : Nat, y = (Y : Int) := ⟨y.toNat, by have := HB.out k; have := HY.out; omega⟩
          have hY8 : Y < 256 := by have := HB.out k; have := HY.out; omega
          subst hY
          have hok := hiV_ok HB.out 8 k (by omega)
          rw [← HV.out] at hok
          obtain ⟨hd, hle⟩ := hok
          have HD := Lib.hid (Nat.mod_eq_zero_of_dvd hd)
          clear hd
          have hk4 : k = 0 ∨ k = 1 ∨ k = 2 ∨ k = 3 ∨ k = 4 ∨ k = 5 ∨ k = 6 ∨ k = 7 := by omega
          rcases hk4 with rfl | rfl | rfl | rfl | rfl | rfl | rfl | rfl
          · rw [Nat.add_zero] at hc
            go_wp2_with fail
            go_round
            case rel => exact ⟨1, V + Y * 72057594037927936, by omega, rfl, congrArg (Value.int .u64) (by have h := u64_or_nat V (Y * 72057594037927936) (by omega) (by omega); rw [nat_join 64 V (Y * 72057594037927936) HD.out (by omega)] at h; rw [show ((Y : Int) * 72057594037927936) = ((Y * 72057594037927936 : Nat) : Int) from by omega]; first | exact h | (rw [Nat.mul_one] at h ⊢; exact h)), Lib.hid (hiv_next HV.out HY.out (by decide))⟩
            case measure => simp [intOf]
          · go_wp2_with fail
            go_round
            case rel => exact ⟨2, V + Y * 281474976710656, by omega, rfl, congrArg (Value.int .u64) (by have h := u64_or_nat V (Y * 281474976710656) (by omega) (by omega); rw [nat_join 56 V (Y * 281474976710656) HD.out (by omega)] at h; rw [show ((Y : Int) * 281474976710656) = ((Y * 281474976710656 : Nat) : Int) from by omega]; first | exact h | (rw [Nat.mul_one] at h ⊢; exact h)), Lib.hid (hiv_next HV.out HY.out (by decide))⟩
            case measure => simp [intOf]
          · go_wp2_with fail
            go_round
            case rel => exact ⟨3, V + Y * 1099511627776, by omega, rfl, congrArg (Value.int .u64) (by have h := u64_or_nat V (Y * 1099511627776) (by omega) (by omega); rw [nat_join 48 V (Y * 1099511627776) HD.out (by omega)] at h; rw [show ((Y : Int) * 1099511627776) = ((Y * 1099511627776 : Nat) : Int) from by omega]; first | exact h | (rw [Nat.mul_one] at h ⊢; exact h)), Lib.hid (hiv_next HV.out HY.out (by decide))⟩
            case measure => simp [intOf]
          · go_wp2_with fail
            go_round
            case rel => exact ⟨4, V + Y * 4294967296, by omega, rfl, congrArg (Value.int .u64) (by have h := u64_or_nat V (Y * 4294967296) (by omega) (by omega); rw [nat_join 40 V (Y * 4294967296) HD.out (by omega)] at h; rw [show ((Y : Int) * 4294967296) = ((Y * 4294967296 : Nat) : Int) from by omega]; first | exact h | (rw [Nat.mul_one] at h ⊢; exact h)), Lib.hid (hiv_next HV.out HY.out (by decide))⟩
            case measure => simp [intOf]
          · go_wp2_with fail
            go_round
            case rel => exact ⟨5, V + Y * 16777216, by omega, rfl, congrArg (Value.int .u64) (by have h := u64_or_nat V (Y * 16777216) (by omega) (by omega); rw [nat_join 32 V (Y * 16777216) HD.out (by omega)] at h; rw [show ((Y : Int) * 16777216) = ((Y * 16777216 : Nat) : Int) from by omega]; first | exact h | (rw [Nat.mul_one] at h ⊢; exact h)), Lib.hid (hiv_next HV.out HY.out (by decide))⟩
            case measure => simp [intOf]
          · go_wp2_with fail
            go_round
            case rel => exact ⟨6, V + Y * 65536, by omega, rfl, congrArg (Value.int .u64) (by have h := u64_or_nat V (Y * 65536) (by omega) (by omega); rw [nat_join 24 V (Y * 65536) HD.out (by omega)] at h; rw [show ((Y : Int) * 65536) = ((Y * 65536 : Nat) : Int) from by omega]; first | exact h | (rw [Nat.mul_one] at h ⊢; exact h)), Lib.hid (hiv_next HV.out HY.out (by decide))⟩
            case measure => simp [intOf]
          · go_wp2_with fail
            go_round
            case rel => exact ⟨7, V + Y * 256, by omega, rfl, congrArg (Value.int .u64) (by have h := u64_or_nat V (Y * 256) (by omega) (by omega); rw [nat_join 16 V (Y * 256) HD.out (by omega)] at h; rw [show ((Y : Int) * 256) = ((Y * 256 : Nat) : Int) from by omega]; first | exact h | (rw [Nat.mul_one] at h ⊢; exact h)), Lib.hid (hiv_next HV.out HY.out (by decide))⟩
            case measure => simp [intOf]
          · go_wp2_with fail
            go_round
            case rel => exact ⟨8, V + Y * 1, by omega, rfl, congrArg (Value.int .u64) (by have h := u64_or_nat V (Y * 1) (by omega) (by omega); rw [nat_join 8 V (Y * 1) HD.out (by omega)] at h; first | exact h | (rw [Nat.mul_one] at h ⊢; exact h)), Lib.hid (hiv_next HV.out HY.out (by decide))⟩
            case measure => simp [intOf]
        · have HK : Hid (k = 8) := Lib.hid (by omega)
          have hge : decide ((k : Int) < 8) = false := by simp; omega
          go_wp2_with fail
          go_ret2
          exact ⟨by rw [HVV.out, HEE.out, HV.out, HK.out]; first | done | rfl, rfl⟩
end Go.Proofs.Ytcibhaoilcohbaa

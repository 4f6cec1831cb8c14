/-
  Walks: numbers out of four bytes; is it a record?; the document's number, Is.
-/
import Derived.Test.YtedejkfhgpnhpaaLe
import Derived.Test.YtedejkfhgpnhpaaMm
import Derived.Laws.BitsAllLaws
set_option linter.unusedVariables false
set_option linter.unusedSimpArgs false
namespace Go.Proofs.Ytedejkfhgpnhpaa
open Go.RowKit

/-- The number whose bytes these are, the first k; the same from the highest of s bytes on. -/
def leV (xs : List Int) : Nat → Nat
  | 0 => 0
  | k + 1 => leV xs k + (xs.getD k 0).toNat * 256 ^ k
def hiV (xs : List Int) (s : Nat) : Nat → Nat
  | 0 => 0
  | k + 1 => hiV xs s k + (xs.getD k 0).toNat * 256 ^ (s - 1 - k)
def B8 (xs : List Int) : Prop := ∀ i, 0 ≤ xs.getD i 0 ∧ xs.getD i 0 ≤ 255
theorem leV_lt {xs : List Int} (h : B8 xs) (k : Nat) : leV xs k < 256 ^ k := by
  induction k with
  | zero => simp [leV]
  | succ k ih =>
    have h1 := h k
    have h2 : (xs.getD k 0).toNat ≤ 255 := by omega
    have h3 : (xs.getD k 0).toNat * 256 ^ k ≤ 255 * 256 ^ k := Nat.mul_le_mul_right _ h2
    have h4 : 256 ^ (k + 1) = 256 * 256 ^ k := by rw [Nat.pow_succ, Nat.mul_comm]
    have e : leV xs (k + 1) = leV xs k + (xs.getD k 0).toNat * 256 ^ k := rfl
    rw [e, h4]; omega
theorem hiV_ok {xs : List Int} (h : B8 xs) (s k : Nat) (hk : k ≤ s) : 256 ^ (s - k) ∣ hiV xs s k ∧ hiV xs s k + 256 ^ (s - k) ≤ 256 ^ s := by
  induction k with
  | zero => exact ⟨Nat.dvd_zero _, by simp [hiV]⟩
  | succ k ih =>
    obtain ⟨ih1, ih2⟩ := ih (by omega)
    have h1 := h k
    have h2 : (xs.getD k 0).toNat ≤ 255 := by omega
    have e1 : s - k = (s - (k + 1)) + 1 := by omega
    have e2 : s - 1 - k = s - (k + 1) := by omega
    have h4 : 256 ^ (s - k) = 256 * 256 ^ (s - (k + 1)) := by rw [e1, Nat.pow_succ, Nat.mul_comm]
    have h3 : (xs.getD k 0).toNat * 256 ^ (s - (k + 1)) ≤ 255 * 256 ^ (s - (k + 1)) := Nat.mul_le_mul_right _ h2
    have e : hiV xs s (k + 1) = hiV xs s k + (xs.getD k 0).toNat * 256 ^ (s - (k + 1)) := by
      show hiV xs s k + (xs.getD k 0).toNat * 256 ^ (s - 1 - k) = _
      rw [e2]
    rw [h4] at ih1 ih2
    rw [e]
    exact ⟨Nat.dvd_add (Nat.dvd_trans ⟨256, Nat.mul_comm _ _⟩ ih1) (Nat.dvd_mul_left _ _), by omega⟩
theorem lev_next {xs : List Int} {k V Y C : Nat} (h : V = leV xs k) (hy : (Y : Int) = xs.getD k 0) (hC : C = 256 ^ k) : V + Y * C = leV xs (k + 1) := by
  have e : (xs.getD k 0).toNat = Y := by rw [← hy]; rfl
  show V + Y * C = leV xs k + (xs.getD k 0).toNat * 256 ^ k
  rw [h, e, hC]
theorem hiv_next {xs : List Int} {s k V Y C : Nat} (h : V = hiV xs s k) (hy : (Y : Int) = xs.getD k 0) (hC : C = 256 ^ (s - 1 - k)) : V + Y * C = hiV xs s (k + 1) := by
  have e : (xs.getD k 0).toNat = Y := by rw [← hy]; rfl
  show V + Y * C = hiV xs s k + (xs.getD k 0).toNat * 256 ^ (s - 1 - k)
  rw [h, e, hC]
def litR (xs : List Int) (n s : Nat) : Nat := if n = s then leV xs n else 0
def bigR (xs : List Int) (n s : Nat) : Nat := if n = s then leV xs.reverse n else 0
def errR (n s : Nat) : Int := if n < s then 20 else if s < n then 21 else 0

set_option maxHeartbeats 2000000 in
theorem low32_any (A : Option Addr) (n c : Nat) (xs : List Int) (w : World) (hn : n = xs.length) (hr : Rd w .u8 A xs) (hB : B8 xs) (hs : n ≤ 4) :
    Calls Try.prog 54 #[.slice A n c] w fun e w' => e = .returned (.int .u32 (leV xs n : Nat)) ∧ w' = w := by
  have HR := Lib.hid hr
  have HN := Lib.hid hn
  have HB := Lib.hid hB
  clear hr hn hB
  go_enter Try.func54, Try.ntmps54
  go_wp2_with fail
  go_loop [3, 8] (fun v i => ∃ k V : Nat, k ≤ n ∧ i = .int .i64 k ∧ v = .int .u32 V ∧ Hid (V = leV xs k)) (fun _ i => n - (intOf i).toNat)
  case atStart => exact ⟨0, 0, Nat.zero_le _, rfl, rfl, Lib.hid rfl⟩
  case round =>
    obtain ⟨k, V, hk, rfl, rfl, HV⟩ := hrel
    by_cases hlt : k < n
    · obtain ⟨b, off, y, rfl, hc, HY⟩ := HR.out.at k (by have := HN.out; omega)
      obtain ⟨Y, hY⟩ : ∃ Y : Nat, y = (Y : Int) := ⟨y.toNat, by have := HB.out k; have := HY.out; omega⟩
      have hY8 : Y < 256 := by have := HB.out k; have := HY.out; omega
      subst hY
      have hVC : V < 256 ^ k := by rw [HV.out]; exact leV_lt HB.out k
      have hk4 : k = 0 ∨ k = 1 ∨ k = 2 ∨ k = 3 := by omega
      rcases hk4 with rfl | rfl | rfl | rfl
      · rw [Nat.add_zero] at hc
        go_wp2_with fail
        go_round
        case rel => exact ⟨1, V + Y * 1, by omega, rfl, congrArg (Value.int .u32) (by have h := u32_or_nat V Y (by omega) (by omega); have hv : V = 0 := (by omega); subst hv; rw [Nat.zero_or] at h; rw [Nat.zero_add, Nat.mul_one]; exact h), Lib.hid (lev_next HV.out HY.out (by decide))⟩
        case measure => simp [intOf]; omega
      · go_wp2_with fail
        go_round
        case rel => exact ⟨2, V + Y * 256, by omega, rfl, congrArg (Value.int .u32) (by have h := u32_or_nat V (Y * 256) (by omega) (by omega); rw [Nat.or_comm, nat_join 8 (Y * 256) V (by omega) (by omega)] at h; rw [show ((Y : Int) * 256) = ((Y * 256 : Nat) : Int) from by omega, h]; omega), Lib.hid (lev_next HV.out HY.out (by decide))⟩
        case measure => simp [intOf]; omega
      · go_wp2_with fail
        go_round
        case rel => exact ⟨3, V + Y * 65536, by omega, rfl, congrArg (Value.int .u32) (by have h := u32_or_nat V (Y * 65536) (by omega) (by omega); rw [Nat.or_comm, nat_join 16 (Y * 65536) V (by omega) (by omega)] at h; rw [show ((Y : Int) * 65536) = ((Y * 65536 : Nat) : Int) from by omega, h]; omega), Lib.hid (lev_next HV.out HY.out (by decide))⟩
        case measure => simp [intOf]; omega
      · go_wp2_with fail
        go_round
        case rel => exact ⟨4, V + Y * 16777216, by omega, rfl, congrArg (Value.int .u32) (by have h := u32_or_nat V (Y * 16777216) (by omega) (by omega); rw [Nat.or_comm, nat_join 24 (Y * 16777216) V (by omega) (by omega)] at h; rw [show ((Y : Int) * 16777216) = ((Y * 16777216 : Nat) : Int) from by omega, h]; omega), Lib.hid (lev_next HV.out HY.out (by decide))⟩
        case measure => simp [intOf]; omega
    · have HK : Hid (k = n) := Lib.hid (by omega)
      have hge : decide ((k : Int) < (n : Int)) = false := by simp; omega
      go_wp2_with fail
      go_ret
      exact ⟨by rw [HV.out, HK.out]; first | done | rfl, rfl⟩

theorem fits32_any (A : Option Addr) (n c : Nat) (w : World) : Calls Try.prog 53 #[.slice A n c] w fun e w' => e = .returned (.int .i64 (errR n 4)) ∧ w' = w := by
  go_enter Try.func53, Try.ntmps53
  go_wp2_with fail
  refine (width_any w).mono ?_
  rintro e w' ⟨rfl, rfl⟩
  by_cases h1 : n < 4
  · have h2 : decide ((n : Int) < 4) = true := by simp; omega
    go_wp2_with fail
    go_ret
    exact ⟨by simp [errR, h1], rfl⟩
  · have h2 : decide ((n : Int) < 4) = false := by simp; omega
    by_cases h3 : 4 < n
    · have h4 : decide (4 < (n : Int)) = true := by simp; omega
      go_wp2_with fail
      go_ret
      exact ⟨by simp [errR, h1, h3], rfl⟩
    · have h4 : decide (4 < (n : Int)) = false := by simp; omega
      go_wp2_with fail
      go_ret
      exact ⟨by simp [errR, h1, h3], rfl⟩

theorem little32_any (A : Option Addr) (n c : Nat) (xs : List Int) (w : World) (hn : n = xs.length) (hr : Rd w .u8 A xs) (hB : B8 xs) :
    Calls Try.prog 49 #[.slice A n c] w fun e w' => e = .returned (.tuple #[.int .u32 (litR xs n 4 : Nat), .int .i64 (errR n 4)]) ∧ w' = w := by
  have HR := Lib.hid hr
  have HN := Lib.hid hn
  have HB := Lib.hid hB
  clear hr hn hB
  go_enter Try.func49, Try.ntmps49
  go_wp2_with fail
  refine (fits32_any A n c w).mono ?_
  rintro e w' ⟨rfl, rfl⟩
  by_cases h1 : n < 4
  · have he : errR n 4 = 20 := by simp [errR, h1]
    have hv : litR xs n 4 = 0 := by unfold litR; rw [if_neg (by omega)]
    have HVV := Lib.hid hv
    have HEE := Lib.hid he
    rw [he]
    clear he hv
    go_wp2_with fail
    go_ret2
    exact ⟨by rw [HVV.out, HEE.out]; first | done | rfl, rfl⟩
  · by_cases h3 : 4 < n
    · have he : errR n 4 = 21 := by simp [errR, h1, h3]
      have hv : litR xs n 4 = 0 := by unfold litR; rw [if_neg (by omega)]
      have HVV := Lib.hid hv
      have HEE := Lib.hid he
      rw [he]
      clear he hv
      go_wp2_with fail
      go_ret2
      exact ⟨by rw [HVV.out, HEE.out]; first | done | rfl, rfl⟩
    · have he : errR n 4 = 0 := by simp [errR, h1, h3]
      have hv : litR xs n 4 = leV xs n := by unfold litR; rw [if_pos (by omega)]
      have HVV := Lib.hid hv
      have HEE := Lib.hid he
      rw [he]
      clear he hv
      go_wp2_with fail
      refine (low32_any A n c xs w' HN.out HR.out HB.out (by omega)).mono ?_
      rintro e w2 ⟨rfl, rfl⟩
      go_wp2_with fail
      go_ret2
      exact ⟨by rw [HVV.out, HEE.out]; first | done | rfl, rfl⟩

theorem B8.drop {xs : List Int} (h : B8 xs) (k : Nat) : B8 (xs.drop k) := fun i => by
  have e : (xs.drop k).getD i 0 = xs.getD (k + i) 0 := by simp [List.getD]
  rw [e]; exact h _
theorem B8.take {xs : List Int} (h : B8 xs) (k : Nat) : B8 (xs.take k) := fun i => by
  by_cases hi : i < k
  · rw [show (xs.take k).getD i 0 = xs.getD i 0 from by simp [List.getD, hi]]; exact h i
  · rw [show (xs.take k).getD i 0 = 0 from by simp [List.getD, List.getElem?_take, hi]]; omega
theorem less2 (Y : Nat) (w : World) (hY : Y < 256) : Calls Try.prog 46 #[.int .u64 Y, .int .u64 2] w fun e w' => e = .returned (.int .u64 (mk (decide (Y < 2)))) ∧ w' = w := by
  refine (less_any (Y : Int) 2 w (by omega) (by omega) (by decide) (by decide)).mono ?_
  rintro e w' ⟨rfl, rfl⟩
  exact ⟨by congr 3; simp; omega, rfl⟩
theorem mk_and (a b : Bool) : bits .and .u64 (mk a) (mk b) = mk (a && b) := by cases a <;> cases b <;> decide
/-- Is it a record? -/
def isR (xs : List Int) (n : Nat) : Bool := decide (26 ≤ n) && (decide ((xs.getD 0 0).toNat < 2) && decide ((xs.getD 1 0).toNat < 2))

set_option maxHeartbeats 1000000 in
theorem is_any (A : Option Addr) (n c : Nat) (xs : List Int) (w : World) (hn : n = xs.length) (hr : Rd w .u8 A xs) (hB : B8 xs) :
    Calls Try.prog 39 #[.slice A n c] w fun e w' => e = .returned (.int .u64 (mk (isR xs n))) ∧ ∃ q, w' = w.drewN q := by
  have HN := Lib.hid hn
  by_cases h26 : n < 26
  · have h1 : decide ((n : Int) < 26) = true := by simp; omega
    have HI : Hid (isR xs n = false) := Lib.hid (by unfold isR; rw [show decide (26 ≤ n) = false from by simp; omega]; rfl)
    clear hr hB hn
    go_enter Try.func39, Try.ntmps39
    go_wp2_with fail
    go_ret
    exact ⟨by rw [HI.out]; rfl, 0, rfl⟩
  · have h1 : decide ((n : Int) < 26) = false := by simp; omega
    obtain ⟨b, off, y, rfl, hc0, HY0⟩ := hr.at 0 (by omega)
    obtain ⟨b', off', y1, hA, hc1, HY1⟩ := hr.at 1 (by omega)
    cases hA
    obtain ⟨Y, hY⟩ : ∃ Y : Nat, y = (Y : Int) := ⟨y.toNat, by have := hB 0; have := HY0.out; omega⟩
    obtain ⟨Z, hZ⟩ : ∃ Z : Nat, y1 = (Z : Int) := ⟨y1.toNat, by have := hB 1; have := HY1.out; omega⟩
    have hY8 : Y < 256 := by have := hB 0; have := HY0.out; omega
    have hZ8 : Z < 256 := by have := hB 1; have := HY1.out; omega
    subst hY hZ
    rw [Nat.add_zero] at hc0
    have HI : Hid (isR xs n = (decide (Y < 2) && decide (Z < 2))) := Lib.hid (by
      unfold isR
      rw [show decide (26 ≤ n) = true from by simp; omega, ← HY0.out, ← HY1.out]; simp)
    have hwY : IntKind.u64.wrap (Y : Int) = (Y : Int) := by simp [IntKind.wrap, IntKind.bits, IntKind.signed]; omega
    have hwZ : IntKind.u64.wrap (Z : Int) = (Z : Int) := by simp [IntKind.wrap, IntKind.bits, IntKind.signed]; omega
    have HL1 := Lib.hid (less2 Y)
    have HL2 := Lib.hid (less2 Z)
    have hn0 : 26 ≤ n := by omega
    clear hr hB hn h26
    go_enter Try.func39, Try.ntmps39
    go_wp2_with fail
    go_quiet (first | (go_at_call 46; first | with_reducible exact Calls.quiet_of_same (HL1.out _ hY8) | with_reducible exact Calls.quiet_of_same (HL2.out _ hZ8)))
    go_wp2_with fail
    go_ret
    exact ⟨by rw [HI.out, ← mk_and]; rfl, _, rfl⟩

theorem ris_any (A : Option Addr) (n c : Nat) (xs : List Int) (w : World) (hn : n = xs.length) (hr : Rd w .u8 A xs) (hB : B8 xs) :
    Calls Try.prog 37 #[.slice A n c] w fun e w' => e = .returned (.bool (isR xs n)) ∧ w' = w := by
  have HN := Lib.hid hn
  by_cases h26 : n < 26
  · have h1 : decide ((26 : Int) ≤ (n : Int)) = false := by simp; omega
    have h1' : decide (26 ≤ n) = false := by simp; omega
    have HI : Hid (isR xs n = false) := Lib.hid (by unfold isR; rw [h1']; rfl)
    clear hr hB hn
    go_enter Try.func37, Try.ntmps37
    go_wp2_with fail
    go_ret
    exact ⟨by rw [HI.out]; first | done | rfl, rfl⟩
  · have h1 : decide ((26 : Int) ≤ (n : Int)) = true := by simp; omega
    have h1' : decide (26 ≤ n) = true := by simp; omega
    obtain ⟨b, off, y, rfl, hc0, HY0⟩ := hr.at 0 (by omega)
    obtain ⟨b', off', y1, hA, hc1, HY1⟩ := hr.at 1 (by omega)
    cases hA
    obtain ⟨Y, hY⟩ : ∃ Y : Nat, y = (Y : Int) := ⟨y.toNat, by have := hB 0; have := HY0.out; omega⟩
    obtain ⟨Z, hZ⟩ : ∃ Z : Nat, y1 = (Z : Int) := ⟨y1.toNat, by have := hB 1; have := HY1.out; omega⟩
    subst hY hZ
    rw [Nat.add_zero] at hc0
    have HI : Hid (isR xs n = (decide (Y < 2) && decide (Z < 2))) := Lib.hid (by
      unfold isR
      rw [h1', ← HY0.out, ← HY1.out]; simp)
    have hn0 : 26 ≤ n := by omega
    clear hr hB hn h26
    by_cases hy : Y < 2
    · have e1 : decide ((Y : Int) ≤ 1) = true := by simp; omega
      by_cases hz : Z < 2
      · have e2 : decide ((Z : Int) ≤ 1) = true := by simp; omega
        go_enter Try.func37, Try.ntmps37
        go_wp2_with fail
        go_ret
        exact ⟨by rw [HI.out]; simp [hy, hz], rfl⟩
      · have e2 : decide ((Z : Int) ≤ 1) = false := by simp; omega
        go_enter Try.func37, Try.ntmps37
        go_wp2_with fail
        go_ret
        exact ⟨by rw [HI.out]; simp [hy, hz], rfl⟩
    · have e1 : decide ((Y : Int) ≤ 1) = false := by simp; omega
      go_enter Try.func37, Try.ntmps37
      go_wp2_with fail
      go_ret
      exact ⟨by rw [HI.out]; simp [hy], rfl⟩
end Go.Proofs.Ytedejkfhgpnhpaa

/-
  Walks: Live, ByIndex, the document's; the law's mask.
-/
import Derived.Test.YtedejkfhgpnhpaaNg
set_option linter.unusedVariables false
set_option linter.unusedSimpArgs false
namespace Go.Proofs.Ytedejkfhgpnhpaa
open Go.RowKit

theorem mk_t : mk true = 18446744073709551615 := rfl
theorem mk_f : mk false = 0 := rfl
/-- Is it a live record? Has the first the lower index? -/
def lvR (xs : List Int) (n : Nat) : Bool := isR xs n && decide ((xs.getD 0 0).toNat = 1)
def ixR (xs : List Int) (n : Nat) (ys : List Int) (m : Nat) : Bool := isR xs n && isR ys m && decide (numR xs 2 < numR ys 2)
theorem isR_26 {xs : List Int} {n : Nat} (h : isR xs n = true) : 26 ≤ n := by
  unfold isR at h
  simp at h
  exact h.1
theorem equal1 (Y : Nat) (w : World) (hY : Y < 256) : Calls Try.prog 42 #[.int .u64 Y, .int .u64 1] w fun e w' => e = .returned (.int .u64 (mk (decide (Y = 1)))) ∧ w' = w := by
  refine (equal_any (Y : Int) 1 w (by omega) (by omega) (by decide) (by decide)).mono ?_
  rintro e w' ⟨rfl, rfl⟩
  exact ⟨by congr 3; simp; omega, rfl⟩
theorem less_n (Y Z : Nat) (w : World) (hY : Y < 4294967296) (hZ : Z < 4294967296) : Calls Try.prog 46 #[.int .u64 Y, .int .u64 Z] w fun e w' => e = .returned (.int .u64 (mk (decide (Y < Z)))) ∧ w' = w := by
  refine (less_any (Y : Int) (Z : Int) w (by omega) (by omega) (by omega) (by omega)).mono ?_
  rintro e w' ⟨rfl, rfl⟩
  exact ⟨by congr 3; simp, rfl⟩

theorem lmask_any (b : Bool) (w : World) : Calls Try.prog 23 #[.bool b] w fun e w' => e = .returned (.int .u64 (mk b)) ∧ w' = w := by
  cases b
  · go_enter Try.func23, Try.ntmps23
    go_wp2_with fail
    go_ret
    exact ⟨rfl, rfl⟩
  · go_enter Try.func23, Try.ntmps23
    go_wp2_with fail
    go_ret
    exact ⟨rfl, rfl⟩

theorem live_any (A : Option Addr) (n c : Nat) (xs : List Int) (w : World) (hn : n = xs.length) (hr : Rd w .u8 A xs) (hB : B8 xs) :
    Calls Try.prog 22 #[.slice A n c] w fun e w' => e = .returned (.int .u64 (mk (lvR xs n))) ∧ ∃ q, w' = w.drewN q := by
  have HR := Lib.hid hr
  have HN := Lib.hid hn
  have HB := Lib.hid hB
  clear hn hr hB
  cases hI : isR xs n
  · have HL : Hid (lvR xs n = false) := Lib.hid (by unfold lvR; rw [hI]; rfl)
    have HI := Lib.hid hI
    clear hI
    go_enter Try.func22, Try.ntmps22
    go_wp2_with fail
    refine (is_any A n c xs w HN.out HR.out HB.out).mono ?_
    rintro e w' ⟨rfl, q, rfl⟩
    rw [HI.out, mk_f]
    go_wp2_with fail
    go_ret
    exact ⟨by rw [HL.out]; rfl, q, rfl⟩
  · have hn0 := isR_26 hI
    obtain ⟨b, off, y, rfl, hc0, HY⟩ := HR.out.at 0 (by have := HN.out; omega)
    obtain ⟨Y, hY⟩ : ∃ Y : Nat, y = (Y : Int) := ⟨y.toNat, by have := HB.out 0; have := HY.out; omega⟩
    have hY8 : Y < 256 := by have := HB.out 0; have := HY.out; omega
    subst hY
    rw [Nat.add_zero] at hc0
    have HL : Hid (lvR xs n = decide (Y = 1)) := Lib.hid (by unfold lvR; rw [hI, ← HY.out]; simp)
    have HI := Lib.hid hI
    have hwY : IntKind.u64.wrap (Y : Int) = (Y : Int) := by simp [IntKind.wrap, IntKind.bits, IntKind.signed]; omega
    clear hI
    go_enter Try.func22, Try.ntmps22
    go_wp2_with fail
    refine (is_any _ n c xs w HN.out HR.out HB.out).mono ?_
    rintro e w' ⟨rfl, q, rfl⟩
    rw [HI.out, mk_t]
    go_wp2_with fail
    refine (equal1 Y _ hY8).mono ?_
    rintro e w' ⟨rfl, rfl⟩
    go_wp2_with fail
    go_ret
    exact ⟨by rw [HL.out]; rfl, q, rfl⟩

theorem rlive_any (A : Option Addr) (n c : Nat) (xs : List Int) (w : World) (hn : n = xs.length) (hr : Rd w .u8 A xs) (hB : B8 xs) :
    Calls Try.prog 24 #[.slice A n c] w fun e w' => e = .returned (.bool (lvR xs n)) ∧ w' = w := by
  have HR := Lib.hid hr
  have HN := Lib.hid hn
  have HB := Lib.hid hB
  clear hn hr hB
  cases hI : isR xs n
  · have HL : Hid (lvR xs n = false) := Lib.hid (by unfold lvR; rw [hI]; rfl)
    have HI := Lib.hid hI
    clear hI
    go_enter Try.func24, Try.ntmps24
    go_wp2_with fail
    refine (ris_any A n c xs w HN.out HR.out HB.out).mono ?_
    rintro e w' ⟨rfl, rfl⟩
    rw [HI.out]
    go_wp2_with fail
    go_ret
    exact ⟨by rw [HL.out]; first | done | rfl, rfl⟩
  · have hn0 := isR_26 hI
    obtain ⟨b, off, y, rfl, hc0, HY⟩ := HR.out.at 0 (by have := HN.out; omega)
    obtain ⟨Y, hY⟩ : ∃ Y : Nat, y = (Y : Int) := ⟨y.toNat, by have := HB.out 0; have := HY.out; omega⟩
    subst hY
    rw [Nat.add_zero] at hc0
    have HL : Hid (lvR xs n = ((Y : Int) == 1)) := Lib.hid (by
      unfold lvR; rw [hI, ← HY.out]
      by_cases h : Y = 1
      · subst h; rfl
      · have h2 : ¬ (Y : Int) = 1 := by omega
        simp [h, h2])
    have HI := Lib.hid hI
    clear hI
    go_enter Try.func24, Try.ntmps24
    go_wp2_with fail
    refine (ris_any _ n c xs w HN.out HR.out HB.out).mono ?_
    rintro e w' ⟨rfl, rfl⟩
    rw [HI.out]
    go_wp2_with fail
    go_ret
    exact ⟨by rw [HL.out]; first | done | rfl | simp, rfl⟩

theorem byIndex_any (A B : Option Addr) (n c m d : Nat) (xs ys : List Int) (w : World) (hn : n = xs.length) (hm : m = ys.length) (hnc : n ≤ c) (hmd : m ≤ d) (hc63 : c ≤ 9223372036854775807) (hd63 : d ≤ 9223372036854775807) (hx : Rd w .u8 A xs) (hy : Rd w .u8 B ys) (hBx : B8 xs) (hBy : B8 ys) :
    Calls Try.prog 29 #[.slice A n c, .slice B m d] w fun e w' => e = .returned (.int .u64 (mk (ixR xs n ys m))) ∧ ∃ q, w' = w.drewN q := by
  have HX := Lib.hid hx
  have HY := Lib.hid hy
  have HN := Lib.hid hn
  have HM := Lib.hid hm
  have HBX := Lib.hid hBx
  have HBY := Lib.hid hBy
  clear hx hy hn hm hBx hBy
  cases hI : (isR xs n && isR ys m)
  · have HL : Hid (ixR xs n ys m = false) := Lib.hid (by unfold ixR; rw [hI]; rfl)
    have HI := Lib.hid hI
    clear hI
    go_enter Try.func29, Try.ntmps29
    go_wp2_with fail
    refine (is_any A n c xs w HN.out HX.out HBX.out).mono ?_
    rintro e w' ⟨rfl, q1, rfl⟩
    go_wp2_with fail
    refine (is_any B m d ys _ HM.out (HY.out.draws _) HBY.out).mono ?_
    rintro e w' ⟨rfl, q2, rfl⟩
    have ha : bits .and .u64 (mk (isR xs n)) (mk (isR ys m)) = 0 := by rw [mk_and, HI.out]; rfl
    go_wp2_with fail
    go_ret
    exact ⟨by rw [HL.out]; rfl, _, rfl⟩
  · have hI2 := hI
    rw [Bool.and_eq_true] at hI2
    have h1 := isR_26 hI2.1
    have h2 := isR_26 hI2.2
    have HL : Hid (ixR xs n ys m = decide (numR xs 2 < numR ys 2)) := Lib.hid (by unfold ixR; rw [hI]; simp)
    have HI := Lib.hid hI
    obtain ⟨X, hX⟩ : ∃ X, X = numR xs 2 := ⟨_, rfl⟩
    obtain ⟨Y, hY⟩ : ∃ Y, Y = numR ys 2 := ⟨_, rfl⟩
    have hXl : X < 4294967296 := hX ▸ numR_lt HBX.out 2
    have hYl : Y < 4294967296 := hY ▸ numR_lt HBY.out 2
    have hwX : IntKind.u64.wrap (X : Int) = (X : Int) := by simp [IntKind.wrap, IntKind.bits, IntKind.signed]; omega
    have hwY : IntKind.u64.wrap (Y : Int) = (Y : Int) := by simp [IntKind.wrap, IntKind.bits, IntKind.signed]; omega
    have HXE := Lib.hid hX
    have HYE := Lib.hid hY
    clear hI hI2 hX hY
    go_enter Try.func29, Try.ntmps29
    go_wp2_with fail
    refine (is_any A n c xs w HN.out HX.out HBX.out).mono ?_
    rintro e w' ⟨rfl, q1, rfl⟩
    go_wp2_with fail
    refine (is_any B m d ys _ HM.out (HY.out.draws _) HBY.out).mono ?_
    rintro e w' ⟨rfl, q2, rfl⟩
    have ha : bits .and .u64 (mk (isR xs n)) (mk (isR ys m)) = 18446744073709551615 := by rw [mk_and, HI.out]; rfl
    go_wp2_with fail
    refine (rnum_any A n c 2 xs _ HN.out hnc (HX.out.draws _) HBX.out (by omega) (by decide) hc63).mono ?_
    rintro e w' ⟨rfl, rfl⟩
    rw [← HXE.out]
    go_wp2_with fail
    refine (rnum_any B m d 2 ys _ HM.out hmd (HY.out.draws _) HBY.out (by omega) (by decide) hd63).mono ?_
    rintro e w' ⟨rfl, rfl⟩
    rw [← HYE.out]
    go_wp2_with fail
    refine (less_n X Y _ hXl hYl).mono ?_
    rintro e w' ⟨rfl, rfl⟩
    go_wp2_with fail
    go_ret
    exact ⟨by rw [HL.out, ← HXE.out, ← HYE.out]; rfl, _, rfl⟩
end Go.Proofs.Ytedejkfhgpnhpaa

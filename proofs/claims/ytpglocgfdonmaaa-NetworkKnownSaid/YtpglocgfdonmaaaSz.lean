/-
  Walk: the law NetworkSizes.
-/
import Derived.Test.YtpglocgfdonmaaaWs
set_option linter.unusedVariables false
set_option linter.unusedSimpArgs false
namespace Go.Proofs.Ytpglocgfdonmaaa
open Go.RowKit

theorem works_at (w : World) : Calls Try.prog 26 #[] w fun e w' => e = .returned (.bool true) ∧ Hid (Below w.heap.size w w') := works_any w
theorem pad_pow {e : Nat} (he : e ≤ 16) : padF ((2 ^ e : Nat) : Int) = ((2 ^ e : Nat) : Int) := by
  have hp1 : 1 ≤ 2 ^ e := Nat.one_le_two_pow
  have hp2 : 2 ^ e ≤ 2 ^ 16 := Nat.pow_le_pow_right (by omega) he
  unfold padF
  rw [if_pos (by omega)]
  have : (((2 ^ e : Nat) : Int) - 1).toNat = 2 ^ e - 1 := by omega
  rw [this, show lenN (2 ^ e - 1) = e from len_is (fun j hj => by have : 2 ^ j < 2 ^ e := Nat.pow_lt_pow_right (by omega) hj; omega) (by omega)]
/-- What Pad answers within the bounds. -/
theorem pad_in {N : Int} (h1 : 1 ≤ N) (h2 : N ≤ 65536) : ∃ L : Nat, L ≤ 16 ∧ padF N = ((2 ^ L : Nat) : Int) ∧ N ≤ ((2 ^ L : Nat) : Int) ∧ ((2 ^ L : Nat) : Int) < 2 * N ∧ (((((2 ^ L : Nat) : Int) == N) != sizeB N) = false) := by
  obtain ⟨n, hn⟩ : ∃ n : Nat, N - 1 = (n : Int) := ⟨(N - 1).toNat, by omega⟩
  have hl := len_16 n (by omega)
  have hlt := len_lt n
  have hP : padF N = ((2 ^ lenN n : Nat) : Int) := by unfold padF; rw [if_pos ⟨h1, h2⟩, hn]; simp
  refine ⟨lenN n, hl, hP, by omega, ?_, ?_⟩
  · cases hL : lenN n with
    | zero => simp; omega
    | succ d =>
      have := len_le (x := n) (j := d) (by omega)
      rw [Nat.pow_succ]
      omega
  · cases hs : sizeB N
    · have : ¬ ((2 ^ lenN n : Nat) : Int) = N := fun he => by
        rw [← he, pow_mem (Nat.pow_le_pow_right (by omega) hl)] at hs
        cases hs
      rw [show (((2 ^ lenN n : Nat) : Int) == N) = false from by rw [beq_eq_false_iff_ne]; exact this]
      rfl
    · obtain ⟨e, he, rfl⟩ := size_pow hs
      rw [← hP, pad_pow he]
      simp

set_option maxRecDepth 100000 in
theorem sizes_law (N : Int) (w : World) (hN : -9223372036854775808 ≤ N ∧ N ≤ 9223372036854775807) : Calls Try.prog 8 #[.int .i64 N] w fun e w' => e = .returned (.bool true) ∧ Below w.heap.size w w' := by
  have HP := Lib.hid (pad_any N w)
  have HG := Lib.hid (gates_any N w)
  have HZ := Lib.hid (lsize_any N w)
  by_cases hin : 1 ≤ N ∧ N ≤ 65536
  · obtain ⟨h1, h2⟩ := hin
    obtain ⟨L, hL, hp, h3, h4, h5⟩ := pad_in h1 h2
    have HP2 : Hid (Calls Try.prog 17 #[.int .i64 ((2 ^ L : Nat) : Int)] w fun e w' => e = .returned (.int .i64 ((2 ^ L : Nat) : Int)) ∧ w' = w) := Lib.hid (by have h := pad_any ((2 ^ L : Nat) : Int) w; rw [pad_pow hL] at h; exact h)
    have HZ2 : Hid (Calls Try.prog 29 #[.int .i64 ((2 ^ L : Nat) : Int)] w fun e w' => e = .returned (.bool true) ∧ w' = w) := Lib.hid (by have h := lsize_any ((2 ^ L : Nat) : Int) w; rw [pow_mem (Nat.pow_le_pow_right (by omega) hL)] at h; exact h)
    have HC := Lib.hid (gates_count hL)
    have HG2 := Lib.hid (gates_any ((2 ^ L : Nat) : Int) w)
    have hpb : 2 ^ L ≤ 65536 := Nat.pow_le_pow_right (n := 2) (by omega) hL
    rw [hp] at HP
    have HPK : Hid (∀ k, 2 ^ k < 2 ^ L → k + 1 ≤ L) := Lib.hid (fun k hk => by
      rcases Nat.lt_or_ge k L with h | h
      · exact h
      · have : 2 ^ L ≤ 2 ^ k := Nat.pow_le_pow_right (by omega) h
        omega)
    have HPL : Hid (∀ k, k ≤ L → ¬ 2 ^ k < 2 ^ L → k = L) := Lib.hid (fun k hk hn => by
      rcases Nat.lt_or_ge k L with h | h
      · have : 2 ^ k < 2 ^ L := Nat.pow_lt_pow_right (by omega) h
        omega
      · omega)
    have hm : 2 ^ L * L * (L + 1) ≤ 17825792 := by
      have h1 : 2 ^ L * L ≤ 65536 * 16 := Nat.mul_le_mul hpb hL
      exact Nat.le_trans (Nat.mul_le_mul h1 (by omega : L + 1 ≤ 17)) (by omega)
    have hm0 : 2 ^ L * L ≤ 1048576 := Nat.mul_le_mul hpb hL
    have HGZ : Hid (sizeB N = false → (gatesF N).length = 0) := Lib.hid (fun h => by rw [gates_no h]; rfl)
    generalize 2 ^ L = p at *
    clear hp
    go_enter Try.func8, Try.ntmps8
    go_wp2_with fail
    refine HP.out.mono ?_
    rintro e w' ⟨rfl, hw⟩
    obtain rfl : w = w' := hw.symm
    have d1 : decide (N < 1) = false := by simp; omega
    have d2 : decide ((65536 : Int) < N) = false := by simp; omega
    have d3 : decide ((p : Int) < N) = false := by simp; omega
    have m1 : IntKind.i64.wrap (2 * N) = 2 * N := by rw [IntKind.wrap_i64] <;> omega
    have d4 : decide (2 * N ≤ (p : Int)) = false := by simp; omega
    go_wp2_with fail
    refine HZ2.out.mono ?_
    rintro e w' ⟨rfl, hw⟩
    obtain rfl : w = w' := hw.symm
    go_wp2_with fail
    refine HZ.out.mono ?_
    rintro e w' ⟨rfl, hw⟩
    obtain rfl : w = w' := hw.symm
    generalize hsb : sizeB N = sb at *
    have HSB := Lib.hid hsb
    have hq : ((p : Int) == N) = sb := by
      cases hx : ((p : Int) == N) <;> cases sb <;> simp_all
    clear hsb h5
    go_wp2_with fail
    refine HP2.out.mono ?_
    rintro e w' ⟨rfl, hw⟩
    obtain rfl : w = w' := hw.symm
    go_wp2_with fail
    go_loopw [4, 5] (fun tv sv wr => ∃ k : Nat, tv = .int .i64 (k : Int) ∧ sv = .int .i64 ((2 ^ k : Nat) : Int) ∧ k ≤ L ∧ wr = w) (fun _ sv _ => ((p : Int) - intOf sv).toNat)
    case atStart => exact ⟨0, rfl, rfl, by omega, rfl⟩
    case round =>
      obtain ⟨k, rfl, rfl, hk, rfl⟩ := hrel
      have hp1 : 1 ≤ 2 ^ k := Nat.one_le_two_pow
      have hp2 : 2 ^ (k + 1) = 2 * 2 ^ k := by rw [Nat.pow_succ, Nat.mul_comm]
      by_cases hs : 2 ^ k < p
      · have hk2 : Hid (k + 1 ≤ L) := Lib.hid (HPK.out k hs)
        have HPW := Lib.hid hp2
        clear hp2
        generalize 2 ^ k = s at *
        have hs' : (s : Int) < (p : Int) := by omega
        have m2 : IntKind.i64.wrap (2 * (s : Int)) = ((2 * s : Nat) : Int) := by rw [IntKind.wrap_i64] <;> omega
        have m3 : IntKind.i64.wrap ((k : Int) + 1) = ((k + 1 : Nat) : Int) := by rw [IntKind.wrap_i64] <;> omega
        go_wp2_with fail
        go_roundw
        case rel => exact ⟨k + 1, by simp, by rw [HPW.out]; simp, hk2.out, by first | rfl | trivial⟩
        case measure => simp [intOf]; omega
      · have hkL := HPL.out k hk hs
        clear hp2
        generalize 2 ^ k = s at *
        subst hkL
        have hs' : ¬ (s : Int) < (p : Int) := by omega
        have c1 : (p : Int) * (k : Int) = ((p * k : Nat) : Int) := by simp
        generalize hq1 : p * k = q1 at *
        have c2 : (q1 : Int) * ((k : Int) + 1) = ((q1 * (k + 1) : Nat) : Int) := by simp
        generalize hr1 : q1 * (k + 1) = r at *
        generalize hg : (gatesF (p : Int)).length = g at *
        have e1 : IntKind.i64.wrap (p * k : Int) = (q1 : Int) := by rw [c1, IntKind.wrap_i64] <;> omega
        have e2 : IntKind.i64.wrap ((q1 : Int) * ((k : Int) + 1)) = (r : Int) := by rw [c2, IntKind.wrap_i64] <;> omega
        have e3 : Int.tdiv (r : Int) 4 = (g : Int) := by rw [Int.tdiv_eq_ediv_of_nonneg (by omega)]; have := HC.out; omega
        have e4 : wrap64 (g : Int) = (g : Int) := IntWalk.wrap64_in (g : Int) (by have := HC.out; omega)
        clear hq1 hr1 hg c1 c2
        go_wp2_with fail
        refine HG2.out.mono ?_
        rintro e w' ⟨rfl, hw⟩
        obtain rfl : wr = w' := hw.symm
        go_wp2_with fail
        refine HZ.out.mono ?_
        rintro e w' ⟨rfl, hw⟩
        obtain rfl : wr = w' := hw.symm
        cases sb
        · have HG0 := HGZ.out rfl
          go_wp2_with fail
          refine HG.out.mono ?_
          rintro e w' ⟨rfl, hw⟩
          obtain rfl : wr = w' := hw.symm
          rw [HG0]
          go_wp2_with fail
          refine (works_at wr).mono ?_
          rintro e w' ⟨rfl, HW⟩
          go_wp2_with fail
          go_ret
          exact ⟨rfl, HW.out⟩
        · go_wp2_with fail
          refine (works_at wr).mono ?_
          rintro e w' ⟨rfl, HW⟩
          go_wp2_with fail
          go_ret
          exact ⟨rfl, HW.out⟩
  · have hp : padF N = 0 := by unfold padF; rw [if_neg hin]
    have hg : (gatesF N).length = 0 := by
      rw [gates_no]
      · rfl
      · cases hs : sizeB N
        · rfl
        · exact absurd (size_range hs) hin
    rw [hp] at HP
    rw [hg] at HG
    clear hp hg HZ
    by_cases h1 : N < 1
    · have d1 : decide (N < 1) = true := by simp; omega
      go_enter Try.func8, Try.ntmps8
      go_wp2_with fail
      refine HP.out.mono ?_
      rintro e w' ⟨rfl, hw⟩
      obtain rfl : w = w' := hw.symm
      go_wp2_with fail
      refine HG.out.mono ?_
      rintro e w' ⟨rfl, hw⟩
      obtain rfl : w = w' := hw.symm
      go_wp2_with fail
      refine (works_at w).mono ?_
      rintro e w' ⟨rfl, HW⟩
      go_wp2_with fail
      go_ret
      exact ⟨rfl, HW.out⟩
    · have d1 : decide (N < 1) = false := by simp; omega
      have d2 : decide ((65536 : Int) < N) = true := by simp; omega
      go_enter Try.func8, Try.ntmps8
      go_wp2_with fail
      refine HP.out.mono ?_
      rintro e w' ⟨rfl, hw⟩
      obtain rfl : w = w' := hw.symm
      go_wp2_with fail
      refine HG.out.mono ?_
      rintro e w' ⟨rfl, hw⟩
      obtain rfl : w = w' := hw.symm
      go_wp2_with fail
      refine (works_at w).mono ?_
      rintro e w' ⟨rfl, HW⟩
      go_wp2_with fail
      go_ret
      exact ⟨rfl, HW.out⟩
end Go.Proofs.Ytpglocgfdonmaaa

/-
  Walks: the document's Little, Big; the law's little, big.
-/
import Derived.Test.YtcibhaoilcohbaaNu
import Derived.Test.YtcibhaoilcohbaaRf
set_option linter.unusedVariables false
set_option linter.unusedSimpArgs false
namespace Go.Proofs.Ytcibhaoilcohbaa
open Go.RowKit

theorem leV_cons (xs : List Int) (j : Nat) : leV xs (j + 1) = (xs.getD 0 0).toNat + 256 * leV (xs.drop 1) j := by
  induction j with
  | zero => simp [leV]
  | succ j ih =>
    have e1 : leV xs (j + 2) = leV xs (j + 1) + (xs.getD (j + 1) 0).toNat * 256 ^ (j + 1) := rfl
    have e2 : leV (xs.drop 1) (j + 1) = leV (xs.drop 1) j + ((xs.drop 1).getD j 0).toNat * 256 ^ j := rfl
    have e3 : (xs.drop 1).getD j 0 = xs.getD (j + 1) 0 := by simp [List.getD, Nat.add_comm]
    rw [e1, ih, e2, e3, Nat.mul_add, Nat.pow_succ]
    have : (xs.getD (j + 1) 0).toNat * (256 ^ j * 256) = 256 * ((xs.getD (j + 1) 0).toNat * 256 ^ j) := by
      rw [Nat.mul_comm (256 ^ j) 256, Nat.mul_left_comm]
    omega
theorem B8.drop {xs : List Int} (h : B8 xs) (k : Nat) : B8 (xs.drop k) := fun i => by
  have e : (xs.drop k).getD i 0 = xs.getD (k + i) 0 := by simp [List.getD]
  rw [e]; exact h _
theorem B8.rev {xs : List Int} (h : B8 xs) : B8 xs.reverse := fun i => by
  by_cases hi : i < xs.length
  · have e : xs.reverse.getD i 0 = xs.getD (xs.length - 1 - i) 0 := by simp [List.getD, List.getElem?_reverse hi]
    rw [e]; exact h _
  · have e : xs.reverse.getD i 0 = 0 := by simp [List.getD, Nat.le_of_not_lt hi]
    rw [e]; omega
theorem pow_le8 {j : Nat} (h : j ≤ 7) : 256 ^ j ≤ 256 ^ 7 := Nat.pow_le_pow_right (by decide) h
theorem litR_lt {xs : List Int} (h : B8 xs) (n s : Nat) : litR xs n s < 256 ^ s := by
  unfold litR
  split
  · next e => rw [e]; exact leV_lt h s
  · exact Nat.pow_pos (by decide)
theorem bigR_lt {xs : List Int} (h : B8 xs) (n s : Nat) : bigR xs n s < 256 ^ s := by
  unfold bigR
  split
  · next e => rw [e]; exact leV_lt h.rev s
  · exact Nat.pow_pos (by decide)

set_option maxHeartbeats 1000000 in
theorem rlit_any (A : Option Addr) (n c s : Nat) (xs : List Int) (w : World) (hn : n = xs.length) (hr : Rd w .u8 A xs) (hB : B8 xs) (hs : s ≤ 8) (hs1 : 1 ≤ s) :
    Calls Try.prog 28 #[.slice A n c, .int .i64 s] w fun e w' => e = .returned (.tuple #[.int .u64 (litR xs n s : Nat), .int .i64 (errR n s)]) ∧ w' = w := by
  have HR := Lib.hid hr
  have HN := Lib.hid hn
  have HB := Lib.hid hB
  clear hr hn hB
  by_cases h1 : n < s
  · have he : errR n s = 20 := by simp [errR, h1]
    have hv : litR xs n s = 0 := by unfold litR; rw [if_neg (by omega)]
    have HVV := Lib.hid hv
    have HEE := Lib.hid he
    clear he hv
    have h2 : decide ((n : Int) < (s : Int)) = true := by simp; omega
    go_enter Try.func28, Try.ntmps28
    go_wp2_with fail
    go_ret2
    exact ⟨by rw [HVV.out, HEE.out]; first | done | rfl, rfl⟩
  · have h2 : decide ((n : Int) < (s : Int)) = false := by simp; omega
    by_cases h3 : s < n
    · have he : errR n s = 21 := by simp [errR, h1, h3]
      have hv : litR xs n s = 0 := by unfold litR; rw [if_neg (by omega)]
      have HVV := Lib.hid hv
      have HEE := Lib.hid he
      clear he hv
      have h4 : decide ((s : Int) < (n : Int)) = true := by simp; omega
      go_enter Try.func28, Try.ntmps28
      go_wp2_with fail
      go_ret2
      exact ⟨by rw [HVV.out, HEE.out]; first | done | rfl, rfl⟩
    · have h4 : decide ((s : Int) < (n : Int)) = false := by simp; omega
      obtain rfl : n = s := by omega
      have he : errR n n = 0 := by simp [errR]
      have hv : litR xs n n = leV xs n := by unfold litR; rw [if_pos rfl]
      have HVV := Lib.hid hv
      have HEE := Lib.hid he
      have hw0 : IntKind.i64.wrap ((n : Int) - 1) = (n : Int) - 1 := by simp [IntKind.wrap, IntKind.bits, IntKind.signed]; omega
      clear he hv
      go_enter Try.func28, Try.ntmps28
      go_wp2_with fail
      go_loop [6, 7] (fun v i => ∃ (j V : Nat) (z : Int), j ≤ n ∧ i = .int .i64 z ∧ z = (n : Int) - 1 - j ∧ v = .int .u64 V ∧ Hid (V = leV (xs.drop (n - j)) j)) (fun _ i => ((intOf i) + 1).toNat)
      case atStart => exact ⟨0, 0, _, Nat.zero_le _, rfl, by omega, rfl, Lib.hid rfl⟩
      case round =>
        clear hw0 h1 h2 h3 h4
        obtain ⟨j, V, z, hj, rfl, hz, rfl, HV⟩ := hrel
        by_cases hlt : j < n
        · obtain ⟨m, hm⟩ : ∃ m : Nat, z = (m : Int) := ⟨z.toNat, by omega⟩
          subst hm
          have hmj : Hid (m + 1 = n - j ∧ m = n - (j + 1)) := Lib.hid (by omega)
          have hmn : m < n := by omega
          obtain ⟨b, off, y, rfl, hc, HY⟩ := HR.out.at m (by have := HN.out; omega)
          obtain ⟨Y, hY⟩ : ∃ Y : Nat, y = (Y : Int) := ⟨y.toNat, by have := HB.out m; have := HY.out; omega⟩
          have hY8 : Y < 256 := by have := HB.out m; have := HY.out; omega
          subst hY
          have hVC : V < 256 ^ j := by rw [HV.out]; exact leV_lt (HB.out.drop _) j
          have hV7 : V < 72057594037927936 := Nat.lt_of_lt_of_le hVC (pow_le8 (by omega))
          have hwA : IntKind.u64.wrap ((V : Int) * 256) = ((V * 256 : Nat) : Int) := by simp [IntKind.wrap, IntKind.bits, IntKind.signed]; omega
          have hwB : IntKind.u64.wrap (((V * 256 : Nat) : Int) + (Y : Int)) = ((V * 256 + Y : Nat) : Int) := by simp [IntKind.wrap, IntKind.bits, IntKind.signed]; omega
          have hwY : IntKind.u64.wrap (Y : Int) = (Y : Int) := by simp [IntKind.wrap, IntKind.bits, IntKind.signed]; omega
          have hw1 : IntKind.i64.wrap ((m : Int) - 1) = (m : Int) - 1 := by simp [IntKind.wrap, IntKind.bits, IntKind.signed]; omega
          have HNX : Hid (V * 256 + Y = leV (xs.drop (n - (j + 1))) (j + 1)) := Lib.hid (by
            have e1 : xs.getD m 0 = (xs.drop m).getD 0 0 := by simp [List.getD]
            have e2 : ((xs.drop m).getD 0 0).toNat = Y := by rw [← e1, ← HY.out]; rfl
            rw [← hmj.out.2, leV_cons, e2, List.drop_drop, hmj.out.1, ← HV.out]; omega)
          have HZ := Lib.hid hz
          clear hz hVC
          go_wp2_with fail
          go_round
          case rel => exact ⟨j + 1, V * 256 + Y, (m : Int) - 1, by omega, rfl, by have := HZ.out; omega, by first | rfl | (congr 1; omega), HNX⟩
          case measure => simp [intOf]
        · have HK : Hid (j = n) := Lib.hid (by omega)
          have hz2 : z = -1 := by omega
          subst hz2
          go_wp2_with fail
          go_ret2
          exact ⟨by rw [HVV.out, HEE.out, HV.out, HK.out, Nat.sub_self, List.drop_zero]; first | done | rfl, rfl⟩

theorem rbig_any (A : Option Addr) (n c s : Nat) (xs : List Int) (w : World) (hn : n = xs.length) (hr : Rd w .u8 A xs) (hB : B8 xs) (hs : s ≤ 8) (hs1 : 1 ≤ s) (hl : xs.length ≤ 140737488355000) :
    Calls Try.prog 29 #[.slice A n c, .int .i64 s] w fun e w' => e = .returned (.tuple #[.int .u64 (bigR xs n s : Nat), .int .i64 (errR n s)]) ∧ Below w.heap.size w w' := by
  have HR := Lib.hid hr
  have HN := Lib.hid hn
  have HB := Lib.hid hB
  clear hr hn hB
  go_enter Try.func29, Try.ntmps29
  go_wp2_with fail
  refine (turned_any A n c xs w HN.out HR.out hl).mono ?_
  rintro e w1 ⟨v1, rfl, o1, b1⟩
  have W1 := Lib.hid b1
  obtain ⟨A1, n1, c1, rfl⟩ : ∃ A n c, v1 = .slice A n c := by obtain ⟨A, c, h, _⟩ := o1.slice; exact ⟨A, _, c, h⟩
  have R1 : Hid (n1 = xs.reverse.length ∧ Rd w1 .u8 A1 xs.reverse) := Lib.hid (by
    obtain ⟨A, c, h, _, _, hr, _⟩ := o1.slice
    injection h with h1 h2 h3
    subst h1 h2
    exact ⟨rfl, hr⟩)
  have hnn : n1 = n := by have := R1.out.1; have := HN.out; rw [List.length_reverse] at *; omega
  subst hnn
  clear o1 b1
  go_wp2_with fail
  refine (rlit_any A1 n1 c1 s xs.reverse w1 R1.out.1 R1.out.2 HB.out.rev hs hs1).mono ?_
  rintro e w2 ⟨rfl, rfl⟩
  go_wp2_with fail
  go_ret2
  exact ⟨rfl, W1.out⟩

theorem lawLit_any (A : Option Addr) (n c s : Nat) (xs : List Int) (w : World) (hn : n = xs.length) (hr : Rd w .u8 A xs) (hB : B8 xs) (hs : Wd s) :
    Calls Try.prog 30 #[.slice A n c, .int .i64 s] w fun e w' => e = .returned (.tuple #[.int .u64 (litR xs n s : Nat), .int .i64 (errR n s)]) ∧ w' = w := by
  have HR := Lib.hid hr
  have HN := Lib.hid hn
  have HB := Lib.hid hB
  clear hr hn hB
  rcases hs with rfl | rfl | rfl | rfl
  · have hlt := litR_lt HB.out n 1
    obtain ⟨V, hV⟩ : ∃ V, V = litR xs n 1 := ⟨_, rfl⟩
    have hw : IntKind.u64.wrap (V : Int) = (V : Int) := by rw [← hV] at hlt; simp [IntKind.wrap, IntKind.bits, IntKind.signed]; omega
    have HC := Lib.hid (little8_any A n c xs w HN.out HR.out HB.out)
    rw [← hV] at HC ⊢
    clear hV hlt
    go_enter Try.func30, Try.ntmps30
    go_wp2_with fail
    refine HC.out.mono ?_
    rintro e w1 ⟨rfl, rfl⟩
    go_wp2_with fail
    go_ret2
    exact ⟨rfl, rfl⟩
  · have hlt := litR_lt HB.out n 2
    obtain ⟨V, hV⟩ : ∃ V, V = litR xs n 2 := ⟨_, rfl⟩
    have hw : IntKind.u64.wrap (V : Int) = (V : Int) := by rw [← hV] at hlt; simp [IntKind.wrap, IntKind.bits, IntKind.signed]; omega
    have HC := Lib.hid (little16_any A n c xs w HN.out HR.out HB.out)
    rw [← hV] at HC ⊢
    clear hV hlt
    go_enter Try.func30, Try.ntmps30
    go_wp2_with fail
    refine HC.out.mono ?_
    rintro e w1 ⟨rfl, rfl⟩
    go_wp2_with fail
    go_ret2
    exact ⟨rfl, rfl⟩
  · have hlt := litR_lt HB.out n 4
    obtain ⟨V, hV⟩ : ∃ V, V = litR xs n 4 := ⟨_, rfl⟩
    have hw : IntKind.u64.wrap (V : Int) = (V : Int) := by rw [← hV] at hlt; simp [IntKind.wrap, IntKind.bits, IntKind.signed]; omega
    have HC := Lib.hid (little32_any A n c xs w HN.out HR.out HB.out)
    rw [← hV] at HC ⊢
    clear hV hlt
    go_enter Try.func30, Try.ntmps30
    go_wp2_with fail
    refine HC.out.mono ?_
    rintro e w1 ⟨rfl, rfl⟩
    go_wp2_with fail
    go_ret2
    exact ⟨rfl, rfl⟩
  · have hlt := litR_lt HB.out n 8
    obtain ⟨V, hV⟩ : ∃ V, V = litR xs n 8 := ⟨_, rfl⟩
    have hw : IntKind.u64.wrap (V : Int) = (V : Int) := by rw [← hV] at hlt; simp [IntKind.wrap, IntKind.bits, IntKind.signed]; omega
    have HC := Lib.hid (little64_any A n c xs w HN.out HR.out HB.out)
    rw [← hV] at HC ⊢
    clear hV hlt
    go_enter Try.func30, Try.ntmps30
    go_wp2_with fail
    refine HC.out.mono ?_
    rintro e w1 ⟨rfl, rfl⟩
    go_wp2_with fail
    go_ret2
    exact ⟨rfl, rfl⟩

theorem lawBig_any (A : Option Addr) (n c s : Nat) (xs : List Int) (w : World) (hn : n = xs.length) (hr : Rd w .u8 A xs) (hB : B8 xs) (hs : Wd s) :
    Calls Try.prog 31 #[.slice A n c, .int .i64 s] w fun e w' => e = .returned (.tuple #[.int .u64 (bigR xs n s : Nat), .int .i64 (errR n s)]) ∧ w' = w := by
  have HR := Lib.hid hr
  have HN := Lib.hid hn
  have HB := Lib.hid hB
  clear hr hn hB
  rcases hs with rfl | rfl | rfl | rfl
  · have hlt := bigR_lt HB.out n 1
    obtain ⟨V, hV⟩ : ∃ V, V = bigR xs n 1 := ⟨_, rfl⟩
    have hw : IntKind.u64.wrap (V : Int) = (V : Int) := by rw [← hV] at hlt; simp [IntKind.wrap, IntKind.bits, IntKind.signed]; omega
    have HC := Lib.hid (big8_any A n c xs w HN.out HR.out HB.out)
    rw [← hV] at HC ⊢
    clear hV hlt
    go_enter Try.func31, Try.ntmps31
    go_wp2_with fail
    refine HC.out.mono ?_
    rintro e w1 ⟨rfl, rfl⟩
    go_wp2_with fail
    go_ret2
    exact ⟨rfl, rfl⟩
  · have hlt := bigR_lt HB.out n 2
    obtain ⟨V, hV⟩ : ∃ V, V = bigR xs n 2 := ⟨_, rfl⟩
    have hw : IntKind.u64.wrap (V : Int) = (V : Int) := by rw [← hV] at hlt; simp [IntKind.wrap, IntKind.bits, IntKind.signed]; omega
    have HC := Lib.hid (big16_any A n c xs w HN.out HR.out HB.out)
    rw [← hV] at HC ⊢
    clear hV hlt
    go_enter Try.func31, Try.ntmps31
    go_wp2_with fail
    refine HC.out.mono ?_
    rintro e w1 ⟨rfl, rfl⟩
    go_wp2_with fail
    go_ret2
    exact ⟨rfl, rfl⟩
  · have hlt := bigR_lt HB.out n 4
    obtain ⟨V, hV⟩ : ∃ V, V = bigR xs n 4 := ⟨_, rfl⟩
    have hw : IntKind.u64.wrap (V : Int) = (V : Int) := by rw [← hV] at hlt; simp [IntKind.wrap, IntKind.bits, IntKind.signed]; omega
    have HC := Lib.hid (big32_any A n c xs w HN.out HR.out HB.out)
    rw [← hV] at HC ⊢
    clear hV hlt
    go_enter Try.func31, Try.ntmps31
    go_wp2_with fail
    refine HC.out.mono ?_
    rintro e w1 ⟨rfl, rfl⟩
    go_wp2_with fail
    go_ret2
    exact ⟨rfl, rfl⟩
  · have hlt := bigR_lt HB.out n 8
    obtain ⟨V, hV⟩ : ∃ V, V = bigR xs n 8 := ⟨_, rfl⟩
    have hw : IntKind.u64.wrap (V : Int) = (V : Int) := by rw [← hV] at hlt; simp [IntKind.wrap, IntKind.bits, IntKind.signed]; omega
    have HC := Lib.hid (big64_any A n c xs w HN.out HR.out HB.out)
    rw [← hV] at HC ⊢
    clear hV hlt
    go_enter Try.func31, Try.ntmps31
    go_wp2_with fail
    refine HC.out.mono ?_
    rintro e w1 ⟨rfl, rfl⟩
    go_wp2_with fail
    go_ret2
    exact ⟨rfl, rfl⟩
end Go.Proofs.Ytcibhaoilcohbaa

/-
  The row of NoiseDraws: the Go function returns true whatever the input, and its arguments read as they did; where what it reads is of bulk at most 1048576; conditions: that bound and none but the row's own.
-/
import Derived.Test.YtcfbaildcocnhaaRt
import Derived.Test.YtcfbaildcocnhaaTd
import Derived.Test.YtcfbaildcocnhaaLz
import Derived.Test.YtcfbaildcocnhaaGt
import Derived.Test.YtcfbaildcocnhaaEi
import Derived.Test.YtcfbaildcocnhaaRw
import Derived.Test.YtcfbaildcocnhaaRows
import Derived.Test.YtcfbaildcocnhaaOpn
import Derived.Test.YtcfbaildcocnhaaRx
import Derived.WalkKit
import Derived.ProofKit
import Derived.OpenShut
import Derived.ShutString
import Derived.ChangeOld
import Derived.Below
import Derived.SizedLaws
import Derived.JoinedCond
import Derived.Deep.CondSized
set_option linter.unusedVariables false
set_option linter.unusedSimpArgs false
namespace Go.Proofs.Ytcfbaildcocnhaa
open Go.RowKit

set_option maxHeartbeats 2000000 in
theorem rnext_any (R : Nat) (ks : List Int) (p : Nat) (w : World) (hs : RSrc w R ks p) (hk : ks.length = 32) (bk : B8 ks) (hp : p + 8 < 9223372036854775808) :
    Calls Try.prog 29 #[.pointer (some ⟨R, 0, none⟩)] w fun e w' => e = .returned (.int .u64 (numN ks p : Nat)) ∧ RSrc w' R ks (p + 8) ∧ Fr (fun b => b = R) w w' := by
  have HT := Lib.hid (rtake_any R 8 ks p w hs hk bk (by decide) hp)
  clear hs hk bk hp
  go_enter Try.func29, Try.ntmps29
  go_wp2_with fail
  refine HT.out.mono ?_
  rintro e w1 ⟨v, rfl, ho, hs, hf⟩
  obtain ⟨A, c, rfl, -, -, hr, -⟩ := ho.slice
  rw [rowL_len]
  have HR := Lib.hid hr
  have HB : Hid (B8 (rowL ks p 8)) := Lib.hid (rowL_B8 _ _ _)
  have LX : Hid ((rowL ks p 8).length = 8) := Lib.hid (rowL_len _ _ _)
  have HS := Lib.hid hs
  have HF := Lib.hid hf
  have HE : Hid (leV (rowL ks p 8) 8 = numN ks p) := Lib.hid rfl
  obtain ⟨xs, hxs⟩ : ∃ xs, xs = rowL ks p 8 := ⟨_, rfl⟩
  rw [← hxs] at HR HB LX HE
  clear ho hs hf hr HT hxs
  go_wp2_with fail
  go_loop [4, 5] (fun v i => ∃ k V : Nat, k ≤ 8 ∧ i = .int .i64 (7 - (k : Int)) ∧ v = .int .u64 V ∧ Hid (V = numB xs k)) (fun _ i => (intOf i + 1).toNat)
  case atStart => exact ⟨0, 0, Nat.zero_le _, rfl, rfl, Lib.hid rfl⟩
  case round =>
    obtain ⟨k, V, hk, rfl, rfl, HV⟩ := hrel
    by_cases hlt : k < 8
    · obtain ⟨b, off, y, rfl, hc, HY⟩ := HR.out.at (7 - k) (by have := LX.out; omega)
      obtain ⟨Y, hY⟩ : ∃ Y : Nat, y = (Y : Int) := ⟨y.toNat, by have := HB.out (7 - k); have := HY.out; omega⟩
      have hY8 : Y < 256 := by have := HB.out (7 - k); have := HY.out; omega
      subst hY
      have HY2 : Hid ((xs.getD (7 - k) 0).toNat = Y) := Lib.hid (by have := HY.out; omega)
      have hVC : V < 256 ^ k := by rw [HV.out]; exact numB_lt HB.out k
      have hk4 : k = 0 ∨ k = 1 ∨ k = 2 ∨ k = 3 ∨ k = 4 ∨ k = 5 ∨ k = 6 ∨ k = 7 := by omega
      rcases hk4 with rfl | rfl | rfl | rfl | rfl | rfl | rfl | rfl
      · have i1 : (7 : Int) - (((0 : Nat) : Nat) : Int) = 7 := rfl
        rw [i1]
        have w1 : IntKind.u64.wrap ((V : Int) * 256) = ((V * 256 : Nat) : Int) := by rw [IntKind.wrap_u64] <;> omega
        have w2 : IntKind.u64.wrap (((V * 256 : Nat) : Int) + (Y : Int)) = ((V * 256 + Y : Nat) : Int) := by rw [IntKind.wrap_u64] <;> omega
        have w3 : IntKind.u64.wrap (Y : Int) = (Y : Int) := by rw [IntKind.wrap_u64] <;> omega
        have w4 : IntKind.u64.wrap ((V : Int) * 256 + (Y : Int)) = ((V * 256 + Y : Nat) : Int) := by rw [IntKind.wrap_u64] <;> omega
        go_wp2_with fail
        go_round
        case rel => exact ⟨1, V * 256 + Y, by omega, rfl, rfl, Lib.hid (by unfold numB; rw [← HV.out, HY2.out])⟩
        case measure => simp [intOf]
      · have i1 : (7 : Int) - (((1 : Nat) : Nat) : Int) = 6 := rfl
        rw [i1]
        have w1 : IntKind.u64.wrap ((V : Int) * 256) = ((V * 256 : Nat) : Int) := by rw [IntKind.wrap_u64] <;> omega
        have w2 : IntKind.u64.wrap (((V * 256 : Nat) : Int) + (Y : Int)) = ((V * 256 + Y : Nat) : Int) := by rw [IntKind.wrap_u64] <;> omega
        have w3 : IntKind.u64.wrap (Y : Int) = (Y : Int) := by rw [IntKind.wrap_u64] <;> omega
        have w4 : IntKind.u64.wrap ((V : Int) * 256 + (Y : Int)) = ((V * 256 + Y : Nat) : Int) := by rw [IntKind.wrap_u64] <;> omega
        go_wp2_with fail
        go_round
        case rel => exact ⟨2, V * 256 + Y, by omega, rfl, rfl, Lib.hid (by unfold numB; rw [← HV.out, HY2.out])⟩
        case measure => simp [intOf]
      · have i1 : (7 : Int) - (((2 : Nat) : Nat) : Int) = 5 := rfl
        rw [i1]
        have w1 : IntKind.u64.wrap ((V : Int) * 256) = ((V * 256 : Nat) : Int) := by rw [IntKind.wrap_u64] <;> omega
        have w2 : IntKind.u64.wrap (((V * 256 : Nat) : Int) + (Y : Int)) = ((V * 256 + Y : Nat) : Int) := by rw [IntKind.wrap_u64] <;> omega
        have w3 : IntKind.u64.wrap (Y : Int) = (Y : Int) := by rw [IntKind.wrap_u64] <;> omega
        have w4 : IntKind.u64.wrap ((V : Int) * 256 + (Y : Int)) = ((V * 256 + Y : Nat) : Int) := by rw [IntKind.wrap_u64] <;> omega
        go_wp2_with fail
        go_round
        case rel => exact ⟨3, V * 256 + Y, by omega, rfl, rfl, Lib.hid (by unfold numB; rw [← HV.out, HY2.out])⟩
        case measure => simp [intOf]
      · have i1 : (7 : Int) - (((3 : Nat) : Nat) : Int) = 4 := rfl
        rw [i1]
        have w1 : IntKind.u64.wrap ((V : Int) * 256) = ((V * 256 : Nat) : Int) := by rw [IntKind.wrap_u64] <;> omega
        have w2 : IntKind.u64.wrap (((V * 256 : Nat) : Int) + (Y : Int)) = ((V * 256 + Y : Nat) : Int) := by rw [IntKind.wrap_u64] <;> omega
        have w3 : IntKind.u64.wrap (Y : Int) = (Y : Int) := by rw [IntKind.wrap_u64] <;> omega
        have w4 : IntKind.u64.wrap ((V : Int) * 256 + (Y : Int)) = ((V * 256 + Y : Nat) : Int) := by rw [IntKind.wrap_u64] <;> omega
        go_wp2_with fail
        go_round
        case rel => exact ⟨4, V * 256 + Y, by omega, rfl, rfl, Lib.hid (by unfold numB; rw [← HV.out, HY2.out])⟩
        case measure => simp [intOf]
      · have i1 : (7 : Int) - (((4 : Nat) : Nat) : Int) = 3 := rfl
        rw [i1]
        have w1 : IntKind.u64.wrap ((V : Int) * 256) = ((V * 256 : Nat) : Int) := by rw [IntKind.wrap_u64] <;> omega
        have w2 : IntKind.u64.wrap (((V * 256 : Nat) : Int) + (Y : Int)) = ((V * 256 + Y : Nat) : Int) := by rw [IntKind.wrap_u64] <;> omega
        have w3 : IntKind.u64.wrap (Y : Int) = (Y : Int) := by rw [IntKind.wrap_u64] <;> omega
        have w4 : IntKind.u64.wrap ((V : Int) * 256 + (Y : Int)) = ((V * 256 + Y : Nat) : Int) := by rw [IntKind.wrap_u64] <;> omega
        go_wp2_with fail
        go_round
        case rel => exact ⟨5, V * 256 + Y, by omega, rfl, rfl, Lib.hid (by unfold numB; rw [← HV.out, HY2.out])⟩
        case measure => simp [intOf]
      · have i1 : (7 : Int) - (((5 : Nat) : Nat) : Int) = 2 := rfl
        rw [i1]
        have w1 : IntKind.u64.wrap ((V : Int) * 256) = ((V * 256 : Nat) : Int) := by rw [IntKind.wrap_u64] <;> omega
        have w2 : IntKind.u64.wrap (((V * 256 : Nat) : Int) + (Y : Int)) = ((V * 256 + Y : Nat) : Int) := by rw [IntKind.wrap_u64] <;> omega
        have w3 : IntKind.u64.wrap (Y : Int) = (Y : Int) := by rw [IntKind.wrap_u64] <;> omega
        have w4 : IntKind.u64.wrap ((V : Int) * 256 + (Y : Int)) = ((V * 256 + Y : Nat) : Int) := by rw [IntKind.wrap_u64] <;> omega
        go_wp2_with fail
        go_round
        case rel => exact ⟨6, V * 256 + Y, by omega, rfl, rfl, Lib.hid (by unfold numB; rw [← HV.out, HY2.out])⟩
        case measure => simp [intOf]
      · have i1 : (7 : Int) - (((6 : Nat) : Nat) : Int) = 1 := rfl
        rw [i1]
        have w1 : IntKind.u64.wrap ((V : Int) * 256) = ((V * 256 : Nat) : Int) := by rw [IntKind.wrap_u64] <;> omega
        have w2 : IntKind.u64.wrap (((V * 256 : Nat) : Int) + (Y : Int)) = ((V * 256 + Y : Nat) : Int) := by rw [IntKind.wrap_u64] <;> omega
        have w3 : IntKind.u64.wrap (Y : Int) = (Y : Int) := by rw [IntKind.wrap_u64] <;> omega
        have w4 : IntKind.u64.wrap ((V : Int) * 256 + (Y : Int)) = ((V * 256 + Y : Nat) : Int) := by rw [IntKind.wrap_u64] <;> omega
        go_wp2_with fail
        go_round
        case rel => exact ⟨7, V * 256 + Y, by omega, rfl, rfl, Lib.hid (by unfold numB; rw [← HV.out, HY2.out])⟩
        case measure => simp [intOf]
      · have i1 : (7 : Int) - (((7 : Nat) : Nat) : Int) = 0 := rfl
        rw [i1]
        have w1 : IntKind.u64.wrap ((V : Int) * 256) = ((V * 256 : Nat) : Int) := by rw [IntKind.wrap_u64] <;> omega
        have w2 : IntKind.u64.wrap (((V * 256 : Nat) : Int) + (Y : Int)) = ((V * 256 + Y : Nat) : Int) := by rw [IntKind.wrap_u64] <;> omega
        have w3 : IntKind.u64.wrap (Y : Int) = (Y : Int) := by rw [IntKind.wrap_u64] <;> omega
        have w4 : IntKind.u64.wrap ((V : Int) * 256 + (Y : Int)) = ((V * 256 + Y : Nat) : Int) := by rw [IntKind.wrap_u64] <;> omega
        rw [Nat.add_zero] at hc
        go_wp2_with fail
        go_round
        case rel => exact ⟨8, V * 256 + Y, by omega, rfl, rfl, Lib.hid (by unfold numB; rw [← HV.out, HY2.out])⟩
        case measure => simp [intOf]
    · obtain rfl : k = 8 := by omega
      have i1 : (7 : Int) - (((8 : Nat) : Nat) : Int) = -1 := rfl
      rw [i1]
      have i2 : decide ((0 : Int) ≤ -1) = false := by decide
      clear i1
      go_wp2_with fail
      go_ret
      exact ⟨by rw [← HE.out, ← numB_eq, ← HV.out]; rfl, HS.out, HF.out⟩
theorem over_eq {n : Nat} (h : 0 < n) (hn : n < 18446744073709551616) : (18446744073709551615 % n + 1 = n → ovr n = 0) ∧ (¬ 18446744073709551615 % n + 1 = n → ovr n = 18446744073709551615 % n + 1) := by
  have h1 : 18446744073709551616 % n = ovr n := by
    unfold ovr
    have := Nat.sub_add_cancel (Nat.le_of_lt hn)
    rw [← this, Nat.add_mod_right, this]
  have hm := Nat.mod_lt 18446744073709551615 h
  have h2 : 18446744073709551616 % n = (18446744073709551615 % n + 1) % n := by
    rw [Nat.mod_add_mod]
  constructor
  · intro e
    rw [← h1, h2, e, Nat.mod_self]
  · intro e
    rw [← h1, h2, Nat.mod_eq_of_lt (by omega)]
set_option maxHeartbeats 2000000 in
theorem rbelow_any (S n : Nat) (ks : List Int) (p : Nat) (w : World) (hs : RSrc w S ks p) (hk : ks.length = 32) (bk : B8 ks) (h0 : 0 < n) (hn : n < 18446744073709551616) (hp : p + 800 < 9223372036854775808) :
    Calls Try.prog 56 #[.pointer (some ⟨S, 0, none⟩), .int .u64 (n : Int)] w fun e w' => e = .returned (.int .u64 (belowN' ks n p : Nat)) ∧ RSrc w' S ks (belP ks n 99 p + 8) ∧ Fr (fun b => b = S) w w' := by
  have HN := Lib.hid (fun q W hs hq => rnext_any S ks q W hs hk bk hq)
  have HS := Lib.hid hs
  have HP := Lib.hid hp
  have hn0 : ¬ (n : Int) = 0 := by omega
  have hn1 : ((n : Int) == 0) = false := by simpa using hn0
  obtain ⟨O1, hO1⟩ : ∃ O1, O1 = 18446744073709551615 % n := ⟨_, rfl⟩
  have hO1n : O1 < n := by rw [hO1]; exact Nat.mod_lt _ h0
  have hrem : Int.tmod (18446744073709551615 : Int) (n : Int) = (O1 : Int) := by rw [Int.tmod_eq_emod_of_nonneg (by omega), hO1]; rfl
  have hwr : IntKind.u64.wrap ((O1 : Int) + 1) = ((O1 + 1 : Nat) : Int) := by rw [IntKind.wrap_u64] <;> omega
  have hwr0 : IntKind.u64.wrap (O1 : Int) = (O1 : Int) := by rw [IntKind.wrap_u64] <;> omega
  have HE := Lib.hid (over_eq h0 hn)
  rw [← hO1] at HE
  have hov := ovr_lt h0
  obtain ⟨O, hO⟩ : ∃ O, O = ovr n := ⟨_, rfl⟩
  have HO := Lib.hid hO
  rw [← hO] at hov HE
  clear hO hs hk bk hO1 hp
  have hwO : IntKind.u64.wrap (18446744073709551615 - (O : Int)) = ((18446744073709551615 - O : Nat) : Int) := by simp [IntKind.wrap, IntKind.bits, IntKind.signed]; omega
  obtain ⟨Q, hQ⟩ : ∃ Q, Q = 18446744073709551615 - O := ⟨_, rfl⟩
  have HQ := Lib.hid hQ
  rw [← hQ] at hwO
  clear hQ
  go_enter Try.func56, Try.ntmps56
  go_upto_if 15 with fail
  go_cut [5] from 8 (fun v5 wx => v5 = .int .u64 (O : Nat) ∧ wx = w)
  case first =>
    by_cases hc : O1 + 1 = n
    · have e1 : ((O1 : Int) + 1 == (n : Int)) = true := by simp; omega
      have e2 : decide ((O1 : Int) + 1 = (n : Int)) = true := decide_eq_true (by omega)
      have hz := HE.out.1 hc
      have HZ := Lib.hid hz
      clear hz hc
      go_wp2_with fail
      go_meet
      exact ⟨by rw [HZ.out]; rfl, rfl⟩
    · have e1 : ((O1 : Int) + 1 == (n : Int)) = false := by simp; omega
      have e2 : decide ((O1 : Int) + 1 = (n : Int)) = false := decide_eq_false (by omega)
      have hz := HE.out.2 hc
      have HZ := Lib.hid hz
      clear hz hc
      go_wp2_with fail
      go_meet
      exact ⟨by rw [HZ.out]; rfl, rfl⟩
  case rest =>
  obtain ⟨rfl, rfl⟩ := hcut
  clear hrem hwr hwr0
  go_wp2_with fail
  refine (HN.out p _ HS.out (by have := HP.out; omega)).mono ?_
  rintro e w1 ⟨rfl, ho⟩
  have HS1 := Lib.hid ho.1
  have HF1 := Lib.hid ho.2
  clear ho HS
  go_wp2_with fail
  go_loopw [6, 7] (fun vv iv wr => ∃ i q : Nat, iv = .int .i64 (i : Int) ∧ 1 ≤ i ∧ i ≤ 100 ∧ vv = .int .u64 (numN ks q : Nat) ∧ Hid (RSrc wr S ks (q + 8)) ∧ Hid (belP ks n 99 p = belP ks n (100 - i) q) ∧ Hid (Fr (fun b => b = S) wc wr) ∧ Hid (q + 8 ≤ p + 8 * i)) (fun _ iv _ => 100 - (intOf iv).toNat)
  case atStart => exact ⟨1, p, rfl, by omega, by omega, rfl, HS1, Lib.hid rfl, HF1, Lib.hid (by omega)⟩
  case round =>
    clear HS1 HF1
    obtain ⟨i, q, rfl, h1, h100, rfl, HSq, HB, HF, HQP⟩ := hrel
    have HST : Hid (∀ f, belP ks n (f + 1) q = if 18446744073709551615 - ovr n < numN ks q then belP ks n f (q + 8) else q) := Lib.hid (fun f => belP_step ks n f q)
    have hvl := numN_lt ks q
    obtain ⟨V, hV⟩ : ∃ V, V = numN ks q := ⟨_, rfl⟩
    have HV := Lib.hid hV
    rw [← hV] at hvl ⊢
    clear hV
    by_cases hi : i < 100
    · have hi' : (i : Int) < 100 := by omega
      have m1 : IntKind.i64.wrap ((i : Int) + 1) = ((i + 1 : Nat) : Int) := by rw [IntKind.wrap_i64] <;> omega
      by_cases hq : Q < V
      · have hq' : (Q : Int) < (V : Int) := by omega
        have ho0 : decide ((0 : Int) < (O : Int)) = true := decide_eq_true (by have := HQ.out; omega)
        have ho1 : decide (0 < O) = true := decide_eq_true (by have := HQ.out; omega)
        have HB2 : Hid (belP ks n 99 p = belP ks n (100 - (i + 1)) (q + 8)) := Lib.hid (by rw [HB.out, show 100 - i = (100 - (i + 1)) + 1 from by omega, HST.out, if_pos (by rw [← HV.out, ← HO.out, ← HQ.out]; exact hq)])
        go_wp2_with fail
        refine (HN.out (q + 8) wr HSq.out (by have := HQP.out; have := HP.out; omega)).mono ?_
        rintro e w2 ⟨rfl, ho⟩
        have HS2 := Lib.hid ho.1
        have HF2 := Lib.hid (HF.out.trans ho.2)
        clear ho
        go_wp2_with fail
        go_roundw
        case rel => exact ⟨i + 1, q + 8, by simp, by omega, by omega, rfl, HS2, HB2, HF2, Lib.hid (by have := HQP.out; omega)⟩
        case measure => simp [intOf]; omega
      · have hq' : decide ((Q : Int) < (V : Int)) = false := by simp; omega
        have HB2 : Hid (belP ks n 99 p = q) := Lib.hid (by rw [HB.out, show 100 - i = (100 - (i + 1)) + 1 from by omega, HST.out, if_neg (by rw [← HV.out, ← HO.out, ← HQ.out]; exact hq)])
        have hrm : Int.tmod (V : Int) (n : Int) = ((V % n : Nat) : Int) := by rw [Int.tmod_eq_emod_of_nonneg (by omega)]; omega
        by_cases hoz : O = 0
        · have ho0 : decide ((0 : Int) < (O : Int)) = false := decide_eq_false (by omega)
          have ho1 : decide (0 < O) = false := decide_eq_false (by omega)
          clear hoz
          go_wp2_with fail
          go_ret
          exact ⟨by unfold belowN'; rw [HB2.out, ← HV.out]; rfl, by rw [HB2.out]; exact HSq.out, HF.out⟩
        · have ho0 : decide ((0 : Int) < (O : Int)) = true := decide_eq_true (by omega)
          have ho1 : decide (0 < O) = true := decide_eq_true (by omega)
          clear hoz
          go_wp2_with fail
          go_ret
          exact ⟨by unfold belowN'; rw [HB2.out, ← HV.out]; rfl, by rw [HB2.out]; exact HSq.out, HF.out⟩
    · obtain rfl : i = 100 := by omega
      have HB2 : Hid (belP ks n 99 p = q) := Lib.hid (by rw [HB.out]; rfl)
      have hrm : Int.tmod (V : Int) (n : Int) = ((V % n : Nat) : Int) := by rw [Int.tmod_eq_emod_of_nonneg (by omega)]; omega
      go_wp2_with fail
      go_ret
      exact ⟨by unfold belowN'; rw [HB2.out, ← HV.out]; rfl, by rw [HB2.out]; exact HSq.out, HF.out⟩
theorem rbelow_none (S : Nat) (w : World) : Calls Try.prog 56 #[.pointer (some ⟨S, 0, none⟩), .int .u64 0] w fun e w' => e = .returned (.int .u64 0) ∧ w' = w := by
  go_enter Try.func56, Try.ntmps56
  go_wp2_with fail
  go_ret
  exact ⟨rfl, rfl⟩
theorem belP_le (ks : List Int) (n : Nat) : ∀ f p, belP ks n f p ≤ p + 8 * f
  | 0, p => Nat.le_refl _
  | f + 1, p => by
    rw [belP_step]
    split
    · have := belP_le ks n f (p + 8); omega
    · omega
theorem rbytes_some (R n : Nat) (ks : List Int) (p : Nat) (w : World) (hs : RSrc w R ks p) (hk : ks.length = 32) (bk : B8 ks) (h1 : 1 ≤ n) (h2 : n ≤ 1048576) (hp : p + n < 9223372036854775808) :
    Calls Try.prog 59 #[.pointer (some ⟨R, 0, none⟩), .int .i64 (n : Int)] w fun e w' => ∃ v, e = .returned v ∧ Own w' w.heap.size 5 .u8 v (rowL ks p n) ∧ RSrc w' R ks (p + n) ∧ Fr (fun b => b = R) w w' := by
  have HT := Lib.hid (rtake_any R n ks p w hs hk bk h2 hp)
  have d1 : decide ((n : Int) < 1) = false := decide_eq_false (by omega)
  have d2 : decide ((1048576 : Int) < (n : Int)) = false := decide_eq_false (by omega)
  have d3 : decide (n < 1) = false := decide_eq_false (by omega)
  have d4 : decide (1048576 < n) = false := decide_eq_false (by omega)
  clear hs hk bk h1 h2 hp
  go_enter Try.func59, Try.ntmps59
  go_wp2_with fail
  refine HT.out.mono ?_
  rintro e w1 ⟨v, rfl, ho⟩
  have HO := Lib.hid ho
  clear ho HT
  go_wp2_with fail
  go_ret
  exact ⟨v, rfl, HO.out⟩
theorem rbytes_none (R : Nat) (n : Int) (w : World) (h : n < 1 ∨ 1048576 < n) :
    Calls Try.prog 59 #[.pointer (some ⟨R, 0, none⟩), .int .i64 n] w fun e w' => e = .returned (.slice none 0 0) ∧ w' = w := by
  by_cases h1 : n < 1
  · have d1 : decide (n < 1) = true := decide_eq_true h1
    clear h
    go_enter Try.func59, Try.ntmps59
    go_wp2_with fail
    go_ret
    exact ⟨rfl, rfl⟩
  · have d1 : decide (n < 1) = false := decide_eq_false h1
    have h2 : 1048576 < n := by omega
    have d2 : decide (1048576 < n) = true := decide_eq_true h2
    clear h
    go_enter Try.func59, Try.ntmps59
    go_wp2_with fail
    go_ret
    exact ⟨rfl, rfl⟩
set_option maxRecDepth 100000 in
theorem rkey_any (R : Nat) (ks : List Int) (p : Nat) (w : World) (hs : RSrc w R ks p) (hk : ks.length = 32) (bk : B8 ks) (hp : p + 32 < 9223372036854775808) :
    Calls Try.prog 58 #[.pointer (some ⟨R, 0, none⟩)] w fun e w' => e = .returned (.agg (AY .u8 (rowL ks p 32))) ∧ RSrc w' R ks (p + 32) ∧ Fr (fun b => b = R) w w' := by
  have HT := Lib.hid (fun W hW => rtake_any R 32 ks p W hW hk bk (by decide) hp)
  have HS := Lib.hid hs
  have HSl := Lib.hid hs.lt
  clear hs hk bk hp
  go_enter Try.func58, Try.ntmps58
  go_upto_region 1 with fail
  generalize hG : w.heap.size = G
  generalize hW1 : w.alloc _ = w1
  have R1 : Hid (Blk w1 G 53 ((List.replicate 32 0).map (Value.int .u8))) := Lib.hid (by rw [← hW1]; exact Blk.new_at _ 53 _ hG.symm)
  have F1 : Hid (Below w.heap.size w w1) := Lib.hid (by rw [← hW1]; exact (Below.refl _ w).alloc (Nat.le_refl _) _)
  have HGE := Lib.hid hG
  clear hG hW1
  have S1 := Lib.hid (HS.out.below F1.out)
  go_wp2_with fail
  refine (HT.out w1 S1.out).mono ?_
  rintro e w2 ⟨v, rfl, ho, hs, hf⟩
  obtain ⟨A', c', rfl, -, -, hr', -⟩ := ho.slice
  rw [rowL_len]
  have HR2 := Lib.hid hr'
  have S2 := Lib.hid hs
  have NE : Hid (¬ G = R) := Lib.hid (by have := HSl.out; have := HGE.out; omega)
  have R2 := Lib.hid (R1.out.fr hf NE.out)
  have F2 : Hid (Fr (fun b => b = R) w w2) := Lib.hid ((Fr.of_below F1.out _).trans hf)
  clear ho hs hf hr' HT S1 R1 F1
  go_wp2_with fail
  refine (keyof_any A' c' (rowL ks p 32) w2 (rowL_len _ _ _) HR2.out).mono ?_
  rintro e w3 ⟨rfl, bb⟩
  have S3 := Lib.hid (S2.out.below bb)
  have R3 := Lib.hid (R2.out.below bb R2.out.lt)
  have F3 := Lib.hid (F2.out.trans (Fr.of_below bb _))
  clear bb S2 R2 F2
  have I2 : Hid ((Try.prog.info? 53).map (·.size) = some (AY .u8 (rowL ks p 32)).size) := Lib.hid (by rw [info31, AY_size, rowL_len])
  have Z2 : Hid ((((List.replicate 32 0).map (Value.int .u8)).toArray).size = (AY .u8 (rowL ks p 32)).size) := Lib.hid (by rw [AY_size, rowL_len]; rfl)
  go_wp2_with (first
    | (show wpList _ _ _ ({ dst := none, op := _, type := _, pos := _, after := _, guard := _ } :: _) _ _; refine wpList_store_row rfl 53 _ _ rfl G (AY .u8 (rowL ks p 32)) rfl rfl 53 _ R3.out I2.out Z2.out (AY_one _ _) ?_))
  refine bodyPost_ret (results_cell_row rfl _ _ G 53 (AY .u8 (rowL ks p 32)) (0, 0) _ rfl (setRow_heap _ _ _ _ _ _ R3.out) Try.underlying53 rfl I2.out) rfl ⟨rfl, ?_, ?_⟩
  · exact S3.out.fr (fr_row w3 G _) (fun e => NE.out e.symm)
  · exact F3.out.then (fr_row w3 G _) (fun i hi => .inr (by rw [hi]; have := HGE.out; omega))
end Go.Proofs.Ytcfbaildcocnhaa
set_option linter.unusedVariables false
set_option linter.unusedSimpArgs false
namespace Go.Proofs.Ytcfbaildcocnhaa
open Go.RowKit

/-- A number's float, halved k times. -/
def hW (m k : Nat) : Nat := if m = 0 then 0 else W m (-(k : Int))
theorem hW_53 (m : Nat) : hW m 53 = uW m := rfl
theorem hW_0 (m : Nat) (h : m < 9007199254740992) : floatOfInt .f64 (m : Int) = hW m 0 := by
  unfold hW
  by_cases hm : m = 0
  · subst hm; decide
  · rw [if_neg hm, float_nat, near_W0 m 0 (by omega) h (by have := log2_52 h; omega) (by have := log2_52 h; omega)]
    rfl
theorem read_two : Ieee.double.read 4611686018427387904 = .number false 4503599627370496 (-51) := by decide
theorem quo_half (m k : Nat) (h : m < 9007199254740992) (hk : k ≤ 53) : floatBits .quo .f64 (hW m k) 4611686018427387904 = some (hW m (k + 1)) := by
  unfold hW
  by_cases hm : m = 0
  · subst hm; rw [if_pos rfl, if_pos rfl]; decide
  · rw [if_neg hm, if_neg hm]
    have hl := log2_52 h
    have hr := read_W m (-(k : Int)) (by omega) h (by omega) (by omega)
    have hkr := kept_range (by omega : 0 < m) h
    rw [quo_num hr read_two (by omega)]
    show some (Ieee.double.nearest false _ _) = _
    have e1 : (4503599627370496 : Nat).log2 = 52 := by decide
    have e2 : (m * 2 ^ (52 - m.log2)).log2 = 52 := by
      rw [Nat.log2_eq_iff (by omega)]
      have a : (2 : Nat) ^ 52 = 4503599627370496 := by decide
      have b : (2 : Nat) ^ (52 + 1) = 9007199254740992 := by decide
      rw [a, b]
      exact hkr
    have e3 : quoN (m * 2 ^ (52 - m.log2)) 4503599627370496 = m * 2 ^ (55 - m.log2) := by
      unfold quoN
      rw [e1, e2]
      have d : (m * 2 ^ (52 - m.log2)) <<< (54 + 52 - 52) = (m * 2 ^ (52 - m.log2)) * 4 * 4503599627370496 := by
        rw [Nat.shiftLeft_eq, Nat.mul_assoc _ 4]
      rw [d, Nat.mul_div_cancel _ (by decide), Nat.mul_mod_left]
      have p : 2 ^ (55 - m.log2) = 2 ^ (52 - m.log2) * 8 := by
        rw [show 55 - m.log2 = (52 - m.log2) + 3 from by omega, Nat.pow_add]
      rw [p, ← Nat.mul_assoc m]
      generalize m * 2 ^ (52 - m.log2) = K
      show 2 * (K * 4) + 0 = K * 8
      omega
    have e4 : quoP (m * 2 ^ (52 - m.log2)) 4503599627370496 (-(k : Int) + m.log2 - 52) (-51) = -(k : Int) + m.log2 - 56 := by
      unfold quoP
      rw [e1, e2]
      omega
    rw [e3, e4, near_W m (55 - m.log2) _ (by omega) h (by omega) (by omega)]
    congr 2
    omega
theorem runit_any (R : Nat) (ks : List Int) (p : Nat) (w : World) (hs : RSrc w R ks p) (hk : ks.length = 32) (bk : B8 ks) (hp : p + 8 < 9223372036854775808) :
    Calls Try.prog 57 #[.pointer (some ⟨R, 0, none⟩)] w fun e w' => e = .returned (.float .f64 (uW (numN ks p / 2048))) ∧ RSrc w' R ks (p + 8) ∧ Fr (fun b => b = R) w w' := by
  have HT := Lib.hid (rnext_any R ks p w hs hk bk hp)
  have hnl := numN_lt ks p
  clear hs hk bk hp
  go_enter Try.func57, Try.ntmps57
  go_wp2_with fail
  refine HT.out.mono ?_
  rintro e w1 ⟨rfl, ho⟩
  have HO := Lib.hid ho
  clear ho HT
  obtain ⟨N, hN⟩ : ∃ N, N = numN ks p := ⟨_, rfl⟩
  have HNE := Lib.hid hN
  rw [← hN] at hnl ⊢
  clear hN
  obtain ⟨m, hm⟩ : ∃ m, m = N / 2048 := ⟨_, rfl⟩
  have hml : m < 9007199254740992 := by omega
  have HME := Lib.hid hm
  have hdiv : (N : Int).tdiv 2048 = (m : Int) := by rw [hm]; rfl
  have hdiv2 : (N : Int) / 2048 = (m : Int) := by omega
  have hwz : IntKind.u64.wrap (m : Int) = (m : Int) := by rw [IntKind.wrap_u64] <;> omega
  have hf0 := hW_0 m hml
  clear hm
  go_wp2_with fail
  clear hf0 hwz hdiv hdiv2
  go_loop [3, 4] (fun v i => ∃ k : Nat, k ≤ 53 ∧ i = .int .i64 k ∧ v = .float .f64 (hW m k)) (fun _ i => 53 - (intOf i).toNat)
  case atStart => exact ⟨0, Nat.zero_le _, rfl, rfl⟩
  case round =>
    obtain ⟨k, hk, rfl, rfl⟩ := hrel
    by_cases hlt : k < 53
    · have d1 : decide ((k : Int) < 53) = true := decide_eq_true (by omega)
      have d2 : decide (k < 53) = true := decide_eq_true hlt
      have hq := quo_half m k hml hk
      obtain ⟨x, hx⟩ : ∃ x, x = hW m k := ⟨_, rfl⟩
      obtain ⟨y, hy⟩ : ∃ y, y = hW m (k + 1) := ⟨_, rfl⟩
      rw [← hx, ← hy] at hq
      rw [← hx]
      have HY := Lib.hid hy
      have hrun := fun w => run_float_arith (P := Try.prog) (w := w) .quo 22 .f64 x 4611686018427387904 y hq
      clear hx hy hq
      go_wp2_with fail
      go_round
      case rel => exact ⟨k + 1, by omega, by simp, by rw [← HY.out]⟩
      case measure => simp [intOf]; omega
    · obtain rfl : k = 53 := by omega
      have d1 : decide (((53 : Nat) : Int) < 53) = false := by decide
      go_wp2_with fail
      go_ret
      exact ⟨by rw [← HNE.out, ← HME.out, ← hW_53]; rfl, HO.out⟩
theorem uge_of {al m : Nat} (hm : m < 9007199254740992) (hal : nn al) : (FloatKind.f64.format.order (uW m) al == some .gt || FloatKind.f64.format.order (uW m) al == some .eq) = !ltB (uW m) al := by
  obtain ⟨s, a, e, ha, hs⟩ := hal
  obtain ⟨K, j, hK⟩ := uW_nn m hm
  unfold ltB
  rw [order_nn hK ha (fun h => by cases h) hs]
  generalize compare ((K * 2 ^ (j - min j e).toNat : Nat) : Int) ((a * 2 ^ (e - min j e).toNat : Nat) : Int) = c
  cases c <;> rfl
theorem runF_snd (ks : List Int) (al : Nat) : ∀ f p, (runF ks al f p).2 ≤ p + 8 * f
  | 0, p => Nat.le_refl _
  | f + 1, p => by
    unfold runF
    split
    · have := runF_snd ks al f (p + 8); show (runF ks al f (p + 8)).2 ≤ _; omega
    · show p + 8 ≤ _; omega
theorem rrun_any (R T al : Nat) (ks : List Int) (p : Nat) (w : World) (hs : RSrc w R ks p) (hk : ks.length = 32) (bk : B8 ks) (hT : T ≤ 128) (hal : nn al) (hp : p + 8 * T < 9223372036854775808) :
    Calls Try.prog 73 #[.pointer (some ⟨R, 0, none⟩), .float .f64 al, .int .i64 (T : Int)] w fun e w' => e = .returned (.int .i64 ((runF ks al T p).1 : Nat)) ∧ RSrc w' R ks (runF ks al T p).2 ∧ Fr (fun b => b = R) w w' := by
  have HU := Lib.hid (fun q W hW hq => runit_any R ks q W hW hk bk hq)
  have HS := Lib.hid hs
  have HAL := Lib.hid hal
  have HP := Lib.hid hp
  have HTT := Lib.hid hT
  clear hs hk bk hal hp hT
  go_enter Try.func73, Try.ntmps73
  go_wp2_with fail
  go_loopw [7] (fun z wr => ∃ (k q : Nat), z = .int .i64 k ∧ Hid (k ≤ T ∧ q = p + 8 * k) ∧ Hid (RSrc wr R ks q) ∧ Hid (Fr (fun b => b = R) w wr) ∧ Hid (runF ks al T p = ((runF ks al (T - k) q).1 + k, (runF ks al (T - k) q).2))) (fun z _ => T - (intOf z).toNat)
  case atStart => exact ⟨0, p, rfl, Lib.hid (by omega), HS, Lib.hid (Fr.refl _ _), Lib.hid rfl⟩
  case round =>
    clear HS
    obtain ⟨k, q, rfl, HKQ, HSq, HF, HR⟩ := hrel
    by_cases hlt : k < T
    · have d1 : decide ((k : Int) < (T : Int)) = true := decide_eq_true (by omega)
      have d2 : decide (k < T) = true := decide_eq_true hlt
      have HLT := Lib.hid hlt
      clear hlt
      go_wp2_with fail
      refine (HU.out q wr HSq.out (by have := HKQ.out; have := HP.out; have := HLT.out; omega)).mono ?_
      rintro e w1 ⟨rfl, hs, hf⟩
      have HS1 := Lib.hid hs
      have HF1 := Lib.hid (HF.out.trans hf)
      have hug := uge_of (m := numN ks q / 2048) (by have := numN_lt ks q; omega) HAL.out
      have HST : Hid (runF ks al (T - k) q = if ltB (uW (numN ks q / 2048)) al then ((runF ks al (T - (k + 1)) (q + 8)).1 + 1, (runF ks al (T - (k + 1)) (q + 8)).2) else (0, q + 8)) := Lib.hid (by
        rw [show T - k = (T - (k + 1)) + 1 from by have := HLT.out; omega]; rfl)
      obtain ⟨u, hu⟩ : ∃ u, u = uW (numN ks q / 2048) := ⟨_, rfl⟩
      rw [← hu] at hug HST ⊢
      clear hu hs hf
      cases hlb : ltB u al
      · rw [hlb] at hug HST
        have HR2 : Hid (runF ks al T p = (0 + k, q + 8)) := Lib.hid (by rw [HR.out, HST.out]; rfl)
        clear hlb
        go_wp2_with fail
        go_ret
        exact ⟨by rw [HR2.out, Nat.zero_add]; rfl, by rw [HR2.out]; exact HS1.out, HF1.out⟩
      · rw [hlb] at hug HST
        have HR2 : Hid (runF ks al T p = ((runF ks al (T - (k + 1)) (q + 8)).1 + (k + 1), (runF ks al (T - (k + 1)) (q + 8)).2)) := Lib.hid (by rw [HR.out, HST.out]; simp [Nat.add_assoc, Nat.add_comm 1 k])
        have m1 : IntKind.i64.wrap ((k : Int) + 1) = ((k + 1 : Nat) : Int) := by have := HLT.out; have := HTT.out; rw [IntKind.wrap_i64] <;> omega
        clear hlb
        go_wp2_with fail
        go_roundw
        case rel => exact ⟨k + 1, q + 8, by go_num, Lib.hid (by have := HKQ.out; have := HLT.out; omega), HS1, HF1, HR2⟩
        case measure => simp [intOf]; have := HLT.out; omega
    · have d1 : decide ((k : Int) < (T : Int)) = false := decide_eq_false (by omega)
      have d2 : decide (k < T) = false := decide_eq_false hlt
      have HKE : Hid (k = T) := Lib.hid (by have := HKQ.out; omega)
      have HR2 : Hid (runF ks al T p = (k, q)) := Lib.hid (by rw [HR.out, HKE.out, Nat.sub_self]; show ((0 : Nat) + T, q) = _; rw [Nat.zero_add])
      go_wp2_with fail
      go_ret
      exact ⟨by rw [HR2.out]; rfl, by rw [HR2.out]; exact HSq.out, HF.out⟩
/-- Bad arguments of Laplace. -/
def lapBad (N X : Int) : Bool := decide (X < 0) || decide (64 < X) || decide (N < 0) || decide (X < N)
def lapMay (al : Nat) : Bool := (FloatKind.f64.format.order al 0 == some .gt || FloatKind.f64.format.order al 0 == some .eq) && (FloatKind.f64.format.order al 4607182418800017408 == some .lt)
theorem lapMay_alike {a b : Nat} (h : fv a = fv b) : lapMay a = lapMay b := by
  unfold lapMay
  rw [ford_eq, ford_eq, ford_eq, ford_eq, h]
theorem lapMay_nn {al : Nat} (h : lapMay al = true) : nn al := by
  unfold lapMay at h
  simp only [Bool.and_eq_true] at h
  have h1 := h.1
  rw [ge0_eq] at h1
  refine ge0_le1_nn h1 ?_
  unfold le1
  rw [← ford_eq, h.2]
  rfl
/-- What Laplace answers, and where the row is then. -/
def lapV (ks : List Int) (al : Nat) (N X : Int) (p : Nat) : Int × Int × Nat :=
  if lapBad N X then (0, 2, p) else if lapMay al then ((lapN ks al N.toNat X.toNat p : Int), 0, lapP ks al N.toNat X.toNat p) else (0, 260, p)
theorem lap_bad (S : Nat) (N X : Int) (al : Nat) (w : World) (h : lapBad N X = true) : Calls Try.prog 44 #[.pointer (some ⟨S, 0, none⟩), .int .i64 N, .float .f64 al, .int .i64 X] w fun e w' => e = .returned (.tuple #[.int .i64 0, .int .i64 2]) ∧ Below w.heap.size w w' := by
  have hb : Below w.heap.size w (((w.alloc (.cells #[.int .i64 N] 3)).alloc (.cells #[.float .f64 al] 22)).alloc (.cells #[.int .i64 X] 3)) := (((Below.refl _ w).alloc (Nat.le_refl _) _).alloc (by simp) _).alloc (by simp; omega) _
  have HB := Lib.hid hb
  clear hb
  unfold lapBad at h
  cases h1 : decide (X < 0)
  · cases h2 : decide ((64 : Int) < X)
    · cases h3 : decide (N < 0)
      · have h4 : decide (X < N) = true := by rw [h1, h2, h3] at h; exact h
        clear h
        go_enter Try.func44, Try.ntmps44
        go_wp2_with fail
        go_ret2
        exact ⟨rfl, HB.out⟩
      · clear h
        go_enter Try.func44, Try.ntmps44
        go_wp2_with fail
        go_ret2
        exact ⟨rfl, HB.out⟩
    · clear h
      go_enter Try.func44, Try.ntmps44
      go_wp2_with fail
      go_ret2
      exact ⟨rfl, HB.out⟩
  · clear h
    go_enter Try.func44, Try.ntmps44
    go_wp2_with fail
    go_ret2
    exact ⟨rfl, HB.out⟩
theorem lapBad_no {N X : Int} (h : lapBad N X = false) : ∃ M Y : Nat, N = (M : Int) ∧ X = (Y : Int) ∧ M ≤ Y ∧ Y ≤ 64 := by
  unfold lapBad at h
  simp only [Bool.or_eq_false_iff, decide_eq_false_iff_not] at h
  exact ⟨N.toNat, X.toNat, by omega, by omega, by omega, by omega⟩
theorem lap_all (S : Nat) (N X : Int) (al : Nat) (ks : List Int) (p : Nat) (w : World) (hs : Src w S ks p) (hk : ks.length = 32) (bk : B8 ks) :
    Calls Try.prog 44 #[.pointer (some ⟨S, 0, none⟩), .int .i64 N, .float .f64 al, .int .i64 X] w fun e w' => e = .returned (.tuple #[.int .i64 (lapV ks al N X p).1, .int .i64 (lapV ks al N X p).2.1]) ∧ Src w' S ks (lapV ks al N X p).2.2 ∧ Fr (fun b => b = S) w w' := by
  unfold lapV
  cases hb : lapBad N X
  · obtain ⟨M, Y, rfl, rfl, hM, hY⟩ := lapBad_no hb
    cases hm : lapMay al
    · refine (lap_float S M Y al w hY hM hm).mono ?_
      rintro e w' ⟨rfl, bb⟩
      exact ⟨rfl, hs.below bb, Fr.of_below bb _⟩
    · unfold lapMay at hm
      simp only [Bool.and_eq_true] at hm
      refine (laplace_ok S M Y al ks p w hs hk bk hY hM hm.1 hm.2).mono ?_
      rintro e w' ⟨rfl, h2, h3⟩
      exact ⟨rfl, h2, h3⟩
  · refine (lap_bad S N X al w hb).mono ?_
    rintro e w' ⟨rfl, bb⟩
    exact ⟨rfl, hs.below bb, Fr.of_below bb _⟩
end Go.Proofs.Ytcfbaildcocnhaa
set_option linter.unusedVariables false
set_option linter.unusedSimpArgs false
namespace Go.Proofs.Ytcfbaildcocnhaa
open Go.RowKit

theorem rlap_bad (R : Nat) (N X : Int) (al : Nat) (w : World) (h : lapBad N X = true) : Calls Try.prog 61 #[.pointer (some ⟨R, 0, none⟩), .int .i64 N, .float .f64 al, .int .i64 X] w fun e w' => e = .returned (.tuple #[.int .i64 0, .int .i64 2]) ∧ w' = w := by
  unfold lapBad at h
  cases h1 : decide (X < 0)
  · cases h2 : decide ((64 : Int) < X)
    · cases h3 : decide (N < 0)
      · have h4 : decide (X < N) = true := by rw [h1, h2, h3] at h; exact h
        clear h
        go_enter Try.func61, Try.ntmps61
        go_wp2_with fail
        go_ret2
        exact ⟨rfl, rfl⟩
      · clear h
        go_enter Try.func61, Try.ntmps61
        go_wp2_with fail
        go_ret2
        exact ⟨rfl, rfl⟩
    · clear h
      go_enter Try.func61, Try.ntmps61
      go_wp2_with fail
      go_ret2
      exact ⟨rfl, rfl⟩
  · clear h
    go_enter Try.func61, Try.ntmps61
    go_wp2_with fail
    go_ret2
    exact ⟨rfl, rfl⟩
theorem rlap_no (R M Y al : Nat) (w : World) (hM : M ≤ Y) (hY : Y ≤ 64) (h : lapMay al = false) : Calls Try.prog 61 #[.pointer (some ⟨R, 0, none⟩), .int .i64 (M : Int), .float .f64 al, .int .i64 (Y : Int)] w fun e w' => e = .returned (.tuple #[.int .i64 0, .int .i64 260]) ∧ w' = w := by
  have d1 : decide ((Y : Int) < 0) = false := by simp
  have d2 : decide ((64 : Int) < (Y : Int)) = false := by simp; omega
  have d3 : decide ((M : Int) < 0) = false := by simp
  have d4 : decide ((Y : Int) < (M : Int)) = false := by simp; omega
  have d5 : decide (Y < M) = false := decide_eq_false (by omega)
  have d6 : decide (64 < Y) = false := decide_eq_false (by omega)
  unfold lapMay at h
  obtain ⟨A, hA⟩ : ∃ A, (FloatKind.f64.format.order al 0 == some .gt || FloatKind.f64.format.order al 0 == some .eq) = A := ⟨_, rfl⟩
  obtain ⟨B, hB⟩ : ∃ B, (FloatKind.f64.format.order al 4607182418800017408 == some .lt) = B := ⟨_, rfl⟩
  rw [hA, hB] at h
  cases A
  · clear h
    go_enter Try.func61, Try.ntmps61
    go_wp2_with fail
    go_ret2
    exact ⟨rfl, rfl⟩
  · obtain rfl : B = false := by simpa using h
    clear h
    go_enter Try.func61, Try.ntmps61
    go_wp2_with fail
    go_ret2
    exact ⟨rfl, rfl⟩
theorem rlap_ok (R M Y al : Nat) (ks : List Int) (p : Nat) (w : World) (hs : RSrc w R ks p) (hk : ks.length = 32) (bk : B8 ks) (hM : M ≤ Y) (hY : Y ≤ 64) (h : lapMay al = true) (hp : p + 2048 < 9223372036854775808) :
    Calls Try.prog 61 #[.pointer (some ⟨R, 0, none⟩), .int .i64 (M : Int), .float .f64 al, .int .i64 (Y : Int)] w fun e w' => e = .returned (.tuple #[.int .i64 (lapN ks al M Y p : Nat), .int .i64 0]) ∧ RSrc w' R ks (lapP ks al M Y p) ∧ Fr (fun b => b = R) w w' := by
  have HR := Lib.hid (fun q W hW hq => rrun_any R (M + Y) al ks q W hW hk bk (by omega) (lapMay_nn h) hq)
  have HS := Lib.hid hs
  have d1 : decide ((Y : Int) < 0) = false := by simp
  have d2 : decide ((64 : Int) < (Y : Int)) = false := by simp; omega
  have d3 : decide ((M : Int) < 0) = false := by simp
  have d4 : decide ((Y : Int) < (M : Int)) = false := by simp; omega
  have d5 : decide (Y < M) = false := decide_eq_false (by omega)
  have d6 : decide (64 < Y) = false := decide_eq_false (by omega)
  have m1 : IntKind.i64.wrap ((M : Int) + (Y : Int)) = ((M + Y : Nat) : Int) := by rw [IntKind.wrap_i64] <;> omega
  have HMY := Lib.hid (And.intro hM (And.intro hY hp))
  unfold lapMay at h
  simp only [Bool.and_eq_true] at h
  have h1 := h.1
  have h2 := h.2
  clear hs hk bk h hM hY hp
  go_enter Try.func61, Try.ntmps61
  go_upto_region 8 with fail
  clear d1 d2 d3 d4 d5 d6 h1 h2
  have hT : ((M + Y : Nat) : Int) = (M : Int) + (Y : Int) := by omega
  have HTT := Lib.hid hT
  clear hT
  go_wp2_with fail
  have hr1 := HR.out p w HS.out (by have := HMY.out; omega)
  rw [HTT.out] at hr1
  refine hr1.mono ?_
  rintro e w1 ⟨rfl, hs, hf⟩
  have S1 := Lib.hid hs
  have F1 := Lib.hid hf
  clear hs hf hr1
  have hq1 := runF_snd ks al (M + Y) p
  have hg := runF_le ks al (M + Y) p
  obtain ⟨g, hge⟩ : ∃ g, g = (runF ks al (M + Y) p).1 := ⟨_, rfl⟩
  obtain ⟨q, hqe⟩ : ∃ q, q = (runF ks al (M + Y) p).2 := ⟨_, rfl⟩
  rw [← hqe] at hq1 S1
  rw [← hge] at hg ⊢
  have HGE := Lib.hid (And.intro hge hqe)
  have HG := Lib.hid (And.intro hg hq1)
  clear hge hqe hg hq1
  go_wp2_with fail
  have hr2 := HR.out q w1 S1.out (by have := HMY.out; have := HG.out; omega)
  rw [HTT.out] at hr2
  refine hr2.mono ?_
  rintro e w2 ⟨rfl, hs, hf⟩
  have S2 := Lib.hid hs
  have F2 := Lib.hid (F1.out.trans hf)
  clear hs hf hr2
  have hh := runF_le ks al (M + Y) q
  obtain ⟨o, ho⟩ : ∃ o, o = (runF ks al (M + Y) q).1 := ⟨_, rfl⟩
  rw [← ho] at hh ⊢
  have HN : Hid (lapN ks al M Y p = lapM M Y g o) := Lib.hid (by unfold lapN; rw [← HGE.out.1, ← HGE.out.2, ← ho])
  have HPP : Hid (lapP ks al M Y p = (runF ks al (M + Y) q).2) := Lib.hid (by unfold lapP; rw [← HGE.out.2])
  have HO := Lib.hid hh
  clear ho hh HR m1
  have k1 : IntKind.i64.wrap ((M : Int) + (g : Int)) = (M : Int) + (g : Int) := by have := HMY.out; have := HG.out; rw [IntKind.wrap_i64] <;> omega
  have k2 : IntKind.i64.wrap ((M : Int) + (g : Int) - (o : Int)) = (M : Int) + (g : Int) - (o : Int) := by have := HMY.out; have := HG.out; have := HO.out; rw [IntKind.wrap_i64] <;> omega
  by_cases hneg : (M : Int) + (g : Int) - (o : Int) < 0
  · have e1 : decide ((M : Int) + (g : Int) - (o : Int) < 0) = true := decide_eq_true hneg
    have HL : Hid (lapM M Y g o = 0) := Lib.hid (by unfold lapM; omega)
    clear hneg
    go_wp2_with fail
    go_ret2
    exact ⟨by rw [HN.out, HL.out]; rfl, by rw [HPP.out]; exact S2.out, F2.out⟩
  · have e1 : decide ((M : Int) + (g : Int) - (o : Int) < 0) = false := decide_eq_false hneg
    by_cases hbig : (Y : Int) < (M : Int) + (g : Int) - (o : Int)
    · have e2 : decide ((Y : Int) < (M : Int) + (g : Int) - (o : Int)) = true := decide_eq_true hbig
      have HL : Hid (lapM M Y g o = Y) := Lib.hid (by unfold lapM; omega)
      clear hneg hbig
      go_wp2_with fail
      go_ret2
      exact ⟨by rw [HN.out, HL.out]; rfl, by rw [HPP.out]; exact S2.out, F2.out⟩
    · have e2 : decide ((Y : Int) < (M : Int) + (g : Int) - (o : Int)) = false := decide_eq_false hbig
      have HL : Hid (((lapM M Y g o : Nat) : Int) = (M : Int) + (g : Int) - (o : Int)) := Lib.hid (by unfold lapM; omega)
      clear hneg hbig
      go_wp2_with fail
      go_ret2
      exact ⟨by rw [HN.out, HL.out]; rfl, by rw [HPP.out]; exact S2.out, F2.out⟩
theorem rlap_all (R : Nat) (N X : Int) (al : Nat) (ks : List Int) (p : Nat) (w : World) (hs : RSrc w R ks p) (hk : ks.length = 32) (bk : B8 ks) (hp : p + 2048 < 9223372036854775808) :
    Calls Try.prog 61 #[.pointer (some ⟨R, 0, none⟩), .int .i64 N, .float .f64 al, .int .i64 X] w fun e w' => e = .returned (.tuple #[.int .i64 (lapV ks al N X p).1, .int .i64 (lapV ks al N X p).2.1]) ∧ RSrc w' R ks (lapV ks al N X p).2.2 ∧ Fr (fun b => b = R) w w' := by
  unfold lapV
  cases hb : lapBad N X
  · obtain ⟨M, Y, rfl, rfl, hM, hY⟩ := lapBad_no hb
    cases hm : lapMay al
    · refine (rlap_no R M Y al w hM hY hm).mono ?_
      rintro e w' ⟨rfl, rfl⟩
      exact ⟨rfl, hs, Fr.refl _ _⟩
    · refine (rlap_ok R M Y al ks p w hs hk bk hM hY hm hp).mono ?_
      rintro e w' ⟨rfl, h2, h3⟩
      exact ⟨rfl, h2, h3⟩
  · refine (rlap_bad R N X al w hb).mono ?_
    rintro e w' ⟨rfl, rfl⟩
    exact ⟨rfl, hs, Fr.refl _ _⟩
theorem row_cell' {w : World} {g T k : Nat} {kd : IntKind} {l : List Int} {r : List Value} (h : Blk w g T (l.map (Value.int kd) ++ r)) (hk : k < l.length) : w.cell? ⟨g, k, none⟩ = some (.int kd (l.getD k 0)) := by
  rw [h.cell, List.getElem?_append_left (by simpa using hk), List.getElem?_map, List.getElem?_eq_getElem hk, List.getD_eq_getElem?_getD, List.getElem?_eq_getElem hk]
  rfl
theorem blk_set' {w : World} {g T : Nat} {kd : IntKind} {l : List Int} {r : List Value} (h : Blk w g T (l.map (Value.int kd) ++ r)) (k : Nat) (y : Int) (hk : k < l.length) : Blk (w.setCell ⟨g, k, none⟩ (.int kd y)) g T ((l.set k y).map (Value.int kd) ++ r) := by
  have h1 := h.set k (.int kd y)
  rwa [List.set_append_left _ _ (by simpa using hk), ← List.map_set] at h1
theorem iota_succ (n : Nat) : iota (n + 1) = iota n ++ [(n : Int)] := by simp [iota, List.range_succ]
theorem rshuffle_none (R : Nat) (n : Int) (w : World) (h : n < 1 ∨ 65536 < n) : Calls Try.prog 60 #[.pointer (some ⟨R, 0, none⟩), .int .i64 n] w fun e w' => e = .returned (.slice none 0 0) ∧ w' = w := by
  by_cases h1 : n < 1
  · have d1 : decide (n < 1) = true := decide_eq_true h1
    clear h
    go_enter Try.func60, Try.ntmps60
    go_wp2_with fail
    go_ret
    exact ⟨rfl, rfl⟩
  · have d1 : decide (n < 1) = false := decide_eq_false h1
    have h2 : 65536 < n := by omega
    have d2 : decide (65536 < n) = true := decide_eq_true h2
    clear h
    go_enter Try.func60, Try.ntmps60
    go_wp2_with fail
    go_ret
    exact ⟨rfl, rfl⟩
set_option maxRecDepth 100000 in
set_option maxHeartbeats 8000000 in
theorem rshuffle_any (R n : Nat) (ks : List Int) (p : Nat) (w : World) (hs : RSrc w R ks p) (hk : ks.length = 32) (bk : B8 ks) (h1 : 1 ≤ n) (h2 : n ≤ 65536) (hp : p + 800 * n < 9223372036854775808) :
    Calls Try.prog 60 #[.pointer (some ⟨R, 0, none⟩), .int .i64 (n : Int)] w fun e w' => ∃ v, e = .returned v ∧ Own w' w.heap.size 3 .i64 v (shL ks n p) ∧ RSrc w' R ks (shQ ks n p) ∧ Fr (fun b => b = R) w w' := by
  have HT := Lib.hid (fun i q W (hs : RSrc W R ks q) (hi : i < 65536) hq => rbelow_any R (i + 1) ks q W hs hk bk (by omega) (by omega) hq)
  have HS := Lib.hid hs
  have HSl := Lib.hid hs.lt
  have HN := Lib.hid (And.intro h1 (And.intro h2 hp))
  have d1 : decide ((n : Int) < 1) = false := decide_eq_false (by omega)
  have d2 : decide ((65536 : Int) < (n : Int)) = false := decide_eq_false (by omega)
  have d3 : decide (n < 1) = false := decide_eq_false (by omega)
  have d4 : decide (65536 < n) = false := decide_eq_false (by omega)
  clear hs hk bk h1 h2 hp
  go_enter Try.func60, Try.ntmps60
  go_upto_region 3 with fail
  clear d1 d2 d3 d4
  go_wp2_with fail
  go_loopw [5, 6] (fun v i wr => ∃ k : Nat, i = .int .i64 k ∧ Hid (k ≤ n) ∧ Hid (Own wr w.heap.size 3 .i64 v (iota k)) ∧ Hid (Below w.heap.size w wr)) (fun _ i _ => n - (intOf i).toNat)
  case atStart => exact ⟨0, rfl, Lib.hid (Nat.zero_le _), Lib.hid (Own.nil _ _ _ _), Lib.hid (Below.refl _ _)⟩
  case round =>
    obtain ⟨k, rfl, HKN, HO, HW⟩ := hrel
    by_cases hlt : k < n
    · have e1 : decide ((k : Int) < (n : Int)) = true := decide_eq_true (by omega)
      have e2 : decide (k < n) = true := decide_eq_true hlt
      have hk6 : k ≤ 65536 := by have := HN.out; omega
      have m1 : IntKind.i64.wrap ((k : Int) + 1) = ((k + 1 : Nat) : Int) := by rw [IntKind.wrap_i64] <;> omega
      have hc1 : ((iota k).length + 1) * 8 ≤ 140737488355328 := by rw [iota_len]; omega
      have hsz := HW.out.size
      have HLT := Lib.hid hlt
      clear hlt
      go_wp2_with (first | (at_builtin; refine wpList_push wr rfl _ _ 81 rfl w.heap.size 3 .i64 8 Try.underlying81 info3 (k : Int) rfl _ _ rfl rfl HO.out hc1 (by decide) hsz ?_; intro v' w2 hown1 hfr1))
      go_roundw
      case rel => exact ⟨k + 1, by go_num, Lib.hid (by have := HLT.out; omega), Lib.hid (by rw [iota_succ]; exact hown1), Lib.hid (HW.out.trans (hfr1.below hsz (fun g hg => (HO.out.base_le hg).1)))⟩
      case measure => simp [intOf]; have := HLT.out; omega
    · have e1 : decide ((k : Int) < (n : Int)) = false := decide_eq_false (by omega)
      have e2 : decide (k < n) = false := decide_eq_false hlt
      have HKE : Hid (k = n) := Lib.hid (by have := HKN.out; omega)
      have HO2 : Hid (Own wr w.heap.size 3 .i64 u5 (iota n)) := Lib.hid (by rw [← HKE.out]; exact HO.out)
      obtain ⟨g, c, r, hv, hge, hcl, hB, hcm⟩ : ∃ g c r, u5 = .slice (some ⟨g, 0, none⟩) n c ∧ w.heap.size ≤ g ∧ n + r.length = c ∧ Blk wr g 3 ((iota n).map (Value.int .i64) ++ r) ∧ c ≤ maxLen := by
        rcases HO2.out.form with ⟨h1, h2⟩ | ⟨g, c, rest, h4, h5, h6, h7, h8⟩
        · have hz := iota_len n; rw [h2] at hz; have hn := HN.out; simp at hz; omega
        · rw [iota_len] at h4 h7
          exact ⟨g, c, rest, h4, h5, h7, h6, h8⟩
      subst hv
      have HG := Lib.hid hge
      have HC := Lib.hid (And.intro hcl hcm)
      have BI := Lib.hid hB
      have S1 := Lib.hid (HS.out.below HW.out)
      have F1 : Hid (Fr (fun b => b = R) w wr) := Lib.hid (Fr.of_below HW.out _)
      have m0 : IntKind.i64.wrap ((n : Int) - 1) = ((n - 1 : Nat) : Int) := by have := HN.out; rw [IntKind.wrap_i64] <;> omega
      clear hge hcl hB hcm HO HO2 HKN HKE HS
      go_upto_region 8 with fail
      clear e1 e2
      generalize hn1 : n - 1 = N1 at m0
      have HN1 := Lib.hid hn1
      clear hn1
      go_wp2_with fail
      clear m0
      go_loopw [7] (fun v7 wx => ∃ (i q : Nat) (l : List Int), v7 = .int .i64 i ∧ Hid (i < n) ∧ Hid (l.length = n) ∧ Hid (Blk wx g 3 (l.map (Value.int .i64) ++ r)) ∧ Hid (RSrc wx R ks q) ∧ Hid (Fr (fun b => b = R) w wx) ∧ Hid (shR ks i l q = shR ks (n - 1) (iota n) p) ∧ Hid (q + 800 * i ≤ p + 800 * n)) (fun v7 _ => (intOf v7).toNat)
      case atStart => exact ⟨N1, p, iota n, rfl, Lib.hid (by have := HN1.out; have := HN.out; omega), Lib.hid (iota_len n), BI, S1, F1, Lib.hid (by rw [HN1.out]), Lib.hid (by have := HN1.out; omega)⟩
      case round =>
        clear BI S1 F1
        obtain ⟨i, q, l, rfl, HI, HLL, BL, SQ, FQ, HR, HQP⟩ := hrel
        by_cases hi0 : i = 0
        · subst hi0
          go_wp2_with fail
          go_ret
          have hr := HR.out
          rw [shR_zero] at hr
          refine ⟨_, rfl, ?_, ?_, FQ.out⟩
          · have e : shL ks n p = l := by unfold shL; rw [← hr]
            rw [e]
            have h := Own.mk (k := .i64) (base := w.heap.size) (c := c) (xs := l) (rest := r) HG.out BL.out (by rw [HLL.out]; exact HC.out.1) HC.out.2
            rwa [HLL.out] at h
          · have e : shQ ks n p = q := by unfold shQ; rw [← hr]
            rw [e]; exact SQ.out
        · have hi64 : i + 1 ≤ 65536 := by have := HI.out; have := HN.out; omega
          have c0 : IntKind.i64.wrap ((i : Int) + 1) = ((i + 1 : Nat) : Int) := by rw [IntKind.wrap_i64] <;> omega
          have c2 : IntKind.u64.wrap ((i : Int) + 1) = ((i + 1 : Nat) : Int) := by rw [IntKind.wrap_u64] <;> omega
          have c3 : decide ((1 : Int) ≤ (i : Int)) = true := decide_eq_true (by omega)
          have c4 : decide (1 ≤ i) = true := decide_eq_true (by omega)
          go_wp2_with fail
          clear c0 c2 c3 c4
          refine (HT.out i q wr SQ.out (by omega) (by have := HQP.out; have := HN.out; have := HI.out; omega)).mono ?_
          rintro e w2 ⟨rfl, hs, hf⟩
          have S2 := Lib.hid hs
          have NGR : Hid (¬ g = R) := Lib.hid (by have := HG.out; have := HSl.out; omega)
          have B2 := Lib.hid (BL.out.fr hf NGR.out)
          have F2 := Lib.hid (FQ.out.trans hf)
          have hble := belP_le ks (i + 1) 99 q
          obtain ⟨kk, hkk⟩ : ∃ kk, kk = belowN' ks (i + 1) q := ⟨_, rfl⟩
          have hkl : kk < i + 1 := by rw [hkk]; exact belowN'_lt ks _ _ (by omega)
          have HKE := Lib.hid hkk
          rw [← hkk]
          have HBL := Lib.hid hble
          clear hs hf hkk SQ BL FQ hble
          have lk : kk < n := by have := HI.out; omega
          have li : i < n := HI.out
          have ck : IntKind.i64.wrap (kk : Int) = (kk : Int) := by rw [IntKind.wrap_i64] <;> omega
          obtain ⟨y, hy⟩ : ∃ y, y = l.getD kk 0 := ⟨_, rfl⟩
          obtain ⟨z, hz⟩ : ∃ z, z = l.getD i 0 := ⟨_, rfl⟩
          have HYE := Lib.hid hy
          have HZE := Lib.hid hz
          have ci : w2.cell? ⟨g, i, none⟩ = some (.int .i64 z) := by rw [hz]; exact row_cell' B2.out (by rw [HLL.out]; exact li)
          have cy : w2.cell? ⟨g, kk, none⟩ = some (.int .i64 y) := by rw [hy]; exact row_cell' B2.out (by rw [HLL.out]; exact lk)
          have fi : w2.frozen? ⟨g, i, none⟩ = false := B2.out.frozen _
          clear hy hz
          go_upto_region 14 with fail
          clear ci cy fi
          have B3 : Hid (Blk (w2.setCell ⟨g, i, none⟩ (.int .i64 y)) g 3 ((l.set i y).map (Value.int .i64) ++ r)) := Lib.hid (blk_set' B2.out i y (by rw [HLL.out]; exact li))
          have S3 : Hid (RSrc (w2.setCell ⟨g, i, none⟩ (.int .i64 y)) R ks (belP ks (i + 1) 99 q + 8)) := Lib.hid (S2.out.fr ((Fr.refl (fun b => b = g) w2).setCell (p := ⟨g, i, none⟩) (.inl rfl) _) (fun e => NGR.out e.symm))
          have F3 : Hid (Fr (fun b => b = R) w (w2.setCell ⟨g, i, none⟩ (.int .i64 y))) := Lib.hid (F2.out.setCell (p := ⟨g, i, none⟩) (.inr HG.out) _)
          clear S2 B2 F2
          generalize w2.setCell ⟨g, i, none⟩ (.int .i64 y) = w3 at *
          obtain ⟨uu, cu⟩ : ∃ uu, w3.cell? ⟨g, kk, none⟩ = some (.int .i64 uu) := ⟨_, row_cell' B3.out (by rw [List.length_set, HLL.out]; exact lk)⟩
          have fk : w3.frozen? ⟨g, kk, none⟩ = false := B3.out.frozen _
          have B4 : Hid (Blk (w3.setCell ⟨g, kk, none⟩ (.int .i64 z)) g 3 ((swp l i kk).map (Value.int .i64) ++ r)) := Lib.hid (by
            have h := blk_set' B3.out kk z (by rw [List.length_set, HLL.out]; exact lk)
            unfold swp
            rw [← HYE.out, ← HZE.out]
            exact h)
          have S4 : Hid (RSrc (w3.setCell ⟨g, kk, none⟩ (.int .i64 z)) R ks (belP ks (i + 1) 99 q + 8)) := Lib.hid (S3.out.fr ((Fr.refl (fun b => b = g) w3).setCell (p := ⟨g, kk, none⟩) (.inl rfl) _) (fun e => NGR.out e.symm))
          have F4 : Hid (Fr (fun b => b = R) w (w3.setCell ⟨g, kk, none⟩ (.int .i64 z))) := Lib.hid (F3.out.setCell (p := ⟨g, kk, none⟩) (.inr HG.out) _)
          have m1 : IntKind.i64.wrap ((i : Int) - 1) = ((i - 1 : Nat) : Int) := by rw [IntKind.wrap_i64] <;> omega
          have HIX := Lib.hid hi0
          clear hi0
          go_wp2_with fail
          go_roundw
          case rel => exact ⟨i - 1, _, _, rfl, Lib.hid (by have := HI.out; omega), Lib.hid (by rw [swp_len]; exact HLL.out), B4, S4, F4, Lib.hid (by rw [← HR.out, shR_pred ks i l q (by have := HIX.out; omega), HKE.out]), Lib.hid (by have := HQP.out; have := HBL.out; have := HIX.out; omega)⟩
          case measure => simp [intOf]; have := HIX.out; omega
end Go.Proofs.Ytcfbaildcocnhaa
set_option linter.unusedVariables false
set_option linter.unusedSimpArgs false
namespace Go.Proofs.Ytcfbaildcocnhaa
open Go.RowKit

theorem Src.neR {w : World} {S R : Nat} {ks ks' : List Int} {p q : Nat} (h : Src w S ks p) (r : RSrc w R ks' q) : S ≠ R := by
  obtain ⟨M, bs, hb, -⟩ := r
  exact h.ne hb (by decide)
theorem Src.keepR {w w' : World} {S R : Nat} {ks ks' : List Int} {p q : Nat} (h : Src w S ks p) (r : RSrc w R ks' q) (hf : Fr (fun b => b = R) w w') : Src w' S ks p := by
  have hne := h.neR r
  obtain ⟨M, bs, hb, -⟩ := r
  exact h.fr hf hne (fun g bs' hg e => Blk.ne hg hb (by decide) e)
theorem RSrc.keepS {w w' : World} {S R : Nat} {ks ks' : List Int} {p q : Nat} (r : RSrc w R ks' q) (h : Src w S ks p) (hf : Fr (fun b => b = S) w w') : RSrc w' R ks' q := r.fr hf (fun e => h.neR r e.symm)
theorem Own.keepR {w w' : World} {base R : Nat} {T : TypeId} {kd : IntKind} {v : Value} {xs ks : List Int} {p : Nat} (h : Own w base T kd v xs) (r : RSrc w R ks p) (hT : T ≠ 105) (hf : Fr (fun b => b = R) w w') : Own w' base T kd v xs := by
  obtain ⟨M, bs, hb, -⟩ := r
  exact h.fr hf (fun g hg => own_neB h hb hT hg)
theorem Own.sepS {w : World} {base S g : Nat} {T : TypeId} {kd : IntKind} {v : Value} {xs ks : List Int} {p : Nat} (h : Own w base T kd v xs) (s : Src w S ks p) (hT : T ≠ 102) (hT2 : T ≠ 103) (hg : v.ownBlock = some g) {w' : World} (hf : Fr (fun b => b = g) w w') : Src w' S ks p := by
  refine s.fr hf (fun e => ?_) (fun g' bs hb e => ?_)
  · obtain ⟨A, c, nx, r, hb, -⟩ := s
    exact own_neB h hb hT hg e.symm
  · exact own_neB h hb hT2 hg e.symm
theorem Own.sepR {w : World} {base R g : Nat} {T : TypeId} {kd : IntKind} {v : Value} {xs ks : List Int} {p : Nat} (h : Own w base T kd v xs) (r : RSrc w R ks p) (hT : T ≠ 105) (hg : v.ownBlock = some g) {w' : World} (hf : Fr (fun b => b = g) w w') : RSrc w' R ks p := by
  refine r.fr hf (fun e => ?_)
  obtain ⟨M, bs, hb, -⟩ := r
  exact own_neB h hb hT hg e.symm
/-- What Below answers at any number, and where the row is then. -/
def belV (ks : List Int) (u p : Nat) : Nat × Nat := if u = 0 then (0, p) else (belowN' ks u p, belP ks u 99 p + 8)
theorem bel_all (S u : Nat) (ks : List Int) (p : Nat) (w : World) (hs : Src w S ks p) (hk : ks.length = 32) (bk : B8 ks) (hu : u < 18446744073709551616) :
    Calls Try.prog 45 #[.pointer (some ⟨S, 0, none⟩), .int .u64 (u : Int)] w fun e w' => e = .returned (.int .u64 ((belV ks u p).1 : Nat)) ∧ Src w' S ks (belV ks u p).2 ∧ Fr (fun b => b = S) w w' := by
  unfold belV
  by_cases h : u = 0
  · subst h
    refine (fbelow_none (some ⟨S, 0, none⟩) 0 w (.inr rfl)).mono ?_
    rintro e w' ⟨rfl, rfl⟩
    exact ⟨rfl, hs, Fr.refl _ _⟩
  · rw [if_neg h]
    exact fbelow_any S u ks p w hs hk bk (Nat.pos_of_ne_zero h) hu
theorem rbel_all (S u : Nat) (ks : List Int) (p : Nat) (w : World) (hs : RSrc w S ks p) (hk : ks.length = 32) (bk : B8 ks) (hu : u < 18446744073709551616) (hp : p + 800 < 9223372036854775808) :
    Calls Try.prog 56 #[.pointer (some ⟨S, 0, none⟩), .int .u64 (u : Int)] w fun e w' => e = .returned (.int .u64 ((belV ks u p).1 : Nat)) ∧ RSrc w' S ks (belV ks u p).2 ∧ Fr (fun b => b = S) w w' := by
  unfold belV
  by_cases h : u = 0
  · subst h
    refine (rbelow_none S w).mono ?_
    rintro e w' ⟨rfl, rfl⟩
    exact ⟨rfl, hs, Fr.refl _ _⟩
  · rw [if_neg h]
    exact rbelow_any S u ks p w hs hk bk (Nat.pos_of_ne_zero h) hu hp
theorem belV_le (ks : List Int) (u p : Nat) : (belV ks u p).2 ≤ p + 800 := by
  unfold belV
  split
  · show p ≤ _; omega
  · have := belP_le ks u 99 p; show belP ks u 99 p + 8 ≤ _; omega
theorem lapV_le (ks : List Int) (al : Nat) (N X : Int) (p : Nat) : (lapV ks al N X p).2.2 ≤ p + 2048 := by
  unfold lapV
  cases hb : lapBad N X
  · obtain ⟨M, Y, rfl, rfl, hM, hY⟩ := lapBad_no hb
    cases lapMay al
    · show p ≤ _; omega
    · have h1 := runF_snd ks al (M + Y) p
      have h2 := runF_snd ks al (M + Y) (runF ks al (M + Y) p).2
      show lapP ks al (M : Int).toNat (Y : Int).toNat p ≤ _
      rw [Int.toNat_natCast, Int.toNat_natCast]
      unfold lapP
      omega
  · show p ≤ _; omega
theorem lapV_alike {a b : Nat} (h : fv a = fv b) (ks : List Int) (N X : Int) (p : Nat) : lapV ks a N X p = lapV ks b N X p := by
  cases hm : lapMay b
  · have hm2 : lapMay a = false := by rw [lapMay_alike h, hm]
    unfold lapV
    simp only [hm, hm2, Bool.false_eq_true, if_false]
  · obtain ⟨s, m, e, hr, -⟩ := lapMay_nn hm
    rw [fv_inj h (fv_num hr)]
theorem shR_snd (ks : List Int) (i : Nat) : ∀ l p, (shR ks i l p).2 ≤ p + 800 * i := by
  induction i with
  | zero => intro l p; rw [shR_zero]; omega
  | succ i ih =>
    intro l p
    rw [shR_succ]
    have h1 := belP_le ks (i + 2) 99 p
    have h2 := ih (swp l (i + 1) (belowN' ks (i + 2) p)) (belP ks (i + 2) 99 p + 8)
    omega
/-- What asked answers. -/
def AskP (S R : Nat) (ks : List Int) (p : Nat) (w : World) (e : Ending) (w' : World) : Prop := e = .returned (.bool true) ∧ ∃ p', p' ≤ p + 67108864 ∧ Src w' S ks p' ∧ RSrc w' R ks p' ∧ Fr (fun b => b = S ∨ b = R) w w'
set_option maxRecDepth 100000 in
set_option maxHeartbeats 4000000 in
theorem ask_next (S R : Nat) (ks : List Int) (p : Nat) (u : Nat) (n m : Int) (x : Nat) (o : Int) (w : World) (hs : Src w S ks p) (hr : RSrc w R ks p) (hk : ks.length = 32) (bk : B8 ks) (hp : p + 67108864 < 9223372036854775808) (hu : u < 18446744073709551616) (hx : (Lit.float .f64 x).wf = true) :
    Calls Try.prog 27 #[.pointer (some ⟨S, 0, none⟩), .pointer (some ⟨R, 0, none⟩), .agg #[.int .i64 1, .int .u64 (u : Nat), .int .i64 n, .int .i64 m, .float .f64 x, .int .i64 o]] w (AskP S R ks p w) := by
  have HK := Lib.hid hk
  have BK := Lib.hid bk
  have HP := Lib.hid hp
  have HU := Lib.hid hu
  have HX := Lib.hid hx
  have F1 := Lib.hid ((Below.refl w.heap.size w).alloc (Nat.le_refl _) (.cells #[.int .i64 1, .int .u64 (u : Nat), .int .i64 n, .int .i64 m, .float .f64 x, .int .i64 o] 64))
  have X1 : Hid (Blk (w.alloc (.cells #[.int .i64 1, .int .u64 (u : Nat), .int .i64 n, .int .i64 m, .float .f64 x, .int .i64 o] 64)) w.heap.size 64 [.int .i64 1, .int .u64 (u : Nat), .int .i64 n, .int .i64 m, .float .f64 x, .int .i64 o]) := Lib.hid (Blk.new w 64 _)
  have HS := Lib.hid (hs.below F1.out)
  have HR := Lib.hid (hr.below F1.out)
  have XL : Hid (¬ w.heap.size = S ∧ ¬ w.heap.size = R) := Lib.hid (by have := hs.lt; have := hr.lt; omega)
  clear hs hr hk bk hp hu hx
  go_enter Try.func27, Try.ntmps27
  go_upto_region 1 with fail
  have HF : Hid (Fr (fun b => b = S ∨ b = R) w (w.alloc (.cells #[.int .i64 1, .int .u64 (u : Nat), .int .i64 n, .int .i64 m, .float .f64 x, .int .i64 o] 64))) := Lib.hid (Fr.of_below F1.out _)
  generalize (w.alloc (.cells #[.int .i64 1, .int .u64 (u : Nat), .int .i64 n, .int .i64 m, .float .f64 x, .int .i64 o] 64)) = w1 at *
  generalize w.heap.size = X at *
  clear F1
  have x0 : w1.cell? ⟨X, 0, none⟩ = some (.int .i64 1) := X1.out.cell 0
  go_wp2_with fail
  clear x0
  refine (next_any S ks p w1 HS.out HK.out BK.out).mono ?_
  rintro e w2 ⟨rfl, hs, hf⟩
  replace HR := Lib.hid (HR.out.keepS HS.out hf)
  replace X1 := Lib.hid (X1.out.fr hf XL.out.1)
  replace HF := Lib.hid (HF.out.trans (hf.mono (fun b hb => .inl hb)))
  replace HS := Lib.hid hs
  clear hs hf
  go_wp2_with fail
  refine (rnext_any R ks p w2 HR.out HK.out BK.out (by have := HP.out; omega)).mono ?_
  rintro e w3 ⟨rfl, hs, hf⟩
  replace HS := Lib.hid (HS.out.keepR HR.out hf)
  replace X1 := Lib.hid (X1.out.fr hf XL.out.2)
  replace HF := Lib.hid (HF.out.trans (hf.mono (fun b hb => .inr hb)))
  replace HR := Lib.hid hs
  clear hs hf
  generalize numN ks p = N at *
  go_wp2_with fail
  go_ret
  exact ⟨rfl, _, by omega, HS.out, HR.out, HF.out⟩
set_option maxRecDepth 100000 in
set_option maxHeartbeats 4000000 in
theorem ask_unit (S R : Nat) (ks : List Int) (p : Nat) (u : Nat) (n m : Int) (x : Nat) (o : Int) (w : World) (hs : Src w S ks p) (hr : RSrc w R ks p) (hk : ks.length = 32) (bk : B8 ks) (hp : p + 67108864 < 9223372036854775808) (hu : u < 18446744073709551616) (hx : (Lit.float .f64 x).wf = true) :
    Calls Try.prog 27 #[.pointer (some ⟨S, 0, none⟩), .pointer (some ⟨R, 0, none⟩), .agg #[.int .i64 3, .int .u64 (u : Nat), .int .i64 n, .int .i64 m, .float .f64 x, .int .i64 o]] w (AskP S R ks p w) := by
  have HK := Lib.hid hk
  have BK := Lib.hid bk
  have HP := Lib.hid hp
  have HU := Lib.hid hu
  have HX := Lib.hid hx
  have F1 := Lib.hid ((Below.refl w.heap.size w).alloc (Nat.le_refl _) (.cells #[.int .i64 3, .int .u64 (u : Nat), .int .i64 n, .int .i64 m, .float .f64 x, .int .i64 o] 64))
  have X1 : Hid (Blk (w.alloc (.cells #[.int .i64 3, .int .u64 (u : Nat), .int .i64 n, .int .i64 m, .float .f64 x, .int .i64 o] 64)) w.heap.size 64 [.int .i64 3, .int .u64 (u : Nat), .int .i64 n, .int .i64 m, .float .f64 x, .int .i64 o]) := Lib.hid (Blk.new w 64 _)
  have HS := Lib.hid (hs.below F1.out)
  have HR := Lib.hid (hr.below F1.out)
  have XL : Hid (¬ w.heap.size = S ∧ ¬ w.heap.size = R) := Lib.hid (by have := hs.lt; have := hr.lt; omega)
  clear hs hr hk bk hp hu hx
  go_enter Try.func27, Try.ntmps27
  go_upto_region 1 with fail
  have HF : Hid (Fr (fun b => b = S ∨ b = R) w (w.alloc (.cells #[.int .i64 3, .int .u64 (u : Nat), .int .i64 n, .int .i64 m, .float .f64 x, .int .i64 o] 64))) := Lib.hid (Fr.of_below F1.out _)
  generalize (w.alloc (.cells #[.int .i64 3, .int .u64 (u : Nat), .int .i64 n, .int .i64 m, .float .f64 x, .int .i64 o] 64)) = w1 at *
  generalize w.heap.size = X at *
  clear F1
  have x0 : w1.cell? ⟨X, 0, none⟩ = some (.int .i64 3) := X1.out.cell 0
  go_wp2_with fail
  clear x0
  refine (funit_any S ks p w1 HS.out HK.out BK.out).mono ?_
  rintro e w2 ⟨rfl, hs, hf⟩
  replace HR := Lib.hid (HR.out.keepS HS.out hf)
  replace X1 := Lib.hid (X1.out.fr hf XL.out.1)
  replace HF := Lib.hid (HF.out.trans (hf.mono (fun b hb => .inl hb)))
  replace HS := Lib.hid hs
  clear hs hf
  go_wp2_with fail
  refine (runit_any R ks p w2 HR.out HK.out BK.out (by have := HP.out; omega)).mono ?_
  rintro e w3 ⟨rfl, hs, hf⟩
  replace HS := Lib.hid (HS.out.keepR HR.out hf)
  replace X1 := Lib.hid (X1.out.fr hf XL.out.2)
  replace HF := Lib.hid (HF.out.trans (hf.mono (fun b hb => .inr hb)))
  replace HR := Lib.hid hs
  clear hs hf
  generalize uW (numN ks p / 2048) = U at *
  go_wp2_with fail
  refine (same_any U U w3 rfl).mono ?_
  rintro e w4 ⟨rfl, hw⟩
  obtain rfl : w3 = w4 := hw.symm
  go_wp2_with fail
  go_ret
  exact ⟨rfl, _, by omega, HS.out, HR.out, HF.out⟩
set_option maxRecDepth 100000 in
set_option maxHeartbeats 4000000 in
theorem ask_key (S R : Nat) (ks : List Int) (p : Nat) (u : Nat) (n m : Int) (x : Nat) (o : Int) (w : World) (hs : Src w S ks p) (hr : RSrc w R ks p) (hk : ks.length = 32) (bk : B8 ks) (hp : p + 67108864 < 9223372036854775808) (hu : u < 18446744073709551616) (hx : (Lit.float .f64 x).wf = true) :
    Calls Try.prog 27 #[.pointer (some ⟨S, 0, none⟩), .pointer (some ⟨R, 0, none⟩), .agg #[.int .i64 4, .int .u64 (u : Nat), .int .i64 n, .int .i64 m, .float .f64 x, .int .i64 o]] w (AskP S R ks p w) := by
  have HK := Lib.hid hk
  have BK := Lib.hid bk
  have HP := Lib.hid hp
  have HU := Lib.hid hu
  have HX := Lib.hid hx
  have F1 := Lib.hid ((Below.refl w.heap.size w).alloc (Nat.le_refl _) (.cells #[.int .i64 4, .int .u64 (u : Nat), .int .i64 n, .int .i64 m, .float .f64 x, .int .i64 o] 64))
  have X1 : Hid (Blk (w.alloc (.cells #[.int .i64 4, .int .u64 (u : Nat), .int .i64 n, .int .i64 m, .float .f64 x, .int .i64 o] 64)) w.heap.size 64 [.int .i64 4, .int .u64 (u : Nat), .int .i64 n, .int .i64 m, .float .f64 x, .int .i64 o]) := Lib.hid (Blk.new w 64 _)
  have HS := Lib.hid (hs.below F1.out)
  have HR := Lib.hid (hr.below F1.out)
  have XL : Hid (¬ w.heap.size = S ∧ ¬ w.heap.size = R) := Lib.hid (by have := hs.lt; have := hr.lt; omega)
  clear hs hr hk bk hp hu hx
  go_enter Try.func27, Try.ntmps27
  go_upto_region 1 with fail
  have HF : Hid (Fr (fun b => b = S ∨ b = R) w (w.alloc (.cells #[.int .i64 4, .int .u64 (u : Nat), .int .i64 n, .int .i64 m, .float .f64 x, .int .i64 o] 64))) := Lib.hid (Fr.of_below F1.out _)
  generalize (w.alloc (.cells #[.int .i64 4, .int .u64 (u : Nat), .int .i64 n, .int .i64 m, .float .f64 x, .int .i64 o] 64)) = w1 at *
  generalize w.heap.size = X at *
  clear F1
  have x0 : w1.cell? ⟨X, 0, none⟩ = some (.int .i64 4) := X1.out.cell 0
  go_wp2_with fail
  clear x0
  refine (key_any S ks p w1 HS.out HK.out BK.out).mono ?_
  rintro e w2 ⟨rfl, hs, hf⟩
  replace HR := Lib.hid (HR.out.keepS HS.out hf)
  replace X1 := Lib.hid (X1.out.fr hf XL.out.1)
  replace HF := Lib.hid (HF.out.trans (hf.mono (fun b hb => .inl hb)))
  replace HS := Lib.hid hs
  clear hs hf
  go_wp2_with fail
  refine (rkey_any R ks p w2 HR.out HK.out BK.out (by have := HP.out; omega)).mono ?_
  rintro e w3 ⟨rfl, hs, hf⟩
  replace HS := Lib.hid (HS.out.keepR HR.out hf)
  replace X1 := Lib.hid (X1.out.fr hf XL.out.2)
  replace HF := Lib.hid (HF.out.trans (hf.mono (fun b hb => .inr hb)))
  replace HR := Lib.hid hs
  clear hs hf
  have hek := eq_key (rowL_B8 ks p 32) (rowL_B8 ks p 32) (rowL_len _ _ _) (rowL_len _ _ _) true (by simp) w3
  generalize rowL ks p 32 = L at *
  go_wp2_with fail
  go_ret
  exact ⟨rfl, _, by omega, HS.out, HR.out, HF.out⟩
set_option maxRecDepth 100000 in
set_option maxHeartbeats 4000000 in
theorem ask_below (S R : Nat) (ks : List Int) (p : Nat) (u : Nat) (n m : Int) (x : Nat) (o : Int) (w : World) (hs : Src w S ks p) (hr : RSrc w R ks p) (hk : ks.length = 32) (bk : B8 ks) (hp : p + 67108864 < 9223372036854775808) (hu : u < 18446744073709551616) (hx : (Lit.float .f64 x).wf = true) :
    Calls Try.prog 27 #[.pointer (some ⟨S, 0, none⟩), .pointer (some ⟨R, 0, none⟩), .agg #[.int .i64 2, .int .u64 (u : Nat), .int .i64 n, .int .i64 m, .float .f64 x, .int .i64 o]] w (AskP S R ks p w) := by
  have HK := Lib.hid hk
  have BK := Lib.hid bk
  have HP := Lib.hid hp
  have HU := Lib.hid hu
  have HX := Lib.hid hx
  have F1 := Lib.hid ((Below.refl w.heap.size w).alloc (Nat.le_refl _) (.cells #[.int .i64 2, .int .u64 (u : Nat), .int .i64 n, .int .i64 m, .float .f64 x, .int .i64 o] 64))
  have X1 : Hid (Blk (w.alloc (.cells #[.int .i64 2, .int .u64 (u : Nat), .int .i64 n, .int .i64 m, .float .f64 x, .int .i64 o] 64)) w.heap.size 64 [.int .i64 2, .int .u64 (u : Nat), .int .i64 n, .int .i64 m, .float .f64 x, .int .i64 o]) := Lib.hid (Blk.new w 64 _)
  have HS := Lib.hid (hs.below F1.out)
  have HR := Lib.hid (hr.below F1.out)
  have XL : Hid (¬ w.heap.size = S ∧ ¬ w.heap.size = R) := Lib.hid (by have := hs.lt; have := hr.lt; omega)
  clear hs hr hk bk hp hu hx
  go_enter Try.func27, Try.ntmps27
  go_upto_region 1 with fail
  have HF : Hid (Fr (fun b => b = S ∨ b = R) w (w.alloc (.cells #[.int .i64 2, .int .u64 (u : Nat), .int .i64 n, .int .i64 m, .float .f64 x, .int .i64 o] 64))) := Lib.hid (Fr.of_below F1.out _)
  generalize (w.alloc (.cells #[.int .i64 2, .int .u64 (u : Nat), .int .i64 n, .int .i64 m, .float .f64 x, .int .i64 o] 64)) = w1 at *
  generalize w.heap.size = X at *
  clear F1
  have x0 : w1.cell? ⟨X, 0, none⟩ = some (.int .i64 2) := X1.out.cell 0
  have x1 : w1.cell? ⟨X, 1, none⟩ = some (.int .u64 (u : Nat)) := X1.out.cell 1
  go_upto_region 5 with fail
  clear x0 x1
  have X1W : Hid (∀ w', w'.heap[X]? = w1.heap[X]? → Blk w' X 64 [.int .i64 2, .int .u64 (u : Nat), .int .i64 n, .int .i64 m, .float .f64 x, .int .i64 o]) := Lib.hid (fun w' h => h.trans X1.out)
  have HEQ : Hid (w1.heap[X]? = some (.cells ([.int .i64 2, .int .u64 (u : Nat), .int .i64 n, .int .i64 m, .float .f64 x, .int .i64 o]).toArray 64 (0, 0))) := X1
  refine wp_region_held_drew (S := fun w' => w'.heap[X]? = w1.heap[X]?) (by kernel_rfl) (rfl) (fun hHeld => ?_)
  have HB0 : Hid (Below w1.heap.size w1 w1.drew) := Lib.hid (Below.refl _ _).drew
  replace HS := Lib.hid (HS.out.below HB0.out)
  replace HR := Lib.hid (HR.out.below HB0.out)
  replace X1 : Hid (Blk w1.drew X 64 [.int .i64 2, .int .u64 (u : Nat), .int .i64 n, .int .i64 m, .float .f64 x, .int .i64 o]) := X1
  replace HF := Lib.hid (HF.out.trans (Fr.of_below HB0.out _))
  clear HB0
  generalize w1.drew = v0 at HS HR X1 HF hHeld ⊢
  refine wpAnyH_take (i := 0) (oi := ⟨some 26, _, _, _, _, _⟩) (v := (.pointer (some ⟨S, 0, none⟩))) rfl (by kernel_rfl) (by kernel_rfl) (by kernel_rfl) (fun _ _ _ h => h) (Or.inl ⟨by rfl, ?_⟩) (by assumption) ?_
  · intro w' hS; go_simp; try with_reducible rfl
  simp only [Act.put, List.setIfInBounds_toArray, List.set_cons_zero, List.set_cons_succ]
  refine wpAnyH_take (i := 1) (oi := ⟨some 27, _, _, _, _, _⟩) (v := (.pointer (some ⟨X, 1, none⟩))) rfl (by kernel_rfl) (by kernel_rfl) (by kernel_rfl) (fun _ _ _ h => h) (Or.inl ⟨by rfl, ?_⟩) (by assumption) ?_
  · intro w' hS; go_simp; try with_reducible rfl
  simp only [Act.put, List.setIfInBounds_toArray, List.set_cons_zero, List.set_cons_succ]
  refine wpAnyH_take (i := 2) (oi := ⟨some 28, _, _, _, _, _⟩) (v := (.int .u64 (u : Nat))) rfl (by kernel_rfl) (by kernel_rfl) (by kernel_rfl) (fun _ _ _ h => h) (Or.inl ⟨by rfl, ?_⟩) (by assumption) ?_
  · intro w' hS; have hq := X1W.out w' hS; have h0 : w'.cell? ⟨X, 1, none⟩ = some (.int .u64 (u : Nat)) := hq.cell 1; clear hq; go_simp; try with_reducible rfl
  simp only [Act.put, List.setIfInBounds_toArray, List.set_cons_zero, List.set_cons_succ]
  refine wpAnyH_take (i := 4) (oi := ⟨some 30, _, _, _, _, _⟩) (v := (.pointer (some ⟨R, 0, none⟩))) rfl (by kernel_rfl) (by kernel_rfl) (by kernel_rfl) (fun _ _ _ h => h) (Or.inl ⟨by rfl, ?_⟩) (by assumption) ?_
  · intro w' hS; go_simp; try with_reducible rfl
  simp only [Act.put, List.setIfInBounds_toArray, List.set_cons_zero, List.set_cons_succ]
  refine wpAnyH_take (i := 5) (oi := ⟨some 31, _, _, _, _, _⟩) (v := (.pointer (some ⟨X, 1, none⟩))) rfl (by kernel_rfl) (by kernel_rfl) (by kernel_rfl) (fun _ _ _ h => h) (Or.inl ⟨by rfl, ?_⟩) (by assumption) ?_
  · intro w' hS; go_simp; try with_reducible rfl
  simp only [Act.put, List.setIfInBounds_toArray, List.set_cons_zero, List.set_cons_succ]
  refine wpAnyH_take (i := 6) (oi := ⟨some 32, _, _, _, _, _⟩) (v := (.int .u64 (u : Nat))) rfl (by kernel_rfl) (by kernel_rfl) (by kernel_rfl) (fun _ _ _ h => h) (Or.inl ⟨by rfl, ?_⟩) (by assumption) ?_
  · intro w' hS; have hq := X1W.out w' hS; have h0 : w'.cell? ⟨X, 1, none⟩ = some (.int .u64 (u : Nat)) := hq.cell 1; clear hq; go_simp; try with_reducible rfl
  simp only [Act.put, List.setIfInBounds_toArray, List.set_cons_zero, List.set_cons_succ]
  refine wpAnyH_ready (rs := [3]) (by kernel_rfl) (by simp) ?_
  refine AllReadyH.cons (o := ⟨some 29, _, _, _, _, _⟩) rfl (fun K hK => ?_) AllReadyH.nil
  rw [if_pos (by rfl)]
  go_simp
  refine (bel_all S u ks p v0 HS.out HK.out BK.out HU.out).mono ?_
  rintro e' v1 ⟨rfl, hs, hf⟩
  replace HR := Lib.hid (HR.out.keepS HS.out hf)
  replace X1 := Lib.hid (X1.out.fr hf XL.out.1)
  replace HF := Lib.hid (HF.out.trans (hf.mono (fun b hb => .inl hb)))
  replace HS := Lib.hid hs
  clear hs hf
  dsimp only
  (try simp only [Act.put, List.setIfInBounds_toArray, List.set_cons_zero, List.set_cons_succ])
  refine hK.out _ _ (X1.out.trans HEQ.out.symm) (fun hHeld => ?_)
  clear hK K
  refine wpAnyH_ready (rs := [7]) (by kernel_rfl) (by simp) ?_
  refine AllReadyH.cons (o := ⟨some 33, _, _, _, _, _⟩) rfl (fun K hK => ?_) AllReadyH.nil
  rw [if_pos (by rfl)]
  go_simp
  refine (rbel_all R u ks p v1 HR.out HK.out BK.out HU.out (by have := HP.out; omega)).mono ?_
  rintro e' v2 ⟨rfl, hs, hf⟩
  replace HS := Lib.hid (HS.out.keepR HR.out hf)
  replace X1 := Lib.hid (X1.out.fr hf XL.out.2)
  replace HF := Lib.hid (HF.out.trans (hf.mono (fun b hb => .inr hb)))
  replace HR := Lib.hid hs
  clear hs hf
  have HLE := Lib.hid (belV_le ks u p)
  obtain ⟨a, ha⟩ : ∃ a, a = (belV ks u p).1 := ⟨_, rfl⟩
  obtain ⟨p2, hp2⟩ : ∃ p2, p2 = (belV ks u p).2 := ⟨_, rfl⟩
  rw [← hp2] at HS HR HLE
  rw [← ha]
  clear ha hp2
  dsimp only
  (try simp only [Act.put, List.setIfInBounds_toArray, List.set_cons_zero, List.set_cons_succ])
  refine hK.out _ _ (X1.out.trans HEQ.out.symm) (fun hHeld => ?_)
  clear hK K
  refine wpAnyH_take (i := 8) (oi := ⟨some 34, _, _, _, _, _⟩) (v := (.bool true)) rfl (by kernel_rfl) (by kernel_rfl) (by kernel_rfl) (fun _ _ _ h => h) (Or.inl ⟨by rfl, ?_⟩) (by assumption) ?_
  · intro w' hS; go_simp; try with_reducible rfl
  simp only [Act.put, List.setIfInBounds_toArray, List.set_cons_zero, List.set_cons_succ]
  refine wpAnyH_take (i := 9) (oi := ⟨some 6, _, _, _, _, _⟩) (v := (.bool true)) rfl (by kernel_rfl) (by kernel_rfl) (by kernel_rfl) (fun _ _ _ h => h) (Or.inl ⟨by rfl, ?_⟩) (by assumption) ?_
  · intro w' hS; go_simp; try with_reducible rfl
  simp only [Act.put, List.setIfInBounds_toArray, List.set_cons_zero, List.set_cons_succ]
  refine wpAnyH_done (by kernel_rfl) ?_ _
  go_wp2_with fail
  go_ret
  exact ⟨rfl, _, by have := HLE.out; omega, HS.out, HR.out, HF.out⟩
set_option maxRecDepth 100000 in
set_option maxHeartbeats 4000000 in
theorem ask_laplace (S R : Nat) (ks : List Int) (p : Nat) (u : Nat) (n m : Int) (x : Nat) (o : Int) (w : World) (hs : Src w S ks p) (hr : RSrc w R ks p) (hk : ks.length = 32) (bk : B8 ks) (hp : p + 67108864 < 9223372036854775808) (hu : u < 18446744073709551616) (hx : (Lit.float .f64 x).wf = true) :
    Calls Try.prog 27 #[.pointer (some ⟨S, 0, none⟩), .pointer (some ⟨R, 0, none⟩), .agg #[.int .i64 7, .int .u64 (u : Nat), .int .i64 n, .int .i64 m, .float .f64 x, .int .i64 o]] w (AskP S R ks p w) := by
  have HK := Lib.hid hk
  have BK := Lib.hid bk
  have HP := Lib.hid hp
  have HU := Lib.hid hu
  have HX := Lib.hid hx
  have F1 := Lib.hid ((Below.refl w.heap.size w).alloc (Nat.le_refl _) (.cells #[.int .i64 7, .int .u64 (u : Nat), .int .i64 n, .int .i64 m, .float .f64 x, .int .i64 o] 64))
  have X1 : Hid (Blk (w.alloc (.cells #[.int .i64 7, .int .u64 (u : Nat), .int .i64 n, .int .i64 m, .float .f64 x, .int .i64 o] 64)) w.heap.size 64 [.int .i64 7, .int .u64 (u : Nat), .int .i64 n, .int .i64 m, .float .f64 x, .int .i64 o]) := Lib.hid (Blk.new w 64 _)
  have HS := Lib.hid (hs.below F1.out)
  have HR := Lib.hid (hr.below F1.out)
  have XL : Hid (¬ w.heap.size = S ∧ ¬ w.heap.size = R) := Lib.hid (by have := hs.lt; have := hr.lt; omega)
  clear hs hr hk bk hp hu hx
  go_enter Try.func27, Try.ntmps27
  go_upto_region 1 with fail
  have HF : Hid (Fr (fun b => b = S ∨ b = R) w (w.alloc (.cells #[.int .i64 7, .int .u64 (u : Nat), .int .i64 n, .int .i64 m, .float .f64 x, .int .i64 o] 64))) := Lib.hid (Fr.of_below F1.out _)
  generalize (w.alloc (.cells #[.int .i64 7, .int .u64 (u : Nat), .int .i64 n, .int .i64 m, .float .f64 x, .int .i64 o] 64)) = w1 at *
  generalize w.heap.size = X at *
  clear F1
  have x0 : w1.cell? ⟨X, 0, none⟩ = some (.int .i64 7) := X1.out.cell 0
  have x2 : w1.cell? ⟨X, 2, none⟩ = some (.int .i64 n) := X1.out.cell 2
  go_upto_region 27 with fail
  clear x0 x2
  have X1W : Hid (∀ w', w'.heap[X]? = w1.heap[X]? → Blk w' X 64 [.int .i64 7, .int .u64 (u : Nat), .int .i64 n, .int .i64 m, .float .f64 x, .int .i64 o]) := Lib.hid (fun w' h => h.trans X1.out)
  have HEQ : Hid (w1.heap[X]? = some (.cells ([.int .i64 7, .int .u64 (u : Nat), .int .i64 n, .int .i64 m, .float .f64 x, .int .i64 o]).toArray 64 (0, 0))) := X1
  refine wp_region_held_drew (S := fun w' => w'.heap[X]? = w1.heap[X]?) (by kernel_rfl) (rfl) (fun hHeld => ?_)
  have HB0 : Hid (Below w1.heap.size w1 w1.drew) := Lib.hid (Below.refl _ _).drew
  replace HS := Lib.hid (HS.out.below HB0.out)
  replace HR := Lib.hid (HR.out.below HB0.out)
  replace X1 : Hid (Blk w1.drew X 64 [.int .i64 7, .int .u64 (u : Nat), .int .i64 n, .int .i64 m, .float .f64 x, .int .i64 o]) := X1
  replace HF := Lib.hid (HF.out.trans (Fr.of_below HB0.out _))
  clear HB0
  generalize w1.drew = v0 at HS HR X1 HF hHeld ⊢
  refine wpAnyH_take (i := 0) (oi := ⟨some 101, _, _, _, _, _⟩) (v := (.pointer (some ⟨S, 0, none⟩))) rfl (by kernel_rfl) (by kernel_rfl) (by kernel_rfl) (fun _ _ _ h => h) (Or.inl ⟨by rfl, ?_⟩) (by assumption) ?_
  · intro w' hS; go_simp; try with_reducible rfl
  simp only [Act.put, List.setIfInBounds_toArray, List.set_cons_zero, List.set_cons_succ]
  refine wpAnyH_take (i := 1) (oi := ⟨some 102, _, _, _, _, _⟩) (v := (.pointer (some ⟨X, 2, none⟩))) rfl (by kernel_rfl) (by kernel_rfl) (by kernel_rfl) (fun _ _ _ h => h) (Or.inl ⟨by rfl, ?_⟩) (by assumption) ?_
  · intro w' hS; go_simp; try with_reducible rfl
  simp only [Act.put, List.setIfInBounds_toArray, List.set_cons_zero, List.set_cons_succ]
  refine wpAnyH_take (i := 2) (oi := ⟨some 103, _, _, _, _, _⟩) (v := (.int .i64 n)) rfl (by kernel_rfl) (by kernel_rfl) (by kernel_rfl) (fun _ _ _ h => h) (Or.inl ⟨by rfl, ?_⟩) (by assumption) ?_
  · intro w' hS; have hq := X1W.out w' hS; have h0 : w'.cell? ⟨X, 2, none⟩ = some (.int .i64 n) := hq.cell 2; clear hq; go_simp; try with_reducible rfl
  simp only [Act.put, List.setIfInBounds_toArray, List.set_cons_zero, List.set_cons_succ]
  refine wpAnyH_take (i := 3) (oi := ⟨some 104, _, _, _, _, _⟩) (v := (.pointer (some ⟨X, 4, none⟩))) rfl (by kernel_rfl) (by kernel_rfl) (by kernel_rfl) (fun _ _ _ h => h) (Or.inl ⟨by rfl, ?_⟩) (by assumption) ?_
  · intro w' hS; go_simp; try with_reducible rfl
  simp only [Act.put, List.setIfInBounds_toArray, List.set_cons_zero, List.set_cons_succ]
  refine wpAnyH_take (i := 4) (oi := ⟨some 105, _, _, _, _, _⟩) (v := (.agg #[.float .f64 x, .int .i64 o])) rfl (by kernel_rfl) (by kernel_rfl) (by kernel_rfl) (fun _ _ _ h => h) (Or.inl ⟨by rfl, ?_⟩) (by assumption) ?_
  · intro w' hS; have hq := X1W.out w' hS; have h0 : w'.cell? ⟨X, 4, none⟩ = some (.float .f64 x) := hq.cell 4; have h1 : w'.cell? ⟨X, 5, none⟩ = some (.int .i64 o) := hq.cell 5; clear hq; go_simp; try with_reducible rfl
  simp only [Act.put, List.setIfInBounds_toArray, List.set_cons_zero, List.set_cons_succ]
  refine wpAnyH_take (i := 6) (oi := ⟨some 107, _, _, _, _, _⟩) (v := (.pointer (some ⟨X, 3, none⟩))) rfl (by kernel_rfl) (by kernel_rfl) (by kernel_rfl) (fun _ _ _ h => h) (Or.inl ⟨by rfl, ?_⟩) (by assumption) ?_
  · intro w' hS; go_simp; try with_reducible rfl
  simp only [Act.put, List.setIfInBounds_toArray, List.set_cons_zero, List.set_cons_succ]
  refine wpAnyH_take (i := 7) (oi := ⟨some 108, _, _, _, _, _⟩) (v := (.int .i64 m)) rfl (by kernel_rfl) (by kernel_rfl) (by kernel_rfl) (fun _ _ _ h => h) (Or.inl ⟨by rfl, ?_⟩) (by assumption) ?_
  · intro w' hS; have hq := X1W.out w' hS; have h0 : w'.cell? ⟨X, 3, none⟩ = some (.int .i64 m) := hq.cell 3; clear hq; go_simp; try with_reducible rfl
  simp only [Act.put, List.setIfInBounds_toArray, List.set_cons_zero, List.set_cons_succ]
  refine wpAnyH_ready (rs := [5]) (by kernel_rfl) (by simp) ?_
  refine AllReadyH.cons (o := ⟨some 106, _, _, _, _, _⟩) rfl (fun K hK => ?_) AllReadyH.nil
  rw [if_pos (by rfl)]
  go_simp
  refine (value_any x o v0 HX.out).mono ?_
  rintro e' v1 ⟨r1, rfl, hv, -, bb⟩
  have Hr1 := Lib.hid hv
  replace HS := Lib.hid (HS.out.below bb)
  replace HR := Lib.hid (HR.out.below bb)
  replace X1 := Lib.hid (X1.out.below bb X1.out.lt)
  replace HF := Lib.hid (HF.out.trans (Fr.of_below bb _))
  clear bb hv
  dsimp only
  (try simp only [Act.put, List.setIfInBounds_toArray, List.set_cons_zero, List.set_cons_succ])
  refine hK.out _ _ (X1.out.trans HEQ.out.symm) (fun hHeld => ?_)
  clear hK K
  refine wpAnyH_ready (rs := [8]) (by kernel_rfl) (by simp) ?_
  refine AllReadyH.cons (o := ⟨some 109, _, _, _, _, _⟩) rfl (fun K hK => ?_) AllReadyH.nil
  rw [if_pos (by rfl)]
  go_simp
  refine (lap_all S n m r1 ks p v1 HS.out HK.out BK.out).mono ?_
  rintro e' v2 ⟨rfl, hs, hf⟩
  replace HR := Lib.hid (HR.out.keepS HS.out hf)
  replace X1 := Lib.hid (X1.out.fr hf XL.out.1)
  replace HF := Lib.hid (HF.out.trans (hf.mono (fun b hb => .inl hb)))
  replace HS := Lib.hid hs
  clear hs hf
  have HLE := Lib.hid (lapV_le ks r1 n m p)
  obtain ⟨T, hT⟩ : ∃ T, T = lapV ks r1 n m p := ⟨_, rfl⟩
  rw [← hT] at HS HLE ⊢
  have HT := Lib.hid hT
  clear hT
  obtain ⟨a, c, p2⟩ := T
  dsimp only at HS HLE ⊢
  (try simp only [Act.put, List.setIfInBounds_toArray, List.set_cons_zero, List.set_cons_succ])
  refine hK.out _ _ (X1.out.trans HEQ.out.symm) (fun hHeld => ?_)
  clear hK K
  refine wpAnyH_take (i := 9) (oi := ⟨some 100, _, _, _, _, _⟩) (v := (.tuple #[.int .i64 a, .int .i64 c])) rfl (by kernel_rfl) (by kernel_rfl) (by kernel_rfl) (fun _ _ _ h => h) (Or.inl ⟨by rfl, ?_⟩) (by assumption) ?_
  · intro w' hS; go_simp; try with_reducible rfl
  simp only [Act.put, List.setIfInBounds_toArray, List.set_cons_zero, List.set_cons_succ]
  refine wpAnyH_take (i := 10) (oi := ⟨some 110, _, _, _, _, _⟩) (v := (.int .i64 a)) rfl (by kernel_rfl) (by kernel_rfl) (by kernel_rfl) (fun _ _ _ h => h) (Or.inl ⟨by rfl, ?_⟩) (by assumption) ?_
  · intro w' hS; go_simp; try with_reducible rfl
  simp only [Act.put, List.setIfInBounds_toArray, List.set_cons_zero, List.set_cons_succ]
  refine wpAnyH_take (i := 11) (oi := ⟨some 111, _, _, _, _, _⟩) (v := (.int .i64 c)) rfl (by kernel_rfl) (by kernel_rfl) (by kernel_rfl) (fun _ _ _ h => h) (Or.inl ⟨by rfl, ?_⟩) (by assumption) ?_
  · intro w' hS; go_simp; try with_reducible rfl
  simp only [Act.put, List.setIfInBounds_toArray, List.set_cons_zero, List.set_cons_succ]
  refine wpAnyH_take (i := 12) (oi := ⟨some 11, _, _, _, _, _⟩) (v := (.int .i64 a)) rfl (by kernel_rfl) (by kernel_rfl) (by kernel_rfl) (fun _ _ _ h => h) (Or.inl ⟨by rfl, ?_⟩) (by assumption) ?_
  · intro w' hS; go_simp; try with_reducible rfl
  simp only [Act.put, List.setIfInBounds_toArray, List.set_cons_zero, List.set_cons_succ]
  refine wpAnyH_take (i := 13) (oi := ⟨some 12, _, _, _, _, _⟩) (v := (.int .i64 c)) rfl (by kernel_rfl) (by kernel_rfl) (by kernel_rfl) (fun _ _ _ h => h) (Or.inl ⟨by rfl, ?_⟩) (by assumption) ?_
  · intro w' hS; go_simp; try with_reducible rfl
  simp only [Act.put, List.setIfInBounds_toArray, List.set_cons_zero, List.set_cons_succ]
  refine wpAnyH_done (by kernel_rfl) ?_ _
  clear X1W HEQ
  go_upto_region 28 with fail
  have X1W : Hid (∀ w', w'.heap[X]? = v2.heap[X]? → Blk w' X 64 [.int .i64 7, .int .u64 (u : Nat), .int .i64 n, .int .i64 m, .float .f64 x, .int .i64 o]) := Lib.hid (fun w' h => h.trans X1.out)
  have HEQ : Hid (v2.heap[X]? = some (.cells ([.int .i64 7, .int .u64 (u : Nat), .int .i64 n, .int .i64 m, .float .f64 x, .int .i64 o]).toArray 64 (0, 0))) := X1
  refine wp_region_held_drew (S := fun w' => w'.heap[X]? = v2.heap[X]?) (by kernel_rfl) (rfl) (fun hHeld => ?_)
  have HB0 : Hid (Below v2.heap.size v2 v2.drew) := Lib.hid (Below.refl _ _).drew
  replace HS := Lib.hid (HS.out.below HB0.out)
  replace HR := Lib.hid (HR.out.below HB0.out)
  replace X1 : Hid (Blk v2.drew X 64 [.int .i64 7, .int .u64 (u : Nat), .int .i64 n, .int .i64 m, .float .f64 x, .int .i64 o]) := X1
  replace HF := Lib.hid (HF.out.trans (Fr.of_below HB0.out _))
  clear HB0
  generalize v2.drew = v0 at HS HR X1 HF hHeld ⊢
  refine wpAnyH_take (i := 0) (oi := ⟨some 113, _, _, _, _, _⟩) (v := (.pointer (some ⟨R, 0, none⟩))) rfl (by kernel_rfl) (by kernel_rfl) (by kernel_rfl) (fun _ _ _ h => h) (Or.inl ⟨by rfl, ?_⟩) (by assumption) ?_
  · intro w' hS; go_simp; try with_reducible rfl
  simp only [Act.put, List.setIfInBounds_toArray, List.set_cons_zero, List.set_cons_succ]
  refine wpAnyH_take (i := 1) (oi := ⟨some 114, _, _, _, _, _⟩) (v := (.pointer (some ⟨X, 2, none⟩))) rfl (by kernel_rfl) (by kernel_rfl) (by kernel_rfl) (fun _ _ _ h => h) (Or.inl ⟨by rfl, ?_⟩) (by assumption) ?_
  · intro w' hS; go_simp; try with_reducible rfl
  simp only [Act.put, List.setIfInBounds_toArray, List.set_cons_zero, List.set_cons_succ]
  refine wpAnyH_take (i := 2) (oi := ⟨some 115, _, _, _, _, _⟩) (v := (.int .i64 n)) rfl (by kernel_rfl) (by kernel_rfl) (by kernel_rfl) (fun _ _ _ h => h) (Or.inl ⟨by rfl, ?_⟩) (by assumption) ?_
  · intro w' hS; have hq := X1W.out w' hS; have h0 : w'.cell? ⟨X, 2, none⟩ = some (.int .i64 n) := hq.cell 2; clear hq; go_simp; try with_reducible rfl
  simp only [Act.put, List.setIfInBounds_toArray, List.set_cons_zero, List.set_cons_succ]
  refine wpAnyH_take (i := 3) (oi := ⟨some 116, _, _, _, _, _⟩) (v := (.pointer (some ⟨X, 4, none⟩))) rfl (by kernel_rfl) (by kernel_rfl) (by kernel_rfl) (fun _ _ _ h => h) (Or.inl ⟨by rfl, ?_⟩) (by assumption) ?_
  · intro w' hS; go_simp; try with_reducible rfl
  simp only [Act.put, List.setIfInBounds_toArray, List.set_cons_zero, List.set_cons_succ]
  refine wpAnyH_take (i := 4) (oi := ⟨some 117, _, _, _, _, _⟩) (v := (.agg #[.float .f64 x, .int .i64 o])) rfl (by kernel_rfl) (by kernel_rfl) (by kernel_rfl) (fun _ _ _ h => h) (Or.inl ⟨by rfl, ?_⟩) (by assumption) ?_
  · intro w' hS; have hq := X1W.out w' hS; have h0 : w'.cell? ⟨X, 4, none⟩ = some (.float .f64 x) := hq.cell 4; have h1 : w'.cell? ⟨X, 5, none⟩ = some (.int .i64 o) := hq.cell 5; clear hq; go_simp; try with_reducible rfl
  simp only [Act.put, List.setIfInBounds_toArray, List.set_cons_zero, List.set_cons_succ]
  refine wpAnyH_take (i := 6) (oi := ⟨some 119, _, _, _, _, _⟩) (v := (.pointer (some ⟨X, 3, none⟩))) rfl (by kernel_rfl) (by kernel_rfl) (by kernel_rfl) (fun _ _ _ h => h) (Or.inl ⟨by rfl, ?_⟩) (by assumption) ?_
  · intro w' hS; go_simp; try with_reducible rfl
  simp only [Act.put, List.setIfInBounds_toArray, List.set_cons_zero, List.set_cons_succ]
  refine wpAnyH_take (i := 7) (oi := ⟨some 120, _, _, _, _, _⟩) (v := (.int .i64 m)) rfl (by kernel_rfl) (by kernel_rfl) (by kernel_rfl) (fun _ _ _ h => h) (Or.inl ⟨by rfl, ?_⟩) (by assumption) ?_
  · intro w' hS; have hq := X1W.out w' hS; have h0 : w'.cell? ⟨X, 3, none⟩ = some (.int .i64 m) := hq.cell 3; clear hq; go_simp; try with_reducible rfl
  simp only [Act.put, List.setIfInBounds_toArray, List.set_cons_zero, List.set_cons_succ]
  refine wpAnyH_ready (rs := [5]) (by kernel_rfl) (by simp) ?_
  refine AllReadyH.cons (o := ⟨some 118, _, _, _, _, _⟩) rfl (fun K hK => ?_) AllReadyH.nil
  rw [if_pos (by rfl)]
  go_simp
  refine (value_any x o v0 HX.out).mono ?_
  rintro e' v3 ⟨r2, rfl, hv, -, bb⟩
  have Hr2 := Lib.hid hv
  replace HS := Lib.hid (HS.out.below bb)
  replace HR := Lib.hid (HR.out.below bb)
  replace X1 := Lib.hid (X1.out.below bb X1.out.lt)
  replace HF := Lib.hid (HF.out.trans (Fr.of_below bb _))
  clear bb hv
  dsimp only
  (try simp only [Act.put, List.setIfInBounds_toArray, List.set_cons_zero, List.set_cons_succ])
  refine hK.out _ _ (X1.out.trans HEQ.out.symm) (fun hHeld => ?_)
  clear hK K
  refine wpAnyH_ready (rs := [8]) (by kernel_rfl) (by simp) ?_
  refine AllReadyH.cons (o := ⟨some 121, _, _, _, _, _⟩) rfl (fun K hK => ?_) AllReadyH.nil
  rw [if_pos (by rfl)]
  go_simp
  have hcc := rlap_all R n m r2 ks p v3 HR.out HK.out BK.out (by have := HP.out; omega)
  rw [lapV_alike (Hr2.out.trans Hr1.out.symm) ks n m p, ← HT.out] at hcc
  refine hcc.mono ?_
  rintro e' v4 ⟨rfl, hs, hf⟩
  replace HS := Lib.hid (HS.out.keepR HR.out hf)
  replace X1 := Lib.hid (X1.out.fr hf XL.out.2)
  replace HF := Lib.hid (HF.out.trans (hf.mono (fun b hb => .inr hb)))
  replace HR := Lib.hid hs
  clear hs hf hcc
  dsimp only at HR ⊢
  (try simp only [Act.put, List.setIfInBounds_toArray, List.set_cons_zero, List.set_cons_succ])
  refine hK.out _ _ (X1.out.trans HEQ.out.symm) (fun hHeld => ?_)
  clear hK K
  refine wpAnyH_take (i := 9) (oi := ⟨some 112, _, _, _, _, _⟩) (v := (.tuple #[.int .i64 a, .int .i64 c])) rfl (by kernel_rfl) (by kernel_rfl) (by kernel_rfl) (fun _ _ _ h => h) (Or.inl ⟨by rfl, ?_⟩) (by assumption) ?_
  · intro w' hS; go_simp; try with_reducible rfl
  simp only [Act.put, List.setIfInBounds_toArray, List.set_cons_zero, List.set_cons_succ]
  refine wpAnyH_take (i := 10) (oi := ⟨some 122, _, _, _, _, _⟩) (v := (.int .i64 a)) rfl (by kernel_rfl) (by kernel_rfl) (by kernel_rfl) (fun _ _ _ h => h) (Or.inl ⟨by rfl, ?_⟩) (by assumption) ?_
  · intro w' hS; go_simp; try with_reducible rfl
  simp only [Act.put, List.setIfInBounds_toArray, List.set_cons_zero, List.set_cons_succ]
  refine wpAnyH_take (i := 11) (oi := ⟨some 123, _, _, _, _, _⟩) (v := (.int .i64 c)) rfl (by kernel_rfl) (by kernel_rfl) (by kernel_rfl) (fun _ _ _ h => h) (Or.inl ⟨by rfl, ?_⟩) (by assumption) ?_
  · intro w' hS; go_simp; try with_reducible rfl
  simp only [Act.put, List.setIfInBounds_toArray, List.set_cons_zero, List.set_cons_succ]
  refine wpAnyH_take (i := 12) (oi := ⟨some 13, _, _, _, _, _⟩) (v := (.int .i64 a)) rfl (by kernel_rfl) (by kernel_rfl) (by kernel_rfl) (fun _ _ _ h => h) (Or.inl ⟨by rfl, ?_⟩) (by assumption) ?_
  · intro w' hS; go_simp; try with_reducible rfl
  simp only [Act.put, List.setIfInBounds_toArray, List.set_cons_zero, List.set_cons_succ]
  refine wpAnyH_take (i := 13) (oi := ⟨some 14, _, _, _, _, _⟩) (v := (.int .i64 c)) rfl (by kernel_rfl) (by kernel_rfl) (by kernel_rfl) (fun _ _ _ h => h) (Or.inl ⟨by rfl, ?_⟩) (by assumption) ?_
  · intro w' hS; go_simp; try with_reducible rfl
  simp only [Act.put, List.setIfInBounds_toArray, List.set_cons_zero, List.set_cons_succ]
  refine wpAnyH_done (by kernel_rfl) ?_ _
  go_wp2_with fail
  go_ret
  exact ⟨rfl, _, by have := HLE.out; omega, HS.out, HR.out, HF.out⟩
set_option maxRecDepth 100000 in
set_option maxHeartbeats 4000000 in
theorem ask_none (S R : Nat) (ks : List Int) (p : Nat) (d : Int) (u : Nat) (n m : Int) (x : Nat) (o : Int) (w : World) (hs : Src w S ks p) (hr : RSrc w R ks p) (hk : ks.length = 32) (bk : B8 ks) (hp : p + 67108864 < 9223372036854775808) (hu : u < 18446744073709551616) (hx : (Lit.float .f64 x).wf = true) (hd : ∀ i : Int, 1 ≤ i → i ≤ 7 → ¬ d = i) :
    Calls Try.prog 27 #[.pointer (some ⟨S, 0, none⟩), .pointer (some ⟨R, 0, none⟩), .agg #[.int .i64 d, .int .u64 (u : Nat), .int .i64 n, .int .i64 m, .float .f64 x, .int .i64 o]] w (AskP S R ks p w) := by
  have HK := Lib.hid hk
  have BK := Lib.hid bk
  have HP := Lib.hid hp
  have HU := Lib.hid hu
  have HX := Lib.hid hx
  have F1 := Lib.hid ((Below.refl w.heap.size w).alloc (Nat.le_refl _) (.cells #[.int .i64 d, .int .u64 (u : Nat), .int .i64 n, .int .i64 m, .float .f64 x, .int .i64 o] 64))
  have X1 : Hid (Blk (w.alloc (.cells #[.int .i64 d, .int .u64 (u : Nat), .int .i64 n, .int .i64 m, .float .f64 x, .int .i64 o] 64)) w.heap.size 64 [.int .i64 d, .int .u64 (u : Nat), .int .i64 n, .int .i64 m, .float .f64 x, .int .i64 o]) := Lib.hid (Blk.new w 64 _)
  have HS := Lib.hid (hs.below F1.out)
  have HR := Lib.hid (hr.below F1.out)
  have XL : Hid (¬ w.heap.size = S ∧ ¬ w.heap.size = R) := Lib.hid (by have := hs.lt; have := hr.lt; omega)
  clear hs hr hk bk hp hu hx
  go_enter Try.func27, Try.ntmps27
  go_upto_region 1 with fail
  have HF : Hid (Fr (fun b => b = S ∨ b = R) w (w.alloc (.cells #[.int .i64 d, .int .u64 (u : Nat), .int .i64 n, .int .i64 m, .float .f64 x, .int .i64 o] 64))) := Lib.hid (Fr.of_below F1.out _)
  generalize (w.alloc (.cells #[.int .i64 d, .int .u64 (u : Nat), .int .i64 n, .int .i64 m, .float .f64 x, .int .i64 o] 64)) = w1 at *
  generalize w.heap.size = X at *
  clear F1
  have x0 : w1.cell? ⟨X, 0, none⟩ = some (.int .i64 d) := X1.out.cell 0
  have d1 : ¬ d = 1 := hd 1 (by decide) (by decide)
  have e1 : (d == 1) = false := by simpa using d1
  have d2 : ¬ d = 2 := hd 2 (by decide) (by decide)
  have e2 : (d == 2) = false := by simpa using d2
  have d3 : ¬ d = 3 := hd 3 (by decide) (by decide)
  have e3 : (d == 3) = false := by simpa using d3
  have d4 : ¬ d = 4 := hd 4 (by decide) (by decide)
  have e4 : (d == 4) = false := by simpa using d4
  have d5 : ¬ d = 5 := hd 5 (by decide) (by decide)
  have e5 : (d == 5) = false := by simpa using d5
  have d6 : ¬ d = 6 := hd 6 (by decide) (by decide)
  have e6 : (d == 6) = false := by simpa using d6
  have d7 : ¬ d = 7 := hd 7 (by decide) (by decide)
  have e7 : (d == 7) = false := by simpa using d7
  clear hd
  go_wp2_with fail
  go_ret
  exact ⟨rfl, p, by omega, HS.out, HR.out, HF.out⟩
end Go.Proofs.Ytcfbaildcocnhaa
set_option linter.unusedVariables false
set_option linter.unusedSimpArgs false
namespace Go.Proofs.Ytcfbaildcocnhaa
open Go.RowKit

theorem own_rd' {w : World} {base : Nat} {T : TypeId} {kd : IntKind} {A : Option Addr} {n c : Nat} {xs : List Int} (h : Own w base T kd (.slice A n c) xs) : Rd w kd A xs := by
  obtain ⟨A', c', h1, -, -, h4, -⟩ := Own.slice h
  injection h1 with q1
  subst q1
  exact h4
set_option maxRecDepth 100000 in
set_option maxHeartbeats 4000000 in
theorem ask_bytes (S R : Nat) (ks : List Int) (p : Nat) (u : Nat) (n m : Int) (x : Nat) (o : Int) (w : World) (hs : Src w S ks p) (hr : RSrc w R ks p) (hk : ks.length = 32) (bk : B8 ks) (hp : p + 67108864 < 9223372036854775808) (hu : u < 18446744073709551616) (hx : (Lit.float .f64 x).wf = true) :
    Calls Try.prog 27 #[.pointer (some ⟨S, 0, none⟩), .pointer (some ⟨R, 0, none⟩), .agg #[.int .i64 5, .int .u64 (u : Nat), .int .i64 n, .int .i64 m, .float .f64 x, .int .i64 o]] w (AskP S R ks p w) := by
  have HK := Lib.hid hk
  have BK := Lib.hid bk
  have HP := Lib.hid hp
  have HU := Lib.hid hu
  have HX := Lib.hid hx
  have F1 := Lib.hid ((Below.refl w.heap.size w).alloc (Nat.le_refl _) (.cells #[.int .i64 5, .int .u64 (u : Nat), .int .i64 n, .int .i64 m, .float .f64 x, .int .i64 o] 64))
  have X1 : Hid (Blk (w.alloc (.cells #[.int .i64 5, .int .u64 (u : Nat), .int .i64 n, .int .i64 m, .float .f64 x, .int .i64 o] 64)) w.heap.size 64 [.int .i64 5, .int .u64 (u : Nat), .int .i64 n, .int .i64 m, .float .f64 x, .int .i64 o]) := Lib.hid (Blk.new w 64 _)
  have HS := Lib.hid (hs.below F1.out)
  have HR := Lib.hid (hr.below F1.out)
  have XL : Hid (¬ w.heap.size = S ∧ ¬ w.heap.size = R) := Lib.hid (by have := hs.lt; have := hr.lt; omega)
  clear hs hr hk bk hp hu hx
  go_enter Try.func27, Try.ntmps27
  go_upto_region 1 with fail
  have HF : Hid (Fr (fun b => b = S ∨ b = R) w (w.alloc (.cells #[.int .i64 5, .int .u64 (u : Nat), .int .i64 n, .int .i64 m, .float .f64 x, .int .i64 o] 64))) := Lib.hid (Fr.of_below F1.out _)
  generalize (w.alloc (.cells #[.int .i64 5, .int .u64 (u : Nat), .int .i64 n, .int .i64 m, .float .f64 x, .int .i64 o] 64)) = w1 at *
  generalize w.heap.size = X at *
  clear F1
  have x0 : w1.cell? ⟨X, 0, none⟩ = some (.int .i64 5) := X1.out.cell 0
  have HW1 : Hid (w.heap.size ≤ w1.heap.size) := Lib.hid HF.out.size
  have x2 : w1.cell? ⟨X, 2, none⟩ = some (.int .i64 n) := X1.out.cell 2
  by_cases hno : n < 1 ∨ 1048576 < n
  · have HNO := Lib.hid hno
    go_wp2_with fail
    refine (bytes_none (some ⟨S, 0, none⟩) n w1 (.inr HNO.out)).mono ?_
    rintro e w2 ⟨rfl, hw⟩
    obtain rfl : w1 = w2 := hw.symm
    go_wp2_with fail
    refine (rbytes_none R n w1 HNO.out).mono ?_
    rintro e w2 ⟨rfl, hw⟩
    obtain rfl : w1 = w2 := hw.symm
    go_wp2_with fail
    have hcc := eqb_any none none 0 0 0 0 [] [] w1 rfl rfl (Rd.nil _ _ _) (Rd.nil _ _ _) (by decide) (by decide)
    refine hcc.mono ?_
    rintro e w2 ⟨z, rfl, rfl⟩
    replace HS := Lib.hid (HS.out.below (belowN (Below.refl _ _) z))
    replace HR := Lib.hid (HR.out.below (belowN (Below.refl _ _) z))
    replace HF := Lib.hid (HF.out.drewN z)
    generalize w1.drewN z = w2 at HS HR HF ⊢
    clear hcc x0 x2
    go_wp2_with fail
    go_loopw [8] (fun z wx => z = .int .i64 0 ∧ wx = w2) (fun _ _ => 0)
    case atStart => exact ⟨rfl, rfl⟩
    case round =>
      obtain ⟨rfl, rfl⟩ := hrel
      go_wp2_with fail
      go_ret
      exact ⟨rfl, p, by omega, HS.out, HR.out, HF.out⟩
  · obtain ⟨N, rfl⟩ : ∃ N : Nat, n = (N : Int) := ⟨n.toNat, by omega⟩
    have HN : Hid (1 ≤ N ∧ N ≤ 1048576) := Lib.hid (by omega)
    clear hno
    go_wp2_with fail
    refine (bytes_some S N ks p w1 HS.out HK.out BK.out HN.out.1 HN.out.2).mono ?_
    rintro e w2 ⟨v, rfl, ho, hs, hf⟩
    replace HR := Lib.hid (HR.out.keepS HS.out hf)
    replace X1 := Lib.hid (X1.out.fr hf XL.out.1)
    replace HF := Lib.hid (HF.out.trans (hf.mono (fun b hb => .inl hb)))
    replace HS := Lib.hid hs
    have HO := Lib.hid ho
    obtain ⟨A, c, rfl, -, -, -, -⟩ := ho.slice
    rw [rowL_len] at HO ⊢
    clear ho hs hf x0 x2
    have x2 : w2.cell? ⟨X, 2, none⟩ = some (.int .i64 N) := X1.out.cell 2
    go_wp2_with fail
    clear x2
    refine (rbytes_some R N ks p w2 HR.out HK.out BK.out HN.out.1 HN.out.2 (by have := HP.out; have := HN.out; omega)).mono ?_
    rintro e w3 ⟨v2, rfl, ho2, hs, hf⟩
    replace HO := Lib.hid (HO.out.keepR HR.out (by decide) hf)
    replace HS := Lib.hid (HS.out.keepR HR.out hf)
    replace HF := Lib.hid (HF.out.trans (hf.mono (fun b hb => .inr hb)))
    replace HR := Lib.hid hs
    have HO2 := Lib.hid ho2
    obtain ⟨A2, c2, rfl, -, -, -, -⟩ := ho2.slice
    rw [rowL_len] at HO2 ⊢
    clear ho2 hs hf X1
    have OA := Lib.hid (own_rd' HO.out)
    have OB := Lib.hid (own_rd' HO2.out)
    go_wp2_with fail
    have hcc := eqb_any A A2 N N c c2 (rowL ks p N) (rowL ks p N) w3 (rowL_len _ _ _).symm (rowL_len _ _ _).symm OA.out OB.out (by rw [rowL_len]; have := HN.out; omega) (by rw [rowL_len]; have := HN.out; omega)
    rw [show decide ((rowL ks p N) = (rowL ks p N)) = true from by simp] at hcc
    refine hcc.mono ?_
    rintro e w4 ⟨z, rfl, rfl⟩
    replace HS := Lib.hid (HS.out.below (belowN (Below.refl _ _) z))
    replace HR := Lib.hid (HR.out.below (belowN (Below.refl _ _) z))
    replace HF := Lib.hid (HF.out.drewN z)
    replace HO := Lib.hid (HO.out.drewN z)
    generalize w3.drewN z = w4 at HS HR HF HO ⊢
    clear hcc OA OB HO2
    have LX : Hid (((rowL ks p N)).length = N) := Lib.hid (rowL_len _ _ _)
    have HQ : Hid (p + N ≤ p + 67108864) := Lib.hid (by have := HN.out; omega)
    obtain ⟨g, r, rfl, hge, hB⟩ : ∃ g r, A = some ⟨g, 0, none⟩ ∧ w1.heap.size ≤ g ∧ Blk w4 g 5 (((rowL ks p N)).map (Value.int .u8) ++ r) := by
      rcases HO.out.form with ⟨h1, h2⟩ | ⟨g, c', rest, h4, h5, h6, h7, h8⟩
      · have hz := LX.out; rw [h2] at hz; have hn := HN.out; simp at hz; omega
      · injection h4 with q1
        exact ⟨g, rest, q1, h5, h6⟩
    have HGE := Lib.hid hge
    have BL := Lib.hid hB
    have HGW : Hid (∀ b, b = S ∨ b = R ∨ b < w1.heap.size ∨ True) := Lib.hid (fun _ => .inr (.inr (.inr trivial)))
    clear hge hB
    go_wp2_with fail
    go_loopw [8] (fun zv wx => ∃ (i : Nat) (l : List Int), zv = .int .i64 i ∧ Hid (i ≤ N) ∧ Hid (l.length = N) ∧ Hid (Blk wx g 5 (l.map (Value.int .u8) ++ r)) ∧ Hid (Fr (fun b => b = g) w4 wx)) (fun zv _ => N - (intOf zv).toNat)
    case atStart => exact ⟨0, _, rfl, Lib.hid (Nat.zero_le _), LX, BL, Lib.hid (Fr.refl _ _)⟩
    case round =>
      clear BL
      obtain ⟨i, l, rfl, HI, HL, BL, HFG⟩ := hrel
      have hin : i ≤ 1048576 := by have := HI.out; have := HN.out; omega
      have m1 : IntKind.i64.wrap ((i : Int) + 1) = ((i + 1 : Nat) : Int) := by rw [IntKind.wrap_i64] <;> omega
      by_cases hlt : i < N
      · have d1 : decide ((i : Int) < (N : Int)) = true := decide_eq_true (by omega)
        have d2 : decide (i < N) = true := decide_eq_true hlt
        obtain ⟨y, hc⟩ : ∃ y, wr.cell? ⟨g, i, none⟩ = some (.int .u8 y) := ⟨_, row_cell' BL.out (by rw [HL.out]; exact hlt)⟩
        have hfz : wr.frozen? ⟨g, i, none⟩ = false := BL.out.frozen _
        have HLT := Lib.hid hlt
        go_wp2_with fail
        go_roundw
        case rel => exact ⟨i + 1, l.set i _, by go_num, Lib.hid (by have := HLT.out; omega), Lib.hid (by rw [List.length_set]; exact HL.out), Lib.hid (blk_set' BL.out i _ (by rw [HL.out]; exact HLT.out)), Lib.hid (HFG.out.setCell (p := ⟨g, i, none⟩) (.inl rfl) _)⟩
        case measure => simp [intOf]; have := HLT.out; omega
      · have d1 : decide ((i : Int) < (N : Int)) = false := decide_eq_false (by omega)
        have d2 : decide (i < N) = false := decide_eq_false hlt
        go_wp2_with fail
        go_ret
        refine ⟨rfl, _, HQ.out, HO.out.sepS HS.out (by decide) (by decide) rfl HFG.out, HO.out.sepR HR.out (by decide) rfl HFG.out, ?_⟩
        exact HF.out.then HFG.out (fun b hb => .inr (by rw [hb]; exact Nat.le_trans HW1.out HGE.out))
set_option maxRecDepth 100000 in
set_option maxHeartbeats 4000000 in
theorem ask_shuffle (S R : Nat) (ks : List Int) (p : Nat) (u : Nat) (n m : Int) (x : Nat) (o : Int) (w : World) (hs : Src w S ks p) (hr : RSrc w R ks p) (hk : ks.length = 32) (bk : B8 ks) (hp : p + 67108864 < 9223372036854775808) (hu : u < 18446744073709551616) (hx : (Lit.float .f64 x).wf = true) :
    Calls Try.prog 27 #[.pointer (some ⟨S, 0, none⟩), .pointer (some ⟨R, 0, none⟩), .agg #[.int .i64 6, .int .u64 (u : Nat), .int .i64 n, .int .i64 m, .float .f64 x, .int .i64 o]] w (AskP S R ks p w) := by
  have HK := Lib.hid hk
  have BK := Lib.hid bk
  have HP := Lib.hid hp
  have HU := Lib.hid hu
  have HX := Lib.hid hx
  have F1 := Lib.hid ((Below.refl w.heap.size w).alloc (Nat.le_refl _) (.cells #[.int .i64 6, .int .u64 (u : Nat), .int .i64 n, .int .i64 m, .float .f64 x, .int .i64 o] 64))
  have X1 : Hid (Blk (w.alloc (.cells #[.int .i64 6, .int .u64 (u : Nat), .int .i64 n, .int .i64 m, .float .f64 x, .int .i64 o] 64)) w.heap.size 64 [.int .i64 6, .int .u64 (u : Nat), .int .i64 n, .int .i64 m, .float .f64 x, .int .i64 o]) := Lib.hid (Blk.new w 64 _)
  have HS := Lib.hid (hs.below F1.out)
  have HR := Lib.hid (hr.below F1.out)
  have XL : Hid (¬ w.heap.size = S ∧ ¬ w.heap.size = R) := Lib.hid (by have := hs.lt; have := hr.lt; omega)
  clear hs hr hk bk hp hu hx
  go_enter Try.func27, Try.ntmps27
  go_upto_region 1 with fail
  have HF : Hid (Fr (fun b => b = S ∨ b = R) w (w.alloc (.cells #[.int .i64 6, .int .u64 (u : Nat), .int .i64 n, .int .i64 m, .float .f64 x, .int .i64 o] 64))) := Lib.hid (Fr.of_below F1.out _)
  generalize (w.alloc (.cells #[.int .i64 6, .int .u64 (u : Nat), .int .i64 n, .int .i64 m, .float .f64 x, .int .i64 o] 64)) = w1 at *
  generalize w.heap.size = X at *
  clear F1
  have x0 : w1.cell? ⟨X, 0, none⟩ = some (.int .i64 6) := X1.out.cell 0
  have HW1 : Hid (w.heap.size ≤ w1.heap.size) := Lib.hid HF.out.size
  have x2 : w1.cell? ⟨X, 2, none⟩ = some (.int .i64 n) := X1.out.cell 2
  by_cases hno : n < 1 ∨ 65536 < n
  · have HNO := Lib.hid hno
    go_wp2_with fail
    refine (shuffle_none S n w1 HNO.out).mono ?_
    rintro e w2 ⟨rfl, hw⟩
    obtain rfl : w1 = w2 := hw.symm
    go_wp2_with fail
    refine (rshuffle_none R n w1 HNO.out).mono ?_
    rintro e w2 ⟨rfl, hw⟩
    obtain rfl : w1 = w2 := hw.symm
    go_wp2_with fail
    have hcc := eqi_any none none 0 0 [] [] w1 (Rd.nil _ _ _) (Rd.nil _ _ _) (by decide) (by decide)
    refine hcc.mono ?_
    rintro e w2 ⟨z, rfl, rfl⟩
    replace HS := Lib.hid (HS.out.below (belowN (Below.refl _ _) z))
    replace HR := Lib.hid (HR.out.below (belowN (Below.refl _ _) z))
    replace HF := Lib.hid (HF.out.drewN z)
    generalize w1.drewN z = w2 at HS HR HF ⊢
    clear hcc x0 x2
    go_wp2_with fail
    go_loopw [10] (fun z wx => z = .int .i64 0 ∧ wx = w2) (fun _ _ => 0)
    case atStart => exact ⟨rfl, rfl⟩
    case round =>
      obtain ⟨rfl, rfl⟩ := hrel
      go_wp2_with fail
      go_ret
      exact ⟨rfl, p, by omega, HS.out, HR.out, HF.out⟩
  · obtain ⟨N, rfl⟩ : ∃ N : Nat, n = (N : Int) := ⟨n.toNat, by omega⟩
    have HN : Hid (1 ≤ N ∧ N ≤ 65536) := Lib.hid (by omega)
    clear hno
    go_wp2_with fail
    refine (shuffle_any S N ks p w1 HS.out HK.out BK.out HN.out.1 HN.out.2).mono ?_
    rintro e w2 ⟨v, rfl, ho, hs, hf⟩
    replace HR := Lib.hid (HR.out.keepS HS.out hf)
    replace X1 := Lib.hid (X1.out.fr hf XL.out.1)
    replace HF := Lib.hid (HF.out.trans (hf.mono (fun b hb => .inl hb)))
    replace HS := Lib.hid hs
    have HO := Lib.hid ho
    obtain ⟨A, c, rfl, -, -, -, -⟩ := ho.slice
    rw [shL_len] at HO ⊢
    clear ho hs hf x0 x2
    have x2 : w2.cell? ⟨X, 2, none⟩ = some (.int .i64 N) := X1.out.cell 2
    go_wp2_with fail
    clear x2
    refine (rshuffle_any R N ks p w2 HR.out HK.out BK.out HN.out.1 HN.out.2 (by have := HP.out; have := HN.out; omega)).mono ?_
    rintro e w3 ⟨v2, rfl, ho2, hs, hf⟩
    replace HO := Lib.hid (HO.out.keepR HR.out (by decide) hf)
    replace HS := Lib.hid (HS.out.keepR HR.out hf)
    replace HF := Lib.hid (HF.out.trans (hf.mono (fun b hb => .inr hb)))
    replace HR := Lib.hid hs
    have HO2 := Lib.hid ho2
    obtain ⟨A2, c2, rfl, -, -, -, -⟩ := ho2.slice
    rw [shL_len] at HO2 ⊢
    clear ho2 hs hf X1
    have OA := Lib.hid (own_rd' HO.out)
    have OB := Lib.hid (own_rd' HO2.out)
    go_wp2_with fail
    have hcc := eqi_any A A2 c c2 (shL ks N p) (shL ks N p) w3 OA.out OB.out (by rw [shL_len]; have := HN.out; omega) (by rw [shL_len]; have := HN.out; omega)
    rw [show decide ((shL ks N p) = (shL ks N p)) = true from by simp] at hcc
    rw [shL_len] at hcc
    refine hcc.mono ?_
    rintro e w4 ⟨z, rfl, rfl⟩
    replace HS := Lib.hid (HS.out.below (belowN (Below.refl _ _) z))
    replace HR := Lib.hid (HR.out.below (belowN (Below.refl _ _) z))
    replace HF := Lib.hid (HF.out.drewN z)
    replace HO := Lib.hid (HO.out.drewN z)
    generalize w3.drewN z = w4 at HS HR HF HO ⊢
    clear hcc OA OB HO2
    have LX : Hid (((shL ks N p)).length = N) := Lib.hid (shL_len _ _ _)
    have HQ : Hid (shQ ks N p ≤ p + 67108864) := Lib.hid (by have h := shR_snd ks (N - 1) (iota N) p; have := HN.out; show (shR ks (N - 1) (iota N) p).2 ≤ _; omega)
    obtain ⟨g, r, rfl, hge, hB⟩ : ∃ g r, A = some ⟨g, 0, none⟩ ∧ w1.heap.size ≤ g ∧ Blk w4 g 3 (((shL ks N p)).map (Value.int .i64) ++ r) := by
      rcases HO.out.form with ⟨h1, h2⟩ | ⟨g, c', rest, h4, h5, h6, h7, h8⟩
      · have hz := LX.out; rw [h2] at hz; have hn := HN.out; simp at hz; omega
      · injection h4 with q1
        exact ⟨g, rest, q1, h5, h6⟩
    have HGE := Lib.hid hge
    have BL := Lib.hid hB
    have HGW : Hid (∀ b, b = S ∨ b = R ∨ b < w1.heap.size ∨ True) := Lib.hid (fun _ => .inr (.inr (.inr trivial)))
    clear hge hB
    go_wp2_with fail
    go_loopw [10] (fun zv wx => ∃ (i : Nat) (l : List Int), zv = .int .i64 i ∧ Hid (i ≤ N) ∧ Hid (l.length = N) ∧ Hid (Blk wx g 3 (l.map (Value.int .i64) ++ r)) ∧ Hid (Fr (fun b => b = g) w4 wx)) (fun zv _ => N - (intOf zv).toNat)
    case atStart => exact ⟨0, _, rfl, Lib.hid (Nat.zero_le _), LX, BL, Lib.hid (Fr.refl _ _)⟩
    case round =>
      clear BL
      obtain ⟨i, l, rfl, HI, HL, BL, HFG⟩ := hrel
      have hin : i ≤ 1048576 := by have := HI.out; have := HN.out; omega
      have m1 : IntKind.i64.wrap ((i : Int) + 1) = ((i + 1 : Nat) : Int) := by rw [IntKind.wrap_i64] <;> omega
      by_cases hlt : i < N
      · have d1 : decide ((i : Int) < (N : Int)) = true := decide_eq_true (by omega)
        have d2 : decide (i < N) = true := decide_eq_true hlt
        obtain ⟨y, hc⟩ : ∃ y, wr.cell? ⟨g, i, none⟩ = some (.int .i64 y) := ⟨_, row_cell' BL.out (by rw [HL.out]; exact hlt)⟩
        have hfz : wr.frozen? ⟨g, i, none⟩ = false := BL.out.frozen _
        have HLT := Lib.hid hlt
        go_wp2_with fail
        go_roundw
        case rel => exact ⟨i + 1, l.set i _, by go_num, Lib.hid (by have := HLT.out; omega), Lib.hid (by rw [List.length_set]; exact HL.out), Lib.hid (blk_set' BL.out i _ (by rw [HL.out]; exact HLT.out)), Lib.hid (HFG.out.setCell (p := ⟨g, i, none⟩) (.inl rfl) _)⟩
        case measure => simp [intOf]; have := HLT.out; omega
      · have d1 : decide ((i : Int) < (N : Int)) = false := decide_eq_false (by omega)
        have d2 : decide (i < N) = false := decide_eq_false hlt
        go_wp2_with fail
        go_ret
        refine ⟨rfl, _, HQ.out, HO.out.sepS HS.out (by decide) (by decide) rfl HFG.out, HO.out.sepR HR.out (by decide) rfl HFG.out, ?_⟩
        exact HF.out.then HFG.out (fun b hb => .inr (by rw [hb]; exact Nat.le_trans HW1.out HGE.out))
theorem ask_any (S R : Nat) (ks : List Int) (p : Nat) (d : Int) (u : Nat) (n m : Int) (x : Nat) (o : Int) (w : World) (hs : Src w S ks p) (hr : RSrc w R ks p) (hk : ks.length = 32) (bk : B8 ks) (hp : p + 67108864 < 9223372036854775808) (hu : u < 18446744073709551616) (hx : (Lit.float .f64 x).wf = true) :
    Calls Try.prog 27 #[.pointer (some ⟨S, 0, none⟩), .pointer (some ⟨R, 0, none⟩), .agg #[.int .i64 d, .int .u64 (u : Nat), .int .i64 n, .int .i64 m, .float .f64 x, .int .i64 o]] w (AskP S R ks p w) := by
  by_cases h1 : d = 1
  · subst h1; exact ask_next S R ks p u n m x o w hs hr hk bk hp hu hx
  by_cases h2 : d = 2
  · subst h2; exact ask_below S R ks p u n m x o w hs hr hk bk hp hu hx
  by_cases h3 : d = 3
  · subst h3; exact ask_unit S R ks p u n m x o w hs hr hk bk hp hu hx
  by_cases h4 : d = 4
  · subst h4; exact ask_key S R ks p u n m x o w hs hr hk bk hp hu hx
  by_cases h5 : d = 5
  · subst h5; exact ask_bytes S R ks p u n m x o w hs hr hk bk hp hu hx
  by_cases h6 : d = 6
  · subst h6; exact ask_shuffle S R ks p u n m x o w hs hr hk bk hp hu hx
  by_cases h7 : d = 7
  · subst h7; exact ask_laplace S R ks p u n m x o w hs hr hk bk hp hu hx
  exact ask_none S R ks p d u n m x o w hs hr hk bk hp hu hx (fun i h8 h9 h10 => by omega)
end Go.Proofs.Ytcfbaildcocnhaa
set_option linter.unusedVariables false
set_option linter.unusedSimpArgs false
namespace Go.Proofs.Ytcfbaildcocnhaa
open Go.RowKit

theorem Src.keep2 {w w' : World} {S R T : Nat} {ka kb : List Int} {p q t : Nat} (h : Src w T kb t) (s : Src w S ka p) (r : RSrc w R ka q) (hne : T ≠ S) (hf : Fr (fun b => b = S ∨ b = R) w w') : Src w' T kb t := by
  have hTR := h.neR r
  obtain ⟨A, c, nx, rr, hS, -⟩ := s
  obtain ⟨M, bs, hR, -⟩ := r
  exact h.fr hf (fun e => by rcases e with e | e; exact hne e; exact hTR e) (fun g bs' hg e => by rcases e with e | e; exact Blk.ne hg hS (by decide) e; exact Blk.ne hg hR (by decide) e)
theorem RSrc.keep2 {w w' : World} {S R Q : Nat} {ka kb : List Int} {p t : Nat} (h : RSrc w Q kb t) (s : Src w S ka p) (hne : Q ≠ R) (hf : Fr (fun b => b = S ∨ b = R) w w') : RSrc w' Q kb t :=
  h.fr hf (fun e => by rcases e with e | e; exact s.neR h e.symm; exact hne e)
/-- What the law is handed. -/
def DRl (ka kb : List Int) (s1 s2 : Value) : List Value := ka.map (Value.int .u8) ++ (kb.map (Value.int .u8) ++ [s1, s2])
def DR (ka kb : List Int) (s1 s2 : Value) : Array Value := (DRl ka kb s1 s2).toArray
theorem DR_eq (ka kb : List Int) (s1 s2 : Value) : DR ka kb s1 s2 = (DRl ka kb s1 s2).toArray := rfl
theorem DR_blk (w : World) (T : Nat) (ka kb : List Int) (s1 s2 : Value) : Blk (w.alloc (.cells (DR ka kb s1 s2) T)) w.heap.size T (DRl ka kb s1 s2) := Blk.new w T _
attribute [irreducible] DR
theorem DRl_cells {w : World} {X T : Nat} {ka kb : List Int} {s1 s2 : Value} (h : Blk w X T (DRl ka kb s1 s2)) (ha : ka.length = 32) (hb : kb.length = 32) :
    w.rangeAt X 0 (ka.map (Value.int .u8)) ∧ w.rangeAt X 32 (kb.map (Value.int .u8)) ∧ w.cell? ⟨X, 64, none⟩ = some s1 ∧ w.cell? ⟨X, 65, none⟩ = some s2 := by
  have h1 := range_blk (a := ka.map (Value.int .u8)) (b := kb.map (Value.int .u8)) (c := [s1, s2]) h
  simp only [List.length_map, ha, hb] at h1
  exact ⟨h1.1, h1.2.1, h1.2.2 0 _ rfl, h1.2.2 1 _ rfl⟩
/-- The steps' whole numbers are of their kinds. -/
def NsOk (f : Nat → Nst) (m : Nat) : Prop := ∀ i, i < m → (∃ u : Nat, (f i).u = (u : Int) ∧ u < 18446744073709551616) ∧ (Lit.float .f64 (f i).x).wf = true
set_option maxRecDepth 100000 in
set_option maxHeartbeats 8000000 in
theorem draws_law (ka kb : List Int) (A1 : Option Addr) (k1 c1 : Nat) (f1 : Nat → Nst) (A2 : Option Addr) (k2 c2 : Nat) (f2 : Nat → Nst) (w : World) (ha : ka.length = 32) (hb : kb.length = 32) (ba : B8 ka) (bb : B8 kb) (hs1 : RdN w A1 f1 k1) (hs2 : RdN w A2 f2 k2) (ho1 : NsOk f1 k1) (ho2 : NsOk f2 k2)
    (hk1 : k1 ≤ 1048576) (hk2 : k2 ≤ 1048576) :
    Calls Try.prog 6 #[.agg (DR ka kb (.slice A1 k1 c1) (.slice A2 k2 c2))] w fun e w' => e = .returned (.bool true) ∧ Below w.heap.size w w' := by
  have HA := Lib.hid ha
  have HB := Lib.hid hb
  have BA := Lib.hid ba
  have BB := Lib.hid bb
  have HS1 := Lib.hid hs1
  have HS2 := Lib.hid hs2
  have HO1 := Lib.hid ho1
  have HO2 := Lib.hid ho2
  have I53a : Hid ((Try.prog.info? 53).map (·.size) = some ka.length) := Lib.hid (by rw [info31, ha])
  have I53b : Hid ((Try.prog.info? 53).map (·.size) = some kb.length) := Lib.hid (by rw [info31, hb])
  have HK := Lib.hid (And.intro hk1 hk2)
  clear ha hb ba bb hs1 hs2 ho1 ho2 hk1 hk2
  obtain ⟨s1, hsl1⟩ : ∃ s1, s1 = Value.slice A1 k1 c1 := ⟨_, rfl⟩
  obtain ⟨s2, hsl2⟩ : ∃ s2, s2 = Value.slice A2 k2 c2 := ⟨_, rfl⟩
  rw [← hsl1, ← hsl2]
  have SL1 := Lib.hid hsl1
  have SL2 := Lib.hid hsl2
  clear hsl1 hsl2
  go_enter Try.func6, Try.ntmps6
  go_upto_region 1 with fail
  have X1 : Hid (Blk (w.alloc (.cells (DR ka kb s1 s2) 56)) w.heap.size 56 (DRl ka kb s1 s2)) := Lib.hid (DR_blk w 56 ka kb s1 s2)
  have F1 : Hid (Below w.heap.size w (w.alloc (.cells (DR ka kb s1 s2) 56))) := Lib.hid ((Below.refl _ w).alloc (Nat.le_refl _) _)
  generalize hW1 : w.alloc (.cells (DR ka kb s1 s2) 56) = w1 at X1 F1 ⊢
  clear hW1
  generalize hX : w.heap.size = X at X1 ⊢
  have HXE := Lib.hid hX
  clear hX
  go_cut [3, 4] from 8 (fun va vb wx => ∃ S T, va = .pointer (some ⟨S, 0, none⟩) ∧ vb = .pointer (some ⟨T, 0, none⟩) ∧ Src wx S ka 0 ∧ Src wx T kb 0 ∧ w1.heap.size ≤ S ∧ S < T ∧ Below w1.heap.size w1 wx)
  case first =>
    refine wp_region_held_drew (S := fun w' => Below w1.heap.size w1 w') (by kernel_rfl) ((Below.refl w1.heap.size w1).drew) (fun hHeld => ?_)
    have V0 : Hid (Below w1.heap.size w1 w1.drew) := Lib.hid (Below.refl w1.heap.size w1).drew
    generalize w1.drew = v0 at V0 hHeld ⊢
    refine wpAnyH_take (i := 0) (oi := ⟨some 8, _, _, _, _, _⟩) (v := (.pointer (some ⟨X, 0, none⟩))) rfl (by kernel_rfl) (by kernel_rfl) (by kernel_rfl) (fun _ _ _ h => h) (Or.inl ⟨by rfl, ?_⟩) (by assumption) ?_
    · intro w' hS; go_simp; try with_reducible rfl
    simp only [Act.put, List.setIfInBounds_toArray, List.set_cons_zero, List.set_cons_succ]
    refine wpAnyH_take (i := 1) (oi := ⟨some 9, _, _, _, _, _⟩) (v := (.agg (AY .u8 ka))) rfl (by kernel_rfl) (by kernel_rfl) (by kernel_rfl) (fun _ _ _ h => h) (Or.inl ⟨by rfl, ?_⟩) (by assumption) ?_
    · intro w' hS; have hq := DRl_cells (X1.out.below hS X1.out.lt) HA.out HB.out; exact exec_load_AY 53 _ rfl X 0 (by rfl) .u8 ka _ hq.1 Try.underlying53 rfl I53a.out
    simp only [Act.put, List.setIfInBounds_toArray, List.set_cons_zero, List.set_cons_succ]
    refine wpAnyH_take (i := 3) (oi := ⟨some 11, _, _, _, _, _⟩) (v := (.pointer (some ⟨X, 32, none⟩))) rfl (by kernel_rfl) (by kernel_rfl) (by kernel_rfl) (fun _ _ _ h => h) (Or.inl ⟨by rfl, ?_⟩) (by assumption) ?_
    · intro w' hS; go_simp; try with_reducible rfl
    simp only [Act.put, List.setIfInBounds_toArray, List.set_cons_zero, List.set_cons_succ]
    refine wpAnyH_take (i := 4) (oi := ⟨some 12, _, _, _, _, _⟩) (v := (.agg (AY .u8 kb))) rfl (by kernel_rfl) (by kernel_rfl) (by kernel_rfl) (fun _ _ _ h => h) (Or.inl ⟨by rfl, ?_⟩) (by assumption) ?_
    · intro w' hS; have hq := DRl_cells (X1.out.below hS X1.out.lt) HA.out HB.out; exact exec_load_AY 53 _ rfl X 32 (by rfl) .u8 kb _ hq.2.1 Try.underlying53 rfl I53b.out
    simp only [Act.put, List.setIfInBounds_toArray, List.set_cons_zero, List.set_cons_succ]
    refine wpAnyH_ready (rs := [2]) (by kernel_rfl) (by simp) ?_
    refine AllReadyH.cons (o := ⟨some 10, _, _, _, _, _⟩) rfl (fun K hK => ?_) AllReadyH.nil
    rw [if_pos (by rfl)]
    go_simp
    refine (new_any ka v0 HA.out).mono ?_
    rintro e' v1 ⟨S, rfl, hlo, hs, bb⟩
    have HS := Lib.hid hs
    have V1 := Lib.hid (V0.out.trans (bb.mono V0.out.size))
    have HLO : Hid (w1.heap.size ≤ S ∧ S < v1.heap.size) := Lib.hid ⟨Nat.le_trans V0.out.size hlo, hs.lt⟩
    clear bb V0 hlo hs
    dsimp only
    (try simp only [Act.put, List.setIfInBounds_toArray, List.set_cons_zero, List.set_cons_succ])
    refine hK.out _ _ V1.out (fun hHeld => ?_)
    clear hK K
    refine wpAnyH_ready (rs := [5]) (by kernel_rfl) (by simp) ?_
    refine AllReadyH.cons (o := ⟨some 13, _, _, _, _, _⟩) rfl (fun K hK => ?_) AllReadyH.nil
    rw [if_pos (by rfl)]
    go_simp
    refine (new_any kb v1 HB.out).mono ?_
    rintro e' v2 ⟨T, rfl, hlo, hs, bb⟩
    have HT := Lib.hid hs
    have HS2' := Lib.hid (HS.out.below bb)
    have V2 := Lib.hid (V1.out.trans (bb.mono V1.out.size))
    have HLO2 : Hid (v1.heap.size ≤ T) := Lib.hid hlo
    clear bb V1 hlo hs HS
    dsimp only
    (try simp only [Act.put, List.setIfInBounds_toArray, List.set_cons_zero, List.set_cons_succ])
    refine hK.out _ _ V2.out (fun hHeld => ?_)
    clear hK K
    refine wpAnyH_take (i := 6) (oi := ⟨some 3, _, _, _, _, _⟩) (v := (.pointer (some ⟨S, 0, none⟩))) rfl (by kernel_rfl) (by kernel_rfl) (by kernel_rfl) (fun _ _ _ h => h) (Or.inl ⟨by rfl, ?_⟩) (by assumption) ?_
    · intro w' hS; go_simp; try with_reducible rfl
    simp only [Act.put, List.setIfInBounds_toArray, List.set_cons_zero, List.set_cons_succ]
    refine wpAnyH_take (i := 7) (oi := ⟨some 4, _, _, _, _, _⟩) (v := (.pointer (some ⟨T, 0, none⟩))) rfl (by kernel_rfl) (by kernel_rfl) (by kernel_rfl) (fun _ _ _ h => h) (Or.inl ⟨by rfl, ?_⟩) (by assumption) ?_
    · intro w' hS; go_simp; try with_reducible rfl
    simp only [Act.put, List.setIfInBounds_toArray, List.set_cons_zero, List.set_cons_succ]
    refine wpAnyH_done (by kernel_rfl) ?_ _
    go_wp2_with fail
    go_meet
    exact ⟨S, T, rfl, rfl, HS2'.out, HT.out, HLO.out.1, by have := HLO.out; have := HLO2.out; omega, V2.out⟩
  case rest =>
  obtain ⟨S, T, rfl, rfl, hs, ht, hlo, hlt, bb⟩ := hcut
  have HS := Lib.hid hs
  have HT := Lib.hid ht
  have L1 : Hid (X < S ∧ S < T ∧ T < wc.heap.size ∧ w.heap.size ≤ S) := Lib.hid (by have := X1.out.lt; have := ht.lt; have := F1.out.size; omega)
  replace X1 := Lib.hid (X1.out.below bb X1.out.lt)
  replace F1 := Lib.hid (F1.out.trans (bb.mono F1.out.size))
  clear hs ht hlo hlt bb
  generalize wc = w2 at *
  go_upto_region 2 with fail
  go_cut [5, 6] from 14 (fun va vb wx => ∃ S T, va = .pointer (some ⟨S, 0, none⟩) ∧ vb = .pointer (some ⟨T, 0, none⟩) ∧ RSrc wx S ka 0 ∧ RSrc wx T kb 0 ∧ w2.heap.size ≤ S ∧ S < T ∧ Below w2.heap.size w2 wx)
  case first =>
    refine wp_region_held_drew (S := fun w' => Below w2.heap.size w2 w') (by kernel_rfl) ((Below.refl w2.heap.size w2).drew) (fun hHeld => ?_)
    have V0 : Hid (Below w2.heap.size w2 w2.drew) := Lib.hid (Below.refl w2.heap.size w2).drew
    generalize w2.drew = v0 at V0 hHeld ⊢
    refine wpAnyH_take (i := 0) (oi := ⟨some 14, _, _, _, _, _⟩) (v := (.pointer (some ⟨X, 0, none⟩))) rfl (by kernel_rfl) (by kernel_rfl) (by kernel_rfl) (fun _ _ _ h => h) (Or.inl ⟨by rfl, ?_⟩) (by assumption) ?_
    · intro w' hS; go_simp; try with_reducible rfl
    simp only [Act.put, List.setIfInBounds_toArray, List.set_cons_zero, List.set_cons_succ]
    refine wpAnyH_take (i := 1) (oi := ⟨some 15, _, _, _, _, _⟩) (v := (.agg (AY .u8 ka))) rfl (by kernel_rfl) (by kernel_rfl) (by kernel_rfl) (fun _ _ _ h => h) (Or.inl ⟨by rfl, ?_⟩) (by assumption) ?_
    · intro w' hS; have hq := DRl_cells (X1.out.below hS X1.out.lt) HA.out HB.out; exact exec_load_AY 53 _ rfl X 0 (by rfl) .u8 ka _ hq.1 Try.underlying53 rfl I53a.out
    simp only [Act.put, List.setIfInBounds_toArray, List.set_cons_zero, List.set_cons_succ]
    refine wpAnyH_take (i := 3) (oi := ⟨some 17, _, _, _, _, _⟩) (v := (.pointer (some ⟨X, 32, none⟩))) rfl (by kernel_rfl) (by kernel_rfl) (by kernel_rfl) (fun _ _ _ h => h) (Or.inl ⟨by rfl, ?_⟩) (by assumption) ?_
    · intro w' hS; go_simp; try with_reducible rfl
    simp only [Act.put, List.setIfInBounds_toArray, List.set_cons_zero, List.set_cons_succ]
    refine wpAnyH_take (i := 4) (oi := ⟨some 18, _, _, _, _, _⟩) (v := (.agg (AY .u8 kb))) rfl (by kernel_rfl) (by kernel_rfl) (by kernel_rfl) (fun _ _ _ h => h) (Or.inl ⟨by rfl, ?_⟩) (by assumption) ?_
    · intro w' hS; have hq := DRl_cells (X1.out.below hS X1.out.lt) HA.out HB.out; exact exec_load_AY 53 _ rfl X 32 (by rfl) .u8 kb _ hq.2.1 Try.underlying53 rfl I53b.out
    simp only [Act.put, List.setIfInBounds_toArray, List.set_cons_zero, List.set_cons_succ]
    refine wpAnyH_ready (rs := [2]) (by kernel_rfl) (by simp) ?_
    refine AllReadyH.cons (o := ⟨some 16, _, _, _, _, _⟩) rfl (fun K hK => ?_) AllReadyH.nil
    rw [if_pos (by rfl)]
    go_simp
    refine (rnew_any ka v0 HA.out).mono ?_
    rintro e' v1 ⟨S, rfl, hlo, hs, bb⟩
    have HS := Lib.hid hs
    have V1 := Lib.hid (V0.out.trans (bb.mono V0.out.size))
    have HLO : Hid (w2.heap.size ≤ S ∧ S < v1.heap.size) := Lib.hid ⟨Nat.le_trans V0.out.size hlo, hs.lt⟩
    clear bb V0 hlo hs
    dsimp only
    (try simp only [Act.put, List.setIfInBounds_toArray, List.set_cons_zero, List.set_cons_succ])
    refine hK.out _ _ V1.out (fun hHeld => ?_)
    clear hK K
    refine wpAnyH_ready (rs := [5]) (by kernel_rfl) (by simp) ?_
    refine AllReadyH.cons (o := ⟨some 19, _, _, _, _, _⟩) rfl (fun K hK => ?_) AllReadyH.nil
    rw [if_pos (by rfl)]
    go_simp
    refine (rnew_any kb v1 HB.out).mono ?_
    rintro e' v2 ⟨T, rfl, hlo, hs, bb⟩
    have HT := Lib.hid hs
    have HS2' := Lib.hid (HS.out.below bb)
    have V2 := Lib.hid (V1.out.trans (bb.mono V1.out.size))
    have HLO2 : Hid (v1.heap.size ≤ T) := Lib.hid hlo
    clear bb V1 hlo hs HS
    dsimp only
    (try simp only [Act.put, List.setIfInBounds_toArray, List.set_cons_zero, List.set_cons_succ])
    refine hK.out _ _ V2.out (fun hHeld => ?_)
    clear hK K
    refine wpAnyH_take (i := 6) (oi := ⟨some 5, _, _, _, _, _⟩) (v := (.pointer (some ⟨S, 0, none⟩))) rfl (by kernel_rfl) (by kernel_rfl) (by kernel_rfl) (fun _ _ _ h => h) (Or.inl ⟨by rfl, ?_⟩) (by assumption) ?_
    · intro w' hS; go_simp; try with_reducible rfl
    simp only [Act.put, List.setIfInBounds_toArray, List.set_cons_zero, List.set_cons_succ]
    refine wpAnyH_take (i := 7) (oi := ⟨some 6, _, _, _, _, _⟩) (v := (.pointer (some ⟨T, 0, none⟩))) rfl (by kernel_rfl) (by kernel_rfl) (by kernel_rfl) (fun _ _ _ h => h) (Or.inl ⟨by rfl, ?_⟩) (by assumption) ?_
    · intro w' hS; go_simp; try with_reducible rfl
    simp only [Act.put, List.setIfInBounds_toArray, List.set_cons_zero, List.set_cons_succ]
    refine wpAnyH_done (by kernel_rfl) ?_ _
    go_wp2_with fail
    go_meet
    exact ⟨S, T, rfl, rfl, HS2'.out, HT.out, HLO.out.1, by have := HLO.out; have := HLO2.out; omega, V2.out⟩
  case rest =>
  obtain ⟨R, Q, rfl, rfl, hs, ht, hlo, hlt, bb⟩ := hcut
  have HR := Lib.hid hs
  have HQ := Lib.hid ht
  have L2 : Hid (X < S ∧ S < T ∧ T < R ∧ R < Q ∧ w.heap.size ≤ S) := Lib.hid (by have := L1.out; omega)
  replace HS := Lib.hid (HS.out.below bb)
  replace HT := Lib.hid (HT.out.below bb)
  replace X1 := Lib.hid (X1.out.below bb X1.out.lt)
  replace F1 := Lib.hid (F1.out.trans (bb.mono F1.out.size))
  clear hs ht hlo hlt bb L1
  generalize wc = w3 at *
  go_wp2_with fail
  go_loopw [7] (fun z wx => ∃ i pa pb : Nat, z = .int .i64 i ∧ Hid (i ≤ k1 ∨ i ≤ k2) ∧ Hid (pa ≤ 67108864 * i ∧ pb ≤ 67108864 * i) ∧ Hid (Src wx S ka pa) ∧ Hid (RSrc wx R ka pa) ∧ Hid (Src wx T kb pb) ∧ Hid (RSrc wx Q kb pb) ∧ Hid (Blk wx X 56 (DRl ka kb s1 s2)) ∧ Hid (Below w.heap.size w wx)) (fun z _ => k1 + k2 - (intOf z).toNat)
  case atStart => exact ⟨0, 0, 0, rfl, Lib.hid (.inl (Nat.zero_le _)), Lib.hid (by omega), HS, HR, HT, HQ, X1, F1⟩
  case round =>
    clear HS HR HT HQ X1 F1
    obtain ⟨i, pa, pb, rfl, HI, HPP, HS, HR, HT, HQ, X1, F1⟩ := hrel
    have hi20 : i ≤ 1048576 := by have := HI.out; have := HK.out; omega
    have m1 : IntKind.i64.wrap ((i : Int) + 1) = ((i + 1 : Nat) : Int) := by rw [IntKind.wrap_i64] <;> omega
    by_cases hi1 : i < k1
    · by_cases hi2 : i < k2
      · have d1 : decide ((i : Int) < (k1 : Int)) = true := decide_eq_true (by omega)
        have e1 : decide (i < k1) = true := decide_eq_true (by omega)
        have d2 : decide ((i : Int) < (k2 : Int)) = true := decide_eq_true (by omega)
        have e2 : decide (i < k2) = true := decide_eq_true (by omega)
        obtain ⟨b1, o1, hAA, hbl1, hrg1⟩ := (HS1.out.below F1.out) i hi1
        obtain ⟨⟨u1, hu1, hul1⟩, hxw1⟩ := HO1.out i hi1
        have HUL1 := Lib.hid (And.intro hul1 hxw1)
        have HG1 : Hid (wr.rangeAt b1 (o1 + i * 6) [.int .i64 (f1 i).d, .int .u64 (u1 : Nat), .int .i64 (f1 i).n, .int .i64 (f1 i).m, .float .f64 (f1 i).x, .int .i64 (f1 i).o]) := Lib.hid (by rw [← hu1]; exact hrg1)
        have HBX1 : Hid (b1 < w.heap.size) := Lib.hid (by
          obtain ⟨b', o', hA', hb', -⟩ := HS1.out i hi1
          rw [hAA] at hA'
          injection hA' with hA'
          injection hA' with hA'
          omega)
        cases hAA
        clear hrg1 hu1 hul1 hxw1 hbl1
        obtain ⟨b2, o2, hAA, hbl2, hrg2⟩ := (HS2.out.below F1.out) i hi2
        obtain ⟨⟨u2, hu2, hul2⟩, hxw2⟩ := HO2.out i hi2
        have HUL2 := Lib.hid (And.intro hul2 hxw2)
        have HG2 : Hid (wr.rangeAt b2 (o2 + i * 6) [.int .i64 (f2 i).d, .int .u64 (u2 : Nat), .int .i64 (f2 i).n, .int .i64 (f2 i).m, .float .f64 (f2 i).x, .int .i64 (f2 i).o]) := Lib.hid (by rw [← hu2]; exact hrg2)
        have HBX2 : Hid (b2 < w.heap.size) := Lib.hid (by
          obtain ⟨b', o', hA', hb', -⟩ := HS2.out i hi2
          rw [hAA] at hA'
          injection hA' with hA'
          injection hA' with hA'
          omega)
        cases hAA
        clear hrg2 hu2 hul2 hxw2 hbl2
        have x64 : wr.cell? ⟨X, 64, none⟩ = some (.slice (some ⟨b1, o1, none⟩) k1 c1) := by rw [← SL1.out]; exact (DRl_cells X1.out HA.out HB.out).2.2.1
        have x65 : wr.cell? ⟨X, 65, none⟩ = some (.slice (some ⟨b2, o2, none⟩) k2 c2) := by rw [← SL2.out]; exact (DRl_cells X1.out HA.out HB.out).2.2.2
        have y10 : wr.cell? ⟨b1, o1 + i * 6, none⟩ = some (.int .i64 (f1 i).d) := by
          have h := HG1.out 0 _ rfl
          exact h
        have y11 : wr.cell? ⟨b1, o1 + i * 6 + 1, none⟩ = some (.int .u64 (u1 : Nat)) := by
          have h := HG1.out 1 _ rfl
          exact h
        have y12 : wr.cell? ⟨b1, o1 + i * 6 + 2, none⟩ = some (.int .i64 (f1 i).n) := by
          have h := HG1.out 2 _ rfl
          exact h
        have y13 : wr.cell? ⟨b1, o1 + i * 6 + 3, none⟩ = some (.int .i64 (f1 i).m) := by
          have h := HG1.out 3 _ rfl
          exact h
        have y14 : wr.cell? ⟨b1, o1 + i * 6 + 4, none⟩ = some (.float .f64 (f1 i).x) := by
          have h := HG1.out 4 _ rfl
          exact h
        have y15 : wr.cell? ⟨b1, o1 + i * 6 + 5, none⟩ = some (.int .i64 (f1 i).o) := by
          have h := HG1.out 5 _ rfl
          exact h
        go_wp2_with fail
        clear y10 y11 y12 y13 y14 y15
        refine (ask_any S R ka pa (f1 i).d u1 (f1 i).n (f1 i).m (f1 i).x (f1 i).o wr HS.out HR.out HA.out BA.out (by have := HPP.out; omega) HUL1.out.1 HUL1.out.2).mono ?_
        rintro e wa ⟨rfl, pa', hle, hs, hr, hf⟩
        have F0 : Hid (w.heap.size ≤ wr.heap.size) := Lib.hid F1.out.size
        have LE1 := Lib.hid hle
        replace HT := Lib.hid (HT.out.keep2 HS.out HR.out (by have := L2.out; omega) hf)
        replace HQ := Lib.hid (HQ.out.keep2 HS.out (by have := L2.out; omega) hf)
        replace X1 := Lib.hid (X1.out.fr hf (by have := L2.out; omega))
        replace HG2 := Lib.hid (range_of_block HG2.out (hf.block b2 (Nat.lt_of_lt_of_le HBX2.out F0.out) (by have := HBX2.out; have := L2.out; omega)))
        replace F1 := Lib.hid (F1.out.trans (hf.below (B := w.heap.size) F1.out.size (fun j hj => by have := L2.out; omega)))
        replace HS := Lib.hid hs
        replace HR := Lib.hid hr
        clear hle hs hr hf F0 x64 x65
        have x64 : wa.cell? ⟨X, 64, none⟩ = some (.slice (some ⟨b1, o1, none⟩) k1 c1) := by rw [← SL1.out]; exact (DRl_cells X1.out HA.out HB.out).2.2.1
        have x65 : wa.cell? ⟨X, 65, none⟩ = some (.slice (some ⟨b2, o2, none⟩) k2 c2) := by rw [← SL2.out]; exact (DRl_cells X1.out HA.out HB.out).2.2.2
        have y20 : wa.cell? ⟨b2, o2 + i * 6, none⟩ = some (.int .i64 (f2 i).d) := by
          have h := HG2.out 0 _ rfl
          exact h
        have y21 : wa.cell? ⟨b2, o2 + i * 6 + 1, none⟩ = some (.int .u64 (u2 : Nat)) := by
          have h := HG2.out 1 _ rfl
          exact h
        have y22 : wa.cell? ⟨b2, o2 + i * 6 + 2, none⟩ = some (.int .i64 (f2 i).n) := by
          have h := HG2.out 2 _ rfl
          exact h
        have y23 : wa.cell? ⟨b2, o2 + i * 6 + 3, none⟩ = some (.int .i64 (f2 i).m) := by
          have h := HG2.out 3 _ rfl
          exact h
        have y24 : wa.cell? ⟨b2, o2 + i * 6 + 4, none⟩ = some (.float .f64 (f2 i).x) := by
          have h := HG2.out 4 _ rfl
          exact h
        have y25 : wa.cell? ⟨b2, o2 + i * 6 + 5, none⟩ = some (.int .i64 (f2 i).o) := by
          have h := HG2.out 5 _ rfl
          exact h
        go_wp2_with fail
        clear y20 y21 y22 y23 y24 y25
        refine (ask_any T Q kb pb (f2 i).d u2 (f2 i).n (f2 i).m (f2 i).x (f2 i).o wa HT.out HQ.out HB.out BB.out (by have := HPP.out; omega) HUL2.out.1 HUL2.out.2).mono ?_
        rintro e wb ⟨rfl, pb', hle, hs, hr, hf⟩
        have F0 : Hid (w.heap.size ≤ wa.heap.size) := Lib.hid F1.out.size
        have LE2 := Lib.hid hle
        replace HS := Lib.hid (HS.out.keep2 HT.out HQ.out (by have := L2.out; omega) hf)
        replace HR := Lib.hid (HR.out.keep2 HT.out (by have := L2.out; omega) hf)
        replace X1 := Lib.hid (X1.out.fr hf (by have := L2.out; omega))
        replace F1 := Lib.hid (F1.out.trans (hf.below (B := w.heap.size) F1.out.size (fun j hj => by have := L2.out; omega)))
        replace HT := Lib.hid hs
        replace HQ := Lib.hid hr
        clear hle hs hr hf F0 x64 x65
        have x64 : wb.cell? ⟨X, 64, none⟩ = some (.slice (some ⟨b1, o1, none⟩) k1 c1) := by rw [← SL1.out]; exact (DRl_cells X1.out HA.out HB.out).2.2.1
        have x65 : wb.cell? ⟨X, 65, none⟩ = some (.slice (some ⟨b2, o2, none⟩) k2 c2) := by rw [← SL2.out]; exact (DRl_cells X1.out HA.out HB.out).2.2.2
        go_wp2_with fail
        go_roundw
        case rel => exact ⟨i + 1, pa', pb', by go_num, Lib.hid (by omega), Lib.hid (by have := HPP.out; have := LE1.out; have := LE2.out; omega), HS, HR, HT, HQ, X1, F1⟩
        case measure => simp [intOf]; omega
      · have d1 : decide ((i : Int) < (k1 : Int)) = true := decide_eq_true (by omega)
        have e1 : decide (i < k1) = true := decide_eq_true (by omega)
        have d2 : decide ((i : Int) < (k2 : Int)) = false := decide_eq_false (by omega)
        have e2 : decide (i < k2) = false := decide_eq_false (by omega)
        obtain ⟨b1, o1, hAA, hbl1, hrg1⟩ := (HS1.out.below F1.out) i hi1
        obtain ⟨⟨u1, hu1, hul1⟩, hxw1⟩ := HO1.out i hi1
        have HUL1 := Lib.hid (And.intro hul1 hxw1)
        have HG1 : Hid (wr.rangeAt b1 (o1 + i * 6) [.int .i64 (f1 i).d, .int .u64 (u1 : Nat), .int .i64 (f1 i).n, .int .i64 (f1 i).m, .float .f64 (f1 i).x, .int .i64 (f1 i).o]) := Lib.hid (by rw [← hu1]; exact hrg1)
        have HBX1 : Hid (b1 < w.heap.size) := Lib.hid (by
          obtain ⟨b', o', hA', hb', -⟩ := HS1.out i hi1
          rw [hAA] at hA'
          injection hA' with hA'
          injection hA' with hA'
          omega)
        cases hAA
        clear hrg1 hu1 hul1 hxw1 hbl1
        have x64 : wr.cell? ⟨X, 64, none⟩ = some (.slice (some ⟨b1, o1, none⟩) k1 c1) := by rw [← SL1.out]; exact (DRl_cells X1.out HA.out HB.out).2.2.1
        have x65 : wr.cell? ⟨X, 65, none⟩ = some (.slice A2 k2 c2) := by rw [← SL2.out]; exact (DRl_cells X1.out HA.out HB.out).2.2.2
        have y10 : wr.cell? ⟨b1, o1 + i * 6, none⟩ = some (.int .i64 (f1 i).d) := by
          have h := HG1.out 0 _ rfl
          exact h
        have y11 : wr.cell? ⟨b1, o1 + i * 6 + 1, none⟩ = some (.int .u64 (u1 : Nat)) := by
          have h := HG1.out 1 _ rfl
          exact h
        have y12 : wr.cell? ⟨b1, o1 + i * 6 + 2, none⟩ = some (.int .i64 (f1 i).n) := by
          have h := HG1.out 2 _ rfl
          exact h
        have y13 : wr.cell? ⟨b1, o1 + i * 6 + 3, none⟩ = some (.int .i64 (f1 i).m) := by
          have h := HG1.out 3 _ rfl
          exact h
        have y14 : wr.cell? ⟨b1, o1 + i * 6 + 4, none⟩ = some (.float .f64 (f1 i).x) := by
          have h := HG1.out 4 _ rfl
          exact h
        have y15 : wr.cell? ⟨b1, o1 + i * 6 + 5, none⟩ = some (.int .i64 (f1 i).o) := by
          have h := HG1.out 5 _ rfl
          exact h
        go_wp2_with fail
        clear y10 y11 y12 y13 y14 y15
        refine (ask_any S R ka pa (f1 i).d u1 (f1 i).n (f1 i).m (f1 i).x (f1 i).o wr HS.out HR.out HA.out BA.out (by have := HPP.out; omega) HUL1.out.1 HUL1.out.2).mono ?_
        rintro e wa ⟨rfl, pa', hle, hs, hr, hf⟩
        have F0 : Hid (w.heap.size ≤ wr.heap.size) := Lib.hid F1.out.size
        have LE1 := Lib.hid hle
        replace HT := Lib.hid (HT.out.keep2 HS.out HR.out (by have := L2.out; omega) hf)
        replace HQ := Lib.hid (HQ.out.keep2 HS.out (by have := L2.out; omega) hf)
        replace X1 := Lib.hid (X1.out.fr hf (by have := L2.out; omega))
        replace F1 := Lib.hid (F1.out.trans (hf.below (B := w.heap.size) F1.out.size (fun j hj => by have := L2.out; omega)))
        replace HS := Lib.hid hs
        replace HR := Lib.hid hr
        clear hle hs hr hf F0 x64 x65
        have x64 : wa.cell? ⟨X, 64, none⟩ = some (.slice (some ⟨b1, o1, none⟩) k1 c1) := by rw [← SL1.out]; exact (DRl_cells X1.out HA.out HB.out).2.2.1
        have x65 : wa.cell? ⟨X, 65, none⟩ = some (.slice A2 k2 c2) := by rw [← SL2.out]; exact (DRl_cells X1.out HA.out HB.out).2.2.2
        go_wp2_with fail
        go_roundw
        case rel => exact ⟨i + 1, pa', pb, by go_num, Lib.hid (by omega), Lib.hid (by have := HPP.out; have := LE1.out; omega), HS, HR, HT, HQ, X1, F1⟩
        case measure => simp [intOf]; omega
    · by_cases hi2 : i < k2
      · have d1 : decide ((i : Int) < (k1 : Int)) = false := decide_eq_false (by omega)
        have e1 : decide (i < k1) = false := decide_eq_false (by omega)
        have d2 : decide ((i : Int) < (k2 : Int)) = true := decide_eq_true (by omega)
        have e2 : decide (i < k2) = true := decide_eq_true (by omega)
        obtain ⟨b2, o2, hAA, hbl2, hrg2⟩ := (HS2.out.below F1.out) i hi2
        obtain ⟨⟨u2, hu2, hul2⟩, hxw2⟩ := HO2.out i hi2
        have HUL2 := Lib.hid (And.intro hul2 hxw2)
        have HG2 : Hid (wr.rangeAt b2 (o2 + i * 6) [.int .i64 (f2 i).d, .int .u64 (u2 : Nat), .int .i64 (f2 i).n, .int .i64 (f2 i).m, .float .f64 (f2 i).x, .int .i64 (f2 i).o]) := Lib.hid (by rw [← hu2]; exact hrg2)
        have HBX2 : Hid (b2 < w.heap.size) := Lib.hid (by
          obtain ⟨b', o', hA', hb', -⟩ := HS2.out i hi2
          rw [hAA] at hA'
          injection hA' with hA'
          injection hA' with hA'
          omega)
        cases hAA
        clear hrg2 hu2 hul2 hxw2 hbl2
        have x64 : wr.cell? ⟨X, 64, none⟩ = some (.slice A1 k1 c1) := by rw [← SL1.out]; exact (DRl_cells X1.out HA.out HB.out).2.2.1
        have x65 : wr.cell? ⟨X, 65, none⟩ = some (.slice (some ⟨b2, o2, none⟩) k2 c2) := by rw [← SL2.out]; exact (DRl_cells X1.out HA.out HB.out).2.2.2
        have y20 : wr.cell? ⟨b2, o2 + i * 6, none⟩ = some (.int .i64 (f2 i).d) := by
          have h := HG2.out 0 _ rfl
          exact h
        have y21 : wr.cell? ⟨b2, o2 + i * 6 + 1, none⟩ = some (.int .u64 (u2 : Nat)) := by
          have h := HG2.out 1 _ rfl
          exact h
        have y22 : wr.cell? ⟨b2, o2 + i * 6 + 2, none⟩ = some (.int .i64 (f2 i).n) := by
          have h := HG2.out 2 _ rfl
          exact h
        have y23 : wr.cell? ⟨b2, o2 + i * 6 + 3, none⟩ = some (.int .i64 (f2 i).m) := by
          have h := HG2.out 3 _ rfl
          exact h
        have y24 : wr.cell? ⟨b2, o2 + i * 6 + 4, none⟩ = some (.float .f64 (f2 i).x) := by
          have h := HG2.out 4 _ rfl
          exact h
        have y25 : wr.cell? ⟨b2, o2 + i * 6 + 5, none⟩ = some (.int .i64 (f2 i).o) := by
          have h := HG2.out 5 _ rfl
          exact h
        go_wp2_with fail
        clear y20 y21 y22 y23 y24 y25
        refine (ask_any T Q kb pb (f2 i).d u2 (f2 i).n (f2 i).m (f2 i).x (f2 i).o wr HT.out HQ.out HB.out BB.out (by have := HPP.out; omega) HUL2.out.1 HUL2.out.2).mono ?_
        rintro e wa ⟨rfl, pb', hle, hs, hr, hf⟩
        have F0 : Hid (w.heap.size ≤ wr.heap.size) := Lib.hid F1.out.size
        have LE2 := Lib.hid hle
        replace HS := Lib.hid (HS.out.keep2 HT.out HQ.out (by have := L2.out; omega) hf)
        replace HR := Lib.hid (HR.out.keep2 HT.out (by have := L2.out; omega) hf)
        replace X1 := Lib.hid (X1.out.fr hf (by have := L2.out; omega))
        replace F1 := Lib.hid (F1.out.trans (hf.below (B := w.heap.size) F1.out.size (fun j hj => by have := L2.out; omega)))
        replace HT := Lib.hid hs
        replace HQ := Lib.hid hr
        clear hle hs hr hf F0 x64 x65
        have x64 : wa.cell? ⟨X, 64, none⟩ = some (.slice A1 k1 c1) := by rw [← SL1.out]; exact (DRl_cells X1.out HA.out HB.out).2.2.1
        have x65 : wa.cell? ⟨X, 65, none⟩ = some (.slice (some ⟨b2, o2, none⟩) k2 c2) := by rw [← SL2.out]; exact (DRl_cells X1.out HA.out HB.out).2.2.2
        go_wp2_with fail
        go_roundw
        case rel => exact ⟨i + 1, pa, pb', by go_num, Lib.hid (by omega), Lib.hid (by have := HPP.out; have := LE2.out; omega), HS, HR, HT, HQ, X1, F1⟩
        case measure => simp [intOf]; omega
      · have d1 : decide ((i : Int) < (k1 : Int)) = false := decide_eq_false (by omega)
        have e1 : decide (i < k1) = false := decide_eq_false (by omega)
        have d2 : decide ((i : Int) < (k2 : Int)) = false := decide_eq_false (by omega)
        have e2 : decide (i < k2) = false := decide_eq_false (by omega)
        have x64 : wr.cell? ⟨X, 64, none⟩ = some (.slice A1 k1 c1) := by rw [← SL1.out]; exact (DRl_cells X1.out HA.out HB.out).2.2.1
        have x65 : wr.cell? ⟨X, 65, none⟩ = some (.slice A2 k2 c2) := by rw [← SL2.out]; exact (DRl_cells X1.out HA.out HB.out).2.2.2
        go_wp2_with fail
        refine (next_any S ka pa wr HS.out HA.out BA.out).mono ?_
        rintro e wa ⟨rfl, hs, hf⟩
        replace HR := Lib.hid (HR.out.keepS HS.out hf)
        replace HT := Lib.hid (HT.out.keep HS.out (by have := L2.out; omega) hf)
        replace HQ := Lib.hid (HQ.out.keepS HS.out hf)
        replace F1 := Lib.hid (F1.out.trans (hf.below (B := w.heap.size) F1.out.size (fun j hj => by have := L2.out; omega)))
        replace HS := Lib.hid hs
        clear hs hf x64 x65
        go_wp2_with fail
        refine (rnext_any R ka pa wa HR.out HA.out BA.out (by have := HPP.out; omega)).mono ?_
        rintro e wb ⟨rfl, hs, hf⟩
        replace HT := Lib.hid (HT.out.keepR HR.out hf)
        replace HQ := Lib.hid (HQ.out.fr hf (by have := L2.out; omega))
        replace F1 := Lib.hid (F1.out.trans (hf.below (B := w.heap.size) F1.out.size (fun j hj => by have := L2.out; omega)))
        clear hs hf HS HR
        generalize numN ka pa = N1
        go_wp2_with fail
        refine (next_any T kb pb wb HT.out HB.out BB.out).mono ?_
        rintro e wd ⟨rfl, hs, hf⟩
        replace HQ := Lib.hid (HQ.out.keepS HT.out hf)
        replace F1 := Lib.hid (F1.out.trans (hf.below (B := w.heap.size) F1.out.size (fun j hj => by have := L2.out; omega)))
        clear hs hf HT
        go_wp2_with fail
        refine (rnext_any Q kb pb wd HQ.out HB.out BB.out (by have := HPP.out; omega)).mono ?_
        rintro e we ⟨rfl, hs, hf⟩
        replace F1 := Lib.hid (F1.out.trans (hf.below (B := w.heap.size) F1.out.size (fun j hj => by have := L2.out; omega)))
        clear hs hf HQ
        generalize numN kb pb = N2
        go_wp2_with fail
        go_ret
        exact ⟨rfl, HXE.out ▸ F1.out⟩
end Go.Proofs.Ytcfbaildcocnhaa
set_option linter.unusedVariables false
namespace Go.Proofs.Ytcfbaildcocnhaa
open Go.ChangeShapes Go.WideShapes Go.ChangeAt Go.RowKit

theorem bulk_one {H : Type} (d : DataW H) : 1 ≤ Rows.uptoBulk d := by
  cases d with
  | lit l => cases l <;> simp [Rows.uptoBulk]
  | nil => simp [Rows.uptoBulk]
  | ptr d => simp [Rows.uptoBulk]
  | slice elems spare => simp [Rows.uptoBulk]
  | agg parts => simp [Rows.uptoBulk]
  | iface t d => simp [Rows.uptoBulk]
  | map entries => simp [Rows.uptoBulk]
  | held h => simp [Rows.uptoBulk]
theorem bulk_part {H : Type} {d : DataW H} {l : List (DataW H)} (h : d ∈ l) : Rows.uptoBulk d ≤ Rows.uptoBulkAll l := by
  induction l with
  | nil => cases h
  | cons x r ih =>
    simp only [Rows.uptoBulkAll]
    cases List.mem_cons.1 h with
    | inl e => subst e; omega
    | inr e => have := ih e; omega
theorem bulk_length {H : Type} (l : List (DataW H)) : l.length ≤ Rows.uptoBulkAll l := by
  induction l with
  | nil => simp [Rows.uptoBulkAll]
  | cons x r ih => have := bulk_one x; simp only [Rows.uptoBulkAll, List.length_cons]; omega
theorem bulk_slice {H : Type} (elems spare : List (DataW H)) : elems.length + spare.length + 1 ≤ Rows.uptoBulk (.slice elems spare) := by
  have h1 := bulk_length elems
  have h2 := bulk_length spare
  simp only [Rows.uptoBulk]
  omega
theorem bulk_elem {H : Type} {elems spare : List (DataW H)} {d : DataW H} (h : d ∈ elems) : Rows.uptoBulk d ≤ Rows.uptoBulk (.slice elems spare) := by
  have h1 := bulk_part h
  simp only [Rows.uptoBulk]
  omega
theorem bulk_field {H : Type} {parts : List (DataW H)} {d : DataW H} (h : d ∈ parts) : Rows.uptoBulk d ≤ Rows.uptoBulk (.agg parts) := by
  have h1 := bulk_part h
  simp only [Rows.uptoBulk]
  omega
theorem bulk_string {H : Type} (bytes : List UInt8) : Rows.uptoBulk (DataW.lit (H := H) (.string bytes)) = bytes.length + 1 := by
  simp [Rows.uptoBulk]
theorem bulk_all {H : Type} {l : List (DataW H)} (hk : Rows.uptoSmall H l = true) : Rows.uptoBulkAll l ≤ 1048576 := of_decide_eq_true hk
theorem bulk_of {H : Type} {l : List (DataW H)} (hk : Rows.uptoSmall H l = true) (j : Nat) {d : DataW H} (hd : l[j]? = some d) : Rows.uptoBulk d ≤ 1048576 :=
  Nat.le_trans (bulk_part (List.mem_of_getElem? hd)) (bulk_all hk)
/-- A row of whole numbers, and its room against its bulk. -/
theorem row_of_trodu {H : Type} {enc : TypeId × Value → H} {P : Program} {W : World} {b0 : Nat} {held : Bool} {t e : TypeId} {k : IntKind} {v : Value} {y : DataW H × List MemPlace} {fuel : Nat}
    (hu : P.underlying t = some (.slice e)) (he : P.underlying e = some (.int k)) (hc : P.cellsOf e = 1)
    (hf : DataW.trod enc P W b0 (fun _ => true) held fuel t [v] = some y) :
    ∃ A c xs, v = .slice A (xs : List Int).length c ∧ Rd W k A xs ∧ Fit k xs ∧ xs.length ≤ c ∧ c ≤ maxLen ∧ c ≤ Rows.uptoBulk y.1 := by
  rcases open_ints hu he hc hf with ⟨hcs, _⟩ | ⟨x, l, c, zs, hcs, _, hl, hm, hz, hx, hcell, hwz⟩
  · obtain rfl : v = .slice none 0 0 := by simpa using hcs
    exact ⟨none, 0, [], rfl, Rd.nil _ _ _, (fun x h => by simp at h), by simp, by decide, by omega⟩
  · obtain rfl : v = .slice (some x) l c := by simpa using hcs
    subst hx
    have hz' : zs.length = c := by simpa using hz
    have hb := bulk_slice (lits (H := H) k (zs.take l)) (lits (H := H) k (zs.drop l))
    have h1 : (lits (H := H) k (zs.take l)).length + (lits (H := H) k (zs.drop l)).length = zs.length := by
      simp [lits]
      omega
    have hlen : (zs.take l).length = l := by simp; omega
    refine ⟨some x, c, zs.take l, by rw [hlen], ?_, fun y hy => hwz y (List.mem_of_mem_take hy), by omega, hm, by show c ≤ Rows.uptoBulk (DataW.slice (lits (H := H) k (zs.take l)) (lits (H := H) k (zs.drop l))); omega⟩
    obtain ⟨b, off, spot⟩ := x
    refine Rd.take (xs := zs) ?_ l
    intro i hi
    have h0 := hcell i hi
    have hspot : spot = none := by
      have := World.cell?_spot (hcell 0 (by omega))
      simpa [Addr.add] using this
    subst hspot
    refine ⟨b, off, rfl, ?_⟩
    rw [← h0]
    by_cases hi0 : i = 0
    · subst hi0; simp [Addr.add]
    · simp [Addr.add, hi0]
theorem open_rowu {H : Type} {enc : TypeId × Value → H} {P : Program} {W : World} {base b0 : Nat} {r : Reach} {held : Bool} {t e : TypeId} {k : IntKind} {v : Value} {d : DataW H} {ps : List MemPlace}
    (hu : P.underlying t = some (.slice e)) (he : P.underlying e = some (.int k)) (hc : P.cellsOf e = 1)
    (o : Value.okWide P W r base t v) (h : DataW.Trod enc P W b0 (fun _ => true) held t v d ps) :
    ∃ A c xs, v = .slice A (xs : List Int).length c ∧ Rd W k A xs ∧ Fit k xs ∧ xs.length ≤ c ∧ c ≤ maxLen ∧ c ≤ Rows.uptoBulk d := by
  obtain ⟨A, len, cap, rfl⟩ := okWide_slice hu o
  obtain ⟨fuel, hf⟩ := h
  exact row_of_trodu (y := (d, ps)) hu he hc (by simpa [Value.cells] using hf)
end Go.Proofs.Ytcfbaildcocnhaa
set_option linter.unusedVariables false
namespace Go.Proofs.Ytcfbaildcocnhaa
open Go.ChangeShapes Go.WideShapes Go.ChangeAt Go.RowKit

theorem len4d {α : Type} {l : List α} (h : l.length = 4) : ∃ a b c d, l = [a, b, c, d] :=
  match l, h with | [a, b, c, d], _ => ⟨a, b, c, d, rfl⟩

set_option maxRecDepth 100000 in
theorem open_stepsU {H : Type} {enc : TypeId × Value → H} {W : World} {b0 : Nat} {held : Bool} {v : Value} {y : DataW H × List MemPlace} {fuel : Nat}
    (hf : DataW.trod enc Try.prog W b0 (fun _ => true) held fuel 54 [v] = some y) :
    ∃ A m c ss, v = .slice A m c ∧ RdN W A ss m ∧ NsOk ss m ∧ m ≤ Rows.uptoBulk y.1 := by
  rcases Go.Deep.open_slice Try.underlying54 hf with ⟨hcs, _⟩ | ⟨a, len, cap, m, n, D, Pl, hcs, hb, hl, hm, hmm, hx, hi⟩
  · obtain rfl : v = .slice none 0 0 := by simpa using hcs
    exact ⟨none, 0, 0, fun _ => nostep, rfl, fun i h => absurd h (Nat.not_lt_zero _), fun i h => absurd h (Nat.not_lt_zero _), Nat.zero_le _⟩
  · obtain rfl : v = .slice (some a) len cap := by simpa using hcs
    have hmc : len ≤ m := by rw [hmm]; split <;> omega
    have kc : Try.prog.cellsOf 64 = 6 := by kernel_rfl
    obtain ⟨b, off, spot⟩ := a
    by_cases h0 : len = 0
    · subst h0
      exact ⟨_, 0, cap, fun _ => nostep, rfl, fun i h => absurd h (Nat.not_lt_zero _), fun i h => absurd h (Nat.not_lt_zero _), Nat.zero_le _⟩
    have hspot : spot = none := by
      obtain ⟨cs', hc, ht⟩ := hi 0 (by omega)
      rw [kc] at hc
      obtain ⟨_, hcl, hat⟩ := World.cells?_some hc
      have := hat 0 (by omega)
      rw [Go.Deep.add_add, Nat.add_zero, List.getElem?_eq_getElem (by omega)] at this
      simpa [Addr.add] using World.cell?_spot this
    subst hspot
    have each : ∀ i, i < len → ∃ s : Nst, W.rangeAt b (off + i * 6) s.cells ∧ b < W.heap.size ∧ NstOk s := by
      intro i hil
      obtain ⟨cs', hc, ht⟩ := hi i (by omega)
      rw [kc] at hc
      obtain ⟨_, hcl, hat⟩ := World.cells?_some hc
      obtain ⟨s, hs, hok⟩ := step_of_trod hcl ht
      subst hs
      have hr : W.rangeAt b (off + i * 6) s.cells := by
        intro j v hv
        have hj := (List.getElem?_eq_some_iff.1 hv).1
        have h := hat j (by rw [← hcl]; exact hj)
        rw [Go.Deep.add_add, addN] at h
        rw [Nat.add_assoc]
        exact h.trans hv
      refine ⟨s, hr, ?_, hok⟩
      have h := hr 0 (.int .i64 s.d) rfl
      exact World.block_lt_of_cell? W _ h
    obtain ⟨ss, hss⟩ := pick nostep each
    refine ⟨_, len, cap, ss, rfl, fun i hil => ⟨b, off, rfl, (hss i hil).2.1, (hss i hil).1⟩, fun i hil => ?_, ?_⟩
    · obtain ⟨-, hu, -, -, hx⟩ := (hss i hil).2.2
      have hu' : 0 ≤ (ss i).u ∧ (ss i).u ≤ 18446744073709551615 := by simpa [Lit.wf, IntKind.min, IntKind.max, IntKind.signed, IntKind.bits] using hu
      exact ⟨⟨(ss i).u.toNat, by omega, by omega⟩, hx⟩
    · rw [congrArg Prod.fst hx]
      have h := bulk_slice ((List.range len).map D) ((List.range (m - len)).map fun j => D (len + j))
      simp only [List.length_map, List.length_range] at h
      show len ≤ Rows.uptoBulk (.slice _ _)
      omega
set_option maxRecDepth 100000 in
theorem noiseDraws_open {H : Type} {enc : TypeId × Value → H} (W : World) (base : Nat) (v0 : Value) (d0 : DataW H) (p0 : List MemPlace)
    (o0 : Value.okWide Try.prog W .any base 56 v0) (h0 : DataW.Trod enc Try.prog W 0 (fun _ => true) true 56 v0 d0 p0)
    (_hsz : (DataW.weightsEach Try.prog [56] [d0]).all (· ≤ reachBytes) = true) (hk : Rows.uptoSmall H [d0] = true) :
    Calls Try.prog 6 #[v0] W fun e w' => e = .returned (.bool true) ∧ Below W.heap.size W w' := by
  have hb0 := bulk_of hk 0 (d := d0) rfl
  obtain ⟨cs, xs, n, rfl, hsz, hd, hl, hf⟩ := open_struct Try.underlying56 o0 h0
  have k56 : Try.prog.cellsOf 56 = 66 := by kernel_rfl
  have k53 : Try.prog.cellsOf 53 = 32 := by kernel_rfl
  have k54 : Try.prog.cellsOf 54 = 1 := by kernel_rfl
  rw [k56] at hsz
  obtain ⟨y0, y1, y2, y3, rfl⟩ := len4d hl
  obtain ⟨l⟩ := cs
  have g0 : DataW.trod enc Try.prog W 0 (fun _ => true) true n 53 (List.take (Try.prog.cellsOf 53) (List.drop 0 l)) = some y0 := hf 0 _ rfl
  rw [k53] at g0
  have g1 : DataW.trod enc Try.prog W 0 (fun _ => true) true n 53 (List.take (Try.prog.cellsOf 53) (List.drop 32 l)) = some y1 := hf 1 _ rfl
  rw [k53] at g1
  have g2 : DataW.trod enc Try.prog W 0 (fun _ => true) true n 54 (List.take (Try.prog.cellsOf 54) (List.drop 64 l)) = some y2 := hf 2 _ rfl
  rw [k54] at g2
  have g3 : DataW.trod enc Try.prog W 0 (fun _ => true) true n 54 (List.take (Try.prog.cellsOf 54) (List.drop 65 l)) = some y3 := hf 3 _ rfl
  rw [k54] at g3
  obtain ⟨ka, ea, la, fa⟩ := ints_of_array Try.underlying53 Try.underlying5 (by kernel_rfl) (by kernel_rfl) (x := y0) g0
  obtain ⟨kb, eb, lb, fb⟩ := ints_of_array Try.underlying53 Try.underlying5 (by kernel_rfl) (by kernel_rfl) (x := y1) g1
  have hlen : l.length = 66 := by simpa using hsz
  obtain ⟨s1, es1⟩ : ∃ s1, (l.drop 64).take 1 = [s1] := by
    refine ⟨l[64], ?_⟩
    rw [List.drop_eq_getElem_cons (by omega)]; rfl
  obtain ⟨s2, es2⟩ : ∃ s2, (l.drop 65).take 1 = [s2] := by
    refine ⟨l[65], ?_⟩
    rw [List.drop_eq_getElem_cons (by omega)]; rfl
  have g2' : DataW.trod enc Try.prog W 0 (fun _ => true) true n 54 [s1] = some y2 := by rw [← es1]; exact g2
  have g3' : DataW.trod enc Try.prog W 0 (fun _ => true) true n 54 [s2] = some y3 := by rw [← es2]; exact g3
  have hl' : l = DRl ka kb s1 s2 := by
    have e1 : l = l.take 32 ++ (l.drop 32).take 32 ++ (l.drop 64).take 1 ++ (l.drop 65).take 1 := by
      apply List.ext_getElem?
      intro i
      by_cases h1 : i < 32
      · rw [List.append_assoc, List.append_assoc, List.getElem?_append_left (by simp; omega), List.getElem?_take, if_pos h1]
      · by_cases h2 : i < 64
        · rw [List.append_assoc, List.append_assoc, List.getElem?_append_right (by simp; omega), List.getElem?_append_left (by simp; omega), List.getElem?_take, if_pos (by simp; omega), List.getElem?_drop]
          congr 1; simp; omega
        · by_cases h3 : i < 65
          · obtain rfl : i = 64 := by omega
            rw [List.append_assoc, List.append_assoc, List.getElem?_append_right (by simp; omega), List.getElem?_append_right (by simp; omega), List.getElem?_append_left (by simp; omega), List.getElem?_take, if_pos (by simp; omega), List.getElem?_drop]
            congr 1; simp; omega
          · by_cases h4 : i < 66
            · obtain rfl : i = 65 := by omega
              rw [List.append_assoc, List.append_assoc, List.getElem?_append_right (by simp; omega), List.getElem?_append_right (by simp; omega), List.getElem?_append_right (by simp; omega), List.getElem?_take, if_pos (by simp; omega), List.getElem?_drop]
              congr 1; simp; omega
            · rw [List.getElem?_eq_none (by omega), List.getElem?_eq_none (by simp; omega)]
    have ea' : l.take 32 = ka.map (Value.int .u8) := by simpa using ea
    have eb' : (l.drop 32).take 32 = kb.map (Value.int .u8) := by simpa using eb
    rw [e1, ea', eb', es1, es2]
    simp [DRl]
  obtain ⟨A1, k1, c1, f1, rfl, r1, n1, u1⟩ := open_stepsU (y := y2) g2'
  obtain ⟨A2, k2, c2, f2, rfl, r2, n2, u2⟩ := open_stepsU (y := y3) g3'
  subst hl'
  rw [show (⟨DRl ka kb (.slice A1 k1 c1) (.slice A2 k2 c2)⟩ : Array Value) = DR ka kb (.slice A1 k1 c1) (.slice A2 k2 c2) from (DR_eq ..).symm]
  have hb1 : Rows.uptoBulk y2.1 ≤ Rows.uptoBulk d0 := by rw [hd]; exact bulk_field (by simp)
  have hb2 : Rows.uptoBulk y3.1 ≤ Rows.uptoBulk d0 := by rw [hd]; exact bulk_field (by simp)
  exact draws_law ka kb A1 k1 c1 f1 A2 k2 c2 f2 W la lb fa.B8 fb.B8 r1 r2 n1 n2 (by omega) (by omega)
end Go.Proofs.Ytcfbaildcocnhaa
namespace Go.Proofs.Ytcfbaildcocnhaa.noiseDraws
open Go.ChangeShapes Go.WideShapes Go.ChangeAt Go.RowKit
set_option linter.unusedVariables false
theorem own : ownKnob Try.prog.godebug = none := by kernel_rfl
theorem laidOut : laidOutB Try.prog = true := by kernel_rfl
set_option maxRecDepth 100000 in
theorem lifted (os : Os) (started : os.Started) (H : Type) (enc : TypeId × Value → H) (F : Stop.Interp) :
    ReturnsInHanded {} Try.checked os 6 .any ((Rows.OpenSpec.upto Rows.noiseDrawsSpec).pre6 enc Try.prog Try.f6 Rows.noiseDrawsUptoRow.domain false) (((Rows.OpenSpec.upto Rows.noiseDrawsSpec).at F).post enc Try.prog Try.f6 false true false false) := by
  refine returnsInHanded_of_cond_sized (C := Try.checked) (s := Rows.OpenSpec.upto Rows.noiseDrawsSpec) (k := Rows.uptoSmall) rfl own started (by kernel_rfl) Try.func6
    (OpenSpec.witness (enc := enc) (C := Try.checked) (s := Rows.OpenSpec.upto Rows.noiseDrawsSpec) (k := Rows.uptoSmall) rfl false ⟨#[], #[.agg #[.int .u8 0, .int .u8 0, .int .u8 0, .int .u8 0, .int .u8 0, .int .u8 0, .int .u8 0, .int .u8 0, .int .u8 0, .int .u8 0, .int .u8 0, .int .u8 0, .int .u8 0, .int .u8 0, .int .u8 0, .int .u8 0, .int .u8 0, .int .u8 0, .int .u8 0, .int .u8 0, .int .u8 0, .int .u8 0, .int .u8 0, .int .u8 0, .int .u8 0, .int .u8 0, .int .u8 0, .int .u8 0, .int .u8 0, .int .u8 0, .int .u8 0, .int .u8 0, .int .u8 0, .int .u8 0, .int .u8 0, .int .u8 0, .int .u8 0, .int .u8 0, .int .u8 0, .int .u8 0, .int .u8 0, .int .u8 0, .int .u8 0, .int .u8 0, .int .u8 0, .int .u8 0, .int .u8 0, .int .u8 0, .int .u8 0, .int .u8 0, .int .u8 0, .int .u8 0, .int .u8 0, .int .u8 0, .int .u8 0, .int .u8 0, .int .u8 0, .int .u8 0, .int .u8 0, .int .u8 0, .int .u8 0, .int .u8 0, .int .u8 0, .int .u8 0, .slice none 0 0, .slice none 0 0]], []⟩ 8 (by kernel_rfl) (by kernel_rfl) (by kernel_rfl)
      (x := ([.agg [.agg [.lit (.int .u8 0), .lit (.int .u8 0), .lit (.int .u8 0), .lit (.int .u8 0), .lit (.int .u8 0), .lit (.int .u8 0), .lit (.int .u8 0), .lit (.int .u8 0), .lit (.int .u8 0), .lit (.int .u8 0), .lit (.int .u8 0), .lit (.int .u8 0), .lit (.int .u8 0), .lit (.int .u8 0), .lit (.int .u8 0), .lit (.int .u8 0), .lit (.int .u8 0), .lit (.int .u8 0), .lit (.int .u8 0), .lit (.int .u8 0), .lit (.int .u8 0), .lit (.int .u8 0), .lit (.int .u8 0), .lit (.int .u8 0), .lit (.int .u8 0), .lit (.int .u8 0), .lit (.int .u8 0), .lit (.int .u8 0), .lit (.int .u8 0), .lit (.int .u8 0), .lit (.int .u8 0), .lit (.int .u8 0)], .agg [.lit (.int .u8 0), .lit (.int .u8 0), .lit (.int .u8 0), .lit (.int .u8 0), .lit (.int .u8 0), .lit (.int .u8 0), .lit (.int .u8 0), .lit (.int .u8 0), .lit (.int .u8 0), .lit (.int .u8 0), .lit (.int .u8 0), .lit (.int .u8 0), .lit (.int .u8 0), .lit (.int .u8 0), .lit (.int .u8 0), .lit (.int .u8 0), .lit (.int .u8 0), .lit (.int .u8 0), .lit (.int .u8 0), .lit (.int .u8 0), .lit (.int .u8 0), .lit (.int .u8 0), .lit (.int .u8 0), .lit (.int .u8 0), .lit (.int .u8 0), .lit (.int .u8 0), .lit (.int .u8 0), .lit (.int .u8 0), .lit (.int .u8 0), .lit (.int .u8 0), .lit (.int .u8 0), .lit (.int .u8 0)], .nil, .nil]], [], [])) (by kernel_rfl) rfl (by kernel_rfl)) ?_
  intro W base args ds gs before hval0 hW hcnd hk0 hsz0 _
  have hsz : (DataW.weightsEach Try.prog (Try.f6.params.toList ++ Rows.noiseDrawsSpec.plain.varTypes Try.prog) (ds ++ gs)).all (· ≤ reachBytes) = true := hsz0
  have hval : ∀ (j : Nat) t v, Try.f6.params[j]? = some t → args[j]? = some v → Value.okWide Try.prog W .any base t v := hval0
  have hW' := hW
  obtain ⟨p, q, hA0, hV, rfl, hfz, hnd⟩ := hW
  have hA : DataW.TrodAll enc Try.prog W 0 (fun _ => true) true Try.f6.params.toList args.toList ds p := hA0
  rw [Try.params6] at hA hval hsz
  obtain ⟨v0, vs0, d0, ds0, p0, q0, hargs, rfl, rfl, h0, r0⟩ := trodAll_cons hA
  obtain ⟨rfl, rfl, rfl⟩ := trodAll_nil r0
  obtain rfl : args = #[v0] := by cases args; simp_all
  obtain ⟨rfl, rfl⟩ := trodVars_none hV
  have lt0 : ∀ x ∈ p0, x.block < W.heap.size := by obtain ⟨m, hm⟩ := h0; exact DataW.trod_lt m _ _ _ hm
  refine (noiseDraws_open W base v0 d0 p0 (hval 0 56 v0 rfl rfl) h0 hsz hk0).mono fun e W' ⟨he, bel⟩ => ?_
  subst he
  exact ⟨_, rfl, _, _, _, [], _, [], hW', trodAll_mk1 (shut_bool Try.underlying4 _), (trodAll_cons_mk (Below.trod laidOut (by kernel_rfl) (of_decide_eq_true (by kernel_rfl)) h0 bel lt0) trodAll_mk0), rfl, bel.frame _, fun h => by cases h⟩
theorem over : Rows.noiseDrawsUptoRow.holds Try.pinned (Rows.OpenSpec.upto Rows.noiseDrawsSpec) :=
  OpenClaim.holds_of_cond 6 Try.f6 rfl rfl rfl rfl rfl rfl rfl ⟨rfl, rfl, rfl, rfl, rfl⟩ rfl rfl rfl rfl rfl (by kernel_rfl) Try.func6 (by kernel_rfl)
    (of_decide_eq_true (by kernel_rfl)) (by unfold Func.isWrapper; first | (rw [if_pos (by decide +kernel)]; kernel_rfl) | (rw [if_neg (by decide +kernel)]; exact ⟨rfl, rfl⟩))
    (fun os started H enc _ F => lifted os started H enc F)
end Go.Proofs.Ytcfbaildcocnhaa.noiseDraws
namespace Go.Proofs.Ytcfbaildcocnhaa
theorem noiseDrawsUpto_holds : Rows.NoiseDrawsUptoSaid := noiseDraws.over
#print axioms noiseDrawsUpto_holds
end Go.Proofs.Ytcfbaildcocnhaa

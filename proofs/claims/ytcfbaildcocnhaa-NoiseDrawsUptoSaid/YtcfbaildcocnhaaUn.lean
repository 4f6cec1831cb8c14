/-
  Walks: unit, Unit, below, Below.
-/
import Derived.Test.YtcfbaildcocnhaaSn
import Derived.Test.YtcfbaildcocnhaaUf
set_option linter.unusedVariables false
set_option linter.unusedSimpArgs false
namespace Go.Proofs.Ytcfbaildcocnhaa
open Go.RowKit

/-- The word of m / 2^53. -/
def uW (m : Nat) : Nat := if m = 0 then 0 else W m (-53)
theorem near_zero (e : Int) : Ieee.double.nearest false 0 e = 0 := by
  simp only [Ieee.Format.nearest, if_true, Ieee.Format.word, Bool.false_eq_true, if_false]
theorem float_nat (m : Nat) : floatOfInt .f64 (m : Int) = Ieee.double.nearest false m 0 := by
  have e : decide ((m : Int) < 0) = false := by simp
  show Ieee.double.nearest (decide ((m : Int) < 0)) (m : Int).natAbs 0 = _
  rw [e, Int.natAbs_natCast]
theorem mul_def (x y : Nat) : floatBits .mul .f64 x y = ((Ieee.double.read x).product (Ieee.double.read y)).map Ieee.double.write := rfl
theorem read_scale : Ieee.double.read 4368491638549381120 = .number false 4503599627370496 (-105) := by decide
theorem unit_mul (m : Nat) (h : m < 9007199254740992) : floatBits .mul .f64 (floatOfInt .f64 (m : Int)) 4368491638549381120 = some (uW m) := by
  rw [float_nat, mul_def, read_scale]
  unfold uW
  by_cases hm : m = 0
  · subst hm
    rw [near_zero, read_0, if_pos rfl]
    show some (Ieee.double.nearest false (0 * 4503599627370496) _) = _
    rw [Nat.zero_mul, near_zero]
  · have hl := log2_52 h
    rw [if_neg hm, near_W0 m 0 (by omega) h (by omega) (by omega), read_W m 0 (by omega) h (by omega) (by omega)]
    show some (Ieee.double.nearest false (m * 2 ^ (52 - m.log2) * 4503599627370496) (0 + m.log2 - 52 + -105)) = _
    have e : m * 2 ^ (52 - m.log2) * 4503599627370496 = m * 2 ^ ((52 - m.log2) + 52) := by rw [Nat.pow_add, Nat.mul_assoc]
    rw [e, near_W m _ _ (by omega) h (by omega) (by omega)]
    congr 2
    omega

theorem unit_any (S : Nat) (ks : List Int) (p : Nat) (w : World) (hs : Src w S ks p) (hk : ks.length = 32) (bk : B8 ks) :
    Calls Try.prog 69 #[.func (.func 28) #[.pointer (some ⟨S, 0, none⟩)] #[]] w fun e w' => e = .returned (.float .f64 (uW (numN ks p / 2048))) ∧ Src w' S ks (p + 8) ∧ Fr (fun b => b = S) w w' := by
  have HT := Lib.hid (next_any S ks p w hs hk bk)
  have HU := Lib.hid (unit_mul (numN ks p / 2048) (by have := numN_lt ks p; omega))
  clear hs hk bk
  go_enter Try.func69, Try.ntmps69
  go_wp2_with fail
  refine HT.out.mono ?_
  rintro e w1 ⟨rfl, ho⟩
  have HO := Lib.hid ho
  clear ho HT
  obtain ⟨N, hN⟩ : ∃ N, N = numN ks p := ⟨_, rfl⟩
  have HNE := Lib.hid hN
  rw [← hN] at HU ⊢
  clear hN
  obtain ⟨m, hm⟩ : ∃ m, m = N / 2048 := ⟨_, rfl⟩
  have HME := Lib.hid hm
  rw [← hm] at HU
  have hsh : (N : Int) / 2048 = (m : Int) := by omega
  obtain ⟨u, hu⟩ : ∃ u, u = uW m := ⟨_, rfl⟩
  have HUE := Lib.hid hu
  rw [← hu] at HU
  obtain ⟨fx, hfx⟩ : ∃ fx, fx = floatOfInt .f64 (m : Int) := ⟨_, rfl⟩
  have hfx2 : floatOfInt .f64 (m : Int) = fx := hfx.symm
  have hb : floatBits .mul .f64 fx 4368491638549381120 = some u := by rw [hfx]; exact HU.out
  have hrun := run_float_arith (P := Try.prog) (w := w1) .mul 22 .f64 fx 4368491638549381120 u hb
  clear hm hfx hb HU hu
  go_wp2_with fail
  go_ret
  exact ⟨by show Ending.returned (.float .f64 u) = _; rw [HUE.out, HME.out, HNE.out], HO.out⟩
theorem funit_any (S : Nat) (ks : List Int) (p : Nat) (w : World) (hs : Src w S ks p) (hk : ks.length = 32) (bk : B8 ks) :
    Calls Try.prog 46 #[.pointer (some ⟨S, 0, none⟩)] w fun e w' => e = .returned (.float .f64 (uW (numN ks p / 2048))) ∧ Src w' S ks (p + 8) ∧ Fr (fun b => b = S) w w' := by
  have HT := Lib.hid (unit_any S ks p w hs hk bk)
  clear hs hk bk
  go_enter Try.func46, Try.ntmps46
  go_wp2_with fail
  refine HT.out.mono ?_
  rintro e w1 ⟨rfl, ho⟩
  have HO := Lib.hid ho
  clear ho HT
  go_wp2_with fail
  go_ret
  exact ⟨rfl, HO.out⟩
theorem funit_nil (w : World) : Calls Try.prog 46 #[.pointer none] w fun e w' => e = .returned (.float .f64 0) ∧ w' = w := by
  go_enter Try.func46, Try.ntmps46
  go_wp2_with fail
  go_ret
  exact ⟨rfl, rfl⟩
theorem next_nil (w : World) : Calls Try.prog 28 #[.pointer none] w fun e w' => e = .returned (.int .u64 0) ∧ w' = w := by
  go_enter Try.func28, Try.ntmps28
  go_wp2_with fail
  go_ret
  exact ⟨rfl, rfl⟩

/-! ### below -/
/-- How many numbers of below are passed over, and at which place it ends. -/
def ovr (n : Nat) : Nat := (18446744073709551616 - n) % n
/-- From the i-th number on: at which place the number that is taken begins. -/
def belP (ks : List Int) (n : Nat) : Nat → Nat → Nat
  | 0, p => p
  | f + 1, p => if 18446744073709551615 - ovr n < numN ks p then belP ks n f (p + 8) else p
theorem belP_step (ks : List Int) (n f p : Nat) : belP ks n (f + 1) p = if 18446744073709551615 - ovr n < numN ks p then belP ks n f (p + 8) else p := rfl
def belowN' (ks : List Int) (n p : Nat) : Nat := numN ks (belP ks n 99 p) % n
theorem ovr_lt {n : Nat} (h : 0 < n) : ovr n < n := Nat.mod_lt _ h

set_option maxHeartbeats 2000000 in
theorem below_any (S n : Nat) (ks : List Int) (p : Nat) (w : World) (hs : Src w S ks p) (hk : ks.length = 32) (bk : B8 ks) (h0 : 0 < n) (hn : n < 18446744073709551616) :
    Calls Try.prog 66 #[.func (.func 28) #[.pointer (some ⟨S, 0, none⟩)] #[], .int .u64 (n : Int)] w fun e w' => e = .returned (.int .u64 (belowN' ks n p : Nat)) ∧ Src w' S ks (belP ks n 99 p + 8) ∧ Fr (fun b => b = S) w w' := by
  have HN := Lib.hid (fun q W hs => next_any S ks q W hs hk bk)
  have HS := Lib.hid hs
  have hneg : IntKind.u64.wrap (-(n : Int)) = ((18446744073709551616 - n : Nat) : Int) := by simp [IntKind.wrap, IntKind.bits, IntKind.signed]; omega
  obtain ⟨N1, hN1⟩ : ∃ N1, N1 = 18446744073709551616 - n := ⟨_, rfl⟩
  rw [← hN1] at hneg
  have hrem : Int.tmod (N1 : Int) (n : Int) = ((ovr n : Nat) : Int) := by rw [Int.tmod_eq_emod_of_nonneg (by omega), hN1]; unfold ovr; omega
  have hov := ovr_lt h0
  have HOV : Hid (∃ O, O = ovr n) := Lib.hid ⟨_, rfl⟩
  obtain ⟨O, hO⟩ := HOV.out
  have HO := Lib.hid hO
  rw [← hO] at hrem hov
  clear hO HOV hs hk bk hN1
  have hn0 : ¬ (n : Int) = 0 := by omega
  have hwO : IntKind.u64.wrap (18446744073709551615 - (O : Int)) = ((18446744073709551615 - O : Nat) : Int) := by simp [IntKind.wrap, IntKind.bits, IntKind.signed]; omega
  obtain ⟨Q, hQ⟩ : ∃ Q, Q = 18446744073709551615 - O := ⟨_, rfl⟩
  have HQ := Lib.hid hQ
  rw [← hQ] at hwO
  clear hQ
  go_enter Try.func66, Try.ntmps66
  go_wp2_with fail
  refine (HN.out p w HS.out).mono ?_
  rintro e w1 ⟨rfl, ho⟩
  have HS1 := Lib.hid ho.1
  have HF1 := Lib.hid ho.2
  clear ho HS hneg hrem
  go_wp2_with fail
  go_loopw [6, 7] (fun vv iv wr => ∃ i q : Nat, iv = .int .i64 (i : Int) ∧ 1 ≤ i ∧ i ≤ 100 ∧ vv = .int .u64 (numN ks q : Nat) ∧ Hid (Src wr S ks (q + 8)) ∧ Hid (belP ks n 99 p = belP ks n (100 - i) q) ∧ Hid (Fr (fun b => b = S) w wr)) (fun _ iv _ => 100 - (intOf iv).toNat)
  case atStart => exact ⟨1, p, rfl, by omega, by omega, rfl, HS1, Lib.hid rfl, HF1⟩
  case round =>
    clear HS1 HF1
    obtain ⟨i, q, rfl, h1, h100, rfl, HSq, HB, HF⟩ := hrel
    have HST : Hid (∀ f, belP ks n (f + 1) q = if 18446744073709551615 - ovr n < numN ks q then belP ks n f (q + 8) else q) := Lib.hid (fun f => belP_step ks n f q)
    have hvl := numN_lt ks q
    obtain ⟨V, hV⟩ : ∃ V, V = numN ks q := ⟨_, rfl⟩
    have HV := Lib.hid hV
    rw [← hV] at hvl ⊢
    clear hV
    by_cases hi : i < 100
    · have hi' : (i : Int) < 100 := by omega
      have m1 : IntKind.i64.wrap ((i : Int) + 1) = ((i + 1 : Nat) : Int) := by rw [IntKind.wrap_i64] <;> omega
      by_cases hq : Q < V
      · have hq' : (Q : Int) < (V : Int) := by omega
        have HB2 : Hid (belP ks n 99 p = belP ks n (100 - (i + 1)) (q + 8)) := Lib.hid (by rw [HB.out, show 100 - i = (100 - (i + 1)) + 1 from by omega, HST.out, if_pos (by rw [← HV.out, ← HO.out, ← HQ.out]; exact hq)])
        go_wp2_with fail
        refine (HN.out (q + 8) wr HSq.out).mono ?_
        rintro e w2 ⟨rfl, ho⟩
        have HS2 := Lib.hid ho.1
        have HF2 := Lib.hid (HF.out.trans ho.2)
        clear ho
        go_wp2_with fail
        go_roundw
        case rel => exact ⟨i + 1, q + 8, by simp, by omega, by omega, rfl, HS2, HB2, HF2⟩
        case measure => simp [intOf]; omega
      · have hq' : decide ((Q : Int) < (V : Int)) = false := by simp; omega
        have HB2 : Hid (belP ks n 99 p = q) := Lib.hid (by rw [HB.out, show 100 - i = (100 - (i + 1)) + 1 from by omega, HST.out, if_neg (by rw [← HV.out, ← HO.out, ← HQ.out]; exact hq)])
        have hrm : Int.tmod (V : Int) (n : Int) = ((V % n : Nat) : Int) := by rw [Int.tmod_eq_emod_of_nonneg (by omega)]; omega
        go_wp2_with fail
        go_ret
        exact ⟨by unfold belowN'; rw [HB2.out, ← HV.out]; rfl, by rw [HB2.out]; exact HSq.out, HF.out⟩
    · obtain rfl : i = 100 := by omega
      have HB2 : Hid (belP ks n 99 p = q) := Lib.hid (by rw [HB.out]; rfl)
      have hrm : Int.tmod (V : Int) (n : Int) = ((V % n : Nat) : Int) := by rw [Int.tmod_eq_emod_of_nonneg (by omega)]; omega
      go_wp2_with fail
      go_ret
      exact ⟨by unfold belowN'; rw [HB2.out, ← HV.out]; rfl, by rw [HB2.out]; exact HSq.out, HF.out⟩
theorem fbelow_any (S n : Nat) (ks : List Int) (p : Nat) (w : World) (hs : Src w S ks p) (hk : ks.length = 32) (bk : B8 ks) (h0 : 0 < n) (hn : n < 18446744073709551616) :
    Calls Try.prog 45 #[.pointer (some ⟨S, 0, none⟩), .int .u64 (n : Int)] w fun e w' => e = .returned (.int .u64 (belowN' ks n p : Nat)) ∧ Src w' S ks (belP ks n 99 p + 8) ∧ Fr (fun b => b = S) w w' := by
  have HT := Lib.hid (below_any S n ks p w hs hk bk h0 hn)
  have hn0 : ¬ (n : Int) = 0 := by omega
  clear hs hk bk
  go_enter Try.func45, Try.ntmps45
  go_wp2_with fail
  refine HT.out.mono ?_
  rintro e w1 ⟨rfl, ho⟩
  have HO := Lib.hid ho
  clear ho HT
  go_wp2_with fail
  go_ret
  exact ⟨rfl, HO.out⟩
theorem fbelow_none (A : Option Addr) (n : Nat) (w : World) (h : A = none ∨ n = 0) : Calls Try.prog 45 #[.pointer A, .int .u64 (n : Int)] w fun e w' => e = .returned (.int .u64 0) ∧ w' = w := by
  rcases h with rfl | rfl
  · go_enter Try.func45, Try.ntmps45
    go_wp2_with fail
    go_ret
    exact ⟨rfl, rfl⟩
  · cases A
    · go_enter Try.func45, Try.ntmps45
      go_wp2_with fail
      go_ret
      exact ⟨rfl, rfl⟩
    · go_enter Try.func45, Try.ntmps45
      go_wp2_with fail
      go_ret
      exact ⟨rfl, rfl⟩
end Go.Proofs.Ytcfbaildcocnhaa

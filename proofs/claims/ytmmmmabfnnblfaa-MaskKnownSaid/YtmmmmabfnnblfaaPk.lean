/-
  Walks: the document's Pick bit by bit; Choose at each type.
-/
import Derived.Test.YtmmmmabfnnblfaaCp
set_option linter.unusedVariables false
set_option linter.unusedSimpArgs false
namespace Go.Proofs.Ytmmmmabfnnblfaa
open Go.RowKit

/-- The bit of a word at a place. -/
def bt1 (x k : Nat) : Nat := x / 2 ^ k % 2
theorem bt1_lt (x k : Nat) : bt1 x k < 2 := Nat.mod_lt _ (by omega)
theorem rbit_nat (x k : Nat) (w : World) (h1 : x < 18446744073709551616) (hk : k < 64) :
    Calls Try.prog 50 #[.int .u64 x, .int .i64 k] w fun e w' => e = .returned (.int .u64 (bt1 x k : Nat)) ∧ w = w' := by
  refine (rbit_any (x : Int) k w (by omega) (by omega) hk).mono ?_
  rintro e w' ⟨rfl, rfl⟩
  refine ⟨?_, rfl⟩
  simp [bt1]

theorem bt1_pkN (m x y k : Nat) : bt1 (pkN m x y) k = if bt1 m k = 1 then bt1 x k else bt1 y k := by
  have h := pkN_bit m x y k
  rw [Nat.testBit_eq_decide_div_mod_eq, Nat.testBit_eq_decide_div_mod_eq, Nat.testBit_eq_decide_div_mod_eq, Nat.testBit_eq_decide_div_mod_eq] at h
  have h1 := bt1_lt (pkN m x y) k
  have h2 := bt1_lt m k
  have h3 := bt1_lt x k
  have h4 := bt1_lt y k
  unfold bt1 at *
  generalize pkN m x y / 2 ^ k % 2 = a at *
  generalize m / 2 ^ k % 2 = b at *
  generalize x / 2 ^ k % 2 = c at *
  generalize y / 2 ^ k % 2 = d at *
  have : a = 0 ∨ a = 1 := by omega
  have : b = 0 ∨ b = 1 := by omega
  have : c = 0 ∨ c = 1 := by omega
  have : d = 0 ∨ d = 1 := by omega
  rcases ‹a = 0 ∨ a = 1› with rfl | rfl <;> rcases ‹b = 0 ∨ b = 1› with rfl | rfl <;> rcases ‹c = 0 ∨ c = 1› with rfl | rfl <;> rcases ‹d = 0 ∨ d = 1› with rfl | rfl <;> simp at h ⊢
theorem mod_succ (n k : Nat) : n % 2 ^ (k + 1) = n % 2 ^ k + bt1 n k * 2 ^ k := by
  rw [Nat.mod_pow_succ, Nat.mul_comm]; rfl

theorem push_bit (q b k P : Nat) (hq : q = P % 2 ^ k) (hb : bt1 P k = b) (hP : P < 18446744073709551616) : IntKind.u64.wrap ((q : Int) + IntKind.u64.wrap ((b : Int) * 2 ^ k)) = ((P % 2 ^ (k + 1) : Nat) : Int) := by
  have h := mod_succ P k
  rw [← hq, hb] at h
  have hle : P % 2 ^ (k + 1) ≤ P := Nat.mod_le _ _
  have e : ((b : Int) * 2 ^ k) = ((b * 2 ^ k : Nat) : Int) := by simp
  rw [e, h]
  generalize b * 2 ^ k = c at *
  simp only [IntKind.wrap_u64]
  omega

set_option maxHeartbeats 1000000 in
theorem rpick_any (M X Y : Nat) (w : World) (hM : M < 18446744073709551616) (hX : X < 18446744073709551616) (hY : Y < 18446744073709551616) :
    Calls Try.prog 12 #[.int .u64 M, .int .u64 X, .int .u64 Y] w fun e w' => e = .returned (.int .u64 (pkN M X Y : Nat)) ∧ w = w' := by
  have HP : Hid (pkN M X Y < 18446744073709551616) := Lib.hid (pkN_lt hM hY)
  go_enter Try.func12, Try.ntmps12
  go_wp2_with fail
  go_loop [7, 8] (fun o i => ∃ k q : Nat, k ≤ 64 ∧ i = .int .i64 k ∧ o = .int .u64 q ∧ Hid (q = pkN M X Y % 2 ^ k)) (fun _ i => 64 - (intOf i).toNat)
  case atStart => exact ⟨0, 0, by omega, rfl, rfl, Lib.hid (by simp [Nat.mod_one])⟩
  case round =>
    obtain ⟨k, q, hk, rfl, rfl, HQ⟩ := hrel
    by_cases hlt : k < 64
    · go_wp2_with fail
      refine (rbit_nat Y k _ hY hlt).mono ?_
      rintro e w' ⟨rfl, rfl⟩
      generalize hby : bt1 Y k = bY
      have HBY := Lib.hid hby
      have lY : bY < 2 := by rw [← hby]; exact bt1_lt _ _
      clear hby
      go_wp2_with fail
      refine (rbit_nat M k _ hM hlt).mono ?_
      rintro e w' ⟨rfl, rfl⟩
      generalize hbm : bt1 M k = bM
      have HBM := Lib.hid hbm
      have lM : bM < 2 := by rw [← hbm]; exact bt1_lt _ _
      clear hbm
      by_cases h1 : bM = 1
      · have hb : ((bM : Int) == 1) = true := by simp [h1]
        have HB := Lib.hid h1
        clear h1
        go_wp2_with fail
        refine (rbit_nat X k _ hX hlt).mono ?_
        rintro e w' ⟨rfl, rfl⟩
        generalize hbx : bt1 X k = bX
        have HBX := Lib.hid hbx
        have lX : bX < 2 := by rw [← hbx]; exact bt1_lt _ _
        clear hbx
        go_wp2_with fail
        go_round
        case rel => exact ⟨k + 1, pkN M X Y % 2 ^ (k + 1), by omega, by go_num, congrArg _ (push_bit q bX k _ HQ.out (by rw [bt1_pkN, HBM.out, if_pos HB.out, HBX.out]) HP.out), Lib.hid rfl⟩
        case measure => simp [intOf]; omega
      · have hb : ((bM : Int) == 1) = false := by simp; omega
        have HB := Lib.hid h1
        clear h1
        go_wp2_with fail
        go_round
        case rel => exact ⟨k + 1, pkN M X Y % 2 ^ (k + 1), by omega, by go_num, congrArg _ (push_bit q bY k _ HQ.out (by rw [bt1_pkN, HBM.out, if_neg HB.out, HBY.out]) HP.out), Lib.hid rfl⟩
        case measure => simp [intOf]; omega
    · obtain rfl : k = 64 := by omega
      go_wp2_with fail
      go_ret
      have h := HQ.out
      rw [Nat.mod_eq_of_lt (by have := HP.out; omega)] at h
      exact ⟨by rw [← h]; rfl, rfl⟩

/-! ### Choose at each type -/
theorem wrap_mod (k : IntKind) (a : Int) : k.wrap a % 2 ^ k.bits = a % 2 ^ k.bits := by
  unfold IntKind.wrap
  cases k <;> simp [IntKind.signed, IntKind.bits] <;> omega
theorem wrap_congr (k : IntKind) (a b : Int) (h : a % 2 ^ k.bits = b % 2 ^ k.bits) : k.wrap a = k.wrap b := by
  unfold IntKind.wrap
  cases k <;> simp [IntKind.signed, IntKind.bits] at h ⊢ <;> omega
theorem mod_bits (k : IntKind) (a : Int) : (a % 18446744073709551616) % 2 ^ k.bits = a % 2 ^ k.bits := by
  cases k <;> simp [IntKind.bits] <;> omega
theorem pkN_mod (M X Y X' Y' j : Nat) (hx : X' % 2 ^ j = X % 2 ^ j) (hy : Y' % 2 ^ j = Y % 2 ^ j) : pkN M X' Y' % 2 ^ j = pkN M X Y % 2 ^ j := by
  apply Nat.eq_of_testBit_eq
  intro i
  rw [Nat.testBit_mod_two_pow, Nat.testBit_mod_two_pow]
  by_cases hi : i < j
  · have h1 : X'.testBit i = X.testBit i := by
      have := congrArg (fun n => n.testBit i) hx
      simpa [Nat.testBit_mod_two_pow, hi] using this
    have h2 : Y'.testBit i = Y.testBit i := by
      have := congrArg (fun n => n.testBit i) hy
      simpa [Nat.testBit_mod_two_pow, hi] using this
    simp [pkN_bit, h1, h2]
  · simp [hi]
theorem pk_wrap (k : IntKind) (M X Y : Nat) (hM : M < 18446744073709551616) : k.wrap (pk M (IntKind.u64.wrap (k.wrap X)) (IntKind.u64.wrap (k.wrap Y))) = k.wrap ((pkN M X Y : Nat) : Int) := by
  have hX : ∃ X' : Nat, IntKind.u64.wrap (k.wrap (X : Int)) = (X' : Int) ∧ X' < 18446744073709551616 ∧ X' % 2 ^ k.bits = X % 2 ^ k.bits := by
    refine ⟨(IntKind.u64.wrap (k.wrap (X : Int))).toNat, ?_, ?_, ?_⟩
    · simp only [IntKind.wrap_u64]; omega
    · simp only [IntKind.wrap_u64]; omega
    · have e : (((IntKind.u64.wrap (k.wrap (X : Int))).toNat : Nat) : Int) = IntKind.u64.wrap (k.wrap (X : Int)) := by simp only [IntKind.wrap_u64]; omega
      have h : (((IntKind.u64.wrap (k.wrap (X : Int))).toNat : Nat) : Int) % 2 ^ k.bits = (X : Int) % 2 ^ k.bits := by
        rw [e, IntKind.wrap_u64, mod_bits, wrap_mod]
      exact_mod_cast h
  have hY : ∃ X' : Nat, IntKind.u64.wrap (k.wrap (Y : Int)) = (X' : Int) ∧ X' < 18446744073709551616 ∧ X' % 2 ^ k.bits = Y % 2 ^ k.bits := by
    refine ⟨(IntKind.u64.wrap (k.wrap (Y : Int))).toNat, ?_, ?_, ?_⟩
    · simp only [IntKind.wrap_u64]; omega
    · simp only [IntKind.wrap_u64]; omega
    · have e : (((IntKind.u64.wrap (k.wrap (Y : Int))).toNat : Nat) : Int) = IntKind.u64.wrap (k.wrap (Y : Int)) := by simp only [IntKind.wrap_u64]; omega
      have h : (((IntKind.u64.wrap (k.wrap (Y : Int))).toNat : Nat) : Int) % 2 ^ k.bits = (Y : Int) % 2 ^ k.bits := by
        rw [e, IntKind.wrap_u64, mod_bits, wrap_mod]
      exact_mod_cast h
  obtain ⟨X', eX, lX, mX⟩ := hX
  obtain ⟨Y', eY, lY, mY⟩ := hY
  rw [eX, eY, pk_nat M X' Y' hM lX lY]
  refine wrap_congr k _ _ ?_
  have h := pkN_mod M X Y X' Y' k.bits mX mY
  exact_mod_cast h

theorem choose13_nat (M X Y : Nat) (w : World) (hM : M < 18446744073709551616) (hX : X < 18446744073709551616) (hY : Y < 18446744073709551616) :
    Calls Try.prog 13 #[.int .u64 M, .int .u8 ((X : Int) % 256), .int .u8 ((Y : Int) % 256)] w fun e w' => e = .returned (.int .u8 (((pkN M X Y : Nat) : Int) % 256)) ∧ w = w' := by
  have h := pk_wrap .u8 M X Y hM
  have H := Lib.hid h
  clear h
  go_enter Try.func13, Try.ntmps13
  go_wp2_with fail
  refine (pick_any _ _ _ _).mono ?_
  rintro e w' ⟨rfl, rfl⟩
  go_wp2_with fail
  go_ret
  refine ⟨?_, rfl⟩
  have h := H.out
  have e1 : ∀ n : Nat, IntKind.u64.wrap (IntKind.u8.wrap (n : Int)) = (n : Int) % 256 := by intro n; simp only [IntKind.wrap_u8', IntKind.wrap_u32', IntKind.wrap_u64]; omega
  rw [e1, e1] at h
  simp only [IntKind.wrap_u8', IntKind.wrap_u32'] at h
  exact congrArg (fun z => Ending.returned (Value.int _ z)) h

theorem choose14_nat (M X Y : Nat) (w : World) (hM : M < 18446744073709551616) (hX : X < 18446744073709551616) (hY : Y < 18446744073709551616) :
    Calls Try.prog 14 #[.int .u64 M, .int .u16 (IntKind.u16.wrap ((X : Int))), .int .u16 (IntKind.u16.wrap ((Y : Int)))] w fun e w' => e = .returned (.int .u16 (IntKind.u16.wrap (((pkN M X Y : Nat) : Int)))) ∧ w = w' := by
  have h := pk_wrap .u16 M X Y hM
  have H := Lib.hid h
  clear h
  go_enter Try.func14, Try.ntmps14
  go_wp2_with fail
  refine (pick_any _ _ _ _).mono ?_
  rintro e w' ⟨rfl, rfl⟩
  go_wp2_with fail
  go_ret
  refine ⟨?_, rfl⟩
  exact congrArg (fun z => Ending.returned (Value.int _ z)) H.out

theorem choose15_nat (M X Y : Nat) (w : World) (hM : M < 18446744073709551616) (hX : X < 18446744073709551616) (hY : Y < 18446744073709551616) :
    Calls Try.prog 15 #[.int .u64 M, .int .u32 ((X : Int) % 4294967296), .int .u32 ((Y : Int) % 4294967296)] w fun e w' => e = .returned (.int .u32 (((pkN M X Y : Nat) : Int) % 4294967296)) ∧ w = w' := by
  have h := pk_wrap .u32 M X Y hM
  have H := Lib.hid h
  clear h
  go_enter Try.func15, Try.ntmps15
  go_wp2_with fail
  refine (pick_any _ _ _ _).mono ?_
  rintro e w' ⟨rfl, rfl⟩
  go_wp2_with fail
  go_ret
  refine ⟨?_, rfl⟩
  have h := H.out
  have e1 : ∀ n : Nat, IntKind.u64.wrap (IntKind.u32.wrap (n : Int)) = (n : Int) % 4294967296 := by intro n; simp only [IntKind.wrap_u8', IntKind.wrap_u32', IntKind.wrap_u64]; omega
  rw [e1, e1] at h
  simp only [IntKind.wrap_u8', IntKind.wrap_u32'] at h
  exact congrArg (fun z => Ending.returned (Value.int _ z)) h

theorem choose17_nat (M X Y : Nat) (w : World) (hM : M < 18446744073709551616) (hX : X < 18446744073709551616) (hY : Y < 18446744073709551616) :
    Calls Try.prog 17 #[.int .u64 M, .int .i8 (IntKind.i8.wrap ((X : Int))), .int .i8 (IntKind.i8.wrap ((Y : Int)))] w fun e w' => e = .returned (.int .i8 (IntKind.i8.wrap (((pkN M X Y : Nat) : Int)))) ∧ w = w' := by
  have h := pk_wrap .i8 M X Y hM
  have H := Lib.hid h
  clear h
  go_enter Try.func17, Try.ntmps17
  go_wp2_with fail
  refine (pick_any _ _ _ _).mono ?_
  rintro e w' ⟨rfl, rfl⟩
  go_wp2_with fail
  go_ret
  refine ⟨?_, rfl⟩
  exact congrArg (fun z => Ending.returned (Value.int _ z)) H.out

theorem choose18_nat (M X Y : Nat) (w : World) (hM : M < 18446744073709551616) (hX : X < 18446744073709551616) (hY : Y < 18446744073709551616) :
    Calls Try.prog 18 #[.int .u64 M, .int .i16 (IntKind.i16.wrap ((X : Int))), .int .i16 (IntKind.i16.wrap ((Y : Int)))] w fun e w' => e = .returned (.int .i16 (IntKind.i16.wrap (((pkN M X Y : Nat) : Int)))) ∧ w = w' := by
  have h := pk_wrap .i16 M X Y hM
  have H := Lib.hid h
  clear h
  go_enter Try.func18, Try.ntmps18
  go_wp2_with fail
  refine (pick_any _ _ _ _).mono ?_
  rintro e w' ⟨rfl, rfl⟩
  go_wp2_with fail
  go_ret
  refine ⟨?_, rfl⟩
  exact congrArg (fun z => Ending.returned (Value.int _ z)) H.out

theorem choose19_nat (M X Y : Nat) (w : World) (hM : M < 18446744073709551616) (hX : X < 18446744073709551616) (hY : Y < 18446744073709551616) :
    Calls Try.prog 19 #[.int .u64 M, .int .i32 (wrap32 ((X : Int))), .int .i32 (wrap32 ((Y : Int)))] w fun e w' => e = .returned (.int .i32 (wrap32 (((pkN M X Y : Nat) : Int)))) ∧ w = w' := by
  have h := pk_wrap .i32 M X Y hM
  have H := Lib.hid h
  clear h
  go_enter Try.func19, Try.ntmps19
  go_wp2_with fail
  refine (pick_any _ _ _ _).mono ?_
  rintro e w' ⟨rfl, rfl⟩
  go_wp2_with fail
  go_ret
  refine ⟨?_, rfl⟩
  have h := H.out
  simp only [IntWalk.i64_left, IntWalk.i32_left] at h
  exact congrArg (fun z => Ending.returned (Value.int _ z)) h

theorem choose20_nat (M X Y : Nat) (w : World) (hM : M < 18446744073709551616) (hX : X < 18446744073709551616) (hY : Y < 18446744073709551616) :
    Calls Try.prog 20 #[.int .u64 M, .int .i64 (wrap64 ((X : Int))), .int .i64 (wrap64 ((Y : Int)))] w fun e w' => e = .returned (.int .i64 (wrap64 (((pkN M X Y : Nat) : Int)))) ∧ w = w' := by
  have h := pk_wrap .i64 M X Y hM
  have H := Lib.hid h
  clear h
  go_enter Try.func20, Try.ntmps20
  go_wp2_with fail
  refine (pick_any _ _ _ _).mono ?_
  rintro e w' ⟨rfl, rfl⟩
  go_wp2_with fail
  go_ret
  refine ⟨?_, rfl⟩
  have h := H.out
  simp only [IntWalk.i64_left, IntWalk.i32_left] at h
  exact congrArg (fun z => Ending.returned (Value.int _ z)) h

theorem choose21_nat (M X Y : Nat) (w : World) (hM : M < 18446744073709551616) (hX : X < 18446744073709551616) (hY : Y < 18446744073709551616) :
    Calls Try.prog 21 #[.int .u64 M, .int .i8 (IntKind.i8.wrap ((X : Int))), .int .i8 (IntKind.i8.wrap ((Y : Int)))] w fun e w' => e = .returned (.int .i8 (IntKind.i8.wrap (((pkN M X Y : Nat) : Int)))) ∧ w = w' := by
  have h := pk_wrap .i8 M X Y hM
  have H := Lib.hid h
  clear h
  go_enter Try.func21, Try.ntmps21
  go_wp2_with fail
  refine (pick_any _ _ _ _).mono ?_
  rintro e w' ⟨rfl, rfl⟩
  go_wp2_with fail
  go_ret
  refine ⟨?_, rfl⟩
  exact congrArg (fun z => Ending.returned (Value.int _ z)) H.out

theorem choose_word (f : Nat) (hf : f = 16 ∨ f = 22) (M X Y : Nat) (w : World) (hM : M < 18446744073709551616) (hX : X < 18446744073709551616) (hY : Y < 18446744073709551616) :
    Calls Try.prog f #[.int .u64 M, .int .u64 X, .int .u64 Y] w fun e w' => e = .returned (.int .u64 (pkN M X Y : Nat)) ∧ w = w' := by
  have h := pk_nat M X Y hM hX hY
  have H := Lib.hid h
  clear h
  rcases hf with rfl | rfl
  · go_enter Try.func16, Try.ntmps16
    go_wp2_with fail
    refine (pick_any _ _ _ _).mono ?_
    rintro e w' ⟨rfl, rfl⟩
    go_wp2_with fail
    go_ret
    exact ⟨congrArg (fun z => Ending.returned (Value.int _ z)) H.out, rfl⟩
  · go_enter Try.func22, Try.ntmps22
    go_wp2_with fail
    refine (pick_any _ _ _ _).mono ?_
    rintro e w' ⟨rfl, rfl⟩
    go_wp2_with fail
    go_ret
    exact ⟨congrArg (fun z => Ending.returned (Value.int _ z)) H.out, rfl⟩
end Go.Proofs.Ytmmmmabfnnblfaa

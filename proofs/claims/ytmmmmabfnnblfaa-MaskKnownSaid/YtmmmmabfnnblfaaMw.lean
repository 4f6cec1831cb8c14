/-
  Walks of the functions on words: Bit, Zero, Equal, Less, Pick, Swap, the document's Mask and Pick.
-/
import Derived.Test.YtmmmmabfnnblfaaRows
import Derived.Test.YtmmmmabfnnblfaaMb
import Derived.Outline
import Derived.WalkLawsBesides
import Derived.LoopTactic
import Derived.Lib.Hide
set_option linter.unusedVariables false
namespace Go.Proofs.Ytmmmmabfnnblfaa
open Go.RowKit

theorem bit_any (x : Int) (w : World) (h0 : 0 ≤ x) (h1 : x < 18446744073709551616) :
    Calls Try.prog 24 #[.int .u64 x] w fun e w' => e = .returned (.int .u64 (mk (decide (x % 2 = 1)))) ∧ w = w' := by
  have h := bit_spec x h0 h1
  have H := Lib.hid h
  clear h
  go_enter Try.func24, Try.ntmps24
  go_wp2
  go_ret
  exact ⟨by rw [← H.out]; rfl, rfl⟩

theorem zero_any (x : Int) (w : World) (h0 : 0 ≤ x) (h1 : x < 18446744073709551616) :
    Calls Try.prog 29 #[.int .u64 x] w fun e w' => e = .returned (.int .u64 (mk (decide (x = 0)))) ∧ w = w' := by
  have h := zero_word x h0 h1
  have H := Lib.hid h
  clear h
  go_enter Try.func29, Try.ntmps29
  go_wp2_with fail
  rw [H.out]
  refine (bit_any _ _ (zb_bd _).1 (zb_bd _).2).mono ?_
  rw [zb_odd]
  rintro e w' ⟨rfl, rfl⟩
  go_wp2_with fail
  go_ret
  exact ⟨by simp, rfl⟩

theorem u64_xor_zero (x y : Int) (hx : 0 ≤ x) (hx' : x < 18446744073709551616) (hy : 0 ≤ y) (hy' : y < 18446744073709551616) :
    0 ≤ bits .xor .u64 x y ∧ bits .xor .u64 x y < 18446744073709551616 ∧ (bits .xor .u64 x y = 0 ↔ x = y) := by
  obtain ⟨X, rfl⟩ := Int.eq_ofNat_of_zero_le hx
  obtain ⟨Y, rfl⟩ := Int.eq_ofNat_of_zero_le hy
  rw [u64_xor_nat X Y (by omega) (by omega)]
  have hl := Nat.xor_lt_two_pow (n := 64) (x := X) (y := Y) (by omega) (by omega)
  refine ⟨by omega, by omega, ?_⟩
  constructor
  · intro h
    have h' : X ^^^ Y = 0 := by omega
    have : X = Y := by
      have h2 : X ^^^ Y ^^^ Y = 0 ^^^ Y := by rw [h']
      simpa [Nat.xor_assoc] using h2
    omega
  · intro h
    have : X = Y := by omega
    subst this
    simp

theorem equal_any (x y : Int) (w : World) (hx : 0 ≤ x) (hx' : x < 18446744073709551616) (hy : 0 ≤ y) (hy' : y < 18446744073709551616) :
    Calls Try.prog 30 #[.int .u64 x, .int .u64 y] w fun e w' => e = .returned (.int .u64 (mk (decide (x = y)))) ∧ w = w' := by
  obtain ⟨h1, h2, h3⟩ := u64_xor_zero x y hx hx' hy hy'
  have H3 := Lib.hid h3
  clear h3
  go_enter Try.func30, Try.ntmps30
  go_wp2_with fail
  refine (zero_any _ _ h1 h2).mono ?_
  rintro e w' ⟨rfl, rfl⟩
  go_wp2_with fail
  go_ret
  refine ⟨?_, rfl⟩
  simp [H3.out]

theorem less_any (x y : Int) (w : World) (hx : 0 ≤ x) (hx' : x < 18446744073709551616) (hy : 0 ≤ y) (hy' : y < 18446744073709551616) :
    Calls Try.prog 31 #[.int .u64 x, .int .u64 y] w fun e w' => e = .returned (.int .u64 (mk (decide (x < y)))) ∧ w = w' := by
  have h := less_word x y hx hx' hy hy'
  have H := Lib.hid h
  clear h
  go_enter Try.func31, Try.ntmps31
  go_wp2_with fail
  rw [H.out]
  refine (bit_any _ _ (zb_bd _).1 (zb_bd _).2).mono ?_
  rw [zb_odd]
  rintro e w' ⟨rfl, rfl⟩
  go_wp2_with fail
  go_ret
  exact ⟨by simp, rfl⟩

theorem pick_any (m x y : Int) (w : World) : Calls Try.prog 25 #[.int .u64 m, .int .u64 x, .int .u64 y] w fun e w' => e = .returned (.int .u64 (pk m x y)) ∧ w = w' := by
  go_enter Try.func25, Try.ntmps25
  go_wp2
  go_ret
  exact ⟨rfl, rfl⟩

theorem swap_any (m x y : Int) (w : World) : Calls Try.prog 26 #[.int .u64 m, .int .u64 x, .int .u64 y] w fun e w' =>
    e = .returned (.tuple #[.int .u64 (bits .xor .u64 x (bits .and .u64 m (bits .xor .u64 x y))), .int .u64 (pk m x y)]) ∧ w = w' := by
  go_enter Try.func26, Try.ntmps26
  go_wp2
  go_ret2
  exact ⟨rfl, rfl⟩

theorem mask_any (b : Bool) (w : World) : Calls Try.prog 28 #[.bool b] w fun e w' => e = .returned (.int .u64 (mk b)) ∧ w = w' := by
  cases b <;>
  · go_enter Try.func28, Try.ntmps28
    go_wp2
    go_ret
    exact ⟨rfl, rfl⟩

theorem rbit_any (x : Int) (k : Nat) (w : World) (h0 : 0 ≤ x) (h1 : x < 18446744073709551616) (hk : k < 64) :
    Calls Try.prog 50 #[.int .u64 x, .int .i64 k] w fun e w' => e = .returned (.int .u64 (x / 2 ^ k % 2)) ∧ w = w' := by
  go_enter Try.func50, Try.ntmps50
  go_wp2
  go_ret
  refine ⟨?_, rfl⟩
  have h2 : 0 ≤ x / 2 ^ k := Int.ediv_nonneg h0 (by exact_mod_cast Nat.zero_le _)
  simp [Int.tmod_eq_emod_of_nonneg h2]
end Go.Proofs.Ytmmmmabfnnblfaa

/-
  Walks of the functions on words: Bit, Zero, Equal, Less, Pick, Swap, the document's Mask and Pick.
-/
import Derived.Test.YtedejkfhgpnhpaaRows
import Derived.Test.YtedejkfhgpnhpaaMb
import Derived.Outline
import Derived.WalkLawsBesides
import Derived.LoopTactic
import Derived.Lib.Hide
set_option linter.unusedVariables false
namespace Go.Proofs.Ytedejkfhgpnhpaa
open Go.RowKit

theorem bit_any (x : Int) (w : World) (h0 : 0 ≤ x) (h1 : x < 18446744073709551616) :
    Calls Try.prog 51 #[.int .u64 x] w fun e w' => e = .returned (.int .u64 (mk (decide (x % 2 = 1)))) ∧ w = w' := by
  have h := bit_spec x h0 h1
  have H := Lib.hid h
  clear h
  go_enter Try.func51, Try.ntmps51
  go_wp2
  go_ret
  exact ⟨by rw [← H.out]; rfl, rfl⟩

theorem zero_any (x : Int) (w : World) (h0 : 0 ≤ x) (h1 : x < 18446744073709551616) :
    Calls Try.prog 50 #[.int .u64 x] w fun e w' => e = .returned (.int .u64 (mk (decide (x = 0)))) ∧ w = w' := by
  have h := zero_word x h0 h1
  have H := Lib.hid h
  clear h
  go_enter Try.func50, Try.ntmps50
  go_wp2_with fail
  rw [H.out]
  refine (bit_any _ _ (zb_bd _).1 (zb_bd _).2).mono ?_
  rw [zb_odd]
  rintro e w' ⟨rfl, rfl⟩
  go_wp2_with fail
  go_ret
  exact ⟨by simp, rfl⟩

theorem u64_xor_zero (x y : Int) (hx : 0 ≤ x) (hx' : x < 18446744073709551616) (hy : 0 ≤ y) (hy' : y < 18446744073709551616) :
    0 ≤ bits .xor .u64 x y ∧ bits .xor .u64 x y < 18446744073709551616 ∧ (bits .xor .u64 x y = 0 ↔ x = y) := by
  obtain ⟨X, rfl⟩ := Int.eq_ofNat_of_zero_le hx
  obtain ⟨Y, rfl⟩ := Int.eq_ofNat_of_zero_le hy
  rw [u64_xor_nat X Y (by omega) (by omega)]
  have hl := Nat.xor_lt_two_pow (n := 64) (x := X) (y := Y) (by omega) (by omega)
  refine ⟨by omega, by omega, ?_⟩
  constructor
  · intro h
    have h' : X ^^^ Y = 0 := by omega
    have : X = Y := by
      have h2 : X ^^^ Y ^^^ Y = 0 ^^^ Y := by rw [h']
      simpa [Nat.xor_assoc] using h2
    omega
  · intro h
    have : X = Y := by omega
    subst this
    simp

theorem equal_any (x y : Int) (w : World) (hx : 0 ≤ x) (hx' : x < 18446744073709551616) (hy : 0 ≤ y) (hy' : y < 18446744073709551616) :
    Calls Try.prog 42 #[.int .u64 x, .int .u64 y] w fun e w' => e = .returned (.int .u64 (mk (decide (x = y)))) ∧ w = w' := by
  obtain ⟨h1, h2, h3⟩ := u64_xor_zero x y hx hx' hy hy'
  have H3 := Lib.hid h3
  clear h3
  go_enter Try.func42, Try.ntmps42
  go_wp2_with fail
  refine (zero_any _ _ h1 h2).mono ?_
  rintro e w' ⟨rfl, rfl⟩
  go_wp2_with fail
  go_ret
  refine ⟨?_, rfl⟩
  simp [H3.out]

theorem less_any (x y : Int) (w : World) (hx : 0 ≤ x) (hx' : x < 18446744073709551616) (hy : 0 ≤ y) (hy' : y < 18446744073709551616) :
    Calls Try.prog 46 #[.int .u64 x, .int .u64 y] w fun e w' => e = .returned (.int .u64 (mk (decide (x < y)))) ∧ w = w' := by
  have h := less_word x y hx hx' hy hy'
  have H := Lib.hid h
  clear h
  go_enter Try.func46, Try.ntmps46
  go_wp2_with fail
  rw [H.out]
  refine (bit_any _ _ (zb_bd _).1 (zb_bd _).2).mono ?_
  rw [zb_odd]
  rintro e w' ⟨rfl, rfl⟩
  go_wp2_with fail
  go_ret
  exact ⟨by simp, rfl⟩

theorem pick_any (m x y : Int) (w : World) : Calls Try.prog 44 #[.int .u64 m, .int .u64 x, .int .u64 y] w fun e w' => e = .returned (.int .u64 (pk m x y)) ∧ w = w' := by
  go_enter Try.func44, Try.ntmps44
  go_wp2
  go_ret
  exact ⟨rfl, rfl⟩

end Go.Proofs.Ytedejkfhgpnhpaa

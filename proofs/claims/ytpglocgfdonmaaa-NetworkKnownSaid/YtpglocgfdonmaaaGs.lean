/-
  Walks: the program's size, Len, Gates; whole numbers' bits.
-/
import Derived.Test.YtpglocgfdonmaaaRows
import Derived.Test.YtpglocgfdonmaaaMem
import Derived.Test.YtpglocgfdonmaaaGp
import Derived.Laws.BitsAllLaws
import Derived.LoopTactic
import Derived.Outline
set_option linter.unusedVariables false
set_option linter.unusedSimpArgs false
namespace Go.Proofs.Ytpglocgfdonmaaa
open Go.RowKit

theorem i64_and_nat (a b : Nat) (ha : a < 4611686018427387904) (hb : b < 4611686018427387904) : bits .and .i64 (a : Int) (b : Int) = ((a &&& b : Nat) : Int) := by
  have hx : a &&& b < 2 ^ 62 := Nat.and_lt_two_pow _ (by omega)
  show IntKind.i64.wrap ((BitVec.ofInt 64 (a : Int) &&& BitVec.ofInt 64 (b : Int)).toNat : Int) = _
  rw [BitVec.toNat_and, ofInt_u64 a (by omega), ofInt_u64 b (by omega), IntKind.wrap_i64]
  omega
theorem i64_or_nat (a b : Nat) (ha : a < 4611686018427387904) (hb : b < 4611686018427387904) : bits .or .i64 (a : Int) (b : Int) = ((a ||| b : Nat) : Int) := by
  have hx : a ||| b < 2 ^ 62 := Nat.or_lt_two_pow (by omega) (by omega)
  show IntKind.i64.wrap ((BitVec.ofInt 64 (a : Int) ||| BitVec.ofInt 64 (b : Int)).toNat : Int) = _
  rw [BitVec.toNat_or, ofInt_u64 a (by omega), ofInt_u64 b (by omega), IntKind.wrap_i64]
  omega
theorem size_any (N : Int) (w : World) : Calls Try.prog 40 #[.int .i64 N] w fun e w' => e = .returned (.bool (sizeB N)) ∧ w' = w := by
  by_cases h1 : 1 ≤ N
  · by_cases h2 : N ≤ 65536
    · obtain ⟨n, rfl⟩ : ∃ n : Nat, N = n := ⟨N.toNat, by omega⟩
      have ha : bits .and .i64 (n : Int) ((n : Int) - 1) = ((n &&& (n - 1) : Nat) : Int) := by
        rw [show (n : Int) - 1 = ((n - 1 : Nat) : Int) from by omega]
        exact i64_and_nat n (n - 1) (by omega) (by omega)
      have hm : IntKind.i64.wrap ((n : Int) - 1) = (n : Int) - 1 := by rw [IntKind.wrap_i64] <;> omega
      have hS : Hid ((((n &&& (n - 1) : Nat) : Int) == 0) = sizeB (n : Int)) := Lib.hid (by
        have h := size_bits n (by omega) (by omega)
        cases hs : sizeB (n : Int)
        · have h3 : ¬ n &&& (n - 1) = 0 := fun h4 => by rw [h.1 h4] at hs; cases hs
          simp; omega
        · have h3 := h.2 hs
          simp [h3])
      have d1 : decide ((1 : Int) ≤ (n : Int)) = true := decide_eq_true h1
      have d2 : decide ((n : Int) ≤ 65536) = true := decide_eq_true h2
      go_enter Try.func40, Try.ntmps40
      go_wp2_with fail
      go_ret
      exact ⟨by rw [← hS.out]; rfl, rfl⟩
    · have d2 : decide (N ≤ 65536) = false := decide_eq_false h2
      have hS : Hid (sizeB N = false) := Lib.hid (by
        cases h : sizeB N
        · rfl
        · have := size_range h; omega)
      go_enter Try.func40, Try.ntmps40
      go_wp2_with fail
      go_ret
      exact ⟨by rw [hS.out]; rfl, rfl⟩
  · have d1 : decide (1 ≤ N) = false := decide_eq_false h1
    have hS : Hid (sizeB N = false) := Lib.hid (by
      cases h : sizeB N
      · rfl
      · have := size_range h; omega)
    go_enter Try.func40, Try.ntmps40
    go_wp2_with fail
    go_ret
    exact ⟨by rw [hS.out]; rfl, rfl⟩
end Go.Proofs.Ytpglocgfdonmaaa

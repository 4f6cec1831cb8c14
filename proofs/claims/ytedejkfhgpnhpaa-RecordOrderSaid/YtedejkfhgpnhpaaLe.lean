/-
  Walks: width, the document's Little: the bytes of a number.
-/
import Derived.Test.YtedejkfhgpnhpaaHl
set_option linter.unusedVariables false
set_option linter.unusedSimpArgs false
namespace Go.Proofs.Ytedejkfhgpnhpaa
open Go.RowKit

theorem width_any (w : World) : Calls Try.prog 52 #[] w fun e w' => e = .returned (.int .i64 4) ∧ w = w' := by
  go_enter Try.func52, Try.ntmps52
  go_wp2_with fail
  go_loop [1, 2] (fun a n => (a = .int .u32 4294967295 ∧ n = .int .i64 0) ∨ (a = .int .u32 16777215 ∧ n = .int .i64 1) ∨ (a = .int .u32 65535 ∧ n = .int .i64 2) ∨ (a = .int .u32 255 ∧ n = .int .i64 3) ∨ (a = .int .u32 0 ∧ n = .int .i64 4)) (fun a n => 4 - (intOf n).toNat)
  case atStart => exact .inl ⟨rfl, rfl⟩
  case round =>
    rcases hrel with ⟨rfl, rfl⟩ | ⟨rfl, rfl⟩ | ⟨rfl, rfl⟩ | ⟨rfl, rfl⟩ | ⟨rfl, rfl⟩
    · go_wp2_with fail
      go_round
      case rel => exact .inr (.inl ⟨rfl, rfl⟩)
      case measure => simp [intOf]
    · go_wp2_with fail
      go_round
      case rel => exact .inr (.inr (.inl ⟨rfl, rfl⟩))
      case measure => simp [intOf]
    · go_wp2_with fail
      go_round
      case rel => exact .inr (.inr (.inr (.inl ⟨rfl, rfl⟩)))
      case measure => simp [intOf]
    · go_wp2_with fail
      go_round
      case rel => exact .inr (.inr (.inr (.inr ⟨rfl, rfl⟩)))
      case measure => simp [intOf]
    · go_wp2_with fail
      go_ret
      exact ⟨rfl, rfl⟩

/-- The k-th byte of a number. -/
def byt (X : Nat) (k : Nat) : Int := ((X / 256 ^ k % 256 : Nat) : Int)
/-- The first k bytes. -/
def leN (X k : Nat) : List Int := (List.range k).map (byt X)
theorem leN_len (X k : Nat) : (leN X k).length = k := by simp [leN]
theorem leN_succ (X k : Nat) : leN X (k + 1) = leN X k ++ [byt X k] := by simp [leN, List.range_succ]

set_option maxHeartbeats 800000 in
theorem rlittle_any (X : Nat) (w : World) (hX : X < 18446744073709551616) : Calls Try.prog 35 #[.int .u64 X, .int .i64 4] w (Made 5 .u8 (leN X 4) w) := by
  go_enter Try.func35, Try.ntmps35
  go_wp2_with fail
  go_loopw [5, 6] (fun v i wr => ∃ k : Nat, k ≤ 4 ∧ i = .int .i64 k ∧ Own wr w.heap.size 5 .u8 v (leN X k) ∧ Below w.heap.size w wr) (fun _ i _ => 4 - (intOf i).toNat)
  case atStart => exact ⟨0, Nat.zero_le _, rfl, Own.nil _ _ _ _, Below.refl _ _⟩
  case round =>
    obtain ⟨k, hk, rfl, hown, hb⟩ := hrel
    have HO := Lib.hid hown
    have HW := Lib.hid hb
    have hsz := hb.size
    clear hown hb
    by_cases hlt : k < 4
    · have hc1 : ((leN X k).length + 1) * 1 ≤ 140737488355328 := by rw [leN_len]; omega
      have hk4 : k = 0 ∨ k = 1 ∨ k = 2 ∨ k = 3 := by omega
      rcases hk4 with rfl | rfl | rfl | rfl
      · go_wp2_with (first | (at_builtin; refine wpList_push wr rfl _ _ 27 rfl w.heap.size 5 .u8 1 Try.underlying27 info5 _ rfl _ _ rfl rfl HO.out hc1 (by decide) hsz ?_; intro v' w1 hown1 hfr1))
        rw [show leN X 0 ++ [(X : Int) % 256] = leN X 1 from by rw [leN_succ X 0]; simp [byt]] at hown1
        exact ⟨⟨1, by omega, rfl, hown1, HW.out.trans (hfr1.below hsz (fun g hg => (HO.out.base_le hg).1))⟩, by simp [intOf]⟩
      · go_wp2_with (first | (at_builtin; refine wpList_push wr rfl _ _ 27 rfl w.heap.size 5 .u8 1 Try.underlying27 info5 _ rfl _ _ rfl rfl HO.out hc1 (by decide) hsz ?_; intro v' w1 hown1 hfr1))
        rw [show leN X 1 ++ [(X : Int) / 256 % 256] = leN X 2 from by rw [leN_succ X 1]; simp [byt]] at hown1
        exact ⟨⟨2, by omega, rfl, hown1, HW.out.trans (hfr1.below hsz (fun g hg => (HO.out.base_le hg).1))⟩, by simp [intOf]⟩
      · go_wp2_with (first | (at_builtin; refine wpList_push wr rfl _ _ 27 rfl w.heap.size 5 .u8 1 Try.underlying27 info5 _ rfl _ _ rfl rfl HO.out hc1 (by decide) hsz ?_; intro v' w1 hown1 hfr1))
        rw [show leN X 2 ++ [(X : Int) / 65536 % 256] = leN X 3 from by rw [leN_succ X 2]; simp [byt]] at hown1
        exact ⟨⟨3, by omega, rfl, hown1, HW.out.trans (hfr1.below hsz (fun g hg => (HO.out.base_le hg).1))⟩, by simp [intOf]⟩
      · go_wp2_with (first | (at_builtin; refine wpList_push wr rfl _ _ 27 rfl w.heap.size 5 .u8 1 Try.underlying27 info5 _ rfl _ _ rfl rfl HO.out hc1 (by decide) hsz ?_; intro v' w1 hown1 hfr1))
        rw [show leN X 3 ++ [(X : Int) / 16777216 % 256] = leN X 4 from by rw [leN_succ X 3]; simp [byt]] at hown1
        exact ⟨⟨4, by omega, rfl, hown1, HW.out.trans (hfr1.below hsz (fun g hg => (HO.out.base_le hg).1))⟩, by simp [intOf]⟩
    · have HK : Hid (k = 4) := Lib.hid (by omega)
      have hge : decide ((k : Int) < 4) = false := by simp; omega
      go_wp2_with fail
      go_ret
      have ho := HO.out
      rw [HK.out] at ho
      exact ⟨_, rfl, ho, HW.out⟩
end Go.Proofs.Ytedejkfhgpnhpaa

/-
  Walk: order 32.
-/
import Derived.Test.YtedejkfhgpnhpaaBg
set_option linter.unusedVariables false
set_option linter.unusedSimpArgs false
namespace Go.Proofs.Ytedejkfhgpnhpaa
open Go.RowKit

set_option maxHeartbeats 4000000 in
theorem order_any (ab ba bc ac : Bool) (w : World) (h1 : (ab && ba) = false) (h2 : ab = true → bc = true → ac = true) :
    Calls Try.prog 32 #[.int .u64 (mk ab), .int .u64 (mk ba), .int .u64 (mk bc), .int .u64 (mk ac), .int .u64 (mk false)] w fun e w' => e = .returned (.bool true) ∧ ∃ q, w' = w.drewN q := by
  have e1 : bits .and .u64 18446744073709551615 18446744073709551615 = 18446744073709551615 := by kernel_rfl
  have e2 : bits .and .u64 18446744073709551615 0 = 0 := by kernel_rfl
  have e3 : bits .and .u64 0 18446744073709551615 = 0 := by kernel_rfl
  have e4 : bits .and .u64 0 0 = 0 := by kernel_rfl
  cases ab <;> cases ba <;> cases bc <;> cases ac
  all_goals first | (exfalso; exact absurd h1 (by decide)) | (exfalso; exact absurd (h2 rfl rfl) (by decide)) | skip
  all_goals (
    simp only [mk_true, mk_false]
    clear h1 h2
    go_enter Try.func32, Try.ntmps32
    go_wp2_with fail
    first | (go_ret; exact ⟨rfl, 0, rfl⟩) | (go_quiet (fail); go_wp2_with fail; go_ret; exact ⟨rfl, _, rfl⟩) | (go_quiet (fail); go_wp2_with fail; go_quiet (fail); go_wp2_with fail; go_ret; exact ⟨rfl, _, rfl⟩))
end Go.Proofs.Ytedejkfhgpnhpaa

/-
  Walk: the law RecordNames.
-/
import Derived.Test.YtedejkfhgpnhpaaAw
set_option linter.unusedVariables false
set_option linter.unusedSimpArgs false
namespace Go.Proofs.Ytedejkfhgpnhpaa
open Go.RowKit
theorem names_any (w : World) : Calls Try.prog 8 #[] w fun e w' => e = .returned (.bool true) ∧ Below w.heap.size w w' := by
  have hq0 : ((mk false : Int) == 0) = true := rfl
  have hb0 : B8 [] := fun i => by simp
  have HB0 := Lib.hid hb0
  clear hb0
  go_enter Try.func8, Try.ntmps8
  go_wp2_with fail
  refine (awake_any w).mono ?_
  rintro e w1 ⟨rfl, b1⟩
  have W1 := Lib.hid b1
  clear b1
  go_wp2_with fail
  refine (live_any none 0 0 [] w1 rfl (Rd.nil _ _ _) HB0.out).mono ?_
  rintro e w' ⟨rfl, q, rfl⟩
  rw [show lvR [] 0 = false from rfl]
  go_wp2_with fail
  refine (byIndex_any none none 0 0 0 0 [] [] _ rfl rfl (by decide) (by decide) (by decide) (by decide) (Rd.nil _ _ _) (Rd.nil _ _ _) HB0.out HB0.out).mono ?_
  rintro e w' ⟨rfl, q2, rfl⟩
  rw [show ixR [] 0 [] 0 = false from rfl]
  go_wp2_with fail
  go_ret
  exact ⟨rfl, belowN W1.out _⟩
theorem recordNames_open {X : Prop} (W : World) (base : Nat) (_hsz : X) :
    Calls Try.prog 8 #[] W fun e w' => e = .returned (.bool true) ∧ Below W.heap.size W w' := names_any W
end Go.Proofs.Ytedejkfhgpnhpaa

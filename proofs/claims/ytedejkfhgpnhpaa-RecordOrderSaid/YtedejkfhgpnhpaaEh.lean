/-
  A head is the same as itself.
-/
import Derived.Test.YtedejkfhgpnhpaaPc
import Derived.Test.YtedejkfhgpnhpaaLk
set_option linter.unusedVariables false
set_option linter.unusedSimpArgs false
namespace Go.Proofs.Ytedejkfhgpnhpaa
open Go.RowKit
theorem B8.ofFun {g : Nat → Int} (hg : ∀ k, 0 ≤ g k ∧ g k ≤ 255) (n : Nat) : B8 ((List.range n).map g) := fun i => by
  by_cases h : i < n
  · rw [show ((List.range n).map g).getD i 0 = g i from by simp [List.getD, h]]; exact hg i
  · rw [show ((List.range n).map g).getD i 0 = 0 from by simp [List.getD, Nat.le_of_not_lt h]]; omega
theorem eq_head (l f i r : Nat) (g : Nat → Int) (w : World) (hg : ∀ k, 0 ≤ g k ∧ g k ≤ 255) : (Op.equalIn 10000 26 (.agg (hArr l f i r g)) (.agg (hArr l f i r g))).run Try.prog w = .ok true w := by
  unfold hArr hlist
  have h24 : (Op.equalIn 9999 24 (.agg ((List.range 16).map fun k => Value.int .u8 (g k)).toArray) (.agg ((List.range 16).map fun k => Value.int .u8 (g k)).toArray)).run Try.prog w = .ok true w := by
    have hb := B8.ofFun hg 16
    have h := run_equalIn_bytes (P := Try.prog) w 9997 24 5 16 Try.underlying24 Try.underlying5 size5w (ub ((List.range 16).map g)) (ub ((List.range 16).map g)) (by simp [ub]) (by simp [ub])
    rw [ub_cell hb, ub_eq hb hb, List.map_map] at h
    rw [decide_eq_true rfl] at h
    exact h
  simp only [show List.range 16 = [0, 1, 2, 3, 4, 5, 6, 7, 8, 9, 10, 11, 12, 13, 14, 15] from rfl, List.map_cons, List.map_nil] at h24
  go_simp
theorem neq_head {H : Array Value} (w : World) (h : (Op.equalIn 10000 26 (.agg H) (.agg H)).run Try.prog w = .ok true w) : (binOp .neq 26 (.agg H) (.agg H)).run Try.prog w = .ok (.bool false) w := by
  rw [run_neq_struct, h]
  rfl
theorem eql_head {H : Array Value} (w : World) (h : (Op.equalIn 10000 26 (.agg H) (.agg H)).run Try.prog w = .ok true w) : (binOp .eql 26 (.agg H) (.agg H)).run Try.prog w = .ok (.bool true) w := by
  rw [run_eql_struct, h]
  rfl
theorem eq_hdr {xs : List Int} (h : B8 xs) (w : World) : (Op.equalIn 10000 26 (.agg (hdr xs)) (.agg (hdr xs))).run Try.prog w = .ok true w := eq_head _ _ _ _ _ w (fun k => h (10 + k))
end Go.Proofs.Ytedejkfhgpnhpaa

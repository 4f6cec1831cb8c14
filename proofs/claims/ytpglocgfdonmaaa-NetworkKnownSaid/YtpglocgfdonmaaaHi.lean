/-
  The iterator of the hops: its contract.
-/
import Derived.RangeFuncNested
import Derived.RangeFuncBound
import Derived.RangeFuncCalls
import Derived.RangeFuncLeaves
import Derived.Shelf.Abstract
import Derived.Shelf.RegionOpen
import Derived.WalkKit
import Derived.OwnWalkIn
import Derived.TacticsInMore
import Derived.LoopNIn
import Derived.LoopIn
import Derived.Lib.Hide
import Derived.Outline
import Derived.Test.YtpglocgfdonmaaaRows
import Derived.Test.YtpglocgfdonmaaaHp
set_option linter.unusedVariables false
set_option linter.unusedSimpArgs false
namespace Go.Proofs.Ytpglocgfdonmaaa
open Go.RowKit Go.Shelf
attribute [local go_sem] Oper.semAt_some

def encH (x : Int × Int) : Array Value := #[.agg #[.int .i64 x.1, .int .i64 x.2]]

set_option maxHeartbeats 4000000 in
theorem hops_stops (n : Nat) (hn : 1 ≤ n) (Bn n₀ : Nat) (N : Int) (w : World) (hlt : Bn < n₀) (hle : n₀ ≤ w.heap.size) (hc : w.cell? ⟨Bn, 0, none⟩ = some (.int .i64 N)) :
    SeqStopsK Fence.wide n Try.prog 39 #[.pointer (some ⟨Bn, 0, none⟩)] encH (Below n₀) (fun xs => xs = hops N) (fun pre => pre <+: hops N) 2000000 w := fun l J Jx W hW hJ hJx hY h0 => by
  have hcW : W.cell? ⟨Bn, 0, none⟩ = some (.int .i64 N) := (hW.cell (p := ⟨Bn, 0, none⟩) (by simp; omega)).trans hc
  clear hc
  refine callsIn_of_wp Try.func39 rfl trivial ?_ rfl
  simp only [Try.ntmps39, List.size_toArray, List.length_cons, List.length_nil, Nat.reduceAdd, Nat.reduceSub, Array.replicate_succ, Array.replicate_zero, List.push_toArray, List.append_toArray, List.nil_append, List.cons_append]
  by_cases hbig : 65536 < N
  · gi_wp2
    refine bodyPost_ret (results_none rfl _ _ _) rfl ?_
    exact ⟨⟨_, rfl⟩, .inl ⟨[], (hops_big hbig).symm, h0⟩⟩
  · have HH := Lib.hid (hops_small hbig)
    have hlen := hops_len N
    gi_wp2
    gi_loopw [3] (fun dv wr => ∃ (k : Nat) (pre : List (Int × Int)), dv = .int .i64 ((2 ^ k : Nat) : Int) ∧ k ≤ 17 ∧ hops N = pre ++ hopF N.toNat (17 - k) (2 ^ k) ∧ J pre wr ∧ wr.cell? ⟨Bn, 0, none⟩ = some (.int .i64 N)) (fun dv wr => (N - intOf dv).toNat)
    case atStart => exact ⟨0, [], rfl, by omega, by rw [HH.out]; rfl, h0, hcW⟩
    case round =>
      obtain ⟨k, pre, rfl, hk, hpre, hj, hcr⟩ := hrel
      have hp1 : 1 ≤ 2 ^ k := Nat.one_le_two_pow
      have hp2 : 2 ^ (k + 1) = 2 * 2 ^ k := by rw [Nat.pow_succ, Nat.mul_comm]
      generalize hd : 2 ^ k = d at hp1 hp2 hpre ⊢
      by_cases hdn : (d : Int) < N
      · have hk16 : k < 17 := by
          rcases Nat.lt_or_ge k 17 with h | h
          · exact h
          · exfalso
            have : 2 ^ 17 ≤ 2 ^ k := Nat.pow_le_pow_right (by omega) h
            rw [hd] at this
            omega
        have hgo : hops N = pre ++ (rowF N.toNat d d ++ hopF N.toNat (17 - (k + 1)) (2 * d)) := by
          rw [hpre, show 17 - k = (17 - (k + 1)) + 1 from by omega, hopF_go (by omega)]
        have HGO := Lib.hid hgo
        clear hpre hgo
        gi_wp2
        gi_loopw [4] (fun iv wx => ∃ (i : Nat) (pre : List (Int × Int)), iv = .int .i64 (i : Int) ∧ d ≤ i ∧ (i : Int) ≤ N ∧ hops N = pre ++ (rowF N.toNat d i ++ hopF N.toNat (17 - (k + 1)) (2 * d)) ∧ J pre wx ∧ wx.cell? ⟨Bn, 0, none⟩ = some (.int .i64 N)) (fun iv _ => (N - intOf iv).toNat)
        case atStart => exact ⟨d, pre, rfl, by omega, by omega, HGO.out, hj, hcr⟩
        case round =>
          obtain ⟨i, pre2, rfl, hdi, hiN, hpre2, hj2, hcr2⟩ := hrel
          by_cases hiN2 : (i : Int) < N
          · have hgo2 : hops N = (pre2 ++ [((i : Int), (i : Int) - d)]) ++ (rowF N.toNat d (i + 1) ++ hopF N.toNat (17 - (k + 1)) (2 * d)) := by
              rw [hpre2, rowF_cons (by omega)]; simp
            have hlp : pre2.length < 2000000 := by
              have := congrArg List.length hpre2
              rw [List.length_append] at this
              omega
            obtain ⟨fn, tmps, assign, body, hy, hR⟩ := hY pre2 ((i : Int), (i : Int) - d) _ hj2 hlp
            dsimp only [encH] at hy
            have HG2 := Lib.hid hgo2
            clear hgo2 hpre2
            have m1 : IntKind.i64.wrap ((i : Int) - (d : Int)) = (i : Int) - d := by rw [IntKind.wrap_i64] <;> omega
            gi_wp2
            refine hR.mono ?_
            rintro e W3 (⟨rfl, hJ3, hk3⟩ | ⟨rfl, hJx3⟩)
            · have hc3 : W3.cell? ⟨Bn, 0, none⟩ = some (.int .i64 N) := (hk3.cell (p := ⟨Bn, 0, none⟩) hlt).trans hcr2
              have m2 : IntKind.i64.wrap ((i : Int) + 1) = ((i + 1 : Nat) : Int) := by rw [IntKind.wrap_i64] <;> omega
              gi_wp2
              go_roundw
              case rel => exact ⟨i + 1, _, rfl, by omega, by omega, HG2.out, hJ3, hc3⟩
              case measure => simp [intOf]; omega
            · gi_wp2
              refine bodyPost_ret (results_none rfl _ _ _) rfl ?_
              exact ⟨⟨_, rfl⟩, .inr ⟨_, ⟨_, HG2.out.symm⟩, hJx3⟩⟩
          · have hnil : rowF N.toNat d i = [] := rowF_nil (by omega)
            have hgo2 : hops N = pre2 ++ hopF N.toNat (17 - (k + 1)) (2 * d) := by rw [hpre2, hnil]; rfl
            have HG2 := Lib.hid hgo2
            clear hgo2 hpre2 hnil
            have m2 : IntKind.i64.wrap ((d : Int) * 2) = ((2 * d : Nat) : Int) := by rw [IntKind.wrap_i64] <;> omega
            gi_wp2
            go_roundw
            case rel => exact ⟨k + 1, _, by rw [hp2]; first | rfl | (go_num), by omega, by rw [hp2]; exact HG2.out, hj2, hcr2⟩
            case measure => simp [intOf]; omega
      · have hend : hops N = pre := by rw [hpre, hopF_stop (by omega)]; simp
        have HE := Lib.hid hend
        clear hend hpre
        gi_wp2
        first | go_end0 | (refine bodyPost_ret (results_none rfl _ _ _) rfl ?_)
        first | exact ⟨⟨_, rfl⟩, .inl ⟨pre, HE.out.symm, hj⟩⟩ | exact ⟨⟨_, rfl⟩, .inl (HE.out ▸ hj)⟩
end Go.Proofs.Ytpglocgfdonmaaa

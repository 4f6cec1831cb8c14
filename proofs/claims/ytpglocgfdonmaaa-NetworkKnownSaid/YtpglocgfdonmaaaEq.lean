/-
  Walks of the references' small helpers: EqInts, CopyInts.
-/
import Derived.Test.YtpglocgfdonmaaaRow
import Derived.Test.YtpglocgfdonmaaaRows
import Derived.Outline
import Derived.WalkLawsBesides
import Derived.LoopTactic
import Derived.Deep.QuietTactic
import Derived.BigQuiet
set_option linter.unusedVariables false
set_option linter.unusedSimpArgs false
namespace Go.Proofs.Ytpglocgfdonmaaa
open Go.RowKit

theorem info3 : (Try.prog.info? 3).map (fun i => (i.zero, i.size, i.bytes)) = some (some (.int .i64 0), 1, 8) := by kernel_rfl
def Made (T : TypeId) (k : IntKind) (xs : List Int) (w : World) (e : Ending) (w' : World) : Prop := ∃ v, e = .returned v ∧ Own w' w.heap.size T k v xs ∧ Below w.heap.size w w'
theorem getD_ne {xs ys : List Int} {k : Nat} (h : ¬ xs.getD k 0 = ys.getD k 0) : ¬ xs = ys := fun e => h (by rw [e])

set_option maxHeartbeats 400000 in
/-- Same. -/
theorem eqi_any (A B : Option Addr) (c d : Nat) (xs ys : List Int) (w : World) (hx : Rd w .i64 A xs) (hy : Rd w .i64 B ys) (hl : xs.length ≤ 9223372036854775807) (hm : ys.length ≤ 9223372036854775807) :
    Calls Try.prog 24 #[.slice A xs.length c, .slice B ys.length d] w fun e w' => ∃ n, e = .returned (.bool (decide (xs = ys))) ∧ w' = w.drewN n := by
  have HX := Lib.hid hx
  have HYY := Lib.hid hy
  clear hx hy
  by_cases hlen : xs.length = ys.length
  · have hb : (xs.length == ys.length) = true := beq_iff_eq.2 hlen
    have HL := Lib.hid hlen
    clear hlen
    go_enter Try.func24, Try.ntmps24
    go_wp2
    go_loopw [5] (fun i wr => ∃ k n : Nat, k ≤ xs.length ∧ i = .int .i64 k ∧ Hid (xs.take k = ys.take k) ∧ wr = w.drewN n) (fun i _ => xs.length - (intOf i).toNat)
    case atStart => exact ⟨0, 0, Nat.zero_le _, rfl, Lib.hid rfl, rfl⟩
    case round =>
      clear hb
      obtain ⟨k, n, hk, rfl, HT, rfl⟩ := hrel
      by_cases hlt : k < xs.length
      · have hlt2 : k < ys.length := by have := HL.out; omega
        obtain ⟨b, off, x, rfl, hc, HXK⟩ := HX.out.at k hlt
        obtain ⟨b2, off2, y, rfl, hc2, HYK⟩ := HYY.out.at k hlt2
        by_cases hxy : x = y
        · subst hxy
          have HZ : Hid (xs.take (k + 1) = ys.take (k + 1)) := by
            refine Lib.hid ?_
            rw [take_snocI xs k hlt, take_snocI ys k hlt2, HT.out, ← HXK.out, ← HYK.out]
          go_wp2
          go_quiet (fail)
          go_wp2
          go_roundw
          case rel => exact ⟨k + 1, _, by omega, by go_num, HZ, rfl⟩
          case measure => simp [intOf]; omega
        · have hne : ¬ xs = ys := getD_ne (k := k) (by rw [← HXK.out, ← HYK.out]; exact hxy)
          have HN := Lib.hid hne
          clear hne
          have hd : (x != y) = true := by simpa using hxy
          clear hxy
          go_wp2
          go_quiet (fail)
          go_wp2
          go_ret
          exact ⟨_, by simp [HN.out], World.drewN_drewN ..⟩
      · obtain rfl : k = xs.length := by omega
        go_wp2
        go_ret
        refine ⟨_, ?_, rfl⟩
        have h := HT.out
        rw [List.take_length, List.take_of_length_le (by have := HL.out; omega)] at h
        simp [h]
  · have hb : (xs.length == ys.length) = false := beq_eq_false_iff_ne.2 hlen
    have HN : Hid (¬ xs = ys) := Lib.hid (fun e => hlen (by rw [e]))
    clear hlen
    go_enter Try.func24, Try.ntmps24
    go_wp2
    go_ret
    exact ⟨0, by simp [HN.out], rfl⟩


set_option maxHeartbeats 400000 in
theorem copyi_any (A : Option Addr) (c : Nat) (xs : List Int) (w : World) (hr : Rd w .i64 A xs) (hl : xs.length ≤ 17592186044416) :
    Calls Try.prog 19 #[.slice A xs.length c] w (Made 3 .i64 xs w) := by
  have HR := Lib.hid hr
  clear hr
  have hm1 : 8 * xs.length ≤ 281474976710656 := by omega
  have hm2 : xs.length ≤ maxLen := by unfold maxLen; omega
  go_enter Try.func19, Try.ntmps19
  have O0 := Lib.hid (Own.nil w w.heap.size 3 .i64)
  have F0 := Lib.hid (Below.refl w.heap.size w)
  clear hm1 hm2
  go_wp2_with fail
  go_loopw [3, 4] (fun v i wr => ∃ k : Nat, k ≤ xs.length ∧ i = .int .i64 k ∧ Own wr w.heap.size 3 .i64 v (xs.take k) ∧ Below w.heap.size w wr) (fun _ i _ => xs.length - (intOf i).toNat)
  case atStart => exact ⟨0, Nat.zero_le _, rfl, O0.out, F0.out⟩
  case round =>
    obtain ⟨k, hk, rfl, hown, hb⟩ := hrel
    have HO := Lib.hid hown
    have hsz := hb.size
    by_cases hlt : k < xs.length
    · obtain ⟨b, off, y, rfl, hc, HY⟩ := (HR.out.below hb).at k hlt
      clear hown
      have hc1 : ((xs.take k).length + 1) * 8 ≤ 140737488355328 := by simp; omega
      go_wp2_with (first | (at_builtin; refine wpList_push wr rfl _ _ 39 rfl w.heap.size 3 .i64 8 Try.underlying39 info3 _ rfl _ _ rfl rfl HO.out hc1 (by decide) hsz ?_; intro v' w1 hown1 hfr1))
      rw [HY.out, ← take_snocI xs k hlt] at hown1
      have hb1 : Below w.heap.size w w1 := hb.trans (hfr1.below hsz (fun g hg => (HO.out.base_le hg).1))
      clear hfr1 HO hb hsz
      go_wp2
      go_roundw
      case rel => exact ⟨k + 1, by omega, by go_num, hown1, hb1⟩
      case measure => simp [intOf]; omega
    · have HK : Hid (k = xs.length) := Lib.hid (by omega)
      have hge : decide ((k : Int) < (xs.length : Int)) = false := by simp; omega
      clear hown
      go_wp2_with fail
      go_ret
      have ho := HO.out
      rw [HK.out, List.take_length] at ho
      exact ⟨_, rfl, ho, hb⟩

/-! ### Spare, Kept -/
end Go.Proofs.Ytpglocgfdonmaaa

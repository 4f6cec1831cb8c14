/-
  Walk: EqInts.
-/
import Derived.Test.YtcfbaildcocnhaaHb
set_option linter.unusedVariables false
set_option linter.unusedSimpArgs false
namespace Go.Proofs.Ytcfbaildcocnhaa
open Go.RowKit

set_option maxHeartbeats 400000 in
/-- Same. -/
theorem eqi_any (A B : Option Addr) (c d : Nat) (xs ys : List Int) (w : World) (hx : Rd w .i64 A xs) (hy : Rd w .i64 B ys) (hl : xs.length ≤ 9223372036854775807) (hm : ys.length ≤ 9223372036854775807) :
    Calls Try.prog 41 #[.slice A xs.length c, .slice B ys.length d] w fun e w' => ∃ n, e = .returned (.bool (decide (xs = ys))) ∧ w' = w.drewN n := by
  have HX := Lib.hid hx
  have HYY := Lib.hid hy
  clear hx hy
  by_cases hlen : xs.length = ys.length
  · have hb : (xs.length == ys.length) = true := beq_iff_eq.2 hlen
    have HL := Lib.hid hlen
    clear hlen
    go_enter Try.func41, Try.ntmps41
    go_wp2
    go_loopw [5] (fun i wr => ∃ k n : Nat, k ≤ xs.length ∧ i = .int .i64 k ∧ Hid (xs.take k = ys.take k) ∧ wr = w.drewN n) (fun i _ => xs.length - (intOf i).toNat)
    case atStart => exact ⟨0, 0, Nat.zero_le _, rfl, Lib.hid rfl, rfl⟩
    case round =>
      clear hb
      obtain ⟨k, n, hk, rfl, HT, rfl⟩ := hrel
      by_cases hlt : k < xs.length
      · have hlt2 : k < ys.length := by have := HL.out; omega
        obtain ⟨b, off, x, rfl, hc, HXK⟩ := HX.out.at k hlt
        obtain ⟨b2, off2, y, rfl, hc2, HYK⟩ := HYY.out.at k hlt2
        by_cases hxy : x = y
        · subst hxy
          have HZ : Hid (xs.take (k + 1) = ys.take (k + 1)) := by
            refine Lib.hid ?_
            rw [take_snocI xs k hlt, take_snocI ys k hlt2, HT.out, ← HXK.out, ← HYK.out]
          go_wp2
          go_quiet (fail)
          go_wp2
          go_roundw
          case rel => exact ⟨k + 1, _, by omega, by go_num, HZ, rfl⟩
          case measure => simp [intOf]; omega
        · have hne : ¬ xs = ys := getD_ne (k := k) (by rw [← HXK.out, ← HYK.out]; exact hxy)
          have HN := Lib.hid hne
          clear hne
          have hd : (x != y) = true := by simpa using hxy
          clear hxy
          go_wp2
          go_quiet (fail)
          go_wp2
          go_ret
          exact ⟨_, by simp [HN.out], World.drewN_drewN ..⟩
      · obtain rfl : k = xs.length := by omega
        go_wp2
        go_ret
        refine ⟨_, ?_, rfl⟩
        have h := HT.out
        rw [List.take_length, List.take_of_length_le (by have := HL.out; omega)] at h
        simp [h]
  · have hb : (xs.length == ys.length) = false := beq_eq_false_iff_ne.2 hlen
    have HN : Hid (¬ xs = ys) := Lib.hid (fun e => hlen (by rw [e]))
    clear hlen
    go_enter Try.func41, Try.ntmps41
    go_wp2
    go_ret
    exact ⟨0, by simp [HN.out], rfl⟩
end Go.Proofs.Ytcfbaildcocnhaa

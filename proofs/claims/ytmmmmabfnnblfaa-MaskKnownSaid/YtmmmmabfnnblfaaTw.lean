/-
  Walks of the helpers on rows of bytes: Twin, Lent, Same, Kept.
-/
import Derived.Test.YtmmmmabfnnblfaaRows
import Derived.Test.YtmmmmabfnnblfaaMem
import Derived.Outline
import Derived.WalkLawsBesides
import Derived.LoopTactic
import Derived.Deep.QuietTactic
import Derived.BigQuiet
set_option linter.unusedVariables false
namespace Go.Proofs.Ytmmmmabfnnblfaa
open Go.RowKit

theorem info5 : (Try.prog.info? 5).map (fun i => (i.zero, i.size, i.bytes)) = some (some (.int .u8 0), 1, 1) := by kernel_rfl

/-- A row of the call's own, handed back. -/
def Made (T : TypeId) (k : IntKind) (xs : List Int) (w : World) (e : Ending) (w' : World) : Prop := ∃ v, e = .returned v ∧ Own w' w.heap.size T k v xs ∧ Below w.heap.size w w'

set_option maxHeartbeats 400000 in
theorem twin_any (A : Option Addr) (c : Nat) (xs : List Int) (w : World) (hr : Rd w .u8 A xs) (hl : xs.length ≤ 140737488355328) :
    Calls Try.prog 38 #[.slice A xs.length c] w (Made 5 .u8 xs w) := by
  have HR := Lib.hid hr
  clear hr
  go_enter Try.func38, Try.ntmps38
  go_wp2
  go_loopw [3, 4] (fun v i wr => ∃ k : Nat, k ≤ xs.length ∧ i = .int .i64 k ∧ Own wr w.heap.size 5 .u8 v (xs.take k) ∧ Below w.heap.size w wr) (fun _ i _ => xs.length - (intOf i).toNat)
  case atStart => exact ⟨0, Nat.zero_le _, rfl, Own.nil _ _ _ _, Below.refl _ _⟩
  case round =>
    obtain ⟨k, hk, rfl, hown, hb⟩ := hrel
    have HO := Lib.hid hown
    have hsz := hb.size
    by_cases hlt : k < xs.length
    · obtain ⟨b, off, y, rfl, hc, HY⟩ := (HR.out.below hb).at k hlt
      clear hown
      have hc1 : ((xs.take k).length + 1) * 1 ≤ 140737488355328 := by simp; omega
      go_wp2_with (first | (at_builtin; refine wpList_push wr rfl _ _ 47 rfl w.heap.size 5 .u8 1 Try.underlying47 info5 _ rfl _ _ rfl rfl HO.out hc1 (by decide) hsz ?_; intro v' w1 hown1 hfr1))
      rw [HY.out, ← take_snocI xs k hlt] at hown1
      have hb1 : Below w.heap.size w w1 := hb.trans (hfr1.below hsz (fun g hg => (HO.out.base_le hg).1))
      clear hfr1 HO hb hsz
      go_wp2
      go_roundw
      case rel => exact ⟨k + 1, by omega, by go_num, hown1, hb1⟩
      case measure => simp [intOf]; omega
    · obtain rfl : k = xs.length := by omega
      clear hown
      go_wp2
      go_ret
      have ho := HO.out
      rw [List.take_length] at ho
      exact ⟨_, rfl, ho, hb⟩

/-- The marks behind what is lent. -/
def marks (n : Nat) : List Int := (List.range n).map fun (i : Nat) => 200 + (i : Int) % 7
theorem marks_succ (n : Nat) : marks (n + 1) = marks n ++ [200 + (n : Int) % 7] := by simp [marks, List.range_succ]
theorem marks_length (n : Nat) : (marks n).length = n := by simp [marks]
def lentL (xs : List Int) : List Int := xs ++ marks 64

set_option maxHeartbeats 400000 in
theorem lent_any (A : Option Addr) (c : Nat) (xs : List Int) (w : World) (hr : Rd w .u8 A xs) (hl : xs.length ≤ 140737488351232) :
    Calls Try.prog 32 #[.slice A xs.length c] w (Made 5 .u8 (lentL xs) w) := by
  have HR := Lib.hid hr
  clear hr
  go_enter Try.func32, Try.ntmps32
  go_wp2_with fail
  refine (twin_any A c xs w HR.out (by omega)).mono ?_
  rintro e w1 ⟨v, rfl, hown, hb⟩
  have HO := Lib.hid hown
  clear hown
  go_wp2_with fail
  go_loopw [3, 4] (fun v i wr => ∃ k : Nat, k ≤ 64 ∧ i = .int .i64 k ∧ Own wr w.heap.size 5 .u8 v (xs ++ marks k) ∧ Below w.heap.size w wr) (fun _ i _ => 64 - (intOf i).toNat)
  case atStart => exact ⟨0, Nat.zero_le _, rfl, by simpa [marks] using HO.out, hb⟩
  case round =>
    clear hb HO
    obtain ⟨k, hk, rfl, hown, hb⟩ := hrel
    have HO := Lib.hid hown
    clear hown
    have hsz := hb.size
    by_cases hlt : k < 64
    · have hc1 : ((xs ++ marks k).length + 1) * 1 ≤ 140737488355328 := by simp [marks_length]; omega
      go_wp2_with (first | (at_builtin; refine wpList_push wr rfl _ _ 47 rfl w.heap.size 5 .u8 1 Try.underlying47 info5 _ rfl _ _ rfl rfl HO.out hc1 (by decide) hsz ?_; intro v' w2 hown1 hfr1))
      have hb1 : Below w.heap.size w w2 := hb.trans (hfr1.below hsz (fun g hg => (HO.out.base_le hg).1))
      clear hfr1 HO hb hsz
      go_wp2
      go_roundw
      case rel => exact ⟨k + 1, by omega, by go_num, by rw [marks_succ, ← List.append_assoc]; exact hown1, hb1⟩
      case measure => simp [intOf]; omega
    · obtain rfl : k = 64 := by omega
      go_wp2
      go_ret
      exact ⟨_, rfl, HO.out, hb⟩

theorem getD_ne {xs ys : List Int} {k : Nat} (h : ¬ xs.getD k 0 = ys.getD k 0) : ¬ xs = ys := fun e => h (by rw [e])

set_option maxHeartbeats 400000 in
/-- Same. -/
theorem rsame_any (A B : Option Addr) (c d : Nat) (xs ys : List Int) (w : World) (hx : Rd w .u8 A xs) (hy : Rd w .u8 B ys) (hl : xs.length ≤ 9223372036854775807) (hm : ys.length ≤ 9223372036854775807) :
    Calls Try.prog 39 #[.slice A xs.length c, .slice B ys.length d] w fun e w' => ∃ n, e = .returned (.bool (decide (xs = ys))) ∧ w' = w.drewN n := by
  have HX := Lib.hid hx
  have HYY := Lib.hid hy
  clear hx hy
  by_cases hlen : xs.length = ys.length
  · have hb : (xs.length == ys.length) = true := beq_iff_eq.2 hlen
    have HL := Lib.hid hlen
    clear hlen
    go_enter Try.func39, Try.ntmps39
    go_wp2
    go_loopw [5] (fun i wr => ∃ k n : Nat, k ≤ xs.length ∧ i = .int .i64 k ∧ Hid (xs.take k = ys.take k) ∧ wr = w.drewN n) (fun i _ => xs.length - (intOf i).toNat)
    case atStart => exact ⟨0, 0, Nat.zero_le _, rfl, Lib.hid rfl, rfl⟩
    case round =>
      clear hb
      obtain ⟨k, n, hk, rfl, HT, rfl⟩ := hrel
      by_cases hlt : k < xs.length
      · have hlt2 : k < ys.length := by have := HL.out; omega
        obtain ⟨b, off, x, rfl, hc, HXK⟩ := HX.out.at k hlt
        obtain ⟨b2, off2, y, rfl, hc2, HYK⟩ := HYY.out.at k hlt2
        by_cases hxy : x = y
        · subst hxy
          have HZ : Hid (xs.take (k + 1) = ys.take (k + 1)) := by
            refine Lib.hid ?_
            rw [take_snocI xs k hlt, take_snocI ys k hlt2, HT.out, ← HXK.out, ← HYK.out]
          go_wp2
          go_quiet (fail)
          go_wp2
          go_roundw
          case rel => exact ⟨k + 1, _, by omega, by go_num, HZ, rfl⟩
          case measure => simp [intOf]; omega
        · have hne : ¬ xs = ys := getD_ne (k := k) (by rw [← HXK.out, ← HYK.out]; exact hxy)
          have HN := Lib.hid hne
          clear hne
          have hd : (x != y) = true := by simpa using hxy
          clear hxy
          go_wp2
          go_quiet (fail)
          go_wp2
          go_ret
          exact ⟨_, by simp [HN.out], World.drewN_drewN ..⟩
      · obtain rfl : k = xs.length := by omega
        go_wp2
        go_ret
        refine ⟨_, ?_, rfl⟩
        have h := HT.out
        rw [List.take_length, List.take_of_length_le (by have := HL.out; omega)] at h
        simp [h]
  · have hb : (xs.length == ys.length) = false := beq_eq_false_iff_ne.2 hlen
    have HN : Hid (¬ xs = ys) := Lib.hid (fun e => hlen (by rw [e]))
    clear hlen
    go_enter Try.func39, Try.ntmps39
    go_wp2
    go_ret
    exact ⟨0, by simp [HN.out], rfl⟩

/-- Kept. -/
theorem kept_any (A B : Option Addr) (c d : Nat) (xs ys : List Int) (w : World) (hx : Rd w .u8 A xs) (hy : Rd w .u8 B ys) (hl : xs.length ≤ 9223372036854775807) (hm : ys.length ≤ 140737488351232) :
    Calls Try.prog 35 #[.slice A xs.length c, .slice B ys.length d] w fun e w' => e = .returned (.bool (decide (xs = lentL ys))) ∧ Below w.heap.size w w' := by
  have HX := Lib.hid hx
  have HYY := Lib.hid hy
  clear hx hy
  go_enter Try.func35, Try.ntmps35
  go_wp2_with fail
  refine (lent_any B d ys w HYY.out hm).mono ?_
  rintro e w1 ⟨v, rfl, hown, hb⟩
  obtain ⟨A1, c1, rfl, _, hmx, hr, _⟩ := hown.slice
  have HR := Lib.hid hr
  clear hr hown
  unfold maxLen at hmx
  go_wp2_with fail
  refine (rsame_any A A1 c c1 xs (lentL ys) w1 (HX.out.below hb) HR.out hl (by omega)).mono ?_
  rintro e w2 ⟨n, rfl, rfl⟩
  go_wp2_with fail
  go_ret
  exact ⟨rfl, belowN hb n⟩
end Go.Proofs.Ytmmmmabfnnblfaa

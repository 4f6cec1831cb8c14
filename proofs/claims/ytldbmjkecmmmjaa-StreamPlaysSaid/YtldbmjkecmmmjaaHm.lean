/-
  Walks of the helpers lent, same, still, copied.
-/
import Derived.Test.YtldbmjkecmmmjaaRow
import Derived.Test.YtldbmjkecmmmjaaRows
import Derived.Outline
import Derived.WalkLawsBesides
import Derived.LoopTactic
import Derived.Deep.QuietTactic
import Derived.BigQuiet
set_option linter.unusedVariables false
set_option linter.unusedSimpArgs false
namespace Go.Proofs.Ytldbmjkecmmmjaa
open Go.RowKit

theorem info5 : (Try.prog.info? 5).map (fun i => (i.zero, i.size, i.bytes)) = some (some (.int .u8 0), 1, 1) := by kernel_rfl
theorem size5' : (Try.prog.info? 5).map (·.size) = some 1 := by kernel_rfl
def Made (T : TypeId) (k : IntKind) (xs : List Int) (w : World) (e : Ending) (w' : World) : Prop := ∃ v, e = .returned v ∧ Own w' w.heap.size T k v xs ∧ Below w.heap.size w w'
theorem getD_ne {xs ys : List Int} {k : Nat} (h : ¬ xs.getD k 0 = ys.getD k 0) : ¬ xs = ys := fun e => h (by rw [e])
theorem blk_rd {w : World} {g T : Nat} {kd : IntKind} {xs : List Int} {r : List Value} (h : Blk w g T (xs.map (Value.int kd) ++ r)) : Rd w kd (some ⟨g, 0, none⟩) xs := fun i hi => by
  refine ⟨g, 0, rfl, ?_⟩
  rw [h.cell]
  simp [List.getElem?_append, hi, List.getD]
theorem blk_rd0 {w : World} {g T : Nat} {kd : IntKind} {xs : List Int} (h : Blk w g T (xs.map (Value.int kd))) : Rd w kd (some ⟨g, 0, none⟩) xs := blk_rd (r := []) (by rw [List.append_nil]; exact h)

set_option maxHeartbeats 400000 in
/-- same. -/
theorem same_any (A B : Option Addr) (n m c d : Nat) (xs ys : List Int) (w : World) (hn : n = xs.length) (hm : m = ys.length) (hx : Rd w .u8 A xs) (hy : Rd w .u8 B ys) (hl : xs.length ≤ 9223372036854775807) (hm2 : ys.length ≤ 9223372036854775807) :
    Calls Try.prog 21 #[.slice A n c, .slice B m d] w fun e w' => ∃ q, e = .returned (.bool (decide (xs = ys))) ∧ w' = w.drewN q := by
  subst hn hm
  have HX := Lib.hid hx
  have HYY := Lib.hid hy
  clear hx hy
  by_cases hlen : xs.length = ys.length
  · have hb : (xs.length != ys.length) = false := by simp [hlen]
    have HL := Lib.hid hlen
    clear hlen
    go_enter Try.func21, Try.ntmps21
    go_wp2
    go_loopw [5] (fun i wr => ∃ k n : Nat, k ≤ xs.length ∧ i = .int .i64 k ∧ Hid (xs.take k = ys.take k) ∧ wr = w.drewN n) (fun i _ => xs.length - (intOf i).toNat)
    case atStart => exact ⟨0, 0, Nat.zero_le _, rfl, Lib.hid rfl, rfl⟩
    case round =>
      clear hb
      obtain ⟨k, n, hk, rfl, HT, rfl⟩ := hrel
      by_cases hlt : k < xs.length
      · have hlt2 : k < ys.length := by have := HL.out; omega
        obtain ⟨b, off, x, rfl, hc, HXK⟩ := HX.out.at k hlt
        obtain ⟨b2, off2, y, rfl, hc2, HYK⟩ := HYY.out.at k hlt2
        by_cases hxy : x = y
        · subst hxy
          have HZ : Hid (xs.take (k + 1) = ys.take (k + 1)) := by
            refine Lib.hid ?_
            rw [take_snocI xs k hlt, take_snocI ys k hlt2, HT.out, ← HXK.out, ← HYK.out]
          go_wp2
          go_quiet (fail)
          go_wp2
          go_roundw
          case rel => exact ⟨k + 1, _, by omega, by go_num, HZ, rfl⟩
          case measure => simp [intOf]; omega
        · have hne : ¬ xs = ys := getD_ne (k := k) (by rw [← HXK.out, ← HYK.out]; exact hxy)
          have HN := Lib.hid hne
          clear hne
          have hd : (x != y) = true := by simpa using hxy
          clear hxy
          go_wp2
          go_quiet (fail)
          go_wp2
          go_ret
          exact ⟨_, by simp [HN.out], World.drewN_drewN ..⟩
      · obtain rfl : k = xs.length := by omega
        go_wp2
        go_ret
        refine ⟨_, ?_, rfl⟩
        have h := HT.out
        rw [List.take_length, List.take_of_length_le (by have := HL.out; omega)] at h
        simp [h]
  · have hb : (xs.length != ys.length) = true := by simpa using hlen
    have HN : Hid (¬ xs = ys) := Lib.hid (fun e => hlen (by rw [e]))
    clear hlen
    go_enter Try.func21, Try.ntmps21
    go_wp2
    go_ret
    exact ⟨0, by simp [HN.out], rfl⟩

set_option maxHeartbeats 400000 in
/-- copied. -/
theorem copied_any (A : Option Addr) (n c : Nat) (xs : List Int) (w : World) (hn : n = xs.length) (hr : Rd w .u8 A xs) (hl : xs.length ≤ 140737488355328) :
    Calls Try.prog 24 #[.slice A n c] w (Made 5 .u8 xs w) := by
  have HR := Lib.hid hr
  have HN := Lib.hid hn
  have O0 := Lib.hid (Own.nil w w.heap.size 5 .u8)
  have hbt : (([] : List Int).length + xs.length) * 1 ≤ 140737488355328 := by simpa using hl
  clear hr hn
  go_enter Try.func24, Try.ntmps24
  go_wp2_with (refine wpList_pushes_any w rfl _ _ 39 rfl w.heap.size 5 .u8 1 Try.underlying39 info5 _ [] rfl O0.out A n c xs rfl HN.out HR.out hbt (by decide) (Nat.le_refl _) ?_; intro v' w1 hown1 hfr1)
  go_ret
  exact ⟨_, rfl, by simpa using hown1, hfr1.below (Nat.le_refl _) (fun k h => by cases h)⟩

/-! ### lent, still -/
def ltM (j : Nat) : Int := ((160 + j % 80 : Nat) : Int)
def mk90 : List Int := (List.range 90).map ltM
def ltL (xs : List Int) : List Int := xs ++ mk90
theorem mk90_len : mk90.length = 90 := by simp [mk90]
theorem ltL_len (xs : List Int) : (ltL xs).length = xs.length + 90 := by simp [ltL, mk90]
theorem mk90_take (k : Nat) (h : k < 90) : mk90.take (k + 1) = mk90.take k ++ [ltM k] := by
  rw [take_snocI _ _ (by rw [mk90_len]; exact h)]
  simp [mk90, List.getD, h]
theorem ltL_lo (xs : List Int) (k : Nat) (h : k < xs.length) : (ltL xs).getD k 0 = xs.getD k 0 := by
  simp [ltL, List.getD, List.getElem?_append_left h]
theorem ltL_hi (xs : List Int) (k : Nat) (h : ¬ k < xs.length) (h2 : k < xs.length + 90) : (ltL xs).getD k 0 = ltM (k - xs.length) := by
  unfold ltL mk90
  rw [List.getD, List.getElem?_append_right (by omega), List.getElem?_map, List.getElem?_range (by omega)]
  rfl
/-- A list that was lent, with its room. -/
structure Lent (w : World) (g c : Nat) (xs : List Int) (rest : List Value) : Prop where
  blk : Blk w g 5 ((ltL xs).map (Value.int .u8) ++ rest)
  len : xs.length + 90 + rest.length = c
  max : c ≤ maxLen
theorem Lent.below {w w' : World} {g c : Nat} {xs : List Int} {rest : List Value} (h : Lent w g c xs rest) (hb : Below w.heap.size w w') : Lent w' g c xs rest := ⟨h.blk.below hb h.blk.lt, h.len, h.max⟩
theorem Lent.fr {S : Nat → Prop} {w w' : World} {g c : Nat} {xs : List Int} {rest : List Value} (h : Lent w g c xs rest) (hf : Fr S w w') (hs : ¬ S g) : Lent w' g c xs rest := ⟨h.blk.fr hf hs, h.len, h.max⟩
theorem Lent.rd {w : World} {g c : Nat} {xs : List Int} {rest : List Value} (h : Lent w g c xs rest) : Rd w .u8 (some ⟨g, 0, none⟩) xs := by
  have := (blk_rd h.blk).take xs.length
  rwa [show (ltL xs).take xs.length = xs from by simp [ltL]] at this

set_option maxHeartbeats 800000 in
theorem lent_any (A : Option Addr) (n c : Nat) (xs : List Int) (w : World) (hn : n = xs.length) (hr : Rd w .u8 A xs) (hl : xs.length ≤ 140737488355000) :
    Calls Try.prog 17 #[.slice A n c] w fun e w' => ∃ g c' rest, e = .returned (.slice (some ⟨g, 0, none⟩) n c') ∧ w.heap.size ≤ g ∧ Lent w' g c' xs rest ∧ Below w.heap.size w w' := by
  have HR := Lib.hid hr
  have HN := Lib.hid hn
  have O0 := Lib.hid (Own.nil w w.heap.size 5 .u8)
  have hbt : (([] : List Int).length + xs.length) * 1 ≤ 140737488355328 := by simp; omega
  clear hr hn
  go_enter Try.func17, Try.ntmps17
  go_wp2_with (refine wpList_pushes_any w rfl _ _ 39 rfl w.heap.size 5 .u8 1 Try.underlying39 info5 _ [] rfl O0.out A n c xs rfl HN.out HR.out hbt (by decide) (Nat.le_refl _) ?_; intro v' w1 hown1 hfr1)
  have O1 : Hid (Own w1 w.heap.size 5 .u8 v' xs) := Lib.hid (by simpa using hown1)
  have W1 := Lib.hid (hfr1.below (Nat.le_refl _) (fun k h => by cases h))
  clear hown1 hfr1 hbt
  go_wp2_with fail
  go_loopw [3, 4] (fun v i wr => ∃ k : Nat, k ≤ 90 ∧ i = .int .i64 k ∧ Hid (Own wr w.heap.size 5 .u8 v (xs ++ mk90.take k)) ∧ Hid (Below w.heap.size w wr)) (fun _ i _ => 90 - (intOf i).toNat)
  case atStart => exact ⟨0, Nat.zero_le _, rfl, Lib.hid (by simpa using O1.out), W1⟩
  case round =>
    obtain ⟨k, hk, rfl, HO, HW⟩ := hrel
    have hsz := HW.out.size
    by_cases hlt : k < 90
    · have hc1 : ((xs ++ mk90.take k).length + 1) * 1 ≤ 140737488355328 := by simp [mk90_len]; omega
      have ht : Int.tmod (k : Int) 80 = (k : Int) % 80 := Int.tmod_eq_emod_of_nonneg (by omega)
      have hw1 : IntKind.i64.wrap (160 + (k : Int) % 80) = 160 + (k : Int) % 80 := by simp [IntKind.wrap, IntKind.bits, IntKind.signed]; omega
      have hw2 : IntKind.u8.wrap (160 + (k : Int) % 80) = 160 + (k : Int) % 80 := by simp [IntKind.wrap, IntKind.bits, IntKind.signed]; omega
      have HQ := Lib.hid (mk90_take k hlt)
      go_wp2_with (first | (at_builtin; refine wpList_push wr rfl _ _ 39 rfl w.heap.size 5 .u8 1 Try.underlying39 info5 _ rfl _ _ rfl rfl HO.out hc1 (by decide) hsz ?_; intro v2 w2 hown1 hfr1))
      go_wp2_with fail
      go_roundw
      case rel => exact ⟨k + 1, by omega, by go_num, Lib.hid (by rw [HQ.out, ← List.append_assoc]; exact hown1), Lib.hid (HW.out.trans (hfr1.below hsz (fun g hg => (HO.out.base_le hg).1)))⟩
      case measure => simp [intOf]; omega
    · have HK : Hid (k = 90) := Lib.hid (by omega)
      have hge : decide ((k : Int) < 90) = false := by simp; omega
      rcases HO.out.form with ⟨rfl, h0⟩ | ⟨g, c', rest, rfl, hg, hB, hc, hm⟩
      · exfalso
        have := congrArg List.length h0
        rw [HK.out, List.take_of_length_le (by rw [mk90_len]; omega)] at this
        simp [mk90_len] at this
      · have HB : Hid (Lent wr g c' xs rest) := Lib.hid (by
          rw [HK.out, List.take_of_length_le (by rw [mk90_len]; omega)] at hB hc
          refine ⟨hB, ?_, hm⟩
          rw [List.length_append, mk90_len] at hc; exact hc)
        have HG := Lib.hid hg
        have hcn : n ≤ c' := by have := HB.out.len; have := HN.out; omega
        have hni : (n : Int) ≤ (c' : Int) := by omega
        have hn0 : (0 : Int) ≤ (n : Int) := by omega
        clear hB hc hm hg
        go_wp2_with fail
        go_ret
        exact ⟨g, c', rest, rfl, HG.out, HB.out, HW.out⟩

set_option maxHeartbeats 800000 in
theorem still_any (B : Option Addr) (g c d n m : Nat) (xs : List Int) (rest : List Value) (w : World) (hn : n = xs.length) (hm : m = xs.length) (hL : Lent w g c xs rest) (hy : Rd w .u8 B xs) :
    Calls Try.prog 22 #[.slice (some ⟨g, 0, none⟩) n c, .slice B m d] w fun e w' => ∃ q, e = .returned (.bool true) ∧ w' = w.drewN q := by
  have hcc : xs.length + 90 ≤ c := by have := hL.len; omega
  have hc63 : c ≤ 9223372036854775807 := by have := hL.max; unfold maxLen at this; omega
  have HL := Lib.hid hL
  have HY := Lib.hid hy
  have HR := Lib.hid (blk_rd hL.blk)
  have hmn : m = n := hm.trans hn.symm
  subst hmn
  have HN := Lib.hid hn
  have hb0 : ((m : Int) != (m : Int)) = false := by simp
  have hb1 : (m != m) = false := by simp
  obtain ⟨M, hM⟩ : ∃ M, M = m + 90 := ⟨_, rfl⟩
  have hi1 : (0 : Int) ≤ (M : Int) := by omega
  have hi2 : (M : Int) ≤ (c : Int) := by omega
  have hw1 : IntKind.i64.wrap ((m : Int) + 90) = (M : Int) := by simp [IntKind.wrap, IntKind.bits, IntKind.signed]; omega
  have HM := Lib.hid hM
  clear hM
  clear hL hy hn hm
  go_enter Try.func22, Try.ntmps22
  go_wp2_with fail
  go_loopw [6] (fun i wr => ∃ k q : Nat, k ≤ M ∧ i = .int .i64 k ∧ wr = w.drewN q) (fun i _ => M - (intOf i).toNat)
  case atStart => exact ⟨0, 0, Nat.zero_le _, rfl, rfl⟩
  case round =>
    obtain ⟨k, q, hk, rfl, rfl⟩ := hrel
    by_cases hlt : k < M
    · obtain ⟨b, off, y, hA, hcc1, HYK⟩ := HR.out.at k (by rw [ltL_len]; have := HN.out; have := HM.out; omega)
      cases hA
      rw [Nat.zero_add] at hcc1
      by_cases hlo : k < m
      · obtain ⟨b2, off2, y2, rfl, hc2, HYK2⟩ := HY.out.at k (by have := HN.out; omega)
        have hyy : y = y2 := by rw [HYK.out, HYK2.out]; exact ltL_lo xs k (by have := HN.out; omega)
        subst hyy
        have h1 : decide ((k : Int) < (m : Int)) = true := by simp; omega
        have h2 : decide ((m : Int) ≤ (k : Int)) = false := by simp; omega
        have h2' : decide (m ≤ k) = false := by simp; omega
        have h3 : (y != y) = false := by simp
        go_wp2_with fail
        go_quiet (fail)
        go_wp2_with fail
        go_roundw
        case rel => exact ⟨k + 1, _, by omega, by go_num, rfl⟩
        case measure => simp [intOf]; omega
      · have hyy : y = ltM (k - m) := by rw [HYK.out, ltL_hi xs k (by have := HN.out; omega) (by have := HN.out; have := HM.out; omega), HN.out]
        have h1 : decide ((k : Int) < (m : Int)) = false := by simp; omega
        have h2 : decide ((m : Int) ≤ (k : Int)) = true := by simp; omega
        have h2' : decide (m ≤ k) = true := by simp; omega
        have hs : IntKind.i64.wrap ((k : Int) - (m : Int)) = ((k - m : Nat) : Int) := by
          have : (k : Int) - (m : Int) = ((k - m : Nat) : Int) := by omega
          rw [this]
          simp [IntKind.wrap, IntKind.bits, IntKind.signed]; omega
        have ht : Int.tmod ((k - m : Nat) : Int) 80 = ((k - m : Nat) : Int) % 80 := Int.tmod_eq_emod_of_nonneg (by omega)
        have hw1' : IntKind.i64.wrap (((k - m : Nat) : Int) % 80) = ((k - m : Nat) : Int) % 80 := by simp [IntKind.wrap, IntKind.bits, IntKind.signed]; omega
        have hw2 : IntKind.i64.wrap (160 + ((k - m : Nat) : Int) % 80) = 160 + ((k - m : Nat) : Int) % 80 := by simp [IntKind.wrap, IntKind.bits, IntKind.signed]; omega
        have hw3 : IntKind.u8.wrap (160 + ((k - m : Nat) : Int) % 80) = y := by
          rw [hyy]; unfold ltM
          simp [IntKind.wrap, IntKind.bits, IntKind.signed]; omega
        have h3 : (y != y) = false := by simp
        clear hyy
        go_wp2_with fail
        go_quiet (fail)
        go_wp2_with fail
        go_roundw
        case rel => exact ⟨k + 1, _, by omega, by go_num, rfl⟩
        case measure => simp [intOf]; omega
    · have hge : decide ((k : Int) < (M : Int)) = false := by simp; omega
      go_wp2_with fail
      go_ret
      exact ⟨_, rfl, rfl⟩
end Go.Proofs.Ytldbmjkecmmmjaa

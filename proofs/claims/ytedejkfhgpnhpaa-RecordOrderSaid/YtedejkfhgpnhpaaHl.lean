/-
  Walks of the references' small helpers: EqBytes, CopyBytes, Spare, Kept, Little.
-/
import Derived.Test.YtedejkfhgpnhpaaRow
import Derived.Test.YtedejkfhgpnhpaaRows
import Derived.Outline
import Derived.WalkLawsBesides
import Derived.LoopTactic
import Derived.Deep.QuietTactic
import Derived.BigQuiet
set_option linter.unusedVariables false
set_option linter.unusedSimpArgs false
namespace Go.Proofs.Ytedejkfhgpnhpaa
open Go.RowKit

theorem info5 : (Try.prog.info? 5).map (fun i => (i.zero, i.size, i.bytes)) = some (some (.int .u8 0), 1, 1) := by kernel_rfl
def Made (T : TypeId) (k : IntKind) (xs : List Int) (w : World) (e : Ending) (w' : World) : Prop := ∃ v, e = .returned v ∧ Own w' w.heap.size T k v xs ∧ Below w.heap.size w w'
theorem getD_ne {xs ys : List Int} {k : Nat} (h : ¬ xs.getD k 0 = ys.getD k 0) : ¬ xs = ys := fun e => h (by rw [e])

set_option maxHeartbeats 400000 in
/-- Same. -/
theorem eqb_any (A B : Option Addr) (c d : Nat) (xs ys : List Int) (w : World) (hx : Rd w .u8 A xs) (hy : Rd w .u8 B ys) (hl : xs.length ≤ 9223372036854775807) (hm : ys.length ≤ 9223372036854775807) :
    Calls Try.prog 14 #[.slice A xs.length c, .slice B ys.length d] w fun e w' => ∃ n, e = .returned (.bool (decide (xs = ys))) ∧ w' = w.drewN n := by
  have HX := Lib.hid hx
  have HYY := Lib.hid hy
  clear hx hy
  by_cases hlen : xs.length = ys.length
  · have hb : (xs.length == ys.length) = true := beq_iff_eq.2 hlen
    have HL := Lib.hid hlen
    clear hlen
    go_enter Try.func14, Try.ntmps14
    go_wp2
    go_loopw [5] (fun i wr => ∃ k n : Nat, k ≤ xs.length ∧ i = .int .i64 k ∧ Hid (xs.take k = ys.take k) ∧ wr = w.drewN n) (fun i _ => xs.length - (intOf i).toNat)
    case atStart => exact ⟨0, 0, Nat.zero_le _, rfl, Lib.hid rfl, rfl⟩
    case round =>
      clear hb
      obtain ⟨k, n, hk, rfl, HT, rfl⟩ := hrel
      by_cases hlt : k < xs.length
      · have hlt2 : k < ys.length := by have := HL.out; omega
        obtain ⟨b, off, x, rfl, hc, HXK⟩ := HX.out.at k hlt
        obtain ⟨b2, off2, y, rfl, hc2, HYK⟩ := HYY.out.at k hlt2
        by_cases hxy : x = y
        · subst hxy
          have HZ : Hid (xs.take (k + 1) = ys.take (k + 1)) := by
            refine Lib.hid ?_
            rw [take_snocI xs k hlt, take_snocI ys k hlt2, HT.out, ← HXK.out, ← HYK.out]
          go_wp2
          go_quiet (fail)
          go_wp2
          go_roundw
          case rel => exact ⟨k + 1, _, by omega, by go_num, HZ, rfl⟩
          case measure => simp [intOf]; omega
        · have hne : ¬ xs = ys := getD_ne (k := k) (by rw [← HXK.out, ← HYK.out]; exact hxy)
          have HN := Lib.hid hne
          clear hne
          have hd : (x != y) = true := by simpa using hxy
          clear hxy
          go_wp2
          go_quiet (fail)
          go_wp2
          go_ret
          exact ⟨_, by simp [HN.out], World.drewN_drewN ..⟩
      · obtain rfl : k = xs.length := by omega
        go_wp2
        go_ret
        refine ⟨_, ?_, rfl⟩
        have h := HT.out
        rw [List.take_length, List.take_of_length_le (by have := HL.out; omega)] at h
        simp [h]
  · have hb : (xs.length == ys.length) = false := beq_eq_false_iff_ne.2 hlen
    have HN : Hid (¬ xs = ys) := Lib.hid (fun e => hlen (by rw [e]))
    clear hlen
    go_enter Try.func14, Try.ntmps14
    go_wp2
    go_ret
    exact ⟨0, by simp [HN.out], rfl⟩


set_option maxHeartbeats 400000 in
theorem copyb_any (A : Option Addr) (c : Nat) (xs : List Int) (w : World) (hr : Rd w .u8 A xs) (hl : xs.length ≤ 140737488355328) :
    Calls Try.prog 17 #[.slice A xs.length c] w (Made 5 .u8 xs w) := by
  have HR := Lib.hid hr
  clear hr
  have hm1 : 1 * xs.length ≤ 281474976710656 := by omega
  have hm2 : xs.length ≤ maxLen := by unfold maxLen; omega
  go_enter Try.func17, Try.ntmps17
  go_wp2_with (refine wpList_make_empty w rfl _ _ 27 rfl w.heap.size 5 .u8 1 Try.underlying27 info5 .i64 .i64 xs.length rfl rfl hm1 hm2 (Nat.le_refl _) ?_; intro w1 hown0 hfr0)
  have O0 := Lib.hid hown0
  have F0 := Lib.hid (hfr0.below (Nat.le_refl _) (fun k h => h.elim))
  clear hown0 hfr0 hm1 hm2
  go_wp2_with fail
  go_loopw [3, 4] (fun v i wr => ∃ k : Nat, k ≤ xs.length ∧ i = .int .i64 k ∧ Own wr w.heap.size 5 .u8 v (xs.take k) ∧ Below w.heap.size w wr) (fun _ i _ => xs.length - (intOf i).toNat)
  case atStart => exact ⟨0, Nat.zero_le _, rfl, O0.out, F0.out⟩
  case round =>
    obtain ⟨k, hk, rfl, hown, hb⟩ := hrel
    have HO := Lib.hid hown
    have hsz := hb.size
    by_cases hlt : k < xs.length
    · obtain ⟨b, off, y, rfl, hc, HY⟩ := (HR.out.below hb).at k hlt
      clear hown
      have hc1 : ((xs.take k).length + 1) * 1 ≤ 140737488355328 := by simp; omega
      go_wp2_with (first | (at_builtin; refine wpList_push wr rfl _ _ 27 rfl w.heap.size 5 .u8 1 Try.underlying27 info5 _ rfl _ _ rfl rfl HO.out hc1 (by decide) hsz ?_; intro v' w1 hown1 hfr1))
      rw [HY.out, ← take_snocI xs k hlt] at hown1
      have hb1 : Below w.heap.size w w1 := hb.trans (hfr1.below hsz (fun g hg => (HO.out.base_le hg).1))
      clear hfr1 HO hb hsz
      go_wp2
      go_roundw
      case rel => exact ⟨k + 1, by omega, by go_num, hown1, hb1⟩
      case measure => simp [intOf]; omega
    · have HK : Hid (k = xs.length) := Lib.hid (by omega)
      have hge : decide ((k : Int) < (xs.length : Int)) = false := by simp; omega
      clear hown
      go_wp2_with fail
      go_ret
      have ho := HO.out
      rw [HK.out, List.take_length] at ho
      exact ⟨_, rfl, ho, hb⟩

/-! ### Spare, Kept -/
def mkS (i : Nat) : Int := IntKind.u8.wrap (bits .xor .i64 165 (i : Int))
def spL (xs : List Int) : List Int := xs ++ (List.range 80).map fun j => mkS (xs.length + j)
theorem spL_len (xs : List Int) : (spL xs).length = xs.length + 80 := by simp [spL]
theorem spL_lo (xs : List Int) (k : Nat) (h : k < xs.length) : (spL xs).getD k 0 = xs.getD k 0 := by
  simp [spL, List.getD, List.getElem?_append_left h]
theorem spL_hi (xs : List Int) (k : Nat) (h : ¬ k < xs.length) (h2 : k < xs.length + 80) : (spL xs).getD k 0 = mkS k := by
  unfold spL
  rw [List.getD, List.getElem?_append_right (by omega), List.getElem?_map, List.getElem?_range (by omega)]
  simp
  congr 1; omega
theorem rep_get (n k : Nat) : (List.replicate n (0 : Int)).getD k 0 = 0 := by
  by_cases h : k < n <;> simp [List.getD, h]

set_option maxHeartbeats 800000 in
theorem spare_any (A : Option Addr) (c : Nat) (xs : List Int) (w : World) (hr : Rd w .u8 A xs) (hl : xs.length ≤ 140737488355328) :
    Calls Try.prog 11 #[.slice A xs.length c] w fun e w' => e = .returned (.slice (some ⟨w.heap.size, 0, none⟩) xs.length (xs.length + 80)) ∧ Blk w' w.heap.size 5 ((spL xs).map (Value.int .u8)) ∧ Below w.heap.size w w' := by
  have HR := Lib.hid hr
  clear hr
  have hm1 : 1 * (xs.length + 80) ≤ 281474976710656 := by omega
  have hm2 : xs.length + 80 ≤ 9223372036854775807 := by omega
  have HL : Hid ((spL xs).length = (List.replicate (xs.length + 80) (0 : Int)).length) := Lib.hid (by simp [spL_len])
  go_enter Try.func11, Try.ntmps11
  go_wp2_with (refine wpList_make_blk w rfl _ _ 27 rfl 5 .u8 1 Try.underlying27 info5 .i64 .i64 (xs.length + 80) rfl rfl hm1 hm2 ?_; intro w1 hb0 hfr0)
  have O0 := Lib.hid hb0
  have F0 := Lib.hid (hfr0.below (Nat.le_refl _) (fun k h => h.elim))
  clear hb0 hfr0 hm1
  go_wp2_with fail
  go_loopw [4] (fun i wr => ∃ k : Nat, k ≤ xs.length + 80 ∧ i = .int .i64 k ∧ Hid (Blk wr w.heap.size 5 ((upd k (spL xs) (List.replicate (xs.length + 80) (0 : Int))).map (Value.int .u8) ++ [])) ∧ Hid (Below w.heap.size w wr)) (fun i _ => xs.length + 80 - (intOf i).toNat)
  case atStart => exact ⟨0, Nat.zero_le _, rfl, Lib.hid (by rw [upd_zero, List.append_nil]; exact O0.out), F0⟩
  case round =>
    obtain ⟨k, hk, rfl, HB, HW⟩ := hrel
    by_cases hlt : k < xs.length + 80
    · have hcell := blk_upd_cell HB.out HL.out (by simpa using hlt)
      rw [rep_get] at hcell
      have hfz := HB.out.frozen k
      by_cases hlo : k < xs.length
      · obtain ⟨b, off, y, rfl, hc, HY⟩ := (HR.out.below HW.out).at k hlo
        go_wp2_with fail
        go_roundw
        case rel => exact ⟨k + 1, by omega, by go_num, Lib.hid (blk_upd_set HB.out HL.out (by simpa using hlt) (by rw [spL_lo xs k hlo]; exact HY.out)), Lib.hid (HW.out.setCell (p := ⟨w.heap.size, k, none⟩) (Nat.le_refl _) _)⟩
        case measure => simp [intOf]; omega
      · have hge : decide ((k : Int) < (xs.length : Int)) = false := by simp; omega
        go_wp2_with fail
        go_roundw
        case rel => exact ⟨k + 1, by omega, by go_num, Lib.hid (blk_upd_set HB.out HL.out (by simpa using hlt) (by rw [spL_hi xs k hlo hlt]; rfl)), Lib.hid (HW.out.setCell (p := ⟨w.heap.size, k, none⟩) (Nat.le_refl _) _)⟩
        case measure => simp [intOf]; omega
    · have HK : Hid (k = xs.length + 80) := Lib.hid (by omega)
      have hge : decide ((k : Int) < (xs.length : Int) + 80) = false := by simp; omega
      go_wp2_with fail
      go_ret
      have hb := HB.out
      have hu := upd_all _ _ HL.out
      rw [List.length_replicate] at hu
      rw [HK.out, hu, List.append_nil] at hb
      exact ⟨rfl, hb, HW.out⟩

theorem blk_rd {w : World} {g T : Nat} {kd : IntKind} {xs : List Int} {r : List Value} (h : Blk w g T (xs.map (Value.int kd) ++ r)) : Rd w kd (some ⟨g, 0, none⟩) xs := fun i hi => by
  refine ⟨g, 0, rfl, ?_⟩
  rw [h.cell]
  simp [List.getElem?_append, hi, List.getD]
theorem spL_take (xs : List Int) : (spL xs).take xs.length = xs := by simp [spL]

set_option maxHeartbeats 800000 in
theorem kept_any (B : Option Addr) (g c d n m : Nat) (ys : List Int) (r : List Value) (w : World) (hn : n = ys.length) (hm : m = ys.length) (hB : Blk w g 5 ((spL ys).map (Value.int .u8) ++ r)) (hy : Rd w .u8 B ys) (hl : ys.length ≤ 140737488355328) (hc : ys.length + 80 ≤ c) (hc2 : c ≤ 9223372036854775807) :
    Calls Try.prog 15 #[.slice (some ⟨g, 0, none⟩) n c, .slice B m d] w fun e w' => ∃ q, e = .returned (.bool true) ∧ w' = w.drewN q := by
  subst hn hm
  have HB := Lib.hid hB
  have HY := Lib.hid hy
  have HR := Lib.hid (blk_rd hB)
  clear hB hy
  go_enter Try.func15, Try.ntmps15
  go_wp2_with fail
  refine (eqb_any _ B c d ys ys w (by have := HR.out.take ys.length; rwa [spL_take] at this) HY.out (by omega) (by omega)).mono ?_
  rintro e w1 ⟨q, rfl, rfl⟩
  rw [show decide (ys = ys) = true from by simp]
  go_wp2_with fail
  go_loop [6] (fun i => ∃ k : Nat, ys.length ≤ k ∧ k ≤ ys.length + 80 ∧ i = .int .i64 k) (fun i => ys.length + 80 - (intOf i).toNat)
  case atStart => exact ⟨ys.length, Nat.le_refl _, by omega, rfl⟩
  case round =>
    obtain ⟨k, hk1, hk, rfl⟩ := hrel
    by_cases hlt : k < ys.length + 80
    · obtain ⟨b, off, y, hA, hcc, HYK⟩ := HR.out.at k (by rw [spL_len]; exact hlt)
      cases hA
      have hy : y = mkS k := by rw [HYK.out, spL_hi ys k (by omega) hlt]
      rw [hy, Nat.zero_add] at hcc
      unfold mkS at hcc
      clear hy HYK
      go_wp2_with fail
      go_round
      case rel => exact ⟨k + 1, by omega, by omega, by go_num⟩
      case measure => simp [intOf]; omega
    · have HK : Hid (k = ys.length + 80) := Lib.hid (by omega)
      have hge : decide ((k : Int) < (ys.length : Int) + 80) = false := by simp; omega
      go_wp2_with fail
      go_ret
      first | exact ⟨_, rfl, rfl⟩ | exact ⟨rfl, _, rfl⟩
end Go.Proofs.Ytedejkfhgpnhpaa

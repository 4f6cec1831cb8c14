/-
  Walk: Join.
-/
import Derived.Test.YtedejkfhgpnhpaaLe
set_option linter.unusedVariables false
set_option linter.unusedSimpArgs false
namespace Go.Proofs.Ytedejkfhgpnhpaa
open Go.RowKit

def flat (ps : List (Value × List Int)) : List Int := ps.flatMap (·.2)
/-- Lists of bytes that lie in the cells of a block. -/
structure Parts (w : World) (G : Nat) (ps : List (Value × List Int)) : Prop where
  cell : ∀ j (h : j < ps.length), w.cell? ⟨G, j, none⟩ = some ps[j].1
  rd : ∀ j (h : j < ps.length), ∃ A c, ps[j].1 = .slice A ps[j].2.length c ∧ Rd w .u8 A ps[j].2
theorem Parts.below {w w' : World} {G : Nat} {ps : List (Value × List Int)} (h : Parts w G ps) (hb : Below w.heap.size w w') : Parts w' G ps :=
  ⟨fun j hj => (hb.cell (World.block_lt_of_cell? w _ (h.cell j hj))).trans (h.cell j hj), fun j hj => by obtain ⟨A, c, h1, h2⟩ := h.rd j hj; exact ⟨A, c, h1, h2.below hb⟩⟩
theorem Parts.at {w : World} {G : Nat} {ps : List (Value × List Int)} (h : Parts w G ps) (j : Nat) (hj : j < ps.length) : ∃ A c ys, w.cell? ⟨G, j, none⟩ = some (.slice A (ys : List Int).length c) ∧ Rd w .u8 A ys ∧ Hid (ps[j].2 = ys) := by
  obtain ⟨A, c, h1, h2⟩ := h.rd j hj
  exact ⟨A, c, _, by rw [h.cell j hj, h1], h2, Lib.hid rfl⟩
theorem flat_snoc (ps : List (Value × List Int)) (k : Nat) (h : k < ps.length) : flat (ps.take (k + 1)) = flat (ps.take k) ++ ps[k].2 := by
  unfold flat
  rw [List.take_add_one, List.getElem?_eq_getElem h, List.flatMap_append]
  simp only [Option.toList, List.flatMap_cons, List.flatMap_nil, List.append_nil]
theorem flat_len (ps : List (Value × List Int)) (k : Nat) (h : k < ps.length) : (flat (ps.take k)).length + ps[k].2.length ≤ (flat ps).length := by
  have h1 : flat ps = flat (ps.take (k + 1)) ++ flat (ps.drop (k + 1)) := by
    unfold flat; rw [← List.flatMap_append, List.take_append_drop]
  rw [h1, flat_snoc ps k h]; simp only [List.length_append]; omega

set_option maxHeartbeats 1600000 in
theorem join_any (G n cap : Nat) (ps : List (Value × List Int)) (w : World) (hn : n = ps.length) (hP : Parts w G ps) (hcap : ps.length ≤ 9223372036854775807) (hl : (flat ps).length ≤ 140737488355328) :
    Calls Try.prog 34 #[.slice (some ⟨G, 0, none⟩) n cap] w (Made 5 .u8 (flat ps) w) := by
  subst hn
  have HP := Lib.hid hP
  clear hP
  go_enter Try.func34, Try.ntmps34
  go_wp2_with fail
  go_loopw [3, 4] (fun v i wr => ∃ k : Nat, k ≤ ps.length ∧ i = .int .i64 k ∧ Own wr w.heap.size 5 .u8 v (flat (ps.take k)) ∧ Below w.heap.size w wr) (fun _ i _ => ps.length - (intOf i).toNat)
  case atStart => exact ⟨0, Nat.zero_le _, rfl, Own.nil _ _ _ _, Below.refl _ _⟩
  case round =>
    obtain ⟨k, hk, rfl, hown, hb⟩ := hrel
    have HO := Lib.hid hown
    have HW := Lib.hid hb
    clear hown hb
    by_cases hlt : k < ps.length
    · obtain ⟨A, c, ys, hcell0, hr, HYS⟩ := HP.out.at k hlt
      have hcell : wr.cell? ⟨G, k, none⟩ = some (.slice A ys.length c) := (HW.out.cell (World.block_lt_of_cell? w _ hcell0)).trans hcell0
      have HC0 := Lib.hid hcell0
      clear hcell0
      have HR := Lib.hid hr
      have HFL := Lib.hid (flat_len ps k hlt)
      have HFS := Lib.hid (flat_snoc ps k hlt)
      have hy63 : ys.length ≤ 9223372036854775807 := by have := HFL.out; rw [HYS.out] at this; omega
      clear hr
      go_wp2_with fail
      go_loopw [3, 5] (fun v j wx => ∃ q : Nat, q ≤ ys.length ∧ j = .int .i64 q ∧ Own wx w.heap.size 5 .u8 v (flat (ps.take k) ++ ys.take q) ∧ Below w.heap.size w wx ∧ wx.cell? ⟨G, k, none⟩ = some (.slice A ys.length c)) (fun _ j _ => ys.length - (intOf j).toNat)
      case atStart => exact ⟨0, Nat.zero_le _, rfl, by simpa using HO.out, HW.out, hcell⟩
      case round =>
        clear hcell
        obtain ⟨q, hq, rfl, hown, hb, hcell⟩ := hrel
        have HO2 := Lib.hid hown
        have HW2 := Lib.hid hb
        have hsz := hb.size
        clear hown hb
        by_cases hlq : q < ys.length
        · obtain ⟨b, off, y, rfl, hc, HY⟩ := (HR.out.below HW2.out).at q hlq
          have hc1 : ((flat (ps.take k) ++ ys.take q).length + 1) * 1 ≤ 140737488355328 := by
            have := HFL.out
            rw [HYS.out] at this
            simp; omega
          have HQ := Lib.hid (take_snocI ys q hlq)
          go_wp2_with (first | (at_builtin; refine wpList_push wr rfl _ _ 27 rfl w.heap.size 5 .u8 1 Try.underlying27 info5 _ rfl _ _ rfl rfl HO2.out hc1 (by decide) hsz ?_; intro v' w1 hown1 hfr1))
          rw [HY.out, List.append_assoc, ← HQ.out] at hown1
          have hb1 : Below w.heap.size w w1 := HW2.out.trans (hfr1.below hsz (fun g hg => (HO2.out.base_le hg).1))
          have hcell1 : w1.cell? ⟨G, k, none⟩ = some (.slice (some ⟨b, off, none⟩) ys.length c) := (hb1.cell (World.block_lt_of_cell? w _ HC0.out)).trans HC0.out
          clear hfr1 hcell
          go_wp2_with fail
          go_roundw
          case rel => exact ⟨q + 1, by omega, by go_num, hown1, hb1, hcell1⟩
          case measure => simp [intOf]; omega
        · have hge : decide ((q : Int) < (ys.length : Int)) = false := by simp; omega
          have HQ : Hid (q = ys.length) := Lib.hid (by omega)
          have O3 : Hid (Own wr w.heap.size 5 .u8 _ (flat (ps.take (k + 1)))) := Lib.hid (by
            have h := HO2.out
            rw [HQ.out, List.take_length] at h
            rw [HFS.out, HYS.out]; exact h)
          go_wp2_with fail
          go_roundw
          case rel => exact ⟨k + 1, by omega, by go_num, O3.out, HW2.out⟩
          case measure => simp [intOf]; omega
    · have HK : Hid (k = ps.length) := Lib.hid (by omega)
      have hge : decide ((k : Int) < (ps.length : Int)) = false := by simp; omega
      go_wp2_with fail
      go_ret
      have ho := HO.out
      rw [HK.out, List.take_length] at ho
      exact ⟨_, rfl, ho, HW.out⟩
end Go.Proofs.Ytedejkfhgpnhpaa

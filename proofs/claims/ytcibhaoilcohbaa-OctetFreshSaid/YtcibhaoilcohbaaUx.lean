/-
  Walks: a digit's value, Unhex.
-/
import Derived.Test.YtcibhaoilcohbaaHy
set_option linter.unusedVariables false
set_option linter.unusedSimpArgs false
namespace Go.Proofs.Ytcibhaoilcohbaa
open Go.RowKit

/-- A digit's value; 16: it is none. -/
def hval (c : Nat) : Nat := if 48 ≤ c ∧ c ≤ 57 then c - 48 else if 97 ≤ c ∧ c ≤ 102 then c - 87 else 16
theorem hval_le (c : Nat) : hval c ≤ 16 := by unfold hval; split <;> (try split) <;> omega
/-- A string's byte. -/
def sb (s : ByteArray) (i : Nat) : Nat := (s.data.toList.getD i 0).toNat
theorem sb_eq (s : ByteArray) (i : Nat) (h : i < s.size) : (s[i]'h).toNat = sb s i := by
  unfold sb
  rw [show s.data.toList.getD i 0 = s[i] from by
    have h' : i < s.data.toList.length := by simpa using h
    simp [List.getD, List.getElem?_eq_getElem h']
    rfl]
theorem sb_lt (s : ByteArray) (i : Nat) : sb s i < 256 := by unfold sb; exact (s.data.toList.getD i 0).toNat_lt
/-- The first k characters are digits. -/
def hok (s : ByteArray) (k : Nat) : Prop := ∀ i, i < k → hval (sb s i) < 16
/-- The bytes of the first k pairs. -/
def upairs (s : ByteArray) (k : Nat) : List Int := (List.range k).map (fun j => ((16 * hval (sb s (2 * j)) + hval (sb s (2 * j + 1)) : Nat) : Int))
theorem upairs_len (s : ByteArray) (k : Nat) : (upairs s k).length = k := by simp [upairs]
theorem upairs_succ (s : ByteArray) (k : Nat) : upairs s (k + 1) = upairs s k ++ [((16 * hval (sb s (2 * k)) + hval (sb s (2 * k + 1)) : Nat) : Int)] := by simp [upairs, List.range_succ]
open Classical in
noncomputable def hgood (s : ByteArray) : Bool := decide (s.size % 2 = 0 ∧ hok s s.size)
noncomputable def uL (s : ByteArray) : List Int := if hgood s then upairs s (s.size / 2) else []
noncomputable def uE (s : ByteArray) : Int := if hgood s then 0 else 22
theorem bad_odd {s : ByteArray} (h : ¬ s.size % 2 = 0) : hgood s = false := by unfold hgood; simp [h]
theorem bad_at {s : ByteArray} {i : Nat} (h : i < s.size) (hv : ¬ hval (sb s i) < 16) : hgood s = false := by
  unfold hgood
  simp only [decide_eq_false_iff_not]
  intro h2
  exact hv (h2.2 i h)
theorem good_of {s : ByteArray} (h : s.size % 2 = 0) (h2 : hok s s.size) : hgood s = true := by unfold hgood; simp [h, h2]

theorem value_any (c : Nat) (hc : c < 256) (w : World) : Calls Try.prog 73 #[.int .u8 (c : Int)] w fun e w' => e = .returned (.int .u8 (hval c : Nat)) ∧ w' = w := by
  by_cases h1 : 48 ≤ c ∧ c ≤ 57
  · have a1 : (48 : Int) ≤ (c : Int) := by omega
    have a2 : (c : Int) ≤ 57 := by omega
    have e : Hid ((c : Int) - 48 = ((hval c : Nat) : Int)) := Lib.hid (by unfold hval; rw [if_pos h1]; omega)
    clear h1
    go_enter Try.func73, Try.ntmps73
    go_wp2_with fail
    go_ret
    exact ⟨by rw [← e.out]; rfl, rfl⟩
  · by_cases h2 : 97 ≤ c ∧ c ≤ 102
    · have a1 : (97 : Int) ≤ (c : Int) := by omega
      have a2 : (c : Int) ≤ 102 := by omega
      have e : Hid ((c : Int) - 97 + 10 = ((hval c : Nat) : Int)) := Lib.hid (by unfold hval; rw [if_neg h1, if_pos h2]; omega)
      clear h1 h2
      go_enter Try.func73, Try.ntmps73
      go_wp2_with fail
      go_ret
      exact ⟨by rw [← e.out]; rfl, rfl⟩
    · have e : Hid (16 = hval c) := Lib.hid (by unfold hval; rw [if_neg h1, if_neg h2])
      by_cases b1 : 48 ≤ c
      · have b2 : (57 : Int) < (c : Int) := by omega
        by_cases b3 : 97 ≤ c
        · have b4 : (102 : Int) < (c : Int) := by omega
          clear h1 h2
          go_enter Try.func73, Try.ntmps73
          go_wp2_with fail
          go_ret
          exact ⟨by rw [← e.out]; rfl, rfl⟩
        · have b4 : (c : Int) < 97 := by omega
          clear h1 h2
          go_enter Try.func73, Try.ntmps73
          go_wp2_with fail
          go_ret
          exact ⟨by rw [← e.out]; rfl, rfl⟩
      · have b2 : (c : Int) < 48 := by omega
        clear h1 h2
        go_enter Try.func73, Try.ntmps73
        go_wp2_with fail
        go_ret
        exact ⟨by rw [← e.out]; rfl, rfl⟩

theorem or16 (X Y : Nat) (hx : X < 16) (hy : Y < 16) : bits .or .u8 ((X : Int) * 16) (Y : Int) = ((16 * X + Y : Nat) : Int) := by
  have h : ∀ X Y : Fin 16, bits .or .u8 ((X.val : Int) * 16) (Y.val : Int) = ((16 * X.val + Y.val : Nat) : Int) := by decide
  exact h ⟨X, hx⟩ ⟨Y, hy⟩
theorem sb_at (s : ByteArray) (i : Nat) (h : i < s.size) (w : World) : (Instr.index 9 (.string s) (.int .i64 (i : Int))).run Try.prog w = .ok (.int .u8 (sb s i : Nat)) w := by
  rw [run_index_string w 9 s .i64 (i : Int) Try.underlying9, dif_pos ⟨by omega, by omega⟩]
  rw [← sb_eq s i h]
  simp
set_option maxHeartbeats 2000000 in
theorem unhex_any (s : ByteArray) (w : World) (hs : s.size ≤ 140737488355328) : Calls Try.prog 25 #[.string s] w fun e w' => ∃ v, e = .returned (.tuple #[v, .int .i64 (uE s)]) ∧ Own w' w.heap.size 5 .u8 v (uL s) ∧ Below w.heap.size w w' := by
  by_cases hev : s.size % 2 = 0
  · obtain ⟨m, hm⟩ : ∃ m, s.size = 2 * m := ⟨s.size / 2, by omega⟩
    have hm1 : 1 * m ≤ 281474976710656 := by omega
    have hm2 : m ≤ maxLen := by unfold maxLen; omega
    have hq : (s.size : Int) / 2 = (m : Int) := by omega
    have hr : (s.size : Int) % 2 = 0 := by omega
    have HM := Lib.hid hm
    have HEV := Lib.hid hev
    have HQ := Lib.hid hq
    have HS := Lib.hid hs
    clear hm hq hev
    go_enter Try.func25, Try.ntmps25
    go_wp2_with (refine wpList_make_empty w rfl _ _ 22 rfl w.heap.size 5 .u8 1 Try.underlying22 info5 .i64 .i64 m rfl (congrArg (Value.int .i64) HQ.out) hm1 hm2 (Nat.le_refl _) ?_; intro w1 hown0 hfr0)
    have O0 := Lib.hid hown0
    have F0 := Lib.hid (hfr0.below (Nat.le_refl _) (fun k h => h.elim))
    clear hown0 hfr0 hm1 hm2
    go_wp2_with fail
    go_loopw [4, 5] (fun v i wr => ∃ k j : Nat, k ≤ m ∧ Hid (j = 2 * k) ∧ i = .int .i64 (j : Int) ∧ Own wr w.heap.size 5 .u8 v (upairs s k) ∧ Hid (hok s (2 * k)) ∧ Hid (Below w.heap.size w wr)) (fun _ i _ => s.size - (intOf i).toNat)
    case atStart => exact ⟨0, 0, Nat.zero_le _, Lib.hid rfl, rfl, O0.out, Lib.hid (fun i h => by omega), F0⟩
    case round =>
      clear O0 F0
      obtain ⟨k, j, hk, HJ, rfl, ho, HK, HW⟩ := hrel
      have hsz := HW.out.size
      have HO := Lib.hid ho
      clear ho
      by_cases hlt : k < m
      · have hlt2 : j < s.size := by have := HM.out; have := HJ.out; omega
        have hlt3 : j + 1 < s.size := by have := HM.out; have := HJ.out; omega
        have hc1 : ((upairs s k).length + 1) * 1 ≤ 140737488355328 := by rw [upairs_len]; have := HM.out; have := HS.out; omega
        have hx1 := sb_at s j hlt2
        have hx2 := sb_at s (j + 1) hlt3
        rw [show ((j + 1 : Nat) : Int) = (j : Int) + 1 from rfl] at hx2
        have hwr : IntKind.i64.wrap ((j : Int) + 1) = (j : Int) + 1 := by have := HS.out; simp [IntKind.wrap, IntKind.bits, IntKind.signed]; omega
        go_wp2_with fail
        go_quiet (first | (go_at_call 73; exact Calls.quiet_of_same (value_any _ (sb_lt _ _) _)))
        obtain ⟨X, hX⟩ : ∃ X, X = hval (sb s j) := ⟨_, rfl⟩
        obtain ⟨Y, hY⟩ : ∃ Y, Y = hval (sb s (j + 1)) := ⟨_, rfl⟩
        have HXY : Hid (X = hval (sb s j) ∧ Y = hval (sb s (j + 1))) := Lib.hid ⟨hX, hY⟩
        rw [← hX, ← hY]
        clear hX hY hx1 hx2 hwr
        by_cases hx : X < 16
        · by_cases hy : Y < 16
          · have x1 : (X : Int) ≤ 15 := by omega
            have y1 : (Y : Int) ≤ 15 := by omega
            go_wp2_with (first | (at_builtin; refine wpList_push _ rfl _ _ 22 rfl w.heap.size 5 .u8 1 Try.underlying22 info5 _ rfl _ _ rfl rfl (HO.out.drewN _) hc1 (by decide) hsz ?_; intro v' w1 hown1 hfr1))
            have hown2 : Own w1 w.heap.size 5 .u8 v' (upairs s (k + 1)) := by
              rw [upairs_succ, ← HJ.out, ← HXY.out.1, ← HXY.out.2]
              rw [or16 X Y hx hy] at hown1
              exact hown1
            have HW1 := Lib.hid ((belowN HW.out _).trans (hfr1.below hsz (fun g hg => (HO.out.base_le hg).1)))
            have HK1 : Hid (hok s (2 * (k + 1))) := Lib.hid (fun i hi => by
              by_cases h1 : i < 2 * k
              · exact HK.out i h1
              · by_cases h2 : i = j
                · rw [h2, ← HXY.out.1]; exact hx
                · rw [show i = j + 1 from by have := HJ.out; omega, ← HXY.out.2]; exact hy)
            clear hown1 hfr1
            exact ⟨⟨k + 1, j + 2, by omega, Lib.hid (by rw [HJ.out]; omega), by go_num, hown2, HK1, HW1⟩, by simp [intOf]; omega⟩
          · have x1 : (X : Int) ≤ 15 := by omega
            have y1 : (15 : Int) < (Y : Int) := by omega
            have HB := Lib.hid (bad_at hlt3 (by rw [← HXY.out.2]; exact hy))
            go_wp2_with fail
            go_ret2
            exact ⟨.slice none 0 0, by unfold uE; rw [HB.out]; rfl, by unfold uL; rw [HB.out]; exact Own.nil _ _ _ _, belowN HW.out _⟩
        · have x1 : (15 : Int) < (X : Int) := by omega
          have HB := Lib.hid (bad_at hlt2 (by rw [← HXY.out.1]; exact hx))
          go_wp2_with fail
          go_ret2
          exact ⟨.slice none 0 0, by unfold uE; rw [HB.out]; rfl, by unfold uL; rw [HB.out]; exact Own.nil _ _ _ _, belowN HW.out _⟩
      · have hkm : k = m := by omega
        have hj : decide ((j : Int) < (s.size : Int)) = false := by have := HM.out; have := HJ.out; simp; omega
        have hj2 : decide (j < s.size) = false := by have := HM.out; have := HJ.out; simp; omega
        have hj3 : ¬ j < s.size := by have := HM.out; have := HJ.out; omega
        have HG := Lib.hid (good_of HEV.out (by rw [HM.out, ← hkm]; exact HK.out))
        have HO2 : Hid (Own wr w.heap.size 5 .u8 u4 (uL s)) := Lib.hid (by unfold uL; rw [HG.out, if_pos rfl, HM.out, show 2 * m / 2 = k from by omega]; exact HO.out)
        clear HO hkm
        go_wp2_with fail
        go_ret2
        exact ⟨_, by unfold uE; rw [HG.out]; rfl, HO2.out, HW.out⟩
  · have hr : (s.size : Int) % 2 = 1 := by omega
    have hb := bad_odd hev
    have HB := Lib.hid hb
    clear hb hev
    go_enter Try.func25, Try.ntmps25
    go_wp2_with fail
    go_ret2
    exact ⟨.slice none 0 0, by unfold uE; rw [HB.out]; rfl, by unfold uL; rw [HB.out]; exact Own.nil _ _ _ _, Below.refl _ _⟩
end Go.Proofs.Ytcibhaoilcohbaa

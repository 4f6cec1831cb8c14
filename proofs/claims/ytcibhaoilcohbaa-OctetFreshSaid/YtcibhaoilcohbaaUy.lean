/-
  Walk: the document's Unhex.
-/
import Derived.Test.YtcibhaoilcohbaaUx
import Derived.Deep.QuietTactic
import Derived.BigQuiet
import Derived.WalkSpells
import Derived.Lib.Strings
set_option linter.unusedVariables false
set_option linter.unusedSimpArgs false
namespace Go.Proofs.Ytcibhaoilcohbaa
open Go.RowKit

theorem hexd_hval (k c : Nat) (hk : k < 16) (hc : c < 256) : (hexd k = (c : Int)) ↔ hval c = k := by
  unfold hexd hval
  split <;> split <;> (try split) <;> omega
theorem belowN_hid {B : Nat} {a w : World} (h : Hid (Below B a w)) (n : Nat) : Hid (Below B a (w.drewN n)) := Lib.hid (belowN h.out n)
theorem eq_digit (k c : Nat) (hk : k < 16) (hc : c < 256) : ((strOfNums [hexd k]).toList == (strOfNums [(c : Int)]).toList) = decide (hval c = k) := by
  rw [ByteArray.toList_eq, ByteArray.toList_eq, strOfNums_data, strOfNums_data]
  have hu := hexd_u8 k hk
  rw [Bool.eq_iff_iff]
  simp only [List.map_cons, List.map_nil, beq_iff_eq, decide_eq_true_eq, List.cons.injEq, and_true]
  rw [← hexd_hval k c hk hc]
  constructor
  · intro h
    have := congrArg UInt8.toNat h
    simp at this
    omega
  · intro h
    rw [h]
theorem cut_at (s : ByteArray) (i : Nat) (h : i + 1 ≤ s.size) (hs : s.size ≤ 140737488355328) (w : World) : (Instr.slice 9 (.string s) (some (.int .i64 (i : Int))) (some (.int .i64 ((i : Int) + 1))) none).run Try.prog w = .ok (.string (strOfNums [(sb s i : Int)])) w := by
  rw [run_slice_string_if w 9 s .i64 .i64 _ _ Try.underlying9, if_pos ⟨by omega, by omega⟩, if_pos ⟨by omega, by omega⟩]
  have e : s.extract ((i : Int)).toNat ((i : Int) + 1).toNat = strOfNums [(sb s i : Int)] := by
    have e1 : ((i : Int)).toNat = i := by omega
    have e2 : ((i : Int) + 1).toNat = i + 1 := by omega
    rw [e1, e2]
    apply ByteArray.ext
    apply Array.ext'
    rw [Lib.extract_data]
    have h' : i < s.data.toList.length := by
      have : s.data.toList.length = s.size := by simp
      omega
    unfold strOfNums sb
    simp only [List.map_cons, List.map_nil]
    rw [show i + 1 - i = 1 from by omega, List.drop_eq_getElem_cons h']
    simp [List.getD, List.getElem?_eq_getElem h']
  rw [e]

set_option maxRecDepth 100000 in
set_option maxHeartbeats 4000000 in
theorem runhex_any (s : ByteArray) (w : World) (hs : s.size ≤ 140737488355328) : Calls Try.prog 26 #[.string s] w fun e w' => ∃ v, e = .returned (.tuple #[v, .int .i64 (uE s)]) ∧ Own w' w.heap.size 5 .u8 v (uL s) ∧ Below w.heap.size w w' := by
  by_cases hev : s.size % 2 = 0
  · have hr : (s.size : Int) % 2 = 0 := by omega
    have HEV := Lib.hid hev
    have HS := Lib.hid hs
    have O0 : Hid (Own w w.heap.size 5 .u8 (.slice none 0 0) []) := Lib.hid (Own.nil _ _ _ _)
    clear hev
    go_enter Try.func26, Try.ntmps26
    go_wp2_with fail
    clear hr
    go_loopw [4, 5, 6] (fun v hf i wr => ∃ (k hh : Nat), k ≤ s.size ∧ hf = .int .u8 (hh : Int) ∧ i = .int .i64 (k : Int) ∧ Own wr w.heap.size 5 .u8 v (upairs s (k / 2)) ∧ Hid (hok s k) ∧ Hid (hh < 16) ∧ Hid (k % 2 = 1 → hh = hval (sb s (k - 1))) ∧ Hid (Below w.heap.size w wr)) (fun _ _ i _ => s.size - (intOf i).toNat)
    case atStart => exact ⟨0, 0, Nat.zero_le _, rfl, rfl, O0.out, Lib.hid (fun i h => by omega), Lib.hid (by decide), Lib.hid (fun h => by omega), Lib.hid (Below.refl _ _)⟩
    case round =>
      clear O0
      obtain ⟨k, hh, hk, rfl, rfl, ho, HK, HHL, HH, HW⟩ := hrel
      have hsz := HW.out.size
      have HO := Lib.hid ho
      clear ho
      by_cases hlt : k < s.size
      · have hlt3 : k + 1 ≤ s.size := by omega
        have hc1 : ((upairs s (k / 2)).length + 1) * 1 ≤ 140737488355328 := by rw [upairs_len]; omega
        obtain ⟨C, hC⟩ : ∃ C, C = sb s k := ⟨_, rfl⟩
        have hC8 : C < 256 := by rw [hC]; exact sb_lt s k
        have hct := cut_at s k hlt3 HS.out
        rw [← hC] at hct
        have HCT := Lib.hid hct
        have HC := Lib.hid hC
        clear hct hC
        obtain ⟨wo, rfl⟩ : ∃ wo : World, wo = wr := ⟨_, rfl⟩
        go_wp2_with fail
        go_loopw [7, 8] (fun n z wx => ∃ (j m : Nat), j ≤ 16 ∧ n = .int .u8 (m : Int) ∧ z = .int .u8 (j : Int) ∧ Hid (m = if hval C < j then hval C else 16) ∧ Hid (∃ q, wx = wo.drewN q)) (fun _ z _ => 16 - (intOf z).toNat)
        case atStart => exact ⟨0, 16, Nat.zero_le _, rfl, rfl, Lib.hid (by rw [if_neg (Nat.not_lt_zero _)]), Lib.hid ⟨0, rfl⟩⟩
        case round =>
          obtain ⟨j, m, hj, rfl, rfl, HMM, HQ⟩ := hrel
          by_cases hjl : j < 16
          · have heq := eq_digit j C hjl hC8
            have hwr : IntKind.i64.wrap ((k : Int) + 1) = (k : Int) + 1 := by have := HS.out; simp [IntKind.wrap, IntKind.bits, IntKind.signed]; omega
            have hct := HCT.out
            by_cases hv : hval C = j
            · rw [decide_eq_true hv] at heq
              have HV := Lib.hid hv
              clear hv
              go_wp2_with fail
              go_quiet (first | (go_at_call 72; exact Calls.quiet_of_same (digit_any _ hjl _)))
              clear hct hwr heq
              go_wp2_with fail
              go_roundw
              case rel => exact ⟨j + 1, j, by omega, rfl, by go_num, Lib.hid (by rw [if_pos (by have := HV.out; omega), HV.out]), Lib.hid (by obtain ⟨q, hq⟩ := HQ.out; exact ⟨_, by rw [hq, World.drewN_drewN]⟩)⟩
              case measure => simp [intOf]; omega
            · rw [decide_eq_false hv] at heq
              have HV := Lib.hid hv
              clear hv
              go_wp2_with fail
              go_quiet (first | (go_at_call 72; exact Calls.quiet_of_same (digit_any _ hjl _)))
              clear hct hwr heq
              go_wp2_with fail
              go_roundw
              case rel => exact ⟨j + 1, m, by omega, rfl, by go_num, Lib.hid (by
                rw [HMM.out]
                by_cases h1 : hval C < j
                · rw [if_pos h1, if_pos (by omega)]
                · rw [if_neg h1, if_neg (by have := HV.out; omega)]), Lib.hid (by obtain ⟨q, hq⟩ := HQ.out; exact ⟨_, by rw [hq, World.drewN_drewN]⟩)⟩
              case measure => simp [intOf]; omega
          · obtain rfl : j = 16 := by omega
            obtain ⟨q, rfl⟩ := HQ.out
            have hmm : m = hval C := by
              rw [HMM.out]
              have := hval_le C
              split <;> omega
            have HM2 := Lib.hid hmm
            clear hmm HMM
            by_cases hbad : m = 16
            · have HB := Lib.hid (bad_at hlt (by rw [← HC.out, ← HM2.out, hbad]; decide))
              have hb1 : ((m : Int) == 16) = true := by simp [hbad]
              clear hbad
              go_wp2_with fail
              go_ret2
              exact ⟨.slice none 0 0, by unfold uE; rw [HB.out]; rfl, by unfold uL; rw [HB.out]; exact Own.nil _ _ _ _, belowN HW.out _⟩
            · have hb1 : ((m : Int) == 16) = false := by simp; omega
              have hm16 : m < 16 := by have := hval_le C; have := HM2.out; omega
              have HK1 : Hid (hok s (k + 1)) := Lib.hid (fun i hi => by
                by_cases h1 : i < k
                · exact HK.out i h1
                · rw [show i = k from by omega, ← HC.out, ← HM2.out]; exact hm16)
              clear hbad
              by_cases hodd : k % 2 = 1
              · have ho1 : (k : Int) % 2 = 1 := by omega
                have hh16 := HHL.out
                have HO2 := HO.out
                go_wp2_with (first | (at_builtin; refine wpList_push _ rfl _ _ 22 rfl w.heap.size 5 .u8 1 Try.underlying22 info5 _ rfl _ _ rfl rfl (HO.out.drewN _) hc1 (by decide) hsz ?_; intro v' w1 hown1 hfr1))
                have hown2 : Own w1 w.heap.size 5 .u8 v' (upairs s ((k + 1) / 2)) := by
                  rw [show (k + 1) / 2 = k / 2 + 1 from by omega, upairs_succ, show 2 * (k / 2) + 1 = k from by omega, show 2 * (k / 2) = k - 1 from by omega, ← HH.out hodd, ← HC.out, ← HM2.out]
                  rw [show ((16 * hh + m : Nat) : Int) = 16 * (hh : Int) + (m : Int) from by omega]
                  exact hown1
                have HW1 := Lib.hid ((belowN HW.out _).trans (hfr1.below hsz (fun g hg => (HO.out.base_le hg).1)))
                clear hown1 hfr1 HO2
                first
                  | exact ⟨⟨k + 1, m, by omega, rfl, by go_num, hown2, HK1, Lib.hid hm16, Lib.hid (fun _ => by rw [HM2.out, HC.out]; rfl), HW1⟩, by simp [intOf]; omega⟩
                  | trace_state
              · have ho1 : (k : Int) % 2 = 0 := by omega
                have hown2 : Own (wo.drewN q) w.heap.size 5 .u8 u4 (upairs s ((k + 1) / 2)) := by
                  rw [show (k + 1) / 2 = k / 2 from by omega]
                  exact HO.out.drewN _
                have HO2 := Lib.hid hown2
                clear hown2
                go_wp2_with fail
                exact ⟨⟨k + 1, m, by omega, rfl, by go_num, HO2.out, HK1, Lib.hid hm16, Lib.hid (fun _ => by rw [HM2.out, HC.out]; rfl), belowN_hid HW _⟩, by simp [intOf]; omega⟩
      · have hkm : k = s.size := by omega
        have hj : decide ((k : Int) < (s.size : Int)) = false := by simp; omega
        have hj2 : decide (k < s.size) = false := by simp; omega
        have HG := Lib.hid (good_of HEV.out (by rw [← hkm]; exact HK.out))
        have HO2 : Hid (Own wr w.heap.size 5 .u8 u4 (uL s)) := Lib.hid (by unfold uL; rw [HG.out, if_pos rfl, ← hkm]; exact HO.out)
        clear HO hkm
        go_wp2_with fail
        go_ret2
        exact ⟨_, by unfold uE; rw [HG.out]; rfl, HO2.out, HW.out⟩
  · have hr : (s.size : Int) % 2 = 1 := by omega
    have hb := bad_odd hev
    have HB := Lib.hid hb
    clear hb hev
    go_enter Try.func26, Try.ntmps26
    go_wp2_with fail
    go_ret2
    exact ⟨.slice none 0 0, by unfold uE; rw [HB.out]; rfl, by unfold uL; rw [HB.out]; exact Own.nil _ _ _ _, Below.refl _ _⟩
end Go.Proofs.Ytcibhaoilcohbaa

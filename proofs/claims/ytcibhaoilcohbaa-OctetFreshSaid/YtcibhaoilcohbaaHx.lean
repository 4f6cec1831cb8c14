/-
  Hexadecimal digits: what Hex tells, and the walks of Hex and of the document's Hex.
-/
import Derived.Test.YtcibhaoilcohbaaAw
import Derived.Lib.AppendStr
set_option linter.unusedVariables false
set_option linter.unusedSimpArgs false
namespace Go.Proofs.Ytcibhaoilcohbaa
open Go.RowKit

def hexd (n : Nat) : Int := if n < 10 then 48 + (n : Int) else 87 + (n : Int)
def hx2 (x : Int) : List Int := [hexd (x.toNat / 16), hexd (x.toNat % 16)]
def hexL (xs : List Int) : List Int := xs.flatMap hx2
theorem hexL_len (xs : List Int) : (hexL xs).length = 2 * xs.length := by
  unfold hexL
  induction xs with
  | nil => rfl
  | cons x xs ih => rw [List.flatMap_cons, List.length_append, ih]; simp [hx2]; omega
theorem hexL_snoc (xs : List Int) (x : Int) : hexL (xs ++ [x]) = hexL xs ++ [hexd (x.toNat / 16), hexd (x.toNat % 16)] := by
  unfold hexL
  rw [List.flatMap_append]
  simp [hx2]
theorem hexL_append (xs ys : List Int) : hexL (xs ++ ys) = hexL xs ++ hexL ys := by
  unfold hexL
  rw [List.flatMap_append]
theorem hexd_u8 (n : Nat) (h : n < 16) : 0 ≤ hexd n ∧ hexd n ≤ 255 := by unfold hexd; split <;> omega
abbrev dgs : ByteArray := ⟨#[48, 49, 50, 51, 52, 53, 54, 55, 56, 57, 97, 98, 99, 100, 101, 102]⟩
theorem lt16 {P : Nat → Prop} (h : P 0 ∧ P 1 ∧ P 2 ∧ P 3 ∧ P 4 ∧ P 5 ∧ P 6 ∧ P 7 ∧ P 8 ∧ P 9 ∧ P 10 ∧ P 11 ∧ P 12 ∧ P 13 ∧ P 14 ∧ P 15) (n : Nat) (hn : n < 16) : P n := by
  obtain ⟨h0, h1, h2, h3, h4, h5, h6, h7, h8, h9, h10, h11, h12, h13, h14, h15⟩ := h
  have : n = 0 ∨ n = 1 ∨ n = 2 ∨ n = 3 ∨ n = 4 ∨ n = 5 ∨ n = 6 ∨ n = 7 ∨ n = 8 ∨ n = 9 ∨ n = 10 ∨ n = 11 ∨ n = 12 ∨ n = 13 ∨ n = 14 ∨ n = 15 := by omega
  rcases this with rfl | rfl | rfl | rfl | rfl | rfl | rfl | rfl | rfl | rfl | rfl | rfl | rfl | rfl | rfl | rfl <;> assumption
theorem dgs_at (n : Nat) (hn : n < 16) (w : World) : (Instr.index 9 (.string dgs) (.int .u8 (n : Int))).run Try.prog w = .ok (.int .u8 (hexd n)) w := by
  revert n
  refine lt16 (P := fun n => (Instr.index 9 (.string dgs) (.int .u8 (n : Int))).run Try.prog w = .ok (.int .u8 (hexd n)) w) ?_
  refine ⟨?_, ?_, ?_, ?_, ?_, ?_, ?_, ?_, ?_, ?_, ?_, ?_, ?_, ?_, ?_, ?_⟩ <;> kernel_rfl

theorem dgs_val (m : Nat) (hm : m < 16) (h : m < dgs.size) : ((dgs[m]'h).toNat : Int) = hexd m := by
  have h2 : ∀ m : Fin 16, ((dgs[m.val]'m.isLt).toNat : Int) = hexd m.val := by decide
  exact h2 ⟨m, hm⟩
theorem u8_and_15 (Y : Nat) (h : Y < 256) : bits .and .u8 (Y : Int) 15 = ((Y % 16 : Nat) : Int) := by
  have := u8_and_nat Y 15 h (by decide)
  rw [show ((15 : Nat) : Int) = 15 from rfl] at this
  rw [this, show (15 : Nat) = 2 ^ 4 - 1 from rfl, Nat.and_two_pow_sub_one_eq_mod]
set_option maxRecDepth 100000 in
set_option maxHeartbeats 2000000 in
theorem hex_any (A : Option Addr) (n c : Nat) (xs : List Int) (w : World) (hn : n = xs.length) (hr : Rd w .u8 A xs) (hB : B8 xs) (hl : xs.length ≤ 70368744177000) :
    Calls Try.prog 23 #[.slice A n c] w fun e w' => e = .returned (.string (strOfNums (hexL xs))) ∧ Below w.heap.size w w' := by
  have hm1 : 1 * (2 * n) ≤ 281474976710656 := by omega
  have hm2 : 2 * n ≤ maxLen := by unfold maxLen; omega
  have HN := Lib.hid hn
  have HR := Lib.hid hr
  have HB := Lib.hid hB
  have hn63 : n ≤ 70368744177000 := by omega
  have hce : (2 : Int) * (n : Int) = ((2 * n : Nat) : Int) := by omega
  have HCE := Lib.hid hce
  clear hn hr hB hce
  go_enter Try.func23, Try.ntmps23
  go_wp2_with (refine wpList_make_empty w rfl _ _ 22 rfl w.heap.size 5 .u8 1 Try.underlying22 info5 .i64 .i64 (2 * n) rfl (congrArg (Value.int .i64) HCE.out) hm1 hm2 (Nat.le_refl _) ?_; intro w1 hown0 hfr0)
  have O0 := Lib.hid hown0
  have F0 := Lib.hid (hfr0.below (Nat.le_refl _) (fun k h => h.elim))
  clear hown0 hfr0 hm1 hm2
  go_wp2_with fail
  go_loopw [3, 12] (fun v i wr => ∃ k : Nat, k ≤ n ∧ i = .int .i64 k ∧ Own wr w.heap.size 5 .u8 v (hexL (xs.take k)) ∧ Hid (Below w.heap.size w wr)) (fun _ i _ => n - (intOf i).toNat)
  case atStart => exact ⟨0, Nat.zero_le _, rfl, O0.out, F0⟩
  case round =>
    clear O0 F0
    obtain ⟨k, hk, rfl, ho, HW⟩ := hrel
    have hsz := HW.out.size
    have HO := Lib.hid ho
    clear ho
    by_cases hlt : k < n
    · obtain ⟨b, off, y, rfl, hc, HY⟩ := (HR.out.below HW.out).at k (by have := HN.out; omega)
      obtain ⟨Y, hY⟩ : ∃ Y : Nat, y = (Y : Int) := ⟨y.toNat, by have := HB.out k; have := HY.out; omega⟩
      have hY8 : Y < 256 := by have := HB.out k; have := HY.out; omega
      subst hY
      obtain ⟨Z1, hZ1⟩ : ∃ Z, Z = Y / 16 := ⟨_, rfl⟩
      obtain ⟨Z2, hZ2⟩ : ∃ Z, Z = Y % 16 := ⟨_, rfl⟩
      have hz1 : (Y : Int) / 16 = (Z1 : Int) := by omega
      have hz2 : bits .and .u8 (Y : Int) 15 = (Z2 : Int) := by rw [u8_and_15 Y hY8, hZ2]
      have l1 : (Z1 : Int) < 16 := by omega
      have l2 : (Z2 : Int) < 16 := by omega
      have n1 : (0 : Int) ≤ (Z1 : Int) := by omega
      have n2 : (0 : Int) ≤ (Z2 : Int) := by omega
      have HZ : Hid (Z1 = Y / 16 ∧ Z2 = Y % 16) := Lib.hid ⟨hZ1, hZ2⟩
      have hc1 : ((hexL (xs.take k)).length + 2) * 1 ≤ 140737488355328 := by rw [hexL_len, List.length_take]; omega
      clear hZ1 hZ2
      go_wp2_with fail
      go_region_law (first | (refine step_push2 wr.drew rfl _ _ 22 rfl w.heap.size 5 .u8 1 Try.underlying22 info5 _ _ rfl _ _ rfl rfl (HO.out.below (Below.refl _ wr).drew) hc1 (by decide) hsz ?_; intro v' w1 hown1 hfr1))
      all_goals (
        have HW1 : Hid (Below w.heap.size w w1) := Lib.hid (by first | exact HW.out.trans (hfr1.below hsz (fun g hg => (HO.out.base_le hg).1)) | exact HW.out.drew.trans (hfr1.below hsz (fun g hg => (HO.out.base_le hg).1)))
        have hown2 : Own w1 w.heap.size 5 .u8 v' (hexL (xs.take (k + 1))) := by
          rw [take_snocI xs k (by have := HN.out; omega), hexL_snoc, ← HY.out, Int.toNat_natCast, ← HZ.out.1, ← HZ.out.2]
          rw [dgs_val Z1 (by omega), dgs_val Z2 (by omega)] at hown1
          exact hown1
        clear hown1 hfr1
        go_wp2_with fail
        exact ⟨⟨k + 1, by omega, by go_num, hown2, HW1⟩, by simp [intOf]; omega⟩)
    · have hge : decide ((k : Int) < (n : Int)) = false := by simp; omega
      have hkn : k = xs.length := by have := HN.out; omega
      have HK := Lib.hid hkn
      clear hkn
      have hO := HO.out
      rw [HK.out, List.take_length] at hO
      rcases hO.form with ⟨rfl, h0⟩ | ⟨b, c, rest, rfl, -, hB, -, -⟩
      · have H0 := Lib.hid h0
        clear h0 hO HO
        go_wp2_with fail
        rw [run_convert_bytes_nil wr 22 5 Try.underlying22 Try.underlying5 0 0 9 Try.underlying9]
        go_wp2_with fail
        go_ret
        exact ⟨by rw [H0.out]; rfl, HW.out⟩
      · have HC : Hid (∀ i, i < (hexL xs).length → wr.cell? ⟨b, 0 + i, none⟩ = some (.int .u8 ((hexL xs).getD i 0))) := Lib.hid (fun i hi => by
          obtain ⟨b', off', hA, hc⟩ := blk_rd hB i hi
          cases hA
          exact hc)
        clear hO HO hB
        generalize hLL : hexL xs = LL at HC
        have HLL := Lib.hid hLL
        clear hLL
        go_wp2_with fail
        rw [run_convert_bytes_arg wr 22 5 Try.underlying22 Try.underlying5 b 0 _ c LL rfl HC.out 9 Try.underlying9]
        go_wp2_with fail
        go_ret
        exact ⟨by rw [HLL.out]; rfl, HW.out⟩
end Go.Proofs.Ytcibhaoilcohbaa

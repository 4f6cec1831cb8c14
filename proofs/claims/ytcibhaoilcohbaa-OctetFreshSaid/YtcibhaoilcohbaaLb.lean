/-
  Walk: OctetBack.
-/
import Derived.Test.YtcibhaoilcohbaaAw
import Derived.Test.YtcibhaoilcohbaaLn
set_option linter.unusedVariables false
set_option linter.unusedSimpArgs false
namespace Go.Proofs.Ytcibhaoilcohbaa
open Go.RowKit

theorem be_rev' (X s : Nat) : beN X s s = (leN X s).reverse := by
  apply List.ext_getElem
  · simp [beN_len, leN_len]
  · intro k h1 h2
    rw [beN_len] at h1
    simp [beN, leN]
theorem leN_get (X k j : Nat) (h : j < k) : (leN X k).getD j 0 = byt X j := by simp [leN, List.getD, h]
theorem leV_leN (X s k : Nat) (h : k ≤ s) : leV (leN X s) k = X % 256 ^ k := by
  induction k with
  | zero => simp [leV, Nat.mod_one]
  | succ k ih =>
    have e : leV (leN X s) (k + 1) = leV (leN X s) k + ((leN X s).getD k 0).toNat * 256 ^ k := rfl
    rw [e, ih (by omega), leN_get X s k (by omega), Nat.mod_pow_succ]
    have : (byt X k).toNat = X / 256 ^ k % 256 := by unfold byt; rfl
    rw [this, Nat.mul_comm]
theorem b8_leN (X s : Nat) : B8 (leN X s) := fun i => by
  by_cases h : i < s
  · rw [leN_get X s i h]; unfold byt; omega
  · rw [show (leN X s).getD i 0 = 0 from by simp [List.getD, List.getElem?_eq_none (show (leN X s).length ≤ i by rw [leN_len]; omega)]]; omega
theorem rev_get (xs : List Int) (n i j : Nat) (hn : n = xs.length) (hi : i < n) (hj : j = n - 1 - i) : xs.reverse.getD j 0 = xs.getD i 0 := by
  subst hn hj
  have h1 : xs.length - 1 - i < xs.length := by omega
  have h2 : xs.length - 1 - (xs.length - 1 - i) = i := by omega
  simp [List.getD, List.getElem?_reverse h1, h2]
/-- A row of bytes at the head of a block. -/
theorem Own.atHead {w : World} {base : Nat} {T : TypeId} {k : IntKind} {v : Value} {xs : List Int} (h : Own w base T k v xs) (h0 : 0 < xs.length) : ∃ g c, v = .slice (some ⟨g, 0, none⟩) xs.length c ∧ Rd w k (some ⟨g, 0, none⟩) xs := by
  rcases h.form with ⟨_, e⟩ | ⟨g, c, r, hv, _, hB, _, _⟩
  · subst e; simp at h0
  · exact ⟨g, c, hv, blk_rd hB⟩

set_option maxRecDepth 100000 in
set_option maxHeartbeats 4000000 in
theorem back_any (X : Nat) (w : World) (hX : X < 18446744073709551616) : Calls Try.prog 10 #[.int .u64 X] w fun e w' => e = .returned (.bool true) ∧ Below w.heap.size w w' := by
  go_enter Try.func10, Try.ntmps10
  go_wp2_with fail
  refine (awake_any w).mono ?_
  rintro e w1 ⟨rfl, b1⟩
  have W1 := Lib.hid b1
  clear b1
  go_wp2_with fail
  go_loopw [3] (fun z wr => ∃ t : Nat, t ≤ 4 ∧ z = .int .i64 (2 ^ t : Nat) ∧ Hid (Below w.heap.size w wr)) (fun z _ => 16 - (intOf z).toNat)
  case atStart => exact ⟨0, Nat.zero_le _, rfl, W1⟩
  case round =>
    clear W1
    obtain ⟨t, ht, rfl, HW⟩ := hrel
    by_cases hlt : t < 4
    · obtain ⟨s, hs⟩ : ∃ s, s = 2 ^ t := ⟨_, rfl⟩
      rw [← hs]
      have hsw : Wd s := hs ▸ wd_two' hlt
      have hs8 : s ≤ 8 := hsw.le
      have hs1 : 1 ≤ s := by rcases hsw with h | h | h | h <;> omega
      have hd8 : decide ((s : Int) ≤ 8) = true := by simp; omega
      obtain ⟨Z, hZ⟩ : ∃ Z, Z = X % 256 ^ s := ⟨_, rfl⟩
      have hz256 : Hid (Z % 256 = X % 256) := Lib.hid (by
        rw [hZ]
        rcases hsw with h | h | h | h <;> subst h <;> omega)
      have HCUT : Hid (∀ w : World, Calls Try.prog 18 #[.int .u64 X, .int .i64 s] w fun e w' => e = .returned (.int .u64 (Z : Nat)) ∧ w' = w) := Lib.hid (fun w => by rw [hZ]; exact cut_any X s w hX hsw)
      obtain ⟨L, hL⟩ : ∃ L, L = leN Z s := ⟨_, rfl⟩
      have hLl : L.length = s := by rw [hL, leN_len]
      have HLV : Hid (leV L s = Z) := Lib.hid (by rw [hL, leV_leN Z s s (Nat.le_refl _), hZ, Nat.mod_mod])
      have HB := Lib.hid (show B8 L by rw [hL]; exact b8_leN Z s)
      have HL0 : Hid (L.getD 0 0 = ((X % 256 : Nat) : Int)) := Lib.hid (by rw [hL, leN_get Z s 0 (by omega), ← hz256.out]; unfold byt; simp)
      have E1 : Hid ([] ++ leN (X % 256 ^ s) s = L) := Lib.hid (by rw [hL, hZ]; rfl)
      have E2 : Hid ([] ++ beN (X % 256 ^ s) s s = L.reverse) := Lib.hid (by rw [hL, hZ, ← be_rev']; rfl)
      have HS := Lib.hid hs
      have HSW := Lib.hid hsw
      have HLL := Lib.hid hLl
      clear hs hsw hL hZ hLl
      go_wp2_with fail
      refine (puL_any none 0 0 [] X s wr rfl (Rd.nil _ _ _) (by decide) hX HSW.out).mono ?_
      rintro e w2 ⟨v2, rfl, o2, b2⟩
      rw [E1.out] at o2
      have W2 := Lib.hid (HW.out.trans (b2.mono HW.out.size))
      obtain ⟨g2, c2, rfl, r2⟩ := o2.atHead (by have := HLL.out; omega)
      have R2 := Lib.hid r2
      rw [HLL.out]
      clear o2 b2 r2
      go_wp2_with fail
      refine (puB_any none 0 0 [] X s w2 rfl (Rd.nil _ _ _) (by decide) hX HSW.out).mono ?_
      rintro e w3 ⟨v3, rfl, o3, b3⟩
      rw [E2.out] at o3
      have W3 := Lib.hid (W2.out.trans (b3.mono W2.out.size))
      have R23 := Lib.hid (R2.out.below b3)
      obtain ⟨g3, c3, rfl, r3⟩ := o3.atHead (by rw [List.length_reverse]; have := HLL.out; omega)
      have R3 := Lib.hid r3
      rw [List.length_reverse, HLL.out]
      clear o3 b3 r3 R2 W2
      go_wp2_with fail
      refine (lawLit_any _ s c2 s L w3 HLL.out.symm R23.out HB.out HSW.out).mono ?_
      rintro e w' ⟨rfl, rfl⟩
      have hl1 : litR L s s = Z := by unfold litR; rw [if_pos rfl]; exact HLV.out
      have he1 : errR s s = 0 := by simp [errR]
      rw [hl1, he1]
      go_wp2_with fail
      refine (lawBig_any _ s c3 s L.reverse _ (by rw [List.length_reverse]; exact HLL.out.symm) R3.out HB.out.rev HSW.out).mono ?_
      rintro e w' ⟨rfl, rfl⟩
      have hl2 : bigR L.reverse s s = Z := by unfold bigR; rw [if_pos rfl, List.reverse_reverse]; exact HLV.out
      rw [hl2, he1]
      clear hl1 hl2 he1
      obtain ⟨c0, hc0⟩ : ∃ q : Nat, q = X % 256 := ⟨_, rfl⟩
      have hcell0 : w'.cell? ⟨g2, 0, none⟩ = some (.int .u8 (c0 : Int)) := by
        obtain ⟨b, off, hA, hc⟩ := R23.out 0 (by have := HLL.out; omega)
        injection hA with hA; injection hA with h1 h2
        subst h1 h2
        rw [hc, HL0.out, hc0]
      have hw8 : IntKind.u8.wrap (X : Int) = (c0 : Int) := by rw [hc0]; simp [IntKind.wrap, IntKind.bits, IntKind.signed]
      have hsp : (0 : Int) < (s : Int) := by omega
      have hn1 : (c0 != c0) = false := by simp
      clear hc0
      go_wp2_with fail
      refine (HCUT.out _).mono ?_
      rintro e w4 ⟨rfl, rfl⟩
      go_wp2_with fail
      refine (HCUT.out _).mono ?_
      rintro e w5 ⟨rfl, rfl⟩
      go_wp2_with fail
      go_loopw [10] (fun z wx => ∃ i q : Nat, i ≤ s ∧ z = .int .i64 i ∧ wx = w5.drewN q) (fun z _ => s - (intOf z).toNat)
      case atStart => exact ⟨0, 0, Nat.zero_le _, rfl, rfl⟩
      case round =>
        clear hcell0 hw8 hn1
        obtain ⟨i, q, hi, rfl, rfl⟩ := hrel
        by_cases hil : i < s
        · obtain ⟨b, off, y, hA, hc, HY⟩ := R23.out.at i (by have := HLL.out; omega)
          cases hA
          obtain ⟨j, hj⟩ : ∃ j, j = s - 1 - i := ⟨_, rfl⟩
          obtain ⟨b', off', y', hA', hc', HY'⟩ := R3.out.at j (by rw [List.length_reverse]; have := HLL.out; omega)
          cases hA'
          have hyy : y' = y := by rw [HY'.out, HY.out]; exact rev_get L s i j HLL.out.symm hil hj
          subst hyy
          have hw1 : IntKind.i64.wrap ((s : Int) - 1) = (s : Int) - 1 := by simp [IntKind.wrap, IntKind.bits, IntKind.signed]; omega
          have hw2 : IntKind.i64.wrap ((s : Int) - 1 - (i : Int)) = (j : Int) := by
            have : (s : Int) - 1 - (i : Int) = (j : Int) := by omega
            rw [this]; simp [IntKind.wrap, IntKind.bits, IntKind.signed]; omega
          have hjs : j < s := by omega
          have hjs' : (j : Int) < (s : Int) := by omega
          have hj0 : (0 : Int) ≤ (j : Int) := by omega
          have hn1 : (y' != y') = false := by simp
          rw [Nat.zero_add] at hc hc'
          clear hj
          go_wp2_with fail
          go_quiet (fail)
          go_wp2_with fail
          go_roundw
          case rel => exact ⟨i + 1, _, by omega, by go_num, rfl⟩
          case measure => simp [intOf]; omega
        · have hge : decide ((i : Int) < (s : Int)) = false := by simp; omega
          have hs2 : Hid (2 * s = 2 ^ (t + 1)) := Lib.hid (by rw [HS.out, Nat.pow_succ]; omega)
          have hw2 : IntKind.i64.wrap (2 * (s : Int)) = ((2 * s : Nat) : Int) := by simp [IntKind.wrap, IntKind.bits, IntKind.signed]; omega
          have hms : Hid (16 - 2 * s < 16 - s) := Lib.hid (by omega)
          go_wp2_with fail
          go_roundw
          case rel => exact ⟨t + 1, by omega, by rw [← hs2.out]; rfl, Lib.hid (belowN W3.out _)⟩
          case measure =>
            have := hms.out
            simp [intOf]; omega
    · obtain rfl : t = 4 := by omega
      have e16 : ((2 ^ 4 : Nat) : Int) = 16 := by decide
      go_wp2_with fail
      go_ret
      exact ⟨rfl, HW.out⟩
end Go.Proofs.Ytcibhaoilcohbaa

/-
  Walk: OctetNumbers.
-/
import Derived.Test.YtcibhaoilcohbaaRn
set_option linter.unusedVariables false
set_option linter.unusedSimpArgs false
namespace Go.Proofs.Ytcibhaoilcohbaa
open Go.RowKit

theorem wd_two' {t : Nat} (h : t < 4) : Wd (2 ^ t) := by
  have : t = 0 ∨ t = 1 ∨ t = 2 ∨ t = 3 := by omega
  unfold Wd
  rcases this with rfl | rfl | rfl | rfl <;> decide
theorem Lent.set {w : World} {g c : Nat} {xs : List Int} {rest : List Value} (h : Lent w g c xs rest) {k : Nat} (hk : k < xs.length) (y : Int) : Lent (w.setCell ⟨g, k, none⟩ (.int .u8 y)) g c (xs.set k y) rest := by
  refine ⟨?_, by rw [List.length_set]; exact h.len, h.max⟩
  have hl : k < (ltL xs).length := by rw [ltL_len]; omega
  have := h.blk.set k (.int .u8 y)
  rw [List.set_append_left _ _ (by simpa using hl), ← List.map_set] at this
  rwa [show (ltL xs).set k y = ltL (xs.set k y) from by unfold ltL; rw [List.set_append_left _ _ hk]] at this
theorem Lent.drewN {w : World} {g c : Nat} {xs : List Int} {rest : List Value} (h : Lent w g c xs rest) (q : Nat) : Lent (w.drewN q) g c xs rest := ⟨h.blk.drewN q, h.len, h.max⟩
theorem B8.set {xs : List Int} (h : B8 xs) (k : Nat) {y : Int} (hy : 0 ≤ y ∧ y ≤ 255) : B8 (xs.set k y) := fun i => by
  by_cases e : k = i
  · subst e
    by_cases hk : k < xs.length
    · rw [show (xs.set k y).getD k 0 = y from by simp [List.getD, hk]]; exact hy
    · rw [show (xs.set k y).getD k 0 = 0 from by simp [List.getD, Nat.le_of_not_lt hk]]; omega
  · rw [show (xs.set k y).getD i 0 = xs.getD i 0 from by simp [List.getD, e]]; exact h i
theorem xor8 (Y Z : Nat) (hY : Y < 256) (hZ : Z < 256) : 0 ≤ bits .xor .u8 (Y : Int) (Z : Int) ∧ bits .xor .u8 (Y : Int) (Z : Int) ≤ 255 := by
  rw [u8_xor_nat Y Z hY hZ]
  have := Nat.xor_lt_two_pow (n := 8) hY hZ
  omega

set_option maxRecDepth 100000 in
set_option maxHeartbeats 4000000 in
theorem numbers_any (A : Option Addr) (n c : Nat) (xs : List Int) (w : World) (hn : n = xs.length) (hx : Rd w .u8 A xs) (hB : B8 xs) (hl : xs.length ≤ 140737488352000) :
    Calls Try.prog 5 #[.slice A n c] w fun e w' => e = .returned (.bool true) ∧ Below w.heap.size w w' := by
  have HX := Lib.hid hx
  have HN := Lib.hid hn
  have HBX := Lib.hid hB
  have hn63 : n ≤ 140737488352000 := by omega
  have WR := Lib.hid (Below.refl w.heap.size w)
  clear hn hx hB
  go_enter Try.func5, Try.ntmps5
  go_wp2_with fail
  go_loopw [3] (fun z wr => ∃ t : Nat, t ≤ 4 ∧ z = .int .i64 (2 ^ t : Nat) ∧ Hid (Below w.heap.size w wr)) (fun z _ => 16 - (intOf z).toNat)
  case atStart => exact ⟨0, Nat.zero_le _, rfl, WR⟩
  case round =>
    clear WR
    obtain ⟨t, ht, rfl, HW⟩ := hrel
    by_cases hlt : t < 4
    · obtain ⟨s, hs⟩ : ∃ s, s = 2 ^ t := ⟨_, rfl⟩
      rw [← hs]
      have hsw : Wd s := hs ▸ wd_two' hlt
      have hs8 : s ≤ 8 := hsw.le
      have hs1 : 1 ≤ s := by rcases hsw with h | h | h | h <;> omega
      have hd8 : decide ((s : Int) ≤ 8) = true := by simp; omega
      have HS := Lib.hid hs
      have HSW := Lib.hid hsw
      clear hs hsw
      go_wp2_with fail
      refine (lent_any A n c xs wr HN.out (HX.out.below HW.out) (by omega)).mono ?_
      rintro e w1 ⟨G, cg, rest, rfl, hGw, hL, bb⟩
      have HGW : Hid (w.heap.size ≤ G) := Lib.hid (Nat.le_trans HW.out.size hGw)
      have HL := Lib.hid hL
      have W1 := Lib.hid (HW.out.trans (bb.mono HW.out.size))
      clear hGw hL bb HW
      go_wp2_with fail
      go_loopw [5] (fun z wr => ∃ (k : Nat) (ys : List Int), k ≤ 2 ∧ z = .int .i64 k ∧ Hid (n = ys.length) ∧ Hid (B8 ys) ∧ Hid (k = 0 → ys = xs) ∧ Hid (Lent wr G cg ys rest) ∧ Hid (Below w.heap.size w wr)) (fun z _ => 2 - (intOf z).toNat)
      case atStart => exact ⟨0, xs, Nat.zero_le _, rfl, HN, HBX, Lib.hid (fun _ => rfl), HL, W1⟩
      case round =>
        clear HL W1
        obtain ⟨k, ys, hk, rfl, HY, HB, H0, HL, HW⟩ := hrel
        by_cases hkl : k < 2
        · have HR := Lib.hid HL.out.rd
          have hcp := copied_any (some ⟨G, 0, none⟩) n cg ys wr HY.out HR.out (by have := HY.out; omega)
          go_wp2_with fail
          refine hcp.mono ?_
          rintro e w2 ⟨v2, rfl, o2, b2⟩
          have W2 := Lib.hid (HW.out.trans (b2.mono HW.out.size))
          have L2 := Lib.hid (HL.out.below b2)
          obtain ⟨A2, n2, c2, rfl, N2, R2⟩ : ∃ A n c, v2 = .slice A n c ∧ Hid (n = ys.length) ∧ Hid (Rd w2 .u8 A ys) := by obtain ⟨A, c, h1, _, _, h2, _⟩ := o2.slice; exact ⟨A, _, c, h1, Lib.hid rfl, Lib.hid h2⟩
          have hn2 : n2 = n := N2.out.trans HY.out.symm
          subst hn2
          clear hcp o2 b2 HR
          go_wp2_with fail
          refine (rlit_any A2 n2 c2 s ys w2 N2.out R2.out HB.out hs8 hs1).mono ?_
          rintro e w' ⟨rfl, rfl⟩
          go_wp2_with fail
          refine (rbig_any A2 n2 c2 s ys _ N2.out R2.out HB.out hs8 hs1 (by have := HY.out; omega)).mono ?_
          rintro e w3 ⟨rfl, b3⟩
          have W3 := Lib.hid (W2.out.trans (b3.mono W2.out.size))
          have L3 := Lib.hid (L2.out.below b3)
          have R3 := Lib.hid (R2.out.below b3)
          clear b3 L2 R2 W2
          go_wp2_with fail
          refine (lawLit_any _ n2 cg s ys w3 HY.out L3.out.rd HB.out HSW.out).mono ?_
          rintro e w' ⟨rfl, rfl⟩
          go_wp2_with fail
          refine (lawBig_any _ n2 cg s ys _ HY.out L3.out.rd HB.out HSW.out).mono ?_
          rintro e w' ⟨rfl, rfl⟩
          have hyl : Hid (ys.length ≤ 9223372036854775807) := Lib.hid (by have := HY.out; omega)
          by_cases hk0 : k = 0
          all_goals (
            first
            | (have hyx : ys = xs := H0.out hk0
               have HYX := Lib.hid hyx
               clear hyx
               have X3 := Lib.hid (HX.out.below W3.out)
               go_wp2_with fail
               refine (still_any A G cg c n2 n2 xs rest _ HN.out HN.out (HYX.out ▸ L3.out) X3.out).mono ?_
               rintro e w' ⟨q1, rfl, rfl⟩
               go_wp2_with fail)
            | (have hkd : decide (k = 0) = false := by simpa using hk0
               go_wp2_with fail)
            refine (same_any _ _ _ _ _ _ ys ys _ HY.out N2.out (by first | exact L3.out.rd | exact L3.out.rd.draws _) (by first | exact R3.out | exact R3.out.draws _) hyl.out hyl.out).mono ?_
            rintro e w' ⟨q2, rfl, rfl⟩
            rw [show decide (ys = ys) = true from by simp]
            go_wp2_with fail
            go_loopw [15] (fun z wx => ∃ (i : Nat) (zs : List Int), i ≤ n2 ∧ z = .int .i64 i ∧ Hid (n2 = zs.length) ∧ Hid (B8 zs) ∧ Hid (Lent wx G cg zs rest) ∧ Hid (Below w.heap.size w wx)) (fun z _ => n2 - (intOf z).toNat)
            case atStart => exact ⟨0, ys, Nat.zero_le _, rfl, HY, HB, Lib.hid (by first | exact L3.out.drewN _ | exact (L3.out.drewN _).drewN _), Lib.hid (by first | exact belowN W3.out _ | exact belowN (belowN W3.out _) _)⟩
            case round =>
              obtain ⟨i, zs, hi, rfl, HZ, HBZ, HLZ, HWZ⟩ := hrel
              by_cases hil : i < n2
              · obtain ⟨b, off, y, hA, hc, HYK⟩ := HLZ.out.rd.at i (by have := HZ.out; omega)
                cases hA
                rw [Nat.zero_add] at hc
                obtain ⟨Y, hY⟩ : ∃ Y : Nat, y = (Y : Int) := ⟨y.toNat, by have := HBZ.out i; have := HYK.out; omega⟩
                have hY8 : Y < 256 := by have := HBZ.out i; have := HYK.out; omega
                subst hY
                have hfz := HLZ.out.blk.frozen i
                obtain ⟨Z, hZ⟩ : ∃ Z, Z = (i + 1) % 256 := ⟨_, rfl⟩
                have hZ8 : Z < 256 := by omega
                have hw1 : IntKind.i64.wrap ((i : Int) + 1) = (i : Int) + 1 := by simp [IntKind.wrap, IntKind.bits, IntKind.signed]; omega
                have hw2 : IntKind.u8.wrap ((i : Int) + 1) = (Z : Int) := by rw [hZ]; simp [IntKind.wrap, IntKind.bits, IntKind.signed]
                have HX8 := Lib.hid (xor8 Y Z hY8 hZ8)
                clear hZ
                go_wp2_with fail
                go_roundw
                case rel => exact ⟨i + 1, zs.set i (bits .xor .u8 (Y : Int) (Z : Int)), by omega, by go_num, Lib.hid (by rw [List.length_set]; exact HZ.out), Lib.hid (HBZ.out.set i HX8.out), Lib.hid (HLZ.out.set (by have := HZ.out; omega) _), Lib.hid (HWZ.out.setCell (p := ⟨G, i, none⟩) HGW.out _)⟩
                case measure => simp [intOf]; omega
              · have hge : decide ((i : Int) < (n2 : Int)) = false := by simp; omega
                go_wp2_with fail
                go_roundw
                case rel => exact ⟨k + 1, zs, by omega, by go_num, HZ, HBZ, Lib.hid (fun h => absurd h (Nat.succ_ne_zero _)), HLZ, HWZ⟩
                case measure => simp [intOf]; omega)
        · have hk2 : k = 2 := by omega
          subst hk2
          have hs2 : Hid (2 * s = 2 ^ (t + 1)) := Lib.hid (by rw [HS.out, Nat.pow_succ]; omega)
          have hw2 : IntKind.i64.wrap (2 * (s : Int)) = ((2 * s : Nat) : Int) := by simp [IntKind.wrap, IntKind.bits, IntKind.signed]; omega
          have hms : Hid (16 - 2 * s < 16 - s) := Lib.hid (by omega)
          go_wp2_with fail
          go_roundw
          case rel => exact ⟨t + 1, by omega, by rw [← hs2.out]; rfl, HW⟩
          case measure =>
            have := hms.out
            simp [intOf]; omega
    · obtain rfl : t = 4 := by omega
      have e16 : ((2 ^ 4 : Nat) : Int) = 16 := by decide
      go_wp2_with fail
      go_ret
      exact ⟨rfl, HW.out⟩
end Go.Proofs.Ytcibhaoilcohbaa

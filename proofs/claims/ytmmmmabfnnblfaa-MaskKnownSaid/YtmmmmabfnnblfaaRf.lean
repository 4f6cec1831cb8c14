/-
  Walk: the law MaskRows.
-/
import Derived.Test.YtmmmmabfnnblfaaRe
import Derived.Test.YtmmmmabfnnblfaaAq
import Derived.Test.YtmmmmabfnnblfaaWk
set_option linter.unusedVariables false
set_option linter.unusedSimpArgs false
namespace Go.Proofs.Ytmmmmabfnnblfaa
open Go.RowKit

theorem rsame_v {w : World} {b1 b2 n m c d : Nat} {A B : Option Addr} {xs : List Int} (h1 : Own w b1 5 .u8 (.slice A n c) xs) (h2 : Own w b2 5 .u8 (.slice B m d) xs) :
    Calls Try.prog 39 #[.slice A n c, .slice B m d] w fun e w' => e = .returned (.bool true) ∧ Below w.heap.size w w' := by
  obtain ⟨A', c', e1, _, m1, r1, _⟩ := h1.slice
  obtain ⟨B', d', e2, _, m2, r2, _⟩ := h2.slice
  injection e1 with a1 a2 a3
  injection e2 with b1 b2 b3
  subst a1 a2 a3 b1 b2 b3
  unfold maxLen at m1
  refine (rsame_at A B _ _ c d xs xs w rfl rfl r1 r2 (by omega) (by omega)).mono ?_
  rintro e w' ⟨q, rfl, rfl⟩
  exact ⟨by simp, belowN (Below.refl _ _) q⟩
/-- A row that was answered between two worlds. -/
structure Rs (w : World) (lo hi : Nat) (v : Value) (xs : List Int) : Prop where
  o : Own w lo 5 .u8 v xs
  h : ∀ g, v.ownBlock = some g → g < hi
theorem Rs.new {w w' : World} {v : Value} {xs : List Int} (h : Own w' w.heap.size 5 .u8 v xs) : Rs w' w.heap.size w'.heap.size v xs := ⟨h, fun g hg => (h.base_le hg).2⟩
theorem Rs.below {w w' : World} {lo hi : Nat} {v : Value} {xs : List Int} (h : Rs w lo hi v xs) (hb : Below w.heap.size w w') : Rs w' lo hi v xs := ⟨h.o.below hb, h.h⟩

theorem Rs.fr {S : Nat → Prop} {w w' : World} {lo hi : Nat} {v : Value} {xs : List Int} (h : Rs w lo hi v xs) (hf : Fr S w w') (hS : ∀ g, lo ≤ g → g < hi → ¬ S g) : Rs w' lo hi v xs := ⟨h.o.fr hf (fun g hg => hS g (h.o.base_le hg).1 (h.h g hg)), h.h⟩
theorem rowE_congr {xss yss : Nat → List Int} {n : Nat} {a : Int} (h : ∀ j, j < n → (yss j).length = (xss j).length) : rowE yss n a = rowE xss n a := by
  unfold rowE
  split
  · have : likeL yss n = likeL xss n := by
      unfold likeL
      rw [Bool.eq_iff_iff, List.all_eq_true, List.all_eq_true]
      constructor
      · intro g j hj
        have hj' := List.mem_range.1 hj
        have := g j hj
        rw [h j hj', h 0 (by omega)] at this
        exact this
      · intro g j hj
        have hj' := List.mem_range.1 hj
        rw [h j hj', h 0 (by omega)]
        exact g j hj
    rw [this]
  · rfl
theorem rowV_len {xss : Nat → List Int} {n : Nat} {a : Int} (h : ∀ j, j < n → (xss j).length ≤ 1048576) : (rowV xss n a).length ≤ 1048576 := by
  unfold rowV
  split
  · split
    · exact h _ (by omega)
    · simp
  · simp
def us3 (a b c : Value) (j : Nat) : Value := if j = 0 then a else if j = 1 then b else c
def xs3 (a b c : List Int) (j : Nat) : List Int := if j = 0 then a else if j = 1 then b else c
theorem cases3 {j : Nat} (h : j < 3) : j = 0 ∨ j = 1 ∨ j = 2 := by omega
theorem lists_b (L M : Option Addr) (n c d : Nat) (hs ks : Nat → Hd) (xss : Nat → List Int) (w : World) (hr : RdH w L hs n) (hc : CtH w hs xss n) (kr : RdH w M ks n) (kc : CtH w ks xss n) (hn : n ≤ 1048576) (hx : ∀ i, i < n → (xss i).length ≤ 1048576) :
    Calls Try.prog 46 #[.slice L n c, .slice M n d] w fun e w' => e = .returned (.bool true) ∧ Below w.heap.size w w' := by
  refine (lists_any L M n c d hs ks xss w hr hc kr kc hn hx).mono ?_
  rintro e w' ⟨rfl, x, rfl⟩
  exact ⟨rfl, belowN (Below.refl _ _) x⟩

set_option maxRecDepth 100000 in
set_option maxHeartbeats 16000000 in
theorem rows_law (L : Option Addr) (n c : Nat) (hs : Nat → Hd) (xss : Nat → List Int) (a : Int) (w : World) (hr : RdH w L hs n) (hc : CtH w hs xss n) (hb : ∀ i, i < n → B8 (xss i))
    (hn : n ≤ 1048576) (hx : ∀ i, i < n → (xss i).length ≤ 1048576) (ha : -9223372036854775808 ≤ a ∧ a ≤ 9223372036854775807) :
    Calls Try.prog 8 #[.slice L n c, .int .i64 a] w fun e w' => e = .returned (.bool true) ∧ Below w.heap.size w w' := by
  have HR := Lib.hid hr
  have HC := Lib.hid hc
  have HX := Lib.hid hx
  have HBB := Lib.hid hb
  clear hr hc hx hb
  obtain ⟨E, hE⟩ : ∃ E, E = rowE xss n a := ⟨_, rfl⟩
  have HEE := Lib.hid hE
  clear hE
  have hne : (E != E) = false := by simp
  go_enter Try.func8, Try.ntmps8
  go_wp2_with fail
  refine (rows_any L n c hs xss w HR.out HC.out hn HX.out).mono ?_
  rintro e w1 ⟨vF, rfl, hoF, hb1⟩
  obtain ⟨F, fc, rfl, hfc, hmx, -, -⟩ := hoF.slice
  obtain ⟨fl, hfl⟩ : ∃ fl, fl = (flatM xss n).length := ⟨_, rfl⟩
  rw [← hfl] at hoF hfc ⊢
  rw [flatM_len] at hfl
  have HFL := Lib.hid hfl
  have HOF := Lib.hid hoF
  have HB1 := Lib.hid hb1
  have HW1 : Hid (w.heap.size ≤ w1.heap.size) := Lib.hid hb1.size
  have HFC := Lib.hid hfc
  clear hoF hb1 hfl hmx hfc
  go_wp2_with fail
  refine (cut_any F fl fc L n c hs xss w1 (HR.out.below HB1.out) (fun i hi => (HC.out i hi).1) hn HX.out HFL.out HFC.out).mono ?_
  rintro e w2 ⟨lv, rfl, hol, hb2⟩
  obtain ⟨LA, lc, rfl, -, -⟩ := rd_ownV hol
  have HL : Hid (Led w w2 n xss F fl fc LA lc xss) := Lib.hid ⟨HB1.out.trans (hb2.mono HB1.out.size), HOF.out.below hb2, hol.lower HB1.out.size, fun _ _ => rfl, by rw [← HFL.out]; exact HFC.out⟩
  have HFl : Hid (∀ g, (Value.slice F fl fc).ownBlock = some g → g < w1.heap.size) := Lib.hid (fun g hg => (HOF.out.base_le hg).2)
  have S12 : Hid (w1.heap.size ≤ w2.heap.size) := Lib.hid hb2.size
  clear hol hb2 HOF HB1
  go_wp2_with fail
  refine (rrow_any L n c hs xss a w2 (HR.out.below HL.out.b) (HC.out.below HL.out.b) hn HX.out ha).mono ?_
  rintro e w3 ⟨v3, rfl, ho3, hb3⟩
  rw [← HEE.out]
  obtain ⟨A3, n3, c3, rfl⟩ := own_form ho3
  replace HL := Lib.hid (HL.out.below hb3)
  have R3 := Lib.hid (Rs.new ho3)
  have S23 : Hid (w2.heap.size ≤ w3.heap.size) := Lib.hid hb3.size
  clear ho3 hb3
  go_wp2_with fail
  refine (row_any LA n lc (cutH F xss fc) xss a w3 HL.out.rdh HL.out.cth HL.out.low HBB.out hn HX.out ha).mono ?_
  rintro e w4 ⟨v4, rfl, ho4, hb4⟩
  rw [← HEE.out]
  obtain ⟨A4, n4, c4, rfl⟩ := own_form ho4
  replace HL := Lib.hid (HL.out.below hb4)
  replace R3 := Lib.hid (R3.out.below hb4)
  have R4 := Lib.hid (Rs.new ho4)
  have S34 : Hid (w3.heap.size ≤ w4.heap.size) := Lib.hid hb4.size
  clear ho4 hb4
  go_wp2_with fail
  refine (row_any LA n lc (cutH F xss fc) xss a w4 HL.out.rdh HL.out.cth HL.out.low HBB.out hn HX.out ha).mono ?_
  rintro e w5 ⟨v5, rfl, ho5, hb5⟩
  rw [← HEE.out]
  obtain ⟨A5, n5, c5, rfl⟩ := own_form ho5
  replace HL := Lib.hid (HL.out.below hb5)
  replace R3 := Lib.hid (R3.out.below hb5)
  replace R4 := Lib.hid (R4.out.below hb5)
  have R5 := Lib.hid (Rs.new ho5)
  have S45 : Hid (w4.heap.size ≤ w5.heap.size) := Lib.hid hb5.size
  clear ho5 hb5
  go_wp2_with fail
  refine (rsame_v R4.out.o R3.out.o).mono ?_
  rintro e w6 ⟨rfl, hb6⟩
  replace HL := Lib.hid (HL.out.below hb6)
  replace R3 := Lib.hid (R3.out.below hb6)
  replace R4 := Lib.hid (R4.out.below hb6)
  replace R5 := Lib.hid (R5.out.below hb6)
  have S56 : Hid (w5.heap.size ≤ w6.heap.size) := Lib.hid hb6.size
  clear hb6
  go_wp2_with fail
  refine (rsame_v R5.out.o R3.out.o).mono ?_
  rintro e w7 ⟨rfl, hb7⟩
  replace HL := Lib.hid (HL.out.below hb7)
  replace R3 := Lib.hid (R3.out.below hb7)
  replace R4 := Lib.hid (R4.out.below hb7)
  replace R5 := Lib.hid (R5.out.below hb7)
  have S67 : Hid (w6.heap.size ≤ w7.heap.size) := Lib.hid hb7.size
  clear hb7
  go_wp2_with fail
  refine (rows_any L n c hs xss w7 (HR.out.below HL.out.b) (HC.out.below HL.out.b) hn HX.out).mono ?_
  rintro e w8 ⟨v8, rfl, ho8, hb8⟩
  obtain ⟨A8, n8, c8, rfl⟩ := own_form ho8
  replace HL := Lib.hid (HL.out.below hb8)
  replace R3 := Lib.hid (R3.out.below hb8)
  replace R4 := Lib.hid (R4.out.below hb8)
  replace R5 := Lib.hid (R5.out.below hb8)
  have HO8 := Lib.hid ho8
  have S78 : Hid (w7.heap.size ≤ w8.heap.size) := Lib.hid hb8.size
  clear hb8 ho8
  go_wp2_with fail
  refine (rsame_v HL.out.o HO8.out).mono ?_
  rintro e w9 ⟨rfl, hb9⟩
  replace HL := Lib.hid (HL.out.below hb9)
  replace R3 := Lib.hid (R3.out.below hb9)
  replace R4 := Lib.hid (R4.out.below hb9)
  replace R5 := Lib.hid (R5.out.below hb9)
  have S89 : Hid (w8.heap.size ≤ w9.heap.size) := Lib.hid hb9.size
  have B9 : Hid (Below w.heap.size w w9) := Lib.hid HL.out.b
  clear hb9 HO8
  go_wp2_with fail
  refine (twins_any L n c hs xss w9 (HR.out.below HL.out.b) (HC.out.below HL.out.b) hn HX.out).mono ?_
  rintro e w10 ⟨v10, vs, rfl, ho10, hs10, hb10⟩
  obtain ⟨TA, tc, rfl, -, -⟩ := rd_ownV ho10
  replace HL := Lib.hid (HL.out.below hb10)
  replace R3 := Lib.hid (R3.out.below hb10)
  replace R4 := Lib.hid (R4.out.below hb10)
  replace R5 := Lib.hid (R5.out.below hb10)
  have HT := Lib.hid ho10
  have HS := Lib.hid hs10
  have HSl : Hid (∀ i g, i < n → (vs i).ownBlock = some g → g < w10.heap.size) := Lib.hid (fun i g hi hg => ((hs10.1 i hi).base_le hg).2)
  have HBW9 : Hid (w.heap.size ≤ w9.heap.size) := Lib.hid B9.out.size
  have S910 : Hid (w9.heap.size ≤ w10.heap.size) := Lib.hid hb10.size
  clear hb10 ho10 hs10
  have HD0 : Hid (Dbl w w9 w10 w10 n xss F fl fc LA lc TA tc vs (xat xss 0 0) (xat xss 0 0)) := Lib.hid (Dbl.congr ⟨HL.out, HT.out, HS.out, fun _ _ => rfl, Fr.refl _ _, fun g hg => Nat.lt_of_lt_of_le (HFl.out g hg) (by have := S12.out; have := S23.out; have := S34.out; have := S45.out; have := S56.out; have := S67.out; have := S78.out; have := S89.out; omega), HBW9.out⟩ (fun j _ => (xat_start xss j).symm) (fun j _ => (xat_start xss j).symm))
  clear HL HT HS
  go_wp2_with fail
  go_loopw [14] (fun i wx => ∃ k : Nat, k ≤ n ∧ i = .int .i64 k ∧ Hid (Dbl w w9 w10 wx n xss F fl fc LA lc TA tc vs (xat xss k 0) (xat xss k 0))) (fun i _ => n - (intOf i).toNat)
  case atStart => exact ⟨0, Nat.zero_le _, rfl, HD0⟩
  case round =>
    clear HD0
    obtain ⟨i, hi, rfl, HD⟩ := hrel
    by_cases hin : i < n
    · have hli := HX.out i hin
      obtain ⟨l, hl⟩ : ∃ l, l = (xss i).length := ⟨_, rfl⟩
      have HLL := Lib.hid hl
      rw [← hl] at hli
      clear hl
      have d0 : decide ((i : Int) < (n : Int)) = true := by simp; omega
      have d0' : decide (i < n) = true := by simp; omega
      go_wp2_with fail
      go_loopw [15] (fun q wx => ∃ k : Nat, k ≤ l ∧ q = .int .i64 k ∧ Hid (Dbl w w9 w10 wx n xss F fl fc LA lc TA tc vs (xat xss i k) (xat xss i k))) (fun q _ => l - (intOf q).toNat)
      case atStart => exact ⟨0, Nat.zero_le _, rfl, HD⟩
      case round =>
        clear HD
        obtain ⟨k, hk, rfl, HD⟩ := hrel
        by_cases hkl : k < l
        · have hkx : k < (xss i).length := by rw [← HLL.out]; exact hkl
          obtain ⟨b, off, g, o, y, hL, hF, hc1, hy1, hz1, HO1, HY1⟩ := HD.out.led.at hin hkx
          obtain ⟨b2, off2, g2, c2, y2, hT, hv2, hc2, hy2, hz2, HY2⟩ := HD.out.at2 hin hkx
          rw [← HLL.out] at hc1 hc2
          subst hL hT
          have HF := Lib.hid hF
          have HV2 := Lib.hid hv2
          clear hF hv2
          have hyx : Hid (y = (xss i).getD k 0) := Lib.hid (by rw [HY1.out]; exact xat_get hkx)
          have hyx2 : Hid (y2 = y) := Lib.hid (by rw [HY2.out, hyx.out]; exact xat_get hkx)
          obtain rfl := hyx2.out
          have HA : Hid (Dbl w w9 w10 (wr.drew.setCell ⟨g, o + k, none⟩ (.int .u8 (bits .xor .u8 y2 90))) n xss F fl fc (some ⟨b, off, none⟩) lc (some ⟨b2, off2, none⟩) tc vs (xat xss i (k + 1)) (xat xss i k)) := Lib.hid ((HD.out.drew.setF hin hkx HF.out HO1.out (bits .xor .u8 y2 90)).congr (fun j _ => by rw [hyx.out]; exact xat_set hkx j) (fun _ _ => rfl))
          have dk : decide ((k : Int) < (l : Int)) = true := by simp; omega
          have hcC : Hid (wr.drew.cell? ⟨g2, k, none⟩ = some (.int .u8 y2)) := Lib.hid hy2
          have hcZ : Hid (wr.drew.frozen? ⟨g2, k, none⟩ = false) := Lib.hid hz2
          have hcT : Hid (wr.drew.cell? ⟨b2, off2 + i, none⟩ = some (.slice (some ⟨g2, 0, none⟩) l c2)) := Lib.hid hc2
          have NEW : Hid (g2 ≠ g ∧ b2 ≠ g) := Lib.hid (by
            have h1 := HD.out.lo g (by rw [HF.out]; rfl)
            have h2 := ((HD.out.sv.1 i hin).base_le (g := g2) (by rw [HV2.out]; rfl)).1
            have h3 := (HD.out.tl.base_le (g := b2) rfl).1
            omega)
          clear hy2 hz2 hc2 HD
          go_wp2_with fail
          refine wp_region_still_tail 14 (by kernel_rfl) (by kernel_rfl) ?_
          simp only [List.take_succ_cons, List.take_zero, List.drop_succ_cons, List.drop_zero]
          iterate 14 still_step
          refine wpStill_nil ?_
          change wpList _ _ _ _ _ wr.drew
          have hy1' : wr.drew.cell? ⟨g, o + k, none⟩ = some (.int .u8 y2) := hy1
          have hz1' : wr.drew.frozen? ⟨g, o + k, none⟩ = false := hz1
          clear hc1 hy1 hz1
          revert hy1' hz1' HA hcC hcZ hcT
          generalize wr.drew = w2
          intro HA hcC hcZ hcT hy1' hz1'
          have E2 : (w2.setCell ⟨g, o + k, none⟩ (.int .u8 (bits .xor .u8 y2 90))).heap[g2]? = w2.heap[g2]? := Below.heap_setCell _ ⟨g, o + k, none⟩ _ g2 NEW.out.1
          have E3 : (w2.setCell ⟨g, o + k, none⟩ (.int .u8 (bits .xor .u8 y2 90))).heap[b2]? = w2.heap[b2]? := Below.heap_setCell _ ⟨g, o + k, none⟩ _ b2 NEW.out.2
          have C1 : Hid ((w2.setCell ⟨g, o + k, none⟩ (.int .u8 (bits .xor .u8 y2 90))).cell? ⟨g2, k, none⟩ = some (.int .u8 y2)) := Lib.hid ((World.cell?_of_block E2).trans hcC.out)
          have C2 : Hid ((w2.setCell ⟨g, o + k, none⟩ (.int .u8 (bits .xor .u8 y2 90))).frozen? ⟨g2, k, none⟩ = false) := Lib.hid ((World.frozen?_of_block E2).trans hcZ.out)
          have C3 : Hid ((w2.setCell ⟨g, o + k, none⟩ (.int .u8 (bits .xor .u8 y2 90))).cell? ⟨b2, off2 + i, none⟩ = some (.slice (some ⟨g2, 0, none⟩) l c2)) := Lib.hid ((World.cell?_of_block E3).trans hcT.out)
          clear E2 E3 hcC hcZ hcT
          go_wp2_with fail
          clear hy1' hz1'
          revert HA C1 C2 C3
          generalize w2.setCell ⟨g, o + k, none⟩ (.int .u8 (bits .xor .u8 y2 90)) = w3
          intro HA C1 C2 C3
          have hy2 := C1.out
          have hz2 := C2.out
          have hc2 := C3.out
          have HB : Hid (Dbl w w9 w10 (w3.drew.setCell ⟨g2, k, none⟩ (.int .u8 (bits .xor .u8 y2 90))) n xss F fl fc (some ⟨b, off, none⟩) lc (some ⟨b2, off2, none⟩) tc vs (xat xss i (k + 1)) (xat xss i (k + 1))) := Lib.hid ((HA.out.drew.setT hin hkx HV2.out (bits .xor .u8 y2 90)).congr (fun _ _ => rfl) (fun j _ => by rw [hyx.out]; exact xat_set hkx j))
          refine wp_region_still_tail 14 (by kernel_rfl) (by kernel_rfl) ?_
          simp only [List.take_succ_cons, List.take_zero, List.drop_succ_cons, List.drop_zero]
          iterate 14 still_step
          refine wpStill_nil ?_
          change wpList _ _ _ _ _ w3.drew
          have hy2' : w3.drew.cell? ⟨g2, k, none⟩ = some (.int .u8 y2) := hy2
          have hz2' : w3.drew.frozen? ⟨g2, k, none⟩ = false := hz2
          clear hc2 hy2 hz2 HA C1 C2 C3
          revert hy2' hz2' HB
          generalize w3.drew = w4
          intro HB hy2' hz2'
          go_wp2_with fail
          go_roundw
          case rel => exact ⟨k + 1, by omega, by go_num, HB⟩
          case measure => simp [intOf]; omega
        · obtain rfl : k = l := by omega
          obtain ⟨b, off, A, cc, hL, hc1⟩ := HD.out.led.hdr hin
          rw [← HLL.out] at hc1
          have HE : Hid (Dbl w w9 w10 wr n xss F fl fc LA lc TA tc vs (xat xss (i + 1) 0) (xat xss (i + 1) 0)) := Lib.hid (HD.out.congr (fun j _ => by rw [HLL.out]; exact xat_next xss i j) (fun j _ => by rw [HLL.out]; exact xat_next xss i j))
          subst hL
          go_wp2_with fail
          go_roundw
          case rel => exact ⟨i + 1, by omega, by go_num, HE⟩
          case measure => simp [intOf]; omega
    · obtain rfl : n = i := by omega
      obtain ⟨yss, hy⟩ : ∃ yss : Nat → List Int, ∀ j, yss j = xrL (xss j) := ⟨fun j => xrL (xss j), fun _ => rfl⟩
      have HK : Hid (Dbl w w9 w10 wr n xss F fl fc LA lc TA tc vs yss yss) := Lib.hid (HD.out.congr (fun j hj => by rw [xat_end hj, hy]) (fun j hj => by rw [xat_end hj, hy]))
      have YL : Hid (∀ j, j < n → (yss j).length = (xss j).length) := Lib.hid (fun j hj => by rw [hy, xrL_len])
      have HX2 : Hid (∀ j, j < n → (yss j).length ≤ 1048576) := Lib.hid (fun j hj => by rw [YL.out j hj]; exact HX.out j hj)
      have BB2 : Hid (∀ j, j < n → B8 (yss j)) := Lib.hid (fun j hj => by rw [hy]; exact xrL_b8 (HBB.out j hj))
      have EE2 : Hid (E = rowE yss n a) := Lib.hid (by rw [rowE_congr YL.out]; exact HEE.out)
      have SZ : Hid (w1.heap.size ≤ w2.heap.size ∧ w2.heap.size ≤ w3.heap.size ∧ w3.heap.size ≤ w4.heap.size ∧ w4.heap.size ≤ w5.heap.size ∧ w5.heap.size ≤ w9.heap.size ∧ w9.heap.size ≤ w10.heap.size ∧ w10.heap.size ≤ wr.heap.size ∧ w.heap.size ≤ w9.heap.size) := Lib.hid ⟨S12.out, S23.out, S34.out, S45.out, by have := S56.out; have := S67.out; have := S78.out; have := S89.out; omega, S910.out, HK.out.fr.size, HBW9.out⟩
      have NOT : Hid (∀ g, w2.heap.size ≤ g → g < w5.heap.size → ¬ ((Value.slice F fl fc).ownBlock = some g ∨ Blks n vs g)) := Lib.hid (fun g h1 h2 hh => by
        have hz := SZ.out
        rcases hh with hh | ⟨j, hj, hh⟩
        · have := HFl.out g hh; omega
        · have := ((HK.out.sv.1 j hj).base_le hh).1; omega)
      replace R3 := Lib.hid (R3.out.fr HK.out.fr (fun g h1 h2 => NOT.out g h1 (by have := SZ.out; omega)))
      replace R4 := Lib.hid (R4.out.fr HK.out.fr (fun g h1 h2 => NOT.out g (by have := SZ.out; omega) (by have := SZ.out; omega)))
      replace R5 := Lib.hid (R5.out.fr HK.out.fr (fun g h1 h2 => NOT.out g (by have := SZ.out; omega) h2))
      clear HD hy S12 S23 S34 S45 S56 S67 S78 S89 S910
      go_wp2_with fail
      refine (rrow_any TA n tc (fun i => hdOf (vs i)) yss a wr HK.out.rdt HK.out.ctt hn HX2.out ha).mono ?_
      rintro e w11 ⟨v6, rfl, ho6, hb6⟩
      rw [← EE2.out]
      obtain ⟨A6, n6, c6, rfl⟩ := own_form ho6
      replace HK := Lib.hid (HK.out.below hb6)
      replace R3 := Lib.hid (R3.out.below hb6)
      replace R4 := Lib.hid (R4.out.below hb6)
      replace R5 := Lib.hid (R5.out.below hb6)
      have R6 := Lib.hid (Rs.new ho6)
      have T1 : Hid (wr.heap.size ≤ w11.heap.size) := Lib.hid hb6.size
      clear ho6 hb6
      go_wp2_with fail
      refine (row_any LA n lc (cutH F xss fc) yss a w11 HK.out.led.rdh HK.out.led.cth HK.out.led.low BB2.out hn HX2.out ha).mono ?_
      rintro e w12 ⟨v7, rfl, ho7, hb7⟩
      rw [← EE2.out]
      obtain ⟨A7, n7, c7, rfl⟩ := own_form ho7
      replace HK := Lib.hid (HK.out.below hb7)
      replace R3 := Lib.hid (R3.out.below hb7)
      replace R4 := Lib.hid (R4.out.below hb7)
      replace R5 := Lib.hid (R5.out.below hb7)
      replace R6 := Lib.hid (R6.out.below hb7)
      have R7 := Lib.hid (Rs.new ho7)
      have T2 : Hid (w11.heap.size ≤ w12.heap.size) := Lib.hid hb7.size
      clear ho7 hb7
      go_wp2_with fail
      refine (rsame_v R7.out.o R6.out.o).mono ?_
      rintro e w13 ⟨rfl, hb⟩
      replace HK := Lib.hid (HK.out.below hb)
      replace R3 := Lib.hid (R3.out.below hb)
      replace R4 := Lib.hid (R4.out.below hb)
      replace R5 := Lib.hid (R5.out.below hb)
      replace R7 := Lib.hid (R7.out.below hb)
      have T3 : Hid (w12.heap.size ≤ w13.heap.size) := Lib.hid hb.size
      clear hb R6
      go_wp2_with fail
      refine (rsame_v R4.out.o R3.out.o).mono ?_
      rintro e w14 ⟨rfl, hb⟩
      replace HK := Lib.hid (HK.out.below hb)
      replace R3 := Lib.hid (R3.out.below hb)
      replace R4 := Lib.hid (R4.out.below hb)
      replace R5 := Lib.hid (R5.out.below hb)
      replace R7 := Lib.hid (R7.out.below hb)
      have T4 : Hid (w13.heap.size ≤ w14.heap.size) := Lib.hid hb.size
      clear hb
      go_wp2_with fail
      refine (rsame_v R5.out.o R3.out.o).mono ?_
      rintro e w15 ⟨rfl, hb⟩
      replace HK := Lib.hid (HK.out.below hb)
      replace R4 := Lib.hid (R4.out.below hb)
      replace R5 := Lib.hid (R5.out.below hb)
      replace R7 := Lib.hid (R7.out.below hb)
      have T5 : Hid (w14.heap.size ≤ w15.heap.size) := Lib.hid hb.size
      clear hb R3
      go_wp2_with fail
      refine (lists_b LA TA n lc tc (cutH F xss fc) (fun i => hdOf (vs i)) yss w15 HK.out.led.rdh HK.out.led.cth HK.out.rdt HK.out.ctt hn HX2.out).mono ?_
      rintro e w16 ⟨rfl, hb⟩
      replace HK := Lib.hid (HK.out.below hb)
      replace R4 := Lib.hid (R4.out.below hb)
      replace R5 := Lib.hid (R5.out.below hb)
      replace R7 := Lib.hid (R7.out.below hb)
      have T6 : Hid (w15.heap.size ≤ w16.heap.size) := Lib.hid hb.size
      clear hb
      have NB := Blk.new w16 47 [.slice A4 n4 c4, .slice A5 n5 c5, .slice A7 n7 c7]
      have bA : Below w16.heap.size w16 (w16.alloc (.cells #[.slice A4 n4 c4, .slice A5 n5 c5, .slice A7 n7 c7] 47)) := (Below.refl _ _).alloc (Nat.le_refl _) _
      obtain ⟨G, hG⟩ : ∃ G, G = w16.heap.size := ⟨_, rfl⟩
      have hsz : w16.heap.size ≤ (w16.alloc (.cells #[.slice A4 n4 c4, .slice A5 n5 c5, .slice A7 n7 c7] 47)).heap.size := bA.size
      have HNB : Hid (Blk (w16.alloc (.cells #[.slice A4 n4 c4, .slice A5 n5 c5, .slice A7 n7 c7] 47)) G 47 [.slice A4 n4 c4, .slice A5 n5 c5, .slice A7 n7 c7]) := Lib.hid (by rw [hG]; exact NB)
      have GT : Hid (∀ v lo xs, Rs w16 lo G v xs → v.ownBlock ≠ some G) := Lib.hid (fun v lo xs h e => by have := h.h G e; omega)
      have HG := Lib.hid hG
      have LT4 : Hid (∀ g, (Value.slice A4 n4 c4).ownBlock = some g → w3.heap.size ≤ g ∧ g < w4.heap.size) := Lib.hid (fun g hg => ⟨(R4.out.o.base_le hg).1, R4.out.h g hg⟩)
      have LT5 : Hid (∀ g, (Value.slice A5 n5 c5).ownBlock = some g → w4.heap.size ≤ g ∧ g < w5.heap.size) := Lib.hid (fun g hg => ⟨(R5.out.o.base_le hg).1, R5.out.h g hg⟩)
      have LT7 : Hid (∀ g, (Value.slice A7 n7 c7).ownBlock = some g → w11.heap.size ≤ g ∧ g < w12.heap.size) := Lib.hid (fun g hg => ⟨(R7.out.o.base_le hg).1, R7.out.h g hg⟩)
      have ZZ : Hid (w.heap.size ≤ w1.heap.size ∧ wr.heap.size ≤ w11.heap.size ∧ w11.heap.size ≤ w12.heap.size ∧ w12.heap.size ≤ G) := Lib.hid ⟨HW1.out, T1.out, T2.out, by have := T3.out; have := T4.out; have := T5.out; have := T6.out; omega⟩
      replace HK := Lib.hid (HK.out.below bA)
      replace R4 := Lib.hid (R4.out.below bA)
      replace R5 := Lib.hid (R5.out.below bA)
      replace R7 := Lib.hid (R7.out.below bA)
      clear NB bA hsz GT T1 T2 T3 T4 T5 T6
      go_wp2_with fail
      rw [← hG]
      clear hG
      revert HNB HK R4 R5 R7
      generalize w16.alloc (.cells #[.slice A4 n4 c4, .slice A5 n5 c5, .slice A7 n7 c7] 47) = w17
      intro HNB HK R4 R5 R7
      have OW : Hid (∀ j, j < 3 → Own w17 w.heap.size 5 .u8 (us3 (.slice A4 n4 c4) (.slice A5 n5 c5) (.slice A7 n7 c7) j) (xs3 (rowV xss n a) (rowV xss n a) (rowV yss n a) j)) := Lib.hid (fun j hj => by
        have hz := SZ.out
        have hq := ZZ.out
        rcases cases3 hj with rfl | rfl | rfl
        · exact R4.out.o.lower (by omega)
        · exact R5.out.o.lower (by omega)
        · exact R7.out.o.lower (by omega))
      have BD : Hid (∀ j g, j < 3 → (us3 (.slice A4 n4 c4) (.slice A5 n5 c5) (.slice A7 n7 c7) j).ownBlock = some g → (j = 0 ∧ w3.heap.size ≤ g ∧ g < w4.heap.size) ∨ (j = 1 ∧ w4.heap.size ≤ g ∧ g < w5.heap.size) ∨ (j = 2 ∧ w11.heap.size ≤ g ∧ g < w12.heap.size)) := Lib.hid (fun j g hj hg => by
        rcases cases3 hj with rfl | rfl | rfl
        · exact .inl ⟨rfl, LT4.out g hg⟩
        · exact .inr (.inl ⟨rfl, LT5.out g hg⟩)
        · exact .inr (.inr ⟨rfl, LT7.out g hg⟩))
      have VB : Hid (∀ i g, i < n → (vs i).ownBlock = some g → w9.heap.size ≤ g ∧ g < w10.heap.size) := Lib.hid (fun i g hi hg => ⟨((HK.out.sv.1 i hi).base_le hg).1, HSl.out i g hi hg⟩)
      refine (apart_any w.heap.size G 3 3 (us3 (.slice A4 n4 c4) (.slice A5 n5 c5) (.slice A7 n7 c7)) (fun j => (xs3 (rowV xss n a) (rowV xss n a) (rowV yss n a) j).length) (xs3 (rowV xss n a) (rowV xss n a) (rowV yss n a)) w17 (by decide) (fun _ _ => rfl) OW.out
        (fun i j hi hj hij g hg hg' => by
          have h1 := BD.out i g hi hg
          have h2 := BD.out j g hj hg'
          have hz := SZ.out
          have hq := ZZ.out
          omega)
        (fun j hj hg => by
          have h1 := BD.out j G hj hg
          have hz := SZ.out
          have hq := ZZ.out
          omega)
        (fun j hj => by
          rw [HNB.out.cell]
          rcases cases3 hj with rfl | rfl | rfl <;> rfl)
        (by exact HK.out.led.b.size)
        (fun j hj => by
          have h1 : (xs3 (rowV xss n a) (rowV xss n a) (rowV yss n a) j).length ≤ 1048576 := by
            rcases cases3 hj with rfl | rfl | rfl
            · exact rowV_len HX.out
            · exact rowV_len HX.out
            · exact rowV_len HX2.out
          omega)).mono ?_
      rintro e w18 ⟨rfl, hf⟩
      obtain ⟨q1, q2, q3, q4, q5⟩ := HK.out.apart hf OW.out (Nat.le_refl _) (fun j g hj hg hg' => by
        have h1 := BD.out j g hj hg
        have h2 := HFl.out g hg'
        have hz := SZ.out
        have hq := ZZ.out
        omega) (fun j i g hj hi hg hg' => by
        have h1 := BD.out j g hj hg
        have h2 := VB.out i g hi hg'
        have hz := SZ.out
        have hq := ZZ.out
        omega)
      have Q1 := Lib.hid q1
      have Q2 := Lib.hid q2
      have Q3 := Lib.hid q3
      have Q4 := Lib.hid q4
      have Q5 := Lib.hid q5
      clear q1 q2 q3 q4 q5 hf
      go_wp2_with fail
      refine (lists_b LA TA n lc tc (cutH F xss fc) (fun i => hdOf (vs i)) yss w18 Q2.out Q3.out Q4.out Q5.out hn HX2.out).mono ?_
      rintro e w19 ⟨rfl, hb⟩
      have Q6 := Lib.hid (Q1.out.trans (hb.mono Q1.out.size))
      clear hb
      go_wp2_with fail
      refine (works_any w19).mono ?_
      rintro e w20 ⟨rfl, hb⟩
      have Q7 := Lib.hid (Q6.out.trans (hb.mono Q6.out.size))
      clear hb
      go_wp2_with fail
      go_ret
      exact ⟨rfl, Q7.out⟩
end Go.Proofs.Ytmmmmabfnnblfaa

/-
  Walks: made, awake.
-/
import Derived.Test.YtedejkfhgpnhpaaHp
import Derived.Test.YtedejkfhgpnhpaaMk
import Derived.Test.YtedejkfhgpnhpaaBg
import Derived.Great.BuildSlice
set_option linter.unusedVariables false
set_option linter.unusedSimpArgs false
namespace Go.Proofs.Ytedejkfhgpnhpaa
open Go.RowKit

/-- A group of one byte. -/
def g1 (y : Int) : Nat → Int := fun j => if j = 0 then y else 0
theorem made_any (l y i : Nat) (w : World) (hl : l < 256) (hy : y < 256) (hi : i < 4294967296) : Calls Try.prog 47 #[.int .u8 (l : Int), .int .u8 (y : Int), .int .u32 (i : Int)] w (Made 5 .u8 (hb l 0 i 0 (g1 y) ++ [9]) w) := by
  go_enter Try.func47, Try.ntmps47
  go_wp2_with fail
  rw [show (#[.int .u8 (l : Int), .int .u8 0, .int .u32 (i : Int), .int .u32 0, .int .u8 (y : Int), .int .u8 0, .int .u8 0, .int .u8 0, .int .u8 0, .int .u8 0, .int .u8 0, .int .u8 0, .int .u8 0, .int .u8 0, .int .u8 0, .int .u8 0, .int .u8 0, .int .u8 0, .int .u8 0, .int .u8 0] : Array Value) = hArr l 0 i 0 (g1 y) from by unfold hArr; rfl]
  have hB := Blk.new w 5 [.int .u8 9]
  have b1 := (Below.refl w.heap.size w).alloc (Nat.le_refl _) (.cells #[.int .u8 9] 5)
  refine (pmake_any l 0 i 0 (g1 y) _ 1 1 [9] _ rfl (blk_rd0 (xs := [9]) hB) hi (by decide) (by decide)).mono ?_
  rintro e w' ⟨v, rfl, o, b2⟩
  go_wp2_with fail
  go_ret
  exact ⟨v, rfl, o.lower b1.size, b1.trans (b2.mono b1.size)⟩

theorem aw_b8 (l y i : Nat) (hl : l < 256) (hy : y < 256) : B8 (hb l 0 i 0 (g1 y) ++ [9]) := hb_b8 hl (by decide) (fun k => by unfold g1; split <;> omega) (b8_of (by intro x hx; simp at hx; omega))
theorem aw_len (l y i : Nat) : (hb l 0 i 0 (g1 y) ++ [9]).length = 27 := hb_len2 l 0 i 0 (g1 y) [9]
/-- What is asked of a row that made tells. -/
structure Mdd (w : World) (base : Nat) (A : Option Addr) (n c : Nat) (xs : List Int) : Prop where
  rd : Rd w .u8 A xs
  len : n = xs.length
  cap : n ≤ c
  max : c ≤ 9223372036854775807
theorem made_sl (l y i : Nat) (w : World) (hl : l < 256) (hy : y < 256) (hi : i < 4294967296) : Calls Try.prog 47 #[.int .u8 (l : Int), .int .u8 (y : Int), .int .u32 (i : Int)] w fun e w' => ∃ A c, e = .returned (.slice A 27 c) ∧ Hid (Rd w' .u8 A (hb l 0 i 0 (g1 y) ++ [9]) ∧ 27 ≤ c ∧ c ≤ 9223372036854775807) ∧ Below w.heap.size w w' :=
  (made_any l y i w hl hy hi).mono fun e w' ⟨v, he, o, b⟩ => by
    obtain ⟨A, c, rfl, h1, h2, h3, _⟩ := o.slice
    rw [aw_len] at he h1
    exact ⟨A, c, he, Lib.hid ⟨h3, h1, by unfold maxLen at h2; omega⟩, b⟩

def XA : List Int := hb 1 0 5 0 (g1 1) ++ [9]
def XB : List Int := hb 1 0 0 0 (g1 2) ++ [9]
def XC : List Int := hb 0 0 0 0 (g1 0) ++ [9]
theorem xa_R : isR XA 27 = true := by kernel_rfl
theorem xa_H : pH XA 27 = hArr 1 0 5 0 (g1 1) := by unfold pH; rw [xa_R, if_pos rfl]; exact hb_hdr 1 0 5 0 (g1 1) [9] (by decide) (by decide)
theorem xa_B : pB XA 27 = [9] := by unfold pB; rw [xa_R, if_pos rfl]; rfl
theorem xa_E : pE XA 27 = 0 := by unfold pE; rw [xa_R, if_pos rfl]
theorem aw1 : bgR XA 27 XB 27 = true := by kernel_rfl
theorem aw2 : bgR XB 27 XA 27 = false := by kernel_rfl
theorem aw3 : bgR XB 27 XC 27 = true := by kernel_rfl
theorem aw4 : ixR XB 27 XA 27 = true := by kernel_rfl
theorem aw5 : lvR XC 27 = false := by kernel_rfl

set_option maxRecDepth 100000 in
set_option maxHeartbeats 4000000 in
theorem awake_any (w : World) : Calls Try.prog 31 #[] w fun e w' => e = .returned (.bool true) ∧ Below w.heap.size w w' := by
  go_enter Try.func31, Try.ntmps31
  go_wp2_with fail
  refine (made_sl 1 1 5 w (by decide) (by decide) (by decide)).mono ?_
  rintro e w1 ⟨A, ca, rfl, HA1, b1⟩
  have HA1 : Hid (Rd w1 .u8 A XA ∧ 27 ≤ ca ∧ ca ≤ 9223372036854775807) := HA1
  have W1 := Lib.hid b1
  clear b1
  go_wp2_with fail
  refine (made_sl 1 2 0 w1 (by decide) (by decide) (by decide)).mono ?_
  rintro e w2 ⟨B, cb, rfl, HB2, b2⟩
  have HB2 : Hid (Rd w2 .u8 B XB ∧ 27 ≤ cb ∧ cb ≤ 9223372036854775807) := HB2
  have HA2 := Lib.hid (HA1.out.1.below b2)
  have W2 := Lib.hid (W1.out.trans (b2.mono W1.out.size))
  clear b2 W1
  go_wp2_with fail
  refine (made_sl 0 0 0 w2 (by decide) (by decide) (by decide)).mono ?_
  rintro e w3 ⟨C, cc, rfl, HC3, b3⟩
  have HC3 : Hid (Rd w3 .u8 C XC ∧ 27 ≤ cc ∧ cc ≤ 9223372036854775807) := HC3
  have HA3 := Lib.hid (HA2.out.below b3)
  have HB3 := Lib.hid (HB2.out.1.below b3)
  have W3 := Lib.hid (W2.out.trans (b3.mono W2.out.size))
  have CA := Lib.hid HA1.out.2
  have CB := Lib.hid HB2.out.2
  have CC := Lib.hid HC3.out.2
  clear b3 W2 HA2 HA1 HB2
  have bA : Hid (B8 XA) := Lib.hid (aw_b8 1 1 5 (by decide) (by decide))
  have bB : Hid (B8 XB) := Lib.hid (aw_b8 1 2 0 (by decide) (by decide))
  have bC : Hid (B8 XC) := Lib.hid (aw_b8 0 0 0 (by decide) (by decide))
  have lA : Hid (27 = XA.length) := Lib.hid (aw_len 1 1 5).symm
  have lB : Hid (27 = XB.length) := Lib.hid (aw_len 1 2 0).symm
  have lC : Hid (27 = XC.length) := Lib.hid (aw_len 0 0 0).symm
  go_wp2_with fail
  have hp := parse_any A 27 ca XA w3 lA.out CA.out.1 CA.out.2 (by rw [← lA.out]; decide) HA3.out bA.out
  rw [xa_H, xa_B, xa_E] at hp
  refine hp.mono ?_
  rintro e w4 ⟨v, rfl, ov, b4⟩
  have HA4 := Lib.hid (HA3.out.below b4)
  have HB4 := Lib.hid (HB3.out.below b4)
  have HC4 := Lib.hid (HC3.out.1.below b4)
  have W4 := Lib.hid (W3.out.trans (b4.mono W3.out.size))
  obtain ⟨Av, cv, rfl, -, -, rv, -⟩ := ov.slice
  have RV := Lib.hid rv
  clear b4 hp ov rv W3 HA3 HB3 HC3
  go_upto_region 3 with (refine wpList_store_row rfl 26 _ _ rfl w4.heap.size (hArr 1 0 5 0 (g1 1)) rfl rfl 26 _ (heap_alloc_new _ _) (size26' _ _ _ _ _) (by rw [hArr_size2]; rfl) (hArr_cells _ _ _ _ _) ?_)
  have hbx := boxed w4 #[.int .u8 0, .int .u8 0, .int .u32 0, .int .u32 0, .int .u8 0, .int .u8 0, .int .u8 0, .int .u8 0, .int .u8 0, .int .u8 0, .int .u8 0, .int .u8 0, .int .u8 0, .int .u8 0, .int .u8 0, .int .u8 0, .int .u8 0, .int .u8 0, .int .u8 0, .int .u8 0] (hArr 1 0 5 0 (g1 1))
  generalize ((w4.alloc (.cells #[.int .u8 0, .int .u8 0, .int .u32 0, .int .u32 0, .int .u8 0, .int .u8 0, .int .u8 0, .int .u8 0, .int .u8 0, .int .u8 0, .int .u8 0, .int .u8 0, .int .u8 0, .int .u8 0, .int .u8 0, .int .u8 0, .int .u8 0, .int .u8 0, .int .u8 0, .int .u8 0] 26)).setRow w4.heap.size (hArr 1 0 5 0 (g1 1))) = w5 at hbx ⊢
  have RA := Lib.hid (HA4.out.below hbx.2)
  have RB := Lib.hid (HB4.out.below hbx.2)
  have RC := Lib.hid (HC4.out.below hbx.2)
  have RV5 := Lib.hid (RV.out.below hbx.2)
  have W5 := Lib.hid (W4.out.trans (hbx.2.mono W4.out.size))
  obtain ⟨D, hD⟩ : ∃ D, D = w4.heap.size := ⟨_, rfl⟩
  rw [← hD] at hbx ⊢
  have k2 : w5.cell? ⟨D, 2, none⟩ = some (.int .u32 5) := (hbx.1.blk.cell 2).trans rfl
  have k4 : w5.cell? ⟨D, 4, none⟩ = some (.int .u8 1) := (hbx.1.blk.cell 4).trans rfl
  obtain ⟨bv, ov, hAv, hcv⟩ := RV5.out 0 (by decide)
  subst hAv
  have kv : w5.cell? ⟨bv, ov, none⟩ = some (.int .u8 9) := by simpa using hcv
  clear hbx hD HA4 HB4 HC4 RV W4 hcv
  have hq1 : ((mk true : Int) == 18446744073709551615) = true := rfl
  have hq0 : ((mk false : Int) == 0) = true := rfl
  go_wp2_with fail
  refine (byGroup_any _ _ 27 ca 27 cb XA XB w5 lA.out lB.out CA.out.1 CB.out.1 CA.out.2 CB.out.2 RA.out RB.out bA.out bB.out).mono ?_
  rintro e w6 ⟨rfl, b6⟩
  rw [aw1]
  have RA6 := Lib.hid (RA.out.below b6)
  have RB6 := Lib.hid (RB.out.below b6)
  have RC6 := Lib.hid (RC.out.below b6)
  have W6 := Lib.hid (W5.out.trans (b6.mono W5.out.size))
  clear b6
  go_wp2_with fail
  refine (byGroup_any _ _ 27 cb 27 ca XB XA w6 lB.out lA.out CB.out.1 CA.out.1 CB.out.2 CA.out.2 RB6.out RA6.out bB.out bA.out).mono ?_
  rintro e w7 ⟨rfl, b7⟩
  rw [aw2]
  have RA7 := Lib.hid (RA6.out.below b7)
  have RB7 := Lib.hid (RB6.out.below b7)
  have RC7 := Lib.hid (RC6.out.below b7)
  have W7 := Lib.hid (W6.out.trans (b7.mono W6.out.size))
  clear b7
  go_wp2_with fail
  refine (byGroup_any _ _ 27 cb 27 cc XB XC w7 lB.out lC.out CB.out.1 CC.out.1 CB.out.2 CC.out.2 RB7.out RC7.out bB.out bC.out).mono ?_
  rintro e w8 ⟨rfl, b8⟩
  rw [aw3]
  have RA8 := Lib.hid (RA7.out.below b8)
  have RB8 := Lib.hid (RB7.out.below b8)
  have RC8 := Lib.hid (RC7.out.below b8)
  have W8 := Lib.hid (W7.out.trans (b8.mono W7.out.size))
  clear b8
  go_wp2_with fail
  refine (byIndex_any _ _ 27 cb 27 ca XB XA w8 lB.out lA.out CB.out.1 CA.out.1 CB.out.2 CA.out.2 RB8.out RA8.out bB.out bA.out).mono ?_
  rintro e w' ⟨rfl, q, rfl⟩
  rw [aw4]
  go_wp2_with fail
  refine (live_any _ 27 cc XC _ lC.out (RC8.out.draws q) bC.out).mono ?_
  rintro e w' ⟨rfl, q2, rfl⟩
  rw [aw5]
  go_wp2_with fail
  go_ret
  exact ⟨rfl, belowN W8.out _⟩
end Go.Proofs.Ytedejkfhgpnhpaa

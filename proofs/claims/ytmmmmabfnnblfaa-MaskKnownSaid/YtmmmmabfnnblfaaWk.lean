/-
  Walks: works, yes, and the laws MaskWords, MaskChoose, MaskPicks.
-/
import Derived.Test.YtmmmmabfnnblfaaPk
set_option linter.unusedVariables false
set_option linter.unusedSimpArgs false
namespace Go.Proofs.Ytmmmmabfnnblfaa
open Go.RowKit

theorem yes_any (b : Bool) (w : World) : Calls Try.prog 27 #[.int .u64 (mk b)] w fun e w' => e = .returned (.bool true) ∧ w = w' := by
  cases b
  · have h : mk false = 0 := rfl
    rw [h]
    go_enter Try.func27, Try.ntmps27
    go_wp2
    go_ret
    exact ⟨rfl, rfl⟩
  · have h : mk true = 18446744073709551615 := rfl
    rw [h]
    go_enter Try.func27, Try.ntmps27
    go_wp2
    go_ret
    exact ⟨rfl, rfl⟩

theorem choose_lit (w : World) : Calls Try.prog 17 #[.int .u64 240, .int .i8 (-1), .int .i8 7] w fun e w' => e = .returned (.int .i8 (-9)) ∧ w = w' := by
  have h : IntKind.i8.wrap (pk 240 (IntKind.u64.wrap (-1)) (IntKind.u64.wrap 7)) = -9 := by decide
  go_enter Try.func17, Try.ntmps17
  go_wp2_with fail
  refine (pick_any _ _ _ _).mono ?_
  rintro e w' ⟨rfl, rfl⟩
  go_wp2_with fail
  go_ret
  exact ⟨congrArg (fun z => Ending.returned (Value.int _ z)) (by decide : IntKind.i8.wrap (pk 240 (IntKind.u64.wrap (-1)) 7) = -9), rfl⟩

theorem works_any (w : World) : Calls Try.prog 23 #[] w fun e w' => e = .returned (.bool true) ∧ Below w.heap.size w w' := by
  go_enter Try.func23, Try.ntmps23
  go_wp2_with fail
  have o1 : Own ((w.alloc (.cells #[.int .u8 18] 5)).alloc (.cells #[.int .u8 52] 5)) w.heap.size 5 .u8 (.slice (some ⟨w.heap.size, 0, none⟩) 1 1) [18] :=
    (Own.mk (rest := []) (Nat.le_refl _) (Blk.new w 5 [.int .u8 18]) rfl (by decide)).alloc _
  have o2 : Own ((w.alloc (.cells #[.int .u8 18] 5)).alloc (.cells #[.int .u8 52] 5)) w.heap.size 5 .u8 (.slice (some ⟨w.heap.size + 1, 0, none⟩) 1 1) [52] := by
    have := Own.mk (w := (w.alloc (.cells #[.int .u8 18] 5)).alloc (.cells #[.int .u8 52] 5)) (base := w.heap.size) (T := 5) (k := .u8) (g := w.heap.size + 1) (c := 1) (xs := [52]) (rest := []) (by omega) (by have := Blk.new (w.alloc (.cells #[.int .u8 18] 5)) 5 [.int .u8 52]; simpa using this) rfl (by decide)
    exact this
  refine (trade_own 15 _ _ [18] [52] w.heap.size _ o1 o2 (by intro g hg hg2; simp [Value.ownBlock] at hg hg2; omega) rfl (by omega)).mono ?_
  rintro e w1 ⟨rfl, k1, k2, hf⟩
  have e1 : List.zipWith (tr1 15) [18] [52] = [20] := by decide
  have e2 : List.zipWith (tr2 15) [18] [52] = [50] := by decide
  rw [e1] at k1
  rw [e2] at k2
  obtain ⟨A1, c1, h1, _, _, hr1, _⟩ := k1.slice
  obtain ⟨A2, c2, h2, _, _, hr2, _⟩ := k2.slice
  obtain ⟨b1, off1, hA1, hc1⟩ := hr1 0 (by simp)
  obtain ⟨b2, off2, hA2, hc2⟩ := hr2 0 (by simp)
  subst hA1 hA2
  simp at h1 h2
  obtain ⟨⟨rfl, rfl⟩, rfl⟩ := h1
  obtain ⟨⟨rfl, rfl⟩, rfl⟩ := h2
  simp at hc1 hc2
  have hb : Below w.heap.size w w1 := (((Below.refl _ w).alloc (Nat.le_refl _) _).alloc (by simp) _).trans (hf.below (by simp; omega) (by rintro k (hk | hk) <;> simp [Value.ownBlock] at hk <;> omega))
  clear k1 k2 hf o1 o2 hr1 hr2 e1 e2
  go_wp2_with fail
  refine (bit_any 7 _ (by omega) (by omega)).mono ?_
  rintro e w' ⟨rfl, rfl⟩
  rw [show mk (decide ((7 : Int) % 2 = 1)) = 18446744073709551615 from rfl]
  go_wp2_with fail
  refine (equal_any 5 5 _ (by omega) (by omega) (by omega) (by omega)).mono ?_
  rintro e w' ⟨rfl, rfl⟩
  rw [show mk (decide ((5 : Int) = 5)) = 18446744073709551615 from rfl]
  go_wp2_with fail
  refine (equal_any 5 4 _ (by omega) (by omega) (by omega) (by omega)).mono ?_
  rintro e w' ⟨rfl, rfl⟩
  rw [show mk (decide ((5 : Int) = 4)) = 0 from rfl]
  go_wp2_with fail
  refine (pick_any 12 5 9 _).mono ?_
  rintro e w' ⟨rfl, rfl⟩
  rw [show pk 12 5 9 = 5 from by decide]
  go_wp2_with fail
  refine (choose_lit _).mono ?_
  rintro e w' ⟨rfl, rfl⟩
  go_wp2_with fail
  go_ret
  exact ⟨rfl, hb⟩

theorem mkb (p : Prop) [Decidable p] (b : Bool) (h : decide p = b) : mk (decide p) = mk b := by rw [h]

set_option maxHeartbeats 1000000 in
theorem words_walk (M X Y : Nat) (w : World) (hM : M < 18446744073709551616) (hX : X < 18446744073709551616) (hY : Y < 18446744073709551616) :
    Calls Try.prog 5 #[.int .u64 M, .int .u64 X, .int .u64 Y] w fun e w' => e = .returned (.bool true) ∧ Below w.heap.size w w' := by
  obtain ⟨b1, H1⟩ : ∃ b, Hid (decide ((X : Int) % 2 = 1) = b) := ⟨_, Lib.hid rfl⟩
  obtain ⟨b2, H2⟩ : ∃ b, Hid (decide ((X : Int) = 0) = b) := ⟨_, Lib.hid rfl⟩
  obtain ⟨b3, H3⟩ : ∃ b, Hid (decide ((X : Int) = Y) = b) := ⟨_, Lib.hid rfl⟩
  obtain ⟨b4, H4⟩ : ∃ b, Hid (decide ((X : Int) < Y) = b) := ⟨_, Lib.hid rfl⟩
  have HS : Hid (sw M X Y = (swN M X Y : Nat)) := Lib.hid (sw_nat M X Y hM hX hY)
  have HP : Hid (pk M X Y = (pkN M X Y : Nat)) := Lib.hid (pk_nat M X Y hM hX hY)
  have HSP : Hid (pkN M Y X = swN M X Y) := Lib.hid (by unfold pkN swN; rw [Nat.xor_comm Y X])
  go_enter Try.func5, Try.ntmps5
  go_wp2_with fail
  refine (bit_any X _ (by omega) (by omega)).mono ?_
  rintro e w' ⟨rfl, rfl⟩
  rw [mkb _ _ H1.out]
  go_wp2_with fail
  refine (mask_any _ _).mono ?_
  rintro e w' ⟨rfl, rfl⟩
  rw [show ((X : Int) % 2 == 1) = b1 from H1.out]
  go_wp2_with fail
  refine (zero_any X _ (by omega) (by omega)).mono ?_
  rintro e w' ⟨rfl, rfl⟩
  rw [mkb _ _ H2.out]
  go_wp2_with fail
  refine (mask_any _ _).mono ?_
  rintro e w' ⟨rfl, rfl⟩
  rw [show ((X : Int) == 0) = b2 from H2.out]
  go_wp2_with fail
  refine (equal_any X Y _ (by omega) (by omega) (by omega) (by omega)).mono ?_
  rintro e w' ⟨rfl, rfl⟩
  rw [mkb _ _ H3.out]
  go_wp2_with fail
  refine (mask_any _ _).mono ?_
  rintro e w' ⟨rfl, rfl⟩
  rw [show ((X : Int) == Y) = b3 from H3.out]
  go_wp2_with fail
  refine (less_any X Y _ (by omega) (by omega) (by omega) (by omega)).mono ?_
  rintro e w' ⟨rfl, rfl⟩
  rw [mkb _ _ H4.out]
  go_wp2_with fail
  refine (mask_any _ _).mono ?_
  rintro e w' ⟨rfl, rfl⟩
  rw [show decide (X < Y) = b4 from by rw [← H4.out]; simp]
  go_wp2_with fail
  refine (swap_any M X Y _).mono ?_
  rintro e w' ⟨rfl, rfl⟩
  rw [show bits .xor .u64 (X : Int) (bits .and .u64 (M : Int) (bits .xor .u64 (X : Int) (Y : Int))) = (swN M X Y : Nat) from HS.out, HP.out]
  go_wp2_with fail
  refine (pick_any M X Y _).mono ?_
  rintro e w' ⟨rfl, rfl⟩
  rw [HP.out]
  go_wp2_with fail
  refine (rpick_any M X Y _ hM hX hY).mono ?_
  rintro e w' ⟨rfl, rfl⟩
  go_wp2_with fail
  refine (rpick_any M Y X _ hM hY hX).mono ?_
  rintro e w' ⟨rfl, rfl⟩
  rw [HSP.out]
  go_wp2_with fail
  refine (rpick_any M X Y _ hM hX hY).mono ?_
  rintro e w' ⟨rfl, rfl⟩
  go_wp2_with fail
  refine (works_any _).mono ?_
  rintro e w' ⟨rfl, hb⟩
  go_wp2_with fail
  go_ret
  exact ⟨by simp, hb⟩

set_option maxHeartbeats 1000000 in
theorem choose_walk (M X Y : Nat) (w : World) (hM : M < 18446744073709551616) (hX : X < 18446744073709551616) (hY : Y < 18446744073709551616) :
    Calls Try.prog 3 #[.int .u64 M, .int .u64 X, .int .u64 Y] w fun e w' => e = .returned (.bool true) ∧ Below w.heap.size w w' := by
  go_enter Try.func3, Try.ntmps3
  go_wp2_with fail
  refine (rpick_any M X Y _ hM hX hY).mono ?_
  rintro e w' ⟨rfl, rfl⟩
  go_wp2_with fail
  refine (choose13_nat M X Y _ hM hX hY).mono ?_
  rintro e w' ⟨rfl, rfl⟩
  go_wp2_with fail
  refine (choose14_nat M X Y _ hM hX hY).mono ?_
  rintro e w' ⟨rfl, rfl⟩
  go_wp2_with fail
  refine (choose15_nat M X Y _ hM hX hY).mono ?_
  rintro e w' ⟨rfl, rfl⟩
  go_wp2_with fail
  refine (choose_word 16 (.inl rfl) M X Y _ hM hX hY).mono ?_
  rintro e w' ⟨rfl, rfl⟩
  go_wp2_with fail
  refine (choose17_nat M X Y _ hM hX hY).mono ?_
  rintro e w' ⟨rfl, rfl⟩
  go_wp2_with fail
  refine (choose18_nat M X Y _ hM hX hY).mono ?_
  rintro e w' ⟨rfl, rfl⟩
  go_wp2_with fail
  refine (choose19_nat M X Y _ hM hX hY).mono ?_
  rintro e w' ⟨rfl, rfl⟩
  go_wp2_with fail
  refine (choose20_nat M X Y _ hM hX hY).mono ?_
  rintro e w' ⟨rfl, rfl⟩
  go_wp2_with fail
  refine (choose21_nat M X Y _ hM hX hY).mono ?_
  rintro e w' ⟨rfl, rfl⟩
  go_wp2_with fail
  refine (choose_word 22 (.inr rfl) M X Y _ hM hX hY).mono ?_
  rintro e w' ⟨rfl, rfl⟩
  go_wp2_with fail
  refine (works_any _).mono ?_
  rintro e w' ⟨rfl, hb⟩
  go_wp2_with fail
  go_ret
  exact ⟨by simp, hb⟩

set_option maxHeartbeats 2000000 in
theorem picks_walk (M X Y : Nat) (w : World) (hM : M < 18446744073709551616) (hX : X < 18446744073709551616) (hY : Y < 18446744073709551616) :
    Calls Try.prog 4 #[.int .u64 M, .int .u64 X, .int .u64 Y] w fun e w' => e = .returned (.bool true) ∧ Below w.heap.size w w' := by
  have l1 := swN_lt (x := X) (y := Y) hM hX
  have l2 := pkN_lt (m := M) (x := X) (y := Y) hM hY
  have HS : Hid (sw M X Y = (swN M X Y : Nat)) := Lib.hid (sw_nat M X Y hM hX hY)
  have HP : Hid (pk M X Y = (pkN M X Y : Nat)) := Lib.hid (pk_nat M X Y hM hX hY)
  have HS2 : Hid (sw M (swN M X Y : Nat) (pkN M X Y : Nat) = X) := Lib.hid (by rw [sw_nat M _ _ hM l1 l2, twice_sw])
  have HP2 : Hid (pk M (swN M X Y : Nat) (pkN M X Y : Nat) = Y) := Lib.hid (by rw [pk_nat M _ _ hM l1 l2, twice_pk])
  have HXX : Hid (pk M X X = X) := Lib.hid (by rw [pk_nat M X X hM hX hX, pkN_same])
  obtain ⟨a, HA⟩ : ∃ a : Nat, Hid (swN M X Y = a) := ⟨_, Lib.hid rfl⟩
  obtain ⟨b, HB⟩ : ∃ a : Nat, Hid (pkN M X Y = a) := ⟨_, Lib.hid rfl⟩
  rw [HA.out, HB.out] at HS2 HP2
  rw [HA.out] at HS
  rw [HB.out] at HP
  have hx : bits .xor .u64 (a : Int) (b : Int) = bits .xor .u64 (X : Int) (Y : Int) := by
    rw [HA.out] at l1
    rw [HB.out] at l2
    rw [u64_xor_nat a b l1 l2, u64_xor_nat X Y hX hY, ← HA.out, ← HB.out, sw_xor_pk]
  have hadd : (a : Int) + (b : Int) = (X : Int) + (Y : Int) := by
    have := sw_add_pk M X Y
    rw [HA.out, HB.out] at this
    omega
  have hx2 : (bits .xor .u64 (a : Int) (b : Int) == bits .xor .u64 (X : Int) (Y : Int)) = true := beq_iff_eq.2 hx
  have ha2 : (IntKind.u64.wrap ((a : Int) + (b : Int)) == IntKind.u64.wrap ((X : Int) + (Y : Int))) = true := by rw [hadd]; simp
  clear hx hadd
  rw [HA.out] at l1
  rw [HB.out] at l2
  have hall : ∃ c : Bool, Hid (decide ((M : Int) % 2 = 1) = c) := ⟨_, Lib.hid rfl⟩
  obtain ⟨c, HC⟩ := hall
  have fin : ∀ (P Q : Int), (c = true → P = X ∧ Q = Y) → (c = false → P = Y ∧ Q = X) → pk (mk c) X Y = P → sw (mk c) X Y = Q →
      Calls Try.prog 4 #[.int .u64 M, .int .u64 X, .int .u64 Y] w fun e w' => e = .returned (.bool true) ∧ Below w.heap.size w w' := by
    intro P Q hc1 hc2 hP hQ
    have HPP := Lib.hid hP
    have HQQ := Lib.hid hQ
    clear hP hQ
    cases c
    · obtain ⟨rfl, rfl⟩ := hc2 rfl
      clear hc1 hc2
      have hm1 : ((M : Int) % 2 == 1) = false := HC.out
      have hm0 : ((M : Int) % 2 == 0) = true := by have h := HC.out; simp at h; simp; omega
      go_enter Try.func4, Try.ntmps4
      go_wp2_with fail
      refine (bit_any M _ (by omega) (by omega)).mono ?_
      rintro e w' ⟨rfl, rfl⟩
      rw [mkb _ _ HC.out]
      go_wp2_with fail
      refine (pick_any _ X Y _).mono ?_
      rintro e w' ⟨rfl, rfl⟩
      rw [HPP.out]
      go_wp2_with fail
      refine (swap_any _ X Y _).mono ?_
      rintro e w' ⟨rfl, rfl⟩
      rw [show bits .xor .u64 (X : Int) (bits .and .u64 (mk false) (bits .xor .u64 (X : Int) (Y : Int))) = (X : Int) from HQQ.out, HPP.out]
      go_wp2_with fail
      refine (yes_any _ _).mono ?_
      rintro e w' ⟨rfl, rfl⟩
      go_wp2_with fail
      refine (pick_any _ X X _).mono ?_
      rintro e w' ⟨rfl, rfl⟩
      rw [HXX.out]
      go_wp2_with fail
      refine (swap_any _ X Y _).mono ?_
      rintro e w' ⟨rfl, rfl⟩
      rw [show bits .xor .u64 (X : Int) (bits .and .u64 (M : Int) (bits .xor .u64 (X : Int) (Y : Int))) = (a : Int) from HS.out, HP.out]
      go_wp2_with fail
      refine (swap_any _ a b _).mono ?_
      rintro e w' ⟨rfl, rfl⟩
      rw [show bits .xor .u64 (a : Int) (bits .and .u64 (M : Int) (bits .xor .u64 (a : Int) (b : Int))) = (X : Int) from HS2.out, HP2.out]
      go_wp2_with fail
      refine (works_any _).mono ?_
      rintro e w' ⟨rfl, hb⟩
      go_wp2_with fail
      go_ret
      exact ⟨by simp, hb⟩
    · obtain ⟨rfl, rfl⟩ := hc1 rfl
      clear hc1 hc2
      have hm1 : ((M : Int) % 2 == 1) = true := HC.out
      have hm0 : ((M : Int) % 2 == 0) = false := by have h := HC.out; simp at h; simp; omega
      go_enter Try.func4, Try.ntmps4
      go_wp2_with fail
      refine (bit_any M _ (by omega) (by omega)).mono ?_
      rintro e w' ⟨rfl, rfl⟩
      rw [mkb _ _ HC.out]
      go_wp2_with fail
      refine (pick_any _ X Y _).mono ?_
      rintro e w' ⟨rfl, rfl⟩
      rw [HPP.out]
      go_wp2_with fail
      refine (swap_any _ X Y _).mono ?_
      rintro e w' ⟨rfl, rfl⟩
      rw [show bits .xor .u64 (X : Int) (bits .and .u64 (mk true) (bits .xor .u64 (X : Int) (Y : Int))) = (Y : Int) from HQQ.out, HPP.out]
      go_wp2_with fail
      refine (yes_any _ _).mono ?_
      rintro e w' ⟨rfl, rfl⟩
      go_wp2_with fail
      refine (pick_any _ X X _).mono ?_
      rintro e w' ⟨rfl, rfl⟩
      rw [HXX.out]
      go_wp2_with fail
      refine (swap_any _ X Y _).mono ?_
      rintro e w' ⟨rfl, rfl⟩
      rw [show bits .xor .u64 (X : Int) (bits .and .u64 (M : Int) (bits .xor .u64 (X : Int) (Y : Int))) = (a : Int) from HS.out, HP.out]
      go_wp2_with fail
      refine (swap_any _ a b _).mono ?_
      rintro e w' ⟨rfl, rfl⟩
      rw [show bits .xor .u64 (a : Int) (bits .and .u64 (M : Int) (bits .xor .u64 (a : Int) (b : Int))) = (X : Int) from HS2.out, HP2.out]
      go_wp2_with fail
      refine (works_any _).mono ?_
      rintro e w' ⟨rfl, hb⟩
      go_wp2_with fail
      go_ret
      exact ⟨by simp, hb⟩
  cases c
  · exact fin Y X (fun h => by cases h) (fun _ => ⟨rfl, rfl⟩) (by have := pk_nat 0 X Y (by omega) hX hY; rw [pkN_zero] at this; exact this) (by have := sw_nat 0 X Y (by omega) hX hY; rw [swN_zero] at this; exact this)
  · exact fin X Y (fun _ => ⟨rfl, rfl⟩) (fun h => by cases h) (by have := pk_nat 18446744073709551615 X Y (by omega) hX hY; rw [pkN_all X Y hX hY] at this; exact this) (by have := sw_nat 18446744073709551615 X Y (by omega) hX hY; rw [swN_all X Y hX hY] at this; exact this)
end Go.Proofs.Ytmmmmabfnnblfaa

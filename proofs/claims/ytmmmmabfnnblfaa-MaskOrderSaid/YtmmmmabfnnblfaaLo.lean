/-
  Walk of the law MaskOrder.
-/
import Derived.Test.YtmmmmabfnnblfaaLw
set_option linter.unusedVariables false
set_option linter.unusedSimpArgs false
namespace Go.Proofs.Ytmmmmabfnnblfaa
open Go.RowKit

theorem bef_tri : ∀ (xs ys : List Int), (bef xs ys = true ∧ bef ys xs = false ∧ xs ≠ ys) ∨ (bef xs ys = false ∧ bef ys xs = true ∧ xs ≠ ys) ∨ (bef xs ys = false ∧ bef ys xs = false ∧ xs = ys)
  | [], [] => by simp [bef]
  | [], _ :: _ => by simp [bef]
  | _ :: _, [] => by simp [bef]
  | x :: xs, y :: ys => by
    by_cases h : x = y
    · subst h
      rcases bef_tri xs ys with ⟨h1, h2, h3⟩ | ⟨h1, h2, h3⟩ | ⟨h1, h2, h3⟩
      · left; simp [bef, h1, h2, h3]
      · right; left; simp [bef, h1, h2, h3]
      · subst h3; right; right; simp [bef, h1]
    · have h' : ¬ y = x := fun e => h e.symm
      by_cases hl : x < y
      · left; simp [bef, h, h', hl]; omega
      · right; left; simp [bef, h, h', hl]; omega
theorem bef_trans : ∀ (xs ys zs : List Int), bef xs ys = true → bef ys zs = true → bef xs zs = true
  | [], [], _, h, _ => by simp [bef] at h
  | _ :: _, [], _, h, _ => by simp [bef] at h
  | [], _ :: _, [], _, h => by simp [bef] at h
  | _ :: _, _ :: _, [], _, h => by simp [bef] at h
  | [], _ :: _, _ :: _, _, _ => by simp [bef]
  | x :: xs, y :: ys, z :: zs, h, k => by
    unfold bef at h k ⊢
    by_cases h1 : x = y
    · subst h1
      rw [if_pos rfl] at h
      by_cases h2 : x = z
      · subst h2
        rw [if_pos rfl] at k ⊢
        exact bef_trans xs ys zs h k
      · rw [if_neg h2] at k ⊢; exact k
    · rw [if_neg h1] at h
      by_cases h2 : y = z
      · subst h2
        rw [if_neg h1]; exact h
      · rw [if_neg h2] at k
        simp at h k
        rw [if_neg (by omega)]; simp; omega

theorem yes0 (w : World) : Calls Try.prog 27 #[.int .u64 0] w fun e w' => e = .returned (.bool true) ∧ w = w' := yes_any false w
theorem yesY (w : World) : Calls Try.prog 27 #[.int .u64 18446744073709551615] w fun e w' => e = .returned (.bool true) ∧ w = w' := yes_any true w
theorem word_tri (X Y : Nat) : ((decide ((X : Int) < Y)) = true ∧ decide ((Y : Int) < X) = false ∧ decide ((X : Int) = Y) = false) ∨ ((decide ((X : Int) < Y)) = false ∧ decide ((Y : Int) < X) = true ∧ decide ((X : Int) = Y) = false) ∨ ((decide ((X : Int) < Y)) = false ∧ decide ((Y : Int) < X) = false ∧ decide ((X : Int) = Y) = true) := by
  simp only [decide_eq_true_eq, decide_eq_false_iff_not]; omega

set_option maxHeartbeats 4000000 in
theorem order_walk (X Y : Nat) (A B C : Option Addr) (c d ce : Nat) (xs ys zs : List Int) (w : World) (hX : X < 18446744073709551616) (hY : Y < 18446744073709551616)
    (hx : Rd w .u8 A xs) (hy : Rd w .u8 B ys) (hz : Rd w .u8 C zs) (bx : B8 xs) (yb : B8 ys) (bz : B8 zs) (lx : xs.length ≤ 140737488351232) (ly : ys.length ≤ 140737488351232) (lz : zs.length ≤ 140737488351232) :
    Calls Try.prog 10 #[.agg #[.int .u64 X, .int .u64 Y, .slice A xs.length c, .slice B ys.length d, .slice C zs.length ce]] w fun e w' => e = .returned (.bool true) ∧ Below w.heap.size w w' := by
  have HX := Lib.hid hx
  have HY := Lib.hid hy
  have HZ := Lib.hid hz
  have BX := Lib.hid bx
  have BY := Lib.hid yb
  have BZ := Lib.hid bz
  have HT := Lib.hid (word_tri X Y)
  have HB := Lib.hid (bef_tri xs ys)
  have HTr := Lib.hid (bef_trans xs ys zs)
  clear hx hy hz bx yb bz
  obtain ⟨b1, H1⟩ : ∃ b, Hid (decide ((X : Int) < Y) = b) := ⟨_, Lib.hid rfl⟩
  obtain ⟨b2, H2⟩ : ∃ b, Hid (decide ((Y : Int) < X) = b) := ⟨_, Lib.hid rfl⟩
  obtain ⟨b3, H3⟩ : ∃ b, Hid (decide ((X : Int) = Y) = b) := ⟨_, Lib.hid rfl⟩
  have HT' : Hid ((b1 = true ∧ b2 = false ∧ b3 = false) ∨ (b1 = false ∧ b2 = true ∧ b3 = false) ∨ (b1 = false ∧ b2 = false ∧ b3 = true)) := Lib.hid (by rw [← H1.out, ← H2.out, ← H3.out]; exact HT.out)
  clear HT
  obtain ⟨c1, K1⟩ : ∃ b, Hid (bef xs ys = b) := ⟨_, Lib.hid rfl⟩
  obtain ⟨c2, K2⟩ : ∃ b, Hid (bef ys xs = b) := ⟨_, Lib.hid rfl⟩
  obtain ⟨c3, K3⟩ : ∃ b, Hid (decide (xs = ys) = b) := ⟨_, Lib.hid rfl⟩
  obtain ⟨c4, K4⟩ : ∃ b, Hid (bef ys zs = b) := ⟨_, Lib.hid rfl⟩
  obtain ⟨c5, K5⟩ : ∃ b, Hid (bef xs zs = b) := ⟨_, Lib.hid rfl⟩
  have K6 : Hid (decide (ys = xs) = c3) := Lib.hid (by rw [← K3.out, decide_eq_decide]; exact eq_comm)
  have KT : Hid ((c1 = true ∧ c2 = false ∧ c3 = false) ∨ (c1 = false ∧ c2 = true ∧ c3 = false) ∨ (c1 = false ∧ c2 = false ∧ c3 = true)) := Lib.hid (by
    rw [← K1.out, ← K2.out, ← K3.out]; simpa using HB.out)
  have KR : Hid (c1 = true → c4 = true → c5 = true) := Lib.hid (by rw [← K1.out, ← K4.out, ← K5.out]; exact HTr.out)
  have R0 : ∀ v, Below w.heap.size w (w.alloc v) := fun v => (Below.refl _ w).alloc (Nat.le_refl _) v
  have RR := Lib.hid R0
  clear HB HTr R0
  obtain ⟨Z, HZZ⟩ : ∃ Z : Nat, Hid (X ^^^ Y = Z) := ⟨_, Lib.hid rfl⟩
  have hzl : Z < 18446744073709551616 := by rw [← HZZ.out]; exact Nat.xor_lt_two_pow (n := 64) hX hY
  have hzx : bits .xor .u64 (X : Int) (Y : Int) = ((Z : Nat) : Int) := by rw [← HZZ.out]; exact u64_xor_nat X Y hX hY
  have H4 : Hid (decide ((Z : Int) = 0) = b3) := Lib.hid (by
    rw [← H3.out, ← HZZ.out, decide_eq_decide]
    have hx : X ^^^ Y = 0 ↔ X = Y := by
      constructor
      · intro h
        have h3 : X ^^^ Y ^^^ Y = 0 ^^^ Y := by rw [h]
        simpa [Nat.xor_assoc] using h3
      · rintro rfl; simp
    omega)
  go_enter Try.func10, Try.ntmps10
  go_wp2_with fail
  refine (less_any X Y _ (by omega) (by omega) (by omega) (by omega)).mono ?_
  rintro e w' ⟨rfl, rfl⟩
  rw [mkb _ _ H1.out]
  go_wp2_with fail
  refine (less_any Y X _ (by omega) (by omega) (by omega) (by omega)).mono ?_
  rintro e w' ⟨rfl, rfl⟩
  rw [mkb _ _ H2.out]
  go_wp2_with fail
  refine (equal_any X Y _ (by omega) (by omega) (by omega) (by omega)).mono ?_
  rintro e w' ⟨rfl, rfl⟩
  rw [mkb _ _ H3.out]
  rcases HT'.out with ⟨rfl, rfl, rfl⟩ | ⟨rfl, rfl, rfl⟩ | ⟨rfl, rfl, rfl⟩
  · simp only [mk_true, mk_false]
    go_wp2_with fail
    refine (yesY _).mono ?_
    rintro e w' ⟨rfl, rfl⟩
    go_wp2_with fail
    refine (yes0 _).mono ?_
    rintro e w' ⟨rfl, rfl⟩
    go_wp2_with fail
    refine (yes0 _).mono ?_
    rintro e w' ⟨rfl, rfl⟩
    go_wp2_with fail
    refine (zero_any Z _ (by omega) (by omega)).mono ?_
    rintro e w' ⟨rfl, rfl⟩
    rw [mkb _ _ H4.out]
    try simp only [mk_true, mk_false]
    go_wp2_with fail
    refine (before_any A B c d xs ys _ (HX.out.below (RR.out _)) (HY.out.below (RR.out _)) (by omega) (by omega) BX.out.bytes BY.out.bytes).mono ?_
    rintro e w' ⟨n1, rfl, rfl⟩
    rw [K1.out]
    go_wp2_with fail
    refine (before_any B A d c ys xs _ (HY.out.below (belowN (RR.out _) _)) (HX.out.below (belowN (RR.out _) _)) (by omega) (by omega) BY.out.bytes BX.out.bytes).mono ?_
    rintro e w' ⟨n2, rfl, rfl⟩
    rw [K2.out]
    go_wp2_with fail
    refine (same_any A B c d xs ys _ (HX.out.below (belowN (RR.out _) _)) (HY.out.below (belowN (RR.out _) _)) (by omega) (by omega) BX.out.bytes BY.out.bytes).mono ?_
    rintro e w' ⟨n3, rfl, rfl⟩
    rw [K3.out]
    go_wp2_with fail
    refine (yes_any _ _).mono ?_
    rintro e w' ⟨rfl, rfl⟩
    go_wp2_with fail
    refine (yes_any _ _).mono ?_
    rintro e w' ⟨rfl, rfl⟩
    go_wp2_with fail
    refine (yes_any _ _).mono ?_
    rintro e w' ⟨rfl, rfl⟩
    rcases KT.out with ⟨rfl, rfl, rfl⟩ | ⟨rfl, rfl, rfl⟩ | ⟨rfl, rfl, rfl⟩
    all_goals
      simp only [mk_true, mk_false]
      go_wp2_with fail
      refine (same_any B A d c ys xs _ (HY.out.below (belowN (RR.out _) _)) (HX.out.below (belowN (RR.out _) _)) (by omega) (by omega) BY.out.bytes BX.out.bytes).mono ?_
      rintro e w' ⟨n4, rfl, rfl⟩
      rw [K6.out]
      simp only [mk_true, mk_false]
      go_wp2_with fail
      refine (before_any B C d ce ys zs _ (HY.out.below (belowN (RR.out _) _)) (HZ.out.below (belowN (RR.out _) _)) (by omega) (by omega) BY.out.bytes BZ.out.bytes).mono ?_
      rintro e w' ⟨n5, rfl, rfl⟩
      rw [K4.out]
      go_wp2_with fail
      refine (before_any A C c ce xs zs _ (HX.out.below (belowN (RR.out _) _)) (HZ.out.below (belowN (RR.out _) _)) (by omega) (by omega) BX.out.bytes BZ.out.bytes).mono ?_
      rintro e w' ⟨n6, rfl, rfl⟩
      rw [K5.out]
      have Kr := KR.out
      cases c4
      · cases c5
        · simp only [mk_true, mk_false]
          go_wp2_with fail
          refine (works_any _).mono ?_
          rintro e w' ⟨rfl, hb⟩
          go_wp2_with fail
          go_ret
          exact ⟨rfl, (belowN (RR.out _) _).trans (hb.mono (belowN (RR.out _) _).size)⟩
        · simp only [mk_true, mk_false]
          go_wp2_with fail
          refine (works_any _).mono ?_
          rintro e w' ⟨rfl, hb⟩
          go_wp2_with fail
          go_ret
          exact ⟨rfl, (belowN (RR.out _) _).trans (hb.mono (belowN (RR.out _) _).size)⟩
      · cases c5
        · first
          | (exfalso; simp at Kr; done)
          | (simp only [mk_true, mk_false]
             go_wp2_with fail
             refine (works_any _).mono ?_
             rintro e w' ⟨rfl, hb⟩
             go_wp2_with fail
             go_ret
             exact ⟨rfl, (belowN (RR.out _) _).trans (hb.mono (belowN (RR.out _) _).size)⟩)
        · simp only [mk_true, mk_false]
          go_wp2_with fail
          refine (works_any _).mono ?_
          rintro e w' ⟨rfl, hb⟩
          go_wp2_with fail
          go_ret
          exact ⟨rfl, (belowN (RR.out _) _).trans (hb.mono (belowN (RR.out _) _).size)⟩
  · simp only [mk_true, mk_false]
    go_wp2_with fail
    refine (yes0 _).mono ?_
    rintro e w' ⟨rfl, rfl⟩
    go_wp2_with fail
    refine (yesY _).mono ?_
    rintro e w' ⟨rfl, rfl⟩
    go_wp2_with fail
    refine (yes0 _).mono ?_
    rintro e w' ⟨rfl, rfl⟩
    go_wp2_with fail
    refine (zero_any Z _ (by omega) (by omega)).mono ?_
    rintro e w' ⟨rfl, rfl⟩
    rw [mkb _ _ H4.out]
    try simp only [mk_true, mk_false]
    go_wp2_with fail
    refine (before_any A B c d xs ys _ (HX.out.below (RR.out _)) (HY.out.below (RR.out _)) (by omega) (by omega) BX.out.bytes BY.out.bytes).mono ?_
    rintro e w' ⟨n1, rfl, rfl⟩
    rw [K1.out]
    go_wp2_with fail
    refine (before_any B A d c ys xs _ (HY.out.below (belowN (RR.out _) _)) (HX.out.below (belowN (RR.out _) _)) (by omega) (by omega) BY.out.bytes BX.out.bytes).mono ?_
    rintro e w' ⟨n2, rfl, rfl⟩
    rw [K2.out]
    go_wp2_with fail
    refine (same_any A B c d xs ys _ (HX.out.below (belowN (RR.out _) _)) (HY.out.below (belowN (RR.out _) _)) (by omega) (by omega) BX.out.bytes BY.out.bytes).mono ?_
    rintro e w' ⟨n3, rfl, rfl⟩
    rw [K3.out]
    go_wp2_with fail
    refine (yes_any _ _).mono ?_
    rintro e w' ⟨rfl, rfl⟩
    go_wp2_with fail
    refine (yes_any _ _).mono ?_
    rintro e w' ⟨rfl, rfl⟩
    go_wp2_with fail
    refine (yes_any _ _).mono ?_
    rintro e w' ⟨rfl, rfl⟩
    rcases KT.out with ⟨rfl, rfl, rfl⟩ | ⟨rfl, rfl, rfl⟩ | ⟨rfl, rfl, rfl⟩
    all_goals
      simp only [mk_true, mk_false]
      go_wp2_with fail
      refine (same_any B A d c ys xs _ (HY.out.below (belowN (RR.out _) _)) (HX.out.below (belowN (RR.out _) _)) (by omega) (by omega) BY.out.bytes BX.out.bytes).mono ?_
      rintro e w' ⟨n4, rfl, rfl⟩
      rw [K6.out]
      simp only [mk_true, mk_false]
      go_wp2_with fail
      refine (before_any B C d ce ys zs _ (HY.out.below (belowN (RR.out _) _)) (HZ.out.below (belowN (RR.out _) _)) (by omega) (by omega) BY.out.bytes BZ.out.bytes).mono ?_
      rintro e w' ⟨n5, rfl, rfl⟩
      rw [K4.out]
      go_wp2_with fail
      refine (before_any A C c ce xs zs _ (HX.out.below (belowN (RR.out _) _)) (HZ.out.below (belowN (RR.out _) _)) (by omega) (by omega) BX.out.bytes BZ.out.bytes).mono ?_
      rintro e w' ⟨n6, rfl, rfl⟩
      rw [K5.out]
      have Kr := KR.out
      cases c4
      · cases c5
        · simp only [mk_true, mk_false]
          go_wp2_with fail
          refine (works_any _).mono ?_
          rintro e w' ⟨rfl, hb⟩
          go_wp2_with fail
          go_ret
          exact ⟨rfl, (belowN (RR.out _) _).trans (hb.mono (belowN (RR.out _) _).size)⟩
        · simp only [mk_true, mk_false]
          go_wp2_with fail
          refine (works_any _).mono ?_
          rintro e w' ⟨rfl, hb⟩
          go_wp2_with fail
          go_ret
          exact ⟨rfl, (belowN (RR.out _) _).trans (hb.mono (belowN (RR.out _) _).size)⟩
      · cases c5
        · first
          | (exfalso; simp at Kr; done)
          | (simp only [mk_true, mk_false]
             go_wp2_with fail
             refine (works_any _).mono ?_
             rintro e w' ⟨rfl, hb⟩
             go_wp2_with fail
             go_ret
             exact ⟨rfl, (belowN (RR.out _) _).trans (hb.mono (belowN (RR.out _) _).size)⟩)
        · simp only [mk_true, mk_false]
          go_wp2_with fail
          refine (works_any _).mono ?_
          rintro e w' ⟨rfl, hb⟩
          go_wp2_with fail
          go_ret
          exact ⟨rfl, (belowN (RR.out _) _).trans (hb.mono (belowN (RR.out _) _).size)⟩
  · simp only [mk_true, mk_false]
    go_wp2_with fail
    refine (yes0 _).mono ?_
    rintro e w' ⟨rfl, rfl⟩
    go_wp2_with fail
    refine (yes0 _).mono ?_
    rintro e w' ⟨rfl, rfl⟩
    go_wp2_with fail
    refine (yesY _).mono ?_
    rintro e w' ⟨rfl, rfl⟩
    go_wp2_with fail
    refine (zero_any Z _ (by omega) (by omega)).mono ?_
    rintro e w' ⟨rfl, rfl⟩
    rw [mkb _ _ H4.out]
    try simp only [mk_true, mk_false]
    go_wp2_with fail
    refine (before_any A B c d xs ys _ (HX.out.below (RR.out _)) (HY.out.below (RR.out _)) (by omega) (by omega) BX.out.bytes BY.out.bytes).mono ?_
    rintro e w' ⟨n1, rfl, rfl⟩
    rw [K1.out]
    go_wp2_with fail
    refine (before_any B A d c ys xs _ (HY.out.below (belowN (RR.out _) _)) (HX.out.below (belowN (RR.out _) _)) (by omega) (by omega) BY.out.bytes BX.out.bytes).mono ?_
    rintro e w' ⟨n2, rfl, rfl⟩
    rw [K2.out]
    go_wp2_with fail
    refine (same_any A B c d xs ys _ (HX.out.below (belowN (RR.out _) _)) (HY.out.below (belowN (RR.out _) _)) (by omega) (by omega) BX.out.bytes BY.out.bytes).mono ?_
    rintro e w' ⟨n3, rfl, rfl⟩
    rw [K3.out]
    go_wp2_with fail
    refine (yes_any _ _).mono ?_
    rintro e w' ⟨rfl, rfl⟩
    go_wp2_with fail
    refine (yes_any _ _).mono ?_
    rintro e w' ⟨rfl, rfl⟩
    go_wp2_with fail
    refine (yes_any _ _).mono ?_
    rintro e w' ⟨rfl, rfl⟩
    rcases KT.out with ⟨rfl, rfl, rfl⟩ | ⟨rfl, rfl, rfl⟩ | ⟨rfl, rfl, rfl⟩
    all_goals
      simp only [mk_true, mk_false]
      go_wp2_with fail
      refine (same_any B A d c ys xs _ (HY.out.below (belowN (RR.out _) _)) (HX.out.below (belowN (RR.out _) _)) (by omega) (by omega) BY.out.bytes BX.out.bytes).mono ?_
      rintro e w' ⟨n4, rfl, rfl⟩
      rw [K6.out]
      simp only [mk_true, mk_false]
      go_wp2_with fail
      refine (before_any B C d ce ys zs _ (HY.out.below (belowN (RR.out _) _)) (HZ.out.below (belowN (RR.out _) _)) (by omega) (by omega) BY.out.bytes BZ.out.bytes).mono ?_
      rintro e w' ⟨n5, rfl, rfl⟩
      rw [K4.out]
      go_wp2_with fail
      refine (before_any A C c ce xs zs _ (HX.out.below (belowN (RR.out _) _)) (HZ.out.below (belowN (RR.out _) _)) (by omega) (by omega) BX.out.bytes BZ.out.bytes).mono ?_
      rintro e w' ⟨n6, rfl, rfl⟩
      rw [K5.out]
      have Kr := KR.out
      cases c4
      · cases c5
        · simp only [mk_true, mk_false]
          go_wp2_with fail
          refine (works_any _).mono ?_
          rintro e w' ⟨rfl, hb⟩
          go_wp2_with fail
          go_ret
          exact ⟨rfl, (belowN (RR.out _) _).trans (hb.mono (belowN (RR.out _) _).size)⟩
        · simp only [mk_true, mk_false]
          go_wp2_with fail
          refine (works_any _).mono ?_
          rintro e w' ⟨rfl, hb⟩
          go_wp2_with fail
          go_ret
          exact ⟨rfl, (belowN (RR.out _) _).trans (hb.mono (belowN (RR.out _) _).size)⟩
      · cases c5
        · first
          | (exfalso; simp at Kr; done)
          | (simp only [mk_true, mk_false]
             go_wp2_with fail
             refine (works_any _).mono ?_
             rintro e w' ⟨rfl, hb⟩
             go_wp2_with fail
             go_ret
             exact ⟨rfl, (belowN (RR.out _) _).trans (hb.mono (belowN (RR.out _) _).size)⟩)
        · simp only [mk_true, mk_false]
          go_wp2_with fail
          refine (works_any _).mono ?_
          rintro e w' ⟨rfl, hb⟩
          go_wp2_with fail
          go_ret
          exact ⟨rfl, (belowN (RR.out _) _).trans (hb.mono (belowN (RR.out _) _).size)⟩
end Go.Proofs.Ytmmmmabfnnblfaa

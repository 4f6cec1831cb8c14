/-
  Walk of the law MaskLists.
-/
import Derived.Test.YtmmmmabfnnblfaaLw
set_option linter.unusedVariables false
set_option linter.unusedSimpArgs false
namespace Go.Proofs.Ytmmmmabfnnblfaa
open Go.RowKit

theorem lentL_len (xs : List Int) : (lentL xs).length = xs.length + 64 := by simp [lentL, marks_length]
theorem lentL_take (xs : List Int) : (lentL xs).take xs.length = xs := by simp [lentL]
theorem lent_form {w : World} {B : Nat} {v : Value} {xs : List Int} (h : Own w B 5 .u8 v (lentL xs)) :
    ∃ g c, v = .slice (some ⟨g, 0, none⟩) (xs.length + 64) c ∧ B ≤ g ∧ xs.length + 64 ≤ c ∧ c ≤ 9223372036854775807 ∧ (∃ rest, Blk w g 5 (xs.map (Value.int .u8) ++ rest) ∧ Blk w g 5 ((lentL xs).map (Value.int .u8) ++ rest.drop 64)) ∧ Rd w .u8 (some ⟨g, 0, none⟩) (lentL xs) ∧ Rd w .u8 (some ⟨g, 0, none⟩) xs := by
  obtain ⟨A1, c1, h1, _, _, hr, _⟩ := h.slice
  rcases h.form with ⟨_, hx⟩ | ⟨g, c, rest, rfl, hb, hB, hc, hm⟩
  · have := congrArg List.length hx
    rw [lentL_len] at this; simp at this
  · injection h1 with e1 e2 e3
    subst e1
    refine ⟨g, c, by rw [lentL_len], hb, by rw [lentL_len] at hc; omega, by unfold maxLen at hm; omega, ⟨(marks 64).map (Value.int .u8) ++ rest, by simpa [lentL] using hB, ?_⟩, hr, ?_⟩
    · rw [List.drop_append_of_le_length (by simp [marks_length])]
      rw [List.drop_of_length_le (by simp [marks_length])]
      simpa using hB
    · have := hr.take xs.length
      rwa [lentL_take] at this

theorem bef_self (xs : List Int) : bef xs xs = false := by
  induction xs with
  | nil => rfl
  | cons x xs ih => simp [bef, ih]

theorem Rd.draws {w : World} {k : IntKind} {A : Option Addr} {xs : List Int} (h : Rd w k A xs) (n : Nat) : Rd (w.drewN n) k A xs := h
theorem kept_own {w : World} {B T c : Nat} {v : Value} {A : Option Addr} {zs ys : List Int} (h : Own w B T .u8 v zs) (hy : Rd w .u8 A ys) (hm : ys.length ≤ 140737488351232) :
    Calls Try.prog 35 #[v, .slice A ys.length c] w fun e w' => e = .returned (.bool (decide (zs = lentL ys))) ∧ Below w.heap.size w w' := by
  have := h.len
  unfold maxLen at this
  obtain ⟨A1, c1, rfl, _, _, hr, _⟩ := h.slice
  exact kept_any A1 A c1 c zs ys w hr hy (by omega) (by omega)

set_option maxHeartbeats 1000000 in
theorem lists_walk (A B : Option Addr) (c d : Nat) (xs ys : List Int) (w : World) (hx : Rd w .u8 A xs) (hy : Rd w .u8 B ys) (bx : B8 xs) (yb : B8 ys) (lx : xs.length ≤ 140737488351232) (ly : ys.length ≤ 140737488351232) :
    Calls Try.prog 9 #[.slice A xs.length c, .slice B ys.length d] w fun e w' => e = .returned (.bool true) ∧ Below w.heap.size w w' := by
  have HX := Lib.hid hx
  have HYY := Lib.hid hy
  have BX := Lib.hid bx
  have BY := Lib.hid yb
  obtain ⟨b1, H1⟩ : ∃ b, Hid (decide (xs = ys) = b) := ⟨_, Lib.hid rfl⟩
  obtain ⟨b2, H2⟩ : ∃ b, Hid (bef xs ys = b) := ⟨_, Lib.hid rfl⟩
  clear hx hy bx yb
  go_enter Try.func9, Try.ntmps9
  go_wp2_with fail
  refine (lent_any A c xs w HX.out (by omega)).mono ?_
  rintro e w1 ⟨v1, rfl, o1, bw1⟩
  obtain ⟨g1, k1, rfl, hg1, hk1, hm1, -, -, -⟩ := lent_form o1
  have O1 := Lib.hid o1
  have B1 := Lib.hid bw1
  clear o1 bw1
  go_wp2_with fail
  refine (lent_any B d ys w1 (HYY.out.below B1.out) (by omega)).mono ?_
  rintro e w2 ⟨v2, rfl, o2, bw2⟩
  obtain ⟨g2, k2, rfl, hg2, hk2, hm2, -, -, -⟩ := lent_form o2
  have O2 := Lib.hid (o2.lower B1.out.size)
  have P1 := Lib.hid (O1.out.below bw2)
  have B2 := Lib.hid (B1.out.trans (bw2.mono B1.out.size))
  clear o2 bw2 O1 B1
  obtain ⟨_, _, he1, _, _, _, _, r1l, r1⟩ := lent_form P1.out
  obtain ⟨_, _, he2, _, _, _, _, r2l, r2⟩ := lent_form O2.out
  cases he1
  cases he2
  have R1 := Lib.hid r1
  have R2 := Lib.hid r2
  have R1L := Lib.hid r1l
  have R2L := Lib.hid r2l
  clear r1 r2 r1l r2l
  go_wp2_with fail
  refine (same_any _ _ k1 k2 xs ys _ R1.out R2.out (by omega) (by omega) BX.out.bytes BY.out.bytes).mono ?_
  rintro e w' ⟨n1, rfl, rfl⟩
  rw [H1.out]
  go_wp2_with fail
  refine (rsame_any A B c d xs ys _ (HX.out.below (belowN B2.out _)) (HYY.out.below (belowN B2.out _)) (by omega) (by omega)).mono ?_
  rintro e w' ⟨n2, rfl, rfl⟩
  rw [H1.out]
  go_wp2_with fail
  refine (mask_any _ _).mono ?_
  rintro e w' ⟨rfl, rfl⟩
  go_wp2_with fail
  refine (before_any _ _ k1 k2 xs ys _ (R1.out.draws _) (R2.out.draws _) (by omega) (by omega) BX.out.bytes BY.out.bytes).mono ?_
  rintro e w' ⟨n3, rfl, rfl⟩
  rw [H2.out]
  go_wp2_with fail
  refine (rbefore_any A B c d xs ys _ (HX.out.below (belowN B2.out _)) (HYY.out.below (belowN B2.out _)) (by omega) (by omega)).mono ?_
  rintro e w' ⟨n4, rfl, rfl⟩
  rw [H2.out]
  go_wp2_with fail
  refine (mask_any _ _).mono ?_
  rintro e w' ⟨rfl, rfl⟩
  go_wp2_with fail
  refine (same_any _ _ k1 k1 xs xs _ (R1.out.draws _) (R1.out.draws _) (by omega) (by omega) BX.out.bytes BX.out.bytes).mono ?_
  rintro e w' ⟨n5, rfl, rfl⟩
  rw [show mk (decide (xs = xs)) = 18446744073709551615 from by simp [mk]]
  go_wp2_with fail
  refine (before_any _ _ k2 k2 ys ys _ (R2.out.draws _) (R2.out.draws _) (by omega) (by omega) BY.out.bytes BY.out.bytes).mono ?_
  rintro e w' ⟨n6, rfl, rfl⟩
  rw [show mk (bef ys ys) = 0 from by simp [mk, bef_self]]
  go_wp2_with fail
  refine (kept_own (P1.out.drewN _) (HX.out.below (belowN B2.out _)) (by omega)).mono ?_
  rintro e w3 ⟨rfl, bw3⟩
  rw [show decide (lentL xs = lentL xs) = true from by simp]
  have B3 := Lib.hid ((belowN B2.out _).trans (bw3.mono B2.out.size))
  have O3 := Lib.hid ((O2.out.drewN _).below bw3)
  clear bw3
  go_wp2_with fail
  refine (kept_own O3.out (HYY.out.below B3.out) (by omega)).mono ?_
  rintro e w4 ⟨rfl, bw4⟩
  rw [show decide (lentL ys = lentL ys) = true from by simp]
  have B4 := Lib.hid (B3.out.trans (bw4.mono B3.out.size))
  clear bw4
  go_wp2_with fail
  refine (works_any _).mono ?_
  rintro e w5 ⟨rfl, bw5⟩
  go_wp2_with fail
  go_ret
  exact ⟨rfl, B4.out.trans (bw5.mono B4.out.size)⟩
end Go.Proofs.Ytmmmmabfnnblfaa

/-
  Plain laws of lists of bytes: trades, copies.
-/
import Derived.Test.YtmmmmabfnnblfaaLs
import Derived.Test.YtmmmmabfnnblfaaOpn
import Derived.Laws.BitsAllLaws
set_option linter.unusedVariables false
namespace Go.Proofs.Ytmmmmabfnnblfaa
open Go.RowKit

def B8 (xs : List Int) : Prop := ∀ x ∈ xs, 0 ≤ x ∧ x ≤ 255
theorem Fit.b8 {xs : List Int} (h : Fit .u8 xs) : B8 xs := fun x hx => by
  simpa [Lit.wf, IntKind.min, IntKind.max, IntKind.signed, IntKind.bits] using h x hx
theorem B8.bytes {xs : List Int} (h : B8 xs) : Bytes xs := fun i => by
  by_cases hi : i < xs.length
  · have := h (xs[i]) (List.getElem_mem hi)
    simpa [List.getD, hi] using this
  · simp [List.getD, Nat.le_of_not_lt hi]
theorem B8.nat {x : Int} (h : 0 ≤ x ∧ x ≤ 255) : ∃ n : Nat, x = n ∧ n < 256 := ⟨x.toNat, by omega, by omega⟩

theorem zz (f g h : Int → Int → Int) : ∀ (xs ys : List Int), xs.length = ys.length → B8 xs → B8 ys → (∀ x y, (0 ≤ x ∧ x ≤ 255) → (0 ≤ y ∧ y ≤ 255) → f (g x y) (h x y) = x) → List.zipWith f (List.zipWith g xs ys) (List.zipWith h xs ys) = xs
  | [], [], _, _, _, _ => rfl
  | [], _ :: _, hl, _, _, _ => by simp at hl
  | _ :: _, [], hl, _, _, _ => by simp at hl
  | x :: xs, y :: ys, hl, hx, hy, H => by
    simp only [List.zipWith_cons_cons]
    rw [H x y (hx x List.mem_cons_self) (hy y List.mem_cons_self), zz f g h xs ys (by simpa using hl) (fun a ha => hx a (List.mem_cons_of_mem _ ha)) (fun a ha => hy a (List.mem_cons_of_mem _ ha)) H]
theorem zz2 (f g h : Int → Int → Int) : ∀ (xs ys : List Int), xs.length = ys.length → B8 xs → B8 ys → (∀ x y, (0 ≤ x ∧ x ≤ 255) → (0 ≤ y ∧ y ≤ 255) → f (g x y) (h x y) = y) → List.zipWith f (List.zipWith g xs ys) (List.zipWith h xs ys) = ys
  | [], [], _, _, _, _ => rfl
  | [], _ :: _, hl, _, _, _ => by simp at hl
  | _ :: _, [], hl, _, _, _ => by simp at hl
  | x :: xs, y :: ys, hl, hx, hy, H => by
    simp only [List.zipWith_cons_cons]
    rw [H x y (hx x List.mem_cons_self) (hy y List.mem_cons_self), zz2 f g h xs ys (by simpa using hl) (fun a ha => hx a (List.mem_cons_of_mem _ ha)) (fun a ha => hy a (List.mem_cons_of_mem _ ha)) H]
theorem z1 (f : Int → Int → Int) : ∀ (xs ys : List Int), xs.length = ys.length → B8 xs → B8 ys → (∀ x y, (0 ≤ x ∧ x ≤ 255) → (0 ≤ y ∧ y ≤ 255) → f x y = x) → List.zipWith f xs ys = xs
  | [], [], _, _, _, _ => rfl
  | [], _ :: _, hl, _, _, _ => by simp at hl
  | _ :: _, [], hl, _, _, _ => by simp at hl
  | x :: xs, y :: ys, hl, hx, hy, H => by
    simp only [List.zipWith_cons_cons]
    rw [H x y (hx x List.mem_cons_self) (hy y List.mem_cons_self), z1 f xs ys (by simpa using hl) (fun a ha => hx a (List.mem_cons_of_mem _ ha)) (fun a ha => hy a (List.mem_cons_of_mem _ ha)) H]
theorem z2 (f : Int → Int → Int) : ∀ (xs ys : List Int), xs.length = ys.length → B8 xs → B8 ys → (∀ x y, (0 ≤ x ∧ x ≤ 255) → (0 ≤ y ∧ y ≤ 255) → f x y = y) → List.zipWith f xs ys = ys
  | [], [], _, _, _, _ => rfl
  | [], _ :: _, hl, _, _, _ => by simp at hl
  | _ :: _, [], hl, _, _, _ => by simp at hl
  | x :: xs, y :: ys, hl, hx, hy, H => by
    simp only [List.zipWith_cons_cons]
    rw [H x y (hx x List.mem_cons_self) (hy y List.mem_cons_self), z2 f xs ys (by simpa using hl) (fun a ha => hx a (List.mem_cons_of_mem _ ha)) (fun a ha => hy a (List.mem_cons_of_mem _ ha)) H]
theorem zB8 (f : Int → Int → Int) (H : ∀ x y, (0 ≤ x ∧ x ≤ 255) → (0 ≤ y ∧ y ≤ 255) → 0 ≤ f x y ∧ f x y ≤ 255) : ∀ (xs ys : List Int), B8 xs → B8 ys → B8 (List.zipWith f xs ys)
  | [], _, _, _ => fun x hx => by simp at hx
  | _ :: _, [], _, _ => fun x hx => by simp at hx
  | x :: xs, y :: ys, hx, hy => fun z hz => by
    rw [List.zipWith_cons_cons, List.mem_cons] at hz
    rcases hz with rfl | hz
    · exact H _ _ (hx x List.mem_cons_self) (hy y List.mem_cons_self)
    · exact zB8 f H xs ys (fun a ha => hx a (List.mem_cons_of_mem _ ha)) (fun a ha => hy a (List.mem_cons_of_mem _ ha)) z hz

theorem tr1_nat (M X Y : Nat) (hX : X < 256) (hY : Y < 256) : tr1 M X Y = ((swN (M % 256) X Y : Nat) : Int) := by
  unfold tr1 swN
  have h1 : X ^^^ Y < 256 := Nat.xor_lt_two_pow (n := 8) hX hY
  have h2 : M % 256 &&& (X ^^^ Y) < 256 := Nat.and_lt_two_pow (n := 8) _ h1
  rw [u8_xor_nat X Y hX hY, show (M : Int) % 256 = ((M % 256 : Nat) : Int) by simp, u8_and_nat _ _ (by omega) h1, u8_xor_nat _ _ hX h2]
theorem tr2_nat (M X Y : Nat) (hX : X < 256) (hY : Y < 256) : tr2 M X Y = ((pkN (M % 256) X Y : Nat) : Int) := by
  unfold tr2 pkN
  have h1 : X ^^^ Y < 256 := Nat.xor_lt_two_pow (n := 8) hX hY
  have h2 : M % 256 &&& (X ^^^ Y) < 256 := Nat.and_lt_two_pow (n := 8) _ h1
  rw [u8_xor_nat X Y hX hY, show (M : Int) % 256 = ((M % 256 : Nat) : Int) by simp, u8_and_nat _ _ (by omega) h1, u8_xor_nat _ _ hY h2]
theorem swN8 (M X Y : Nat) (hX : X < 256) (hY : Y < 256) : swN M X Y < 256 :=
  Nat.xor_lt_two_pow (n := 8) hX (Nat.and_lt_two_pow (n := 8) _ (Nat.xor_lt_two_pow (n := 8) hX hY))
theorem pkN8 (M X Y : Nat) (hX : X < 256) (hY : Y < 256) : pkN M X Y < 256 :=
  Nat.xor_lt_two_pow (n := 8) hY (Nat.and_lt_two_pow (n := 8) _ (Nat.xor_lt_two_pow (n := 8) hX hY))
theorem and255 (z : Nat) (h : z < 256) : 255 &&& z = z := by
  rw [Nat.and_comm]; have := Nat.and_two_pow_sub_one_eq_mod z 8; simpa [Nat.mod_eq_of_lt h] using this
theorem swN_255 (X Y : Nat) (hX : X < 256) (hY : Y < 256) : swN 255 X Y = Y := by
  unfold swN; rw [and255 _ (Nat.xor_lt_two_pow (n := 8) hX hY), ← Nat.xor_assoc, Nat.xor_self, Nat.zero_xor]
theorem pkN_255 (X Y : Nat) (hX : X < 256) (hY : Y < 256) : pkN 255 X Y = X := by
  unfold pkN; rw [and255 _ (Nat.xor_lt_two_pow (n := 8) hX hY), Nat.xor_comm X Y, ← Nat.xor_assoc, Nat.xor_self, Nat.zero_xor]

section
variable {x y : Int} (hx : 0 ≤ x ∧ x ≤ 255) (hy : 0 ≤ y ∧ y ≤ 255)
include hx hy
theorem tr1_8 (M : Nat) : 0 ≤ tr1 M x y ∧ tr1 M x y ≤ 255 := by
  obtain ⟨X, rfl, hX⟩ := B8.nat hx
  obtain ⟨Y, rfl, hY⟩ := B8.nat hy
  rw [tr1_nat M X Y hX hY]; have := swN8 (M % 256) X Y hX hY; omega
theorem tr2_8 (M : Nat) : 0 ≤ tr2 M x y ∧ tr2 M x y ≤ 255 := by
  obtain ⟨X, rfl, hX⟩ := B8.nat hx
  obtain ⟨Y, rfl, hY⟩ := B8.nat hy
  rw [tr2_nat M X Y hX hY]; have := pkN8 (M % 256) X Y hX hY; omega
theorem tr_back1 (M : Nat) : tr1 M (tr1 M x y) (tr2 M x y) = x := by
  obtain ⟨X, rfl, hX⟩ := B8.nat hx
  obtain ⟨Y, rfl, hY⟩ := B8.nat hy
  rw [tr1_nat M X Y hX hY, tr2_nat M X Y hX hY, tr1_nat _ _ _ (swN8 _ X Y hX hY) (pkN8 _ X Y hX hY), twice_sw]
theorem tr_back2 (M : Nat) : tr2 M (tr1 M x y) (tr2 M x y) = y := by
  obtain ⟨X, rfl, hX⟩ := B8.nat hx
  obtain ⟨Y, rfl, hY⟩ := B8.nat hy
  rw [tr1_nat M X Y hX hY, tr2_nat M X Y hX hY, tr2_nat _ _ _ (swN8 _ X Y hX hY) (pkN8 _ X Y hX hY), twice_pk]
theorem tr1_all : tr1 18446744073709551615 x y = y := by
  obtain ⟨X, rfl, hX⟩ := B8.nat hx
  obtain ⟨Y, rfl, hY⟩ := B8.nat hy
  have := tr1_nat 18446744073709551615 X Y hX hY
  rw [show (18446744073709551615 : Int) = ((18446744073709551615 : Nat) : Int) from rfl, this, show 18446744073709551615 % 256 = 255 from rfl, swN_255 X Y hX hY]
theorem tr2_all : tr2 18446744073709551615 x y = x := by
  obtain ⟨X, rfl, hX⟩ := B8.nat hx
  obtain ⟨Y, rfl, hY⟩ := B8.nat hy
  have := tr2_nat 18446744073709551615 X Y hX hY
  rw [show (18446744073709551615 : Int) = ((18446744073709551615 : Nat) : Int) from rfl, this, show 18446744073709551615 % 256 = 255 from rfl, pkN_255 X Y hX hY]
theorem tr1_none : tr1 0 x y = x := by
  obtain ⟨X, rfl, hX⟩ := B8.nat hx
  obtain ⟨Y, rfl, hY⟩ := B8.nat hy
  have := tr1_nat 0 X Y hX hY
  rw [show (0 : Int) = ((0 : Nat) : Int) from rfl, this, show 0 % 256 = 0 from rfl, swN_zero]
theorem tr2_none : tr2 0 x y = y := by
  obtain ⟨X, rfl, hX⟩ := B8.nat hx
  obtain ⟨Y, rfl, hY⟩ := B8.nat hy
  have := tr2_nat 0 X Y hX hY
  rw [show (0 : Int) = ((0 : Nat) : Int) from rfl, this, show 0 % 256 = 0 from rfl, pkN_zero]
theorem ch8_all : ch8 18446744073709551615 y x = y := by
  obtain ⟨X, rfl, hX⟩ := B8.nat hx
  obtain ⟨Y, rfl, hY⟩ := B8.nat hy
  unfold ch8
  rw [show (18446744073709551615 : Int) = ((18446744073709551615 : Nat) : Int) from rfl, pk_nat _ Y X (by omega) (by omega) (by omega), pkN_all Y X (by omega) (by omega)]; omega
theorem ch8_none : ch8 0 y x = x := by
  obtain ⟨X, rfl, hX⟩ := B8.nat hx
  obtain ⟨Y, rfl, hY⟩ := B8.nat hy
  unfold ch8
  rw [show (0 : Int) = ((0 : Nat) : Int) from rfl, pk_nat _ Y X (by omega) (by omega) (by omega), pkN_zero]; omega
end
end Go.Proofs.Ytmmmmabfnnblfaa

/-
  Walks: what Laplace and Shuffle refuse; plain: no noise at 0.
-/
import Derived.Test.YtcfbaildcocnhaaSf
set_option linter.unusedVariables false
set_option linter.unusedSimpArgs false
namespace Go.Proofs.Ytcfbaildcocnhaa
open Go.RowKit

theorem lap_nil (M X : Int) (al : Nat) (w : World) : Calls Try.prog 44 #[.pointer none, .int .i64 M, .float .f64 al, .int .i64 X] w fun e w' => e = .returned (.tuple #[.int .i64 0, .int .i64 1]) ∧ Below w.heap.size w w' := by
  have hb : Below w.heap.size w (((w.alloc (.cells #[.int .i64 M] 3)).alloc (.cells #[.float .f64 al] 22)).alloc (.cells #[.int .i64 X] 3)) := (((Below.refl _ w).alloc (Nat.le_refl _) _).alloc (by simp) _).alloc (by simp; omega) _
  have HB := Lib.hid hb
  clear hb
  go_enter Try.func44, Try.ntmps44
  go_wp2_with fail
  go_ret2
  exact ⟨rfl, HB.out⟩
theorem lap_arg (S : Nat) (M : Int) (al : Nat) (w : World) : Calls Try.prog 44 #[.pointer (some ⟨S, 0, none⟩), .int .i64 M, .float .f64 al, .int .i64 65] w fun e w' => e = .returned (.tuple #[.int .i64 0, .int .i64 2]) ∧ Below w.heap.size w w' := by
  have hb : Below w.heap.size w (((w.alloc (.cells #[.int .i64 M] 3)).alloc (.cells #[.float .f64 al] 22)).alloc (.cells #[.int .i64 65] 3)) := (((Below.refl _ w).alloc (Nat.le_refl _) _).alloc (by simp) _).alloc (by simp; omega) _
  have HB := Lib.hid hb
  clear hb
  go_enter Try.func44, Try.ntmps44
  go_wp2_with fail
  go_ret2
  exact ⟨rfl, HB.out⟩
theorem lap_float (S M X al : Nat) (w : World) (hX : X ≤ 64) (hM : M ≤ X)
    (h : ((FloatKind.f64.format.order al 0 == some .gt || FloatKind.f64.format.order al 0 == some .eq) && (FloatKind.f64.format.order al 4607182418800017408 == some .lt)) = false) :
    Calls Try.prog 44 #[.pointer (some ⟨S, 0, none⟩), .int .i64 (M : Int), .float .f64 al, .int .i64 (X : Int)] w fun e w' => e = .returned (.tuple #[.int .i64 0, .int .i64 260]) ∧ Below w.heap.size w w' := by
  have hb : Below w.heap.size w (((w.alloc (.cells #[.int .i64 (M : Int)] 3)).alloc (.cells #[.float .f64 al] 22)).alloc (.cells #[.int .i64 (X : Int)] 3)) := (((Below.refl _ w).alloc (Nat.le_refl _) _).alloc (by simp) _).alloc (by simp; omega) _
  have HB := Lib.hid hb
  clear hb
  have d1 : decide ((X : Int) < 0) = false := by simp
  have d2 : decide ((64 : Int) < (X : Int)) = false := by simp; omega
  have d3 : decide ((M : Int) < 0) = false := by simp
  have d4 : decide ((X : Int) < (M : Int)) = false := by simp; omega
  obtain ⟨A, hA⟩ : ∃ A, (FloatKind.f64.format.order al 0 == some .gt || FloatKind.f64.format.order al 0 == some .eq) = A := ⟨_, rfl⟩
  obtain ⟨B, hB⟩ : ∃ B, (FloatKind.f64.format.order al 4607182418800017408 == some .lt) = B := ⟨_, rfl⟩
  rw [hA, hB] at h
  cases A
  · clear h
    go_enter Try.func44, Try.ntmps44
    go_wp2_with fail
    go_ret2
    exact ⟨rfl, HB.out⟩
  · obtain rfl : B = false := by simpa using h
    clear h
    go_enter Try.func44, Try.ntmps44
    go_wp2_with fail
    go_ret2
    exact ⟨rfl, HB.out⟩
theorem shuffle_none (S : Nat) (n : Int) (w : World) (h : n < 1 ∨ 65536 < n) : Calls Try.prog 39 #[.pointer (some ⟨S, 0, none⟩), .int .i64 n] w fun e w' => e = .returned (.slice none 0 0) ∧ w' = w := by
  by_cases h1 : n < 1
  · have d1 : decide (n < 1) = true := decide_eq_true h1
    clear h
    go_enter Try.func39, Try.ntmps39
    go_wp2_with fail
    go_ret
    exact ⟨rfl, rfl⟩
  · have d1 : decide (n < 1) = false := decide_eq_false h1
    have h2 : 65536 < n := by omega
    have d2 : decide (65536 < n) = true := decide_eq_true h2
    clear h
    go_enter Try.func39, Try.ntmps39
    go_wp2_with fail
    go_ret
    exact ⟨rfl, rfl⟩
theorem lapN0 (ks : List Int) (M X p : Nat) (h : M ≤ X) : lapN ks 0 M X p = M := by
  rcases Nat.eq_zero_or_pos (M + X) with h0 | h0
  · obtain rfl : M = 0 := by omega
    obtain rfl : X = 0 := by omega
    rfl
  · rw [(lap_zero' ks M X p (M + X - 1) (by omega)).1]
    unfold lapM
    omega
theorem lapN_le (ks : List Int) (al M X p : Nat) : lapN ks al M X p ≤ X := by
  unfold lapN lapM
  exact Nat.min_le_left _ _
/-- An order of the numbers below n, none among them. -/
theorem shuffle_all (S n : Nat) (ks : List Int) (p : Nat) (w : World) (hs : Src w S ks p) (hk : ks.length = 32) (bk : B8 ks) (h2 : n ≤ 65536) :
    Calls Try.prog 39 #[.pointer (some ⟨S, 0, none⟩), .int .i64 (n : Int)] w fun e w' => ∃ (A : Option Addr) (c : Nat) (l : List Int) (q : Nat), e = .returned (.slice A n c) ∧ l.length = n ∧ (∀ x, x < n → l.count ((x : Nat) : Int) = 1) ∧ Rd w' .i64 A l ∧ Src w' S ks q ∧ Fr (fun b => b = S) w w' := by
  rcases Nat.eq_zero_or_pos n with rfl | h1
  · refine (shuffle_none S (0 : Nat) w (.inl (by decide))).mono ?_
    rintro e w' ⟨rfl, rfl⟩
    exact ⟨none, 0, [], p, rfl, rfl, fun x hx => by omega, Rd.nil _ _ _, hs, Fr.refl _ _⟩
  · refine (shuffle_any S n ks p w hs hk bk h1 h2).mono ?_
    rintro e w' ⟨v, rfl, ho, hs', hf⟩
    obtain ⟨A, c, rfl, -, -, hr, -⟩ := ho.slice
    rw [shL_len]
    exact ⟨A, c, shL ks n p, shQ ks n p, rfl, shL_len _ _ _, fun x hx => shL_count ks n p x hx, hr, hs', hf⟩
end Go.Proofs.Ytcfbaildcocnhaa

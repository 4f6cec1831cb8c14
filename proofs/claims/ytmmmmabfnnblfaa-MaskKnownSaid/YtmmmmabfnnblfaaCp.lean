/-
  Walks of Choose of bytes and Copy.
-/
import Derived.Test.YtmmmmabfnnblfaaTr
import Derived.StillTailTactics
import Derived.Deep.RegionWith
import Derived.Deep.RegionHeld3
set_option linter.unusedVariables false
namespace Go.Proofs.Ytmmmmabfnnblfaa
open Go.RowKit

/-- A byte chosen. -/
def ch8 (m x y : Int) : Int := (pk m x y) % 256
theorem choose8_any (m x y : Int) (w : World) (hx : 0 ≤ x) (hx' : x ≤ 255) (hy : 0 ≤ y) (hy' : y ≤ 255) : Calls Try.prog 13 #[.int .u64 m, .int .u8 x, .int .u8 y] w fun e w' => e = .returned (.int .u8 (ch8 m x y)) ∧ w = w' := by
  go_enter Try.func13, Try.ntmps13
  go_wp2_with fail
  refine (pick_any _ _ _ _).mono ?_
  rintro e w' ⟨rfl, rfl⟩
  go_wp2_with fail
  go_ret
  exact ⟨rfl, rfl⟩

set_option maxHeartbeats 1000000 in
theorem copy_blk (m : Int) (g1 c1 c2 : Nat) (A : Option Addr) (xs ys : List Int) (r1 : List Value) (w : World) (h1 : Blk w g1 5 (xs.map (Value.int .u8) ++ r1)) (h2 : Rd w .u8 A ys) (hA : ∀ a, A = some a → a.block ≠ g1)
    (hl : xs.length = ys.length) (hx : xs.length ≤ 9223372036854775807) (wx : ∀ i, i < xs.length → 0 ≤ xs.getD i 0 ∧ xs.getD i 0 ≤ 255) (wy : ∀ i, i < ys.length → 0 ≤ ys.getD i 0 ∧ ys.getD i 0 ≤ 255) :
    Calls Try.prog 34 #[.int .u64 m, .slice (some ⟨g1, 0, none⟩) xs.length c1, .slice A ys.length c2] w fun e w' =>
      e = .returned (.int .i64 0) ∧ Blk w' g1 5 ((List.zipWith (fun x y => ch8 m y x) xs ys).map (Value.int .u8) ++ r1) ∧ Fr (fun k => k = g1) w w' := by
  have hb : (xs.length == ys.length) = true := beq_iff_eq.2 hl
  have hbi : ((xs.length : Int) != (ys.length : Int)) = false := by rw [hl]; simp
  have HL := Lib.hid hl
  have H1 := Lib.hid h1
  have H2 := Lib.hid h2
  have HA := Lib.hid hA
  have HL1 : Hid ((List.zipWith (fun x y => ch8 m y x) xs ys).length = xs.length) := Lib.hid (by simp [hl])
  have hy : ys.length ≤ 9223372036854775807 := by omega
  have WX := Lib.hid wx
  have WY := Lib.hid wy
  clear hl h1 h2 hA wx wy
  go_enter Try.func34, Try.ntmps34
  go_wp2
  go_loopw [15] (fun i wr => ∃ k : Nat, k ≤ xs.length ∧ i = .int .i64 k ∧ Hid (Blk wr g1 5 ((upd k (List.zipWith (fun x y => ch8 m y x) xs ys) xs).map (Value.int .u8) ++ r1)) ∧ Hid (Fr (fun k => k = g1) w wr)) (fun i _ => xs.length - (intOf i).toNat)
  case atStart => exact ⟨0, Nat.zero_le _, rfl, Lib.hid (by rw [upd_zero]; exact H1.out), Lib.hid (Fr.refl _ _)⟩
  case round =>
    clear hb hbi H1
    obtain ⟨k, hk, rfl, hb1, hfr⟩ := hrel
    by_cases hlt : k < xs.length
    · have hlt2 : k < ys.length := by have := HL.out; omega
      have hc1 := blk_upd_cell hb1.out HL1.out hlt
      have hf1 := hb1.out.frozen k
      have wx := WX.out k hlt
      have wy := WY.out k hlt2
      obtain ⟨x, HXX⟩ : ∃ x, Hid (x = xs.getD k 0) := ⟨_, Lib.hid rfl⟩
      rw [← HXX.out] at hc1 wx
      obtain ⟨b, off, y, rfl, hc2, HYY⟩ := (H2.out.fr hfr.out (fun a ha => HA.out a ha)).at k hlt2
      rw [← HYY.out] at wy
      obtain ⟨wx1, wx2⟩ := wx
      obtain ⟨wy1, wy2⟩ := wy
      go_wp2_with fail
      go_region_with (go_at_call 13; refine (choose8_any _ _ _ _ (by omega) (by omega) (by omega) (by omega)).mono ?_; rintro e w' ⟨rfl, rfl⟩)
      all_goals
        go_wp2
        go_roundw
        case rel =>
          refine ⟨k + 1, by omega, by go_num, Lib.hid ?_, Lib.hid ?_⟩
          · exact blk_upd_set hb1.out HL1.out hlt (by rw [zipWith_getD _ _ _ _ hlt hlt2, ← HXX.out, ← HYY.out])
          · exact (hfr.out.setCell (p := ⟨g1, k, none⟩) (.inl rfl) _).drew
        case measure => simp [intOf]; omega
    · obtain rfl : k = xs.length := by omega
      go_wp2
      go_ret
      have e1 := hb1.out
      rw [upd_all _ _ HL1.out] at e1
      exact ⟨rfl, e1, hfr.out⟩

/-- Copy of rows of unlike lengths. -/
theorem copy_long (m : Int) (A B : Option Addr) (n1 n2 c1 c2 : Nat) (w : World) (hl : ¬ n1 = n2) :
    Calls Try.prog 34 #[.int .u64 m, .slice A n1 c1, .slice B n2 c2] w fun e w' => e = .returned (.int .i64 4) ∧ w = w' := by
  have hb : (n1 == n2) = false := beq_eq_false_iff_ne.2 hl
  clear hl
  go_enter Try.func34, Try.ntmps34
  go_wp2
  go_ret
  exact ⟨rfl, rfl⟩

theorem copy_none (m : Int) (A B : Option Addr) (c1 c2 : Nat) (w : World) :
    Calls Try.prog 34 #[.int .u64 m, .slice A 0 c1, .slice B 0 c2] w fun e w' => e = .returned (.int .i64 0) ∧ w = w' := by
  go_enter Try.func34, Try.ntmps34
  go_wp2
  go_loop [15] (fun i => i = .int .i64 0) (fun _ => 0)
  case atStart => rfl
  case round =>
    subst hrel
    go_wp2
    go_ret
    exact ⟨rfl, rfl⟩

theorem copy_own (m : Int) (v1 : Value) (A : Option Addr) (c2 : Nat) (xs ys : List Int) (B : Nat) (w : World) (h1 : Own w B 5 .u8 v1 xs) (h2 : Rd w .u8 A ys) (hA : ∀ g a, v1.ownBlock = some g → A = some a → a.block ≠ g)
    (hl : xs.length = ys.length) (wx : ∀ i, i < xs.length → 0 ≤ xs.getD i 0 ∧ xs.getD i 0 ≤ 255) (wy : ∀ i, i < ys.length → 0 ≤ ys.getD i 0 ∧ ys.getD i 0 ≤ 255) :
    Calls Try.prog 34 #[.int .u64 m, v1, .slice A ys.length c2] w fun e w' => e = .returned (.int .i64 0) ∧ Own w' B 5 .u8 v1 (List.zipWith (fun x y => ch8 m y x) xs ys) ∧ Fr (fun k => v1.ownBlock = some k) w w' := by
  rcases h1.form with ⟨rfl, rfl⟩ | ⟨g1, c1, r1, rfl, hb1, hB1, hc1, hm1⟩
  · have hy : ys = [] := List.eq_nil_of_length_eq_zero (by simpa using hl.symm)
    subst hy
    refine (copy_none m none A 0 c2 w).mono ?_
    rintro e w' ⟨rfl, rfl⟩
    exact ⟨rfl, h1, Fr.refl _ _⟩
  · refine (copy_blk m g1 c1 c2 A xs ys r1 w hB1 h2 (fun a ha => hA g1 a rfl ha) hl (by unfold maxLen at hm1; omega) wx wy).mono ?_
    rintro e w' ⟨rfl, k1, hf⟩
    have l1 : (List.zipWith (fun x y => ch8 m y x) xs ys).length = xs.length := by simp [hl]
    have o1 := Own.mk (c := c1) hb1 k1 (by rw [l1]; exact hc1) hm1
    rw [l1] at o1
    exact ⟨rfl, o1, hf.mono (fun k hk => by subst hk; rfl)⟩
end Go.Proofs.Ytmmmmabfnnblfaa

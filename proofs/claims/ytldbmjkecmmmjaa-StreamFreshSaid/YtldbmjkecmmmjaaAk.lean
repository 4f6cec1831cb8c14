/-
  Walk: awake.
-/
import Derived.Test.YtldbmjkecmmmjaaAn
set_option linter.unusedVariables false
set_option linter.unusedSimpArgs false
namespace Go.Proofs.Ytldbmjkecmmmjaa
open Go.RowKit

def Z32 : List Int := List.replicate 32 0
def Z12 : List Int := List.replicate 12 0
def Z4 : List Int := [0, 0, 0, 0]
theorem B8_zero (n : Nat) : B8 (List.replicate n 0) := B8.of (fun x hx => by obtain rfl := List.eq_of_mem_replicate hx; decide)
theorem zArr32 : (#[.int .u8 0, .int .u8 0, .int .u8 0, .int .u8 0, .int .u8 0, .int .u8 0, .int .u8 0, .int .u8 0, .int .u8 0, .int .u8 0, .int .u8 0, .int .u8 0, .int .u8 0, .int .u8 0, .int .u8 0, .int .u8 0, .int .u8 0, .int .u8 0, .int .u8 0, .int .u8 0, .int .u8 0, .int .u8 0, .int .u8 0, .int .u8 0, .int .u8 0, .int .u8 0, .int .u8 0, .int .u8 0, .int .u8 0, .int .u8 0, .int .u8 0, .int .u8 0] : Array Value) = AY .u8 Z32 := by rw [AY_eq]; rfl
theorem zArr12 : (#[.int .u8 0, .int .u8 0, .int .u8 0, .int .u8 0, .int .u8 0, .int .u8 0, .int .u8 0, .int .u8 0, .int .u8 0, .int .u8 0, .int .u8 0, .int .u8 0] : Array Value) = AY .u8 Z12 := by rw [AY_eq]; rfl
theorem quarter_vec : quarter ⟨286331153, 16909060, 2609737539, 19088743⟩ = ⟨3928658676, 3407673550, 1166100270, 1484899515⟩ := by kernel_rfl
set_option maxRecDepth 100000 in
theorem lay_zero_ne : lay Z32 Z12 (64 * 0) Z4 ≠ Z4 := by decide +kernel

set_option maxRecDepth 100000 in
set_option maxHeartbeats 4000000 in
theorem awake_any (w : World) : Calls Try.prog 25 #[] w fun e w' => e = .returned (.bool true) ∧ Below w.heap.size w w' := by
  obtain ⟨R, HNE, HLL, HX⟩ : ∃ R : List Int, Hid (R ≠ Z4) ∧ Hid (R.length = 4) ∧ Hid (∀ W c, Rd W .u8 (some ⟨w.heap.size, 0, none⟩) Z4 → Calls Try.prog 20 #[.agg (AY .u8 Z32), .agg (AY .u8 Z12), .int .u32 0, .slice (some ⟨w.heap.size, 0, none⟩) 4 c] W fun e w' => ∃ v, e = .returned (.tuple #[v, .int .i64 0]) ∧ Own w' W.heap.size 5 .u8 v R ∧ Below W.heap.size W w') :=
    ⟨lay Z32 Z12 (64 * 0) Z4, Lib.hid lay_zero_ne, Lib.hid (lay_len _ _ _ _), Lib.hid (fun W c h => (xor1_any _ 4 c Z4 Z32 Z12 0 W rfl h (B8_zero 4) (by decide) rfl rfl (B8_zero 32) (B8_zero 12) (by decide)).mono (fun e w' hv => by
      rcases hv with ⟨h1, _⟩ | ⟨_, v, h2, h3, h4⟩
      · exact absurd h1 (by decide)
      · exact ⟨v, h2, h3, h4⟩))⟩
  go_enter Try.func25, Try.ntmps25
  go_wp2_with fail
  refine (quarter_any 286331153 16909060 2609737539 19088743 w ⟨by decide, by decide, by decide, by decide⟩).mono ?_
  rintro e w' ⟨rfl, rfl⟩
  rw [quarter_vec]
  have F1 : Hid (Below w.heap.size w (w.alloc (.cells #[.int .u8 0, .int .u8 0, .int .u8 0, .int .u8 0] 5))) := Lib.hid ((Below.refl _ w).alloc (Nat.le_refl _) _)
  have R1 : Hid (Rd (w.alloc (.cells #[.int .u8 0, .int .u8 0, .int .u8 0, .int .u8 0] 5)) .u8 (some ⟨w.heap.size, 0, none⟩) Z4) := Lib.hid (blk_rd0 (xs := Z4) (Blk.new w 5 (Z4.map (Value.int .u8))))
  go_wp2_with fail
  rw [zArr32, zArr12]
  refine (HX.out _ _ R1.out).mono ?_
  rintro e w2 ⟨v, rfl, ho, hb⟩
  have F2 : Hid (Below w.heap.size w w2) := Lib.hid (F1.out.trans (hb.mono (by simp)))
  obtain ⟨A, n, c, hv⟩ : ∃ A n c, v = .slice A n c := by obtain ⟨A, c, h, _⟩ := ho.slice; exact ⟨A, _, c, h⟩
  subst hv
  have HR : Hid (Rd w2 .u8 A R ∧ n = R.length) := Lib.hid (own_rd ho)
  have hn : n = 4 := by rw [HR.out.2, HLL.out]
  subst hn
  have HS2 : Hid (w.heap.size ≤ w2.heap.size) := Lib.hid F2.out.size
  clear ho hb R1 F1
  go_wp2_with fail
  refine (same_any A _ 4 4 c 4 R Z4 _ HR.out.2 rfl (HR.out.1.below ((Below.refl _ w2).alloc (Nat.le_refl _) _)) (blk_rd0 (xs := Z4) (Blk.new w2 5 (Z4.map (Value.int .u8)))) (by rw [HLL.out]; decide) (by decide)).mono ?_
  rintro e w3 ⟨q, rfl, rfl⟩
  rw [decide_eq_false HNE.out]
  go_wp2_with fail
  go_ret
  exact ⟨rfl, belowN (F2.out.alloc HS2.out _) _⟩
end Go.Proofs.Ytldbmjkecmmmjaa

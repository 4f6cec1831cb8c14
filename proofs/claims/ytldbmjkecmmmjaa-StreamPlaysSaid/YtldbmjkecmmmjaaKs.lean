/-
  The key stream and what is laid over it: plain. A stream's block.
-/
import Derived.Test.YtldbmjkecmmmjaaSb
import Derived.Test.YtldbmjkecmmmjaaNw
set_option linter.unusedVariables false
set_option linter.unusedSimpArgs false
namespace Go.Proofs.Ytldbmjkecmmmjaa
open Go.RowKit

/-- The key stream's byte at a place. -/
def kst (ks ns : List Int) (p : Nat) : Int := (blkL ks ns (p / 64 % 4294967296)).getD (p % 64) 0
def xb (a b : Int) : Int := ((a.toNat ^^^ b.toNat : Nat) : Int)
/-- A text laid over the key stream from a place on. -/
def lay (ks ns : List Int) (p : Nat) (xs : List Int) : List Int := (List.range xs.length).map fun i => xb (xs.getD i 0) (kst ks ns (p + i))
theorem lay_len (ks ns : List Int) (p : Nat) (xs : List Int) : (lay ks ns p xs).length = xs.length := by simp [lay]
theorem lay_at (ks ns : List Int) (p : Nat) (xs : List Int) (i : Nat) (h : i < xs.length) : (lay ks ns p xs).getD i 0 = xb (xs.getD i 0) (kst ks ns (p + i)) := by
  unfold lay
  rw [List.getD_eq_getElem?_getD, List.getElem?_map, List.getElem?_range h]; rfl
theorem xb_B8 {a b : Int} (ha : 0 ≤ a ∧ a ≤ 255) (hb : 0 ≤ b ∧ b ≤ 255) : 0 ≤ xb a b ∧ xb a b ≤ 255 := by
  unfold xb
  have := Nat.xor_lt_two_pow (n := 8) (x := a.toNat) (y := b.toNat) (by omega) (by omega)
  omega
theorem kst_B8 (ks ns : List Int) (p : Nat) : 0 ≤ kst ks ns p ∧ kst ks ns p ≤ 255 := blkL_B8 ks ns _ _
theorem lay_B8 {ks ns : List Int} {p : Nat} {xs : List Int} (h : B8 xs) : B8 (lay ks ns p xs) := B8.of fun x hx => by
  unfold lay at hx
  obtain ⟨i, _, rfl⟩ := List.mem_map.1 hx
  exact xb_B8 (h i) (kst_B8 _ _ _)
/-- The places of one block. -/
theorem kst_blk (ks ns : List Int) (q r i : Nat) (hr : q % 64 = r) (hi : r + i < 64) : kst ks ns (q + i) = (blkL ks ns (q / 64 % 4294967296)).getD (r + i) 0 := by
  unfold kst
  have h1 : (q + i) / 64 = q / 64 := by omega
  have h2 : (q + i) % 64 = r + i := by omega
  rw [h1, h2]
attribute [irreducible] lay kst

theorem SGl_range {w : World} {g T : Nat} {ks ns : List Int} {p : Nat} (h : Blk w g T (SGl ks ns p)) (hk : ks.length = 32) (hn : ns.length = 12) :
    w.rangeAt g 0 (ks.map (Value.int .u8)) ∧ w.rangeAt g 32 (ns.map (Value.int .u8)) ∧ w.cell? ⟨g, 44, none⟩ = some (.int .u64 (p : Int)) := by
  obtain ⟨h1, h2, h3⟩ := range_blk (a := ks.map (Value.int .u8)) (b := ns.map (Value.int .u8)) (c := [.int .u64 (p : Int)]) h
  rw [List.length_map, hk] at h2 h3
  rw [List.length_map, hn] at h3
  exact ⟨h1, h2, h3 0 _ rfl⟩
theorem SGl_set {w : World} {g T : Nat} {ks ns : List Int} {p : Nat} (h : Blk w g T (SGl ks ns p)) (hk : ks.length = 32) (hn : ns.length = 12) (q : Nat) : Blk (w.setCell ⟨g, 44, none⟩ (.int .u64 (q : Int))) g T (SGl ks ns q) := by
  have := h.set 44 (.int .u64 (q : Int))
  unfold SGl at this ⊢
  rw [List.set_append_right _ _ (by simp [hk]), List.set_append_right _ _ (by simp [hk, hn])] at this
  simpa [hk, hn] using this
end Go.Proofs.Ytldbmjkecmmmjaa

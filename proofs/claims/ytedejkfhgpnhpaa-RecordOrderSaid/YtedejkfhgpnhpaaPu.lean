/-
  Walks: record.Put; a head under one name.
-/
import Derived.Test.YtedejkfhgpnhpaaPl
set_option linter.unusedVariables false
set_option linter.unusedSimpArgs false
namespace Go.Proofs.Ytedejkfhgpnhpaa
open Go.RowKit

/-- A head's cells, under one name. -/
def hArr (l f i r : Nat) (g : Nat → Int) : Array Value := (hlist l f i r g).toArray
theorem hArr_size (l f i r : Nat) (g : Nat → Int) : (hArr l f i r g).size = 20 := rfl
theorem hArr_agg (l f i r : Nat) (g : Nat → Int) : Value.agg (hArr l f i r g) = hagg l f i r g := rfl
theorem hArr_blk (w : World) (l f i r : Nat) (g : Nat → Int) : Blk (w.alloc (.cells (hArr l f i r g) 26)) w.heap.size 26 (hlist l f i r g) := Blk.new w 26 (hlist l f i r g)
theorem hArr_blk' (w : World) (l f i r : Nat) (g : Nat → Int) : (w.alloc (.cells (hArr l f i r g) 26)).heap[w.heap.size]? = some (.cells (hArr l f i r g) 26 (0, 0)) := Blk.new w 26 (hlist l f i r g)
theorem blk_hArr {w : World} {b : Nat} {l f i r : Nat} {g : Nat → Int} (h : Blk w b 26 (hlist l f i r g)) : w.heap[b]? = some (.cells (hArr l f i r g) 26 (0, 0)) := h
theorem size26 : (Try.prog.info? 26).map (·.size) = some 20 := by kernel_rfl
theorem size26' (l f i r : Nat) (g : Nat → Int) : (Try.prog.info? 26).map (·.size) = some (hArr l f i r g).size := size26
theorem head_arr (l f i r : Nat) (g : Nat → Int) (w : World) (hi : i < 4294967296) (hr : r < 4294967296) :
    Calls Try.prog 33 #[.agg (hArr l f i r g)] w (Made 5 .u8 (hb l f i r g) w) := head_any l f i r g w hi hr
attribute [irreducible] hArr

theorem rput_short (l f i r : Nat) (g : Nat → Int) (A : Option Addr) (n c : Nat) (w : World) (hn : n < 26) :
    Calls Try.prog 18 #[.slice A n c, .agg (hArr l f i r g)] w fun e w' => e = .returned (.int .i64 140) ∧ Below w.heap.size w w' := by
  have W0 := Lib.hid ((Below.refl w.heap.size w).alloc (Nat.le_refl _) (.cells (hArr l f i r g) 26))
  have hlt : decide ((n : Int) < 26) = true := by simp; omega
  go_enter Try.func18, Try.ntmps18
  go_wp2_with fail
  go_ret
  exact ⟨rfl, W0.out⟩

set_option maxHeartbeats 1000000 in
theorem rput_any (l f i r : Nat) (g : Nat → Int) (b n c : Nat) (xs : List Int) (rest : List Value) (w : World) (hn : n = xs.length) (h26 : 26 ≤ n) (hB : Blk w b 5 (xs.map (Value.int .u8) ++ rest)) (hi : i < 4294967296) (hr : r < 4294967296) :
    Calls Try.prog 18 #[.slice (some ⟨b, 0, none⟩) n c, .agg (hArr l f i r g)] w fun e w' => e = .returned (.int .i64 0) ∧ Blk w' b 5 ((hb l f i r g ++ xs.drop 26).map (Value.int .u8) ++ rest) ∧ Fr (fun j => j = b) w w' := by
  have W0 := Lib.hid ((Below.refl w.heap.size w).alloc (Nat.le_refl _) (.cells (hArr l f i r g) 26))
  have HB := Lib.hid hB
  clear hB
  have hge : decide ((n : Int) < 26) = false := by simp; omega
  have HN := Lib.hid hn
  have HX := Lib.hid (hArr_blk' w l f i r g)
  clear hn
  go_enter Try.func18, Try.ntmps18
  go_wp2_with (refine wpList_load_row rfl 26 _ rfl w.heap.size rfl 26 (hArr l f i r g) (0, 0) _ HX.out Try.underlying26 rfl (size26' l f i r g) ?_)
  refine (head_arr l f i r g _ hi hr).mono ?_
  rintro e w1 ⟨v1, rfl, o1, b1⟩
  have W1 := Lib.hid (W0.out.trans (b1.mono W0.out.size))
  have B1 := Lib.hid (HB.out.below W1.out HB.out.lt)
  obtain ⟨A1, c1, rfl, -, -, rd1, -⟩ := o1.slice
  have R1 := Lib.hid rd1
  have hl := hb_len l f i r g
  have HL := Lib.hid hl.symm
  have HLE : Hid ((hb l f i r g).length ≤ n) := Lib.hid (by omega)
  have HDA : Hid (n ≤ xs.length) := Lib.hid (by have := HN.out; omega)
  rw [hl]
  clear rd1 o1 b1 hl
  go_wp2_with (first
    | (refine wpList_copy_rd w1 rfl _ _ 27 27 rfl 5 Try.underlying27 size5' b n c A1 26 c1 rfl rfl .u8 5 xs (hb l f i r g) rest B1.out R1.out HL.out HLE.out HDA.out ?_; intro w2 hb2 hf2))
  go_ret
  refine ⟨rfl, by rw [HL.out]; exact hb2, ?_⟩
  exact (Fr.of_below W1.out _).trans hf2
end Go.Proofs.Ytedejkfhgpnhpaa

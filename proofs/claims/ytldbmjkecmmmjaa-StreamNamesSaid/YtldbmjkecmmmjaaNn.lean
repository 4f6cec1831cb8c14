/-
  Walks: the laws StreamNil, StreamNames.
-/
import Derived.Test.YtldbmjkecmmmjaaAk
import Derived.Test.YtldbmjkecmmmjaaSk
set_option linter.unusedVariables false
set_option linter.unusedSimpArgs false
namespace Go.Proofs.Ytldbmjkecmmmjaa
open Go.RowKit

set_option maxHeartbeats 2000000 in
theorem snil_any (w : World) : Calls Try.prog 12 #[] w fun e w' => e = .returned (.bool true) ∧ Below w.heap.size w w' := by
  have F1 : Hid (Below w.heap.size w (w.alloc (.cells #[.int .u8 1] 5))) := Lib.hid ((Below.refl _ w).alloc (Nat.le_refl _) _)
  go_enter Try.func12, Try.ntmps12
  go_wp2_with fail
  refine (nilxor_any _ _ _ _).mono ?_
  rintro e w' ⟨rfl, rfl⟩
  go_wp2_with fail
  refine (awake_any _).mono ?_
  rintro e w2 ⟨rfl, hb⟩
  have F2 : Hid (Below w.heap.size w w2) := Lib.hid (F1.out.trans (hb.mono F1.out.size))
  clear hb
  go_wp2_with fail
  refine (nilskip_any _ _).mono ?_
  rintro e w' ⟨rfl, rfl⟩
  go_wp2_with fail
  refine (nilskip_any _ _).mono ?_
  rintro e w' ⟨rfl, rfl⟩
  go_wp2_with fail
  refine (nilat_any _).mono ?_
  rintro e w' ⟨rfl, rfl⟩
  go_wp2_with fail
  go_ret
  exact ⟨rfl, F2.out⟩

def K32 : List Int := (List.range 32).map (fun i : Nat => (i : Int))
def N12 : List Int := [0, 0, 0, 9, 0, 0, 0, 74, 0, 0, 0, 0]
def R8 : List Int := [16, 241, 231, 228, 209, 59, 89, 21]
set_option maxRecDepth 100000 in
theorem blk_vec : (blkL K32 N12 1).take 8 = R8 := by decide +kernel
theorem K32_B8 : B8 K32 := B8.of (fun x hx => by
  unfold K32 at hx
  obtain ⟨i, hi, rfl⟩ := List.mem_map.1 hx
  have := List.mem_range.1 hi
  omega)
theorem N12_B8 : B8 N12 := B8.of (fun x hx => by
  have : ∀ x ∈ N12, 0 ≤ x ∧ x ≤ 255 := by decide
  exact this x hx)
theorem K32_at (k : Nat) (h : k < 32) : K32.getD k 0 = (k : Int) := by
  unfold K32
  rw [List.getD_eq_getElem?_getD, List.getElem?_map, List.getElem?_range h]; rfl
theorem nArr12 : (#[.int .u8 0, .int .u8 0, .int .u8 0, .int .u8 9, .int .u8 0, .int .u8 0, .int .u8 0, .int .u8 74, .int .u8 0, .int .u8 0, .int .u8 0, .int .u8 0] : Array Value) = AY .u8 N12 := by rw [AY_eq]; rfl

set_option maxRecDepth 100000 in
set_option maxHeartbeats 4000000 in
theorem snames_any (w : World) : Calls Try.prog 7 #[] w fun e w' => e = .returned (.bool true) ∧ Below w.heap.size w w' := by
  have HCB : Hid (∀ W, Calls Try.prog 15 #[.agg (AY .u8 K32), .int .u32 1, .agg (AY .u8 N12)] W fun e w' => e = .returned (.agg (AY .u8 (blkL K32 N12 1))) ∧ Below W.heap.size W w') := Lib.hid (fun W => block_any K32 N12 1 W rfl rfl K32_B8 N12_B8 (by decide))
  have HBV : Hid ((blkL K32 N12 1).take 8 = R8 ∧ (blkL K32 N12 1).length = 64) := Lib.hid ⟨blk_vec, blkL_len _ _ _⟩
  have I31 : Hid ((Try.prog.info? 31).map (·.size) = some (AY .u8 K32).size) := Lib.hid (by rw [info31, AY_size]; rfl)
  generalize blkL K32 N12 1 = BL at *
  go_enter Try.func7, Try.ntmps7
  go_upto_region 2 with fail
  generalize hG : w.heap.size = G
  generalize hW1 : w.alloc _ = w1
  have B1 : Hid (Blk w1 G 31 ((upd 0 K32 Z32).map (Value.int .u8))) := Lib.hid (by rw [← hW1, upd_zero]; exact Blk.new_at w 31 (Z32.map (Value.int .u8)) hG.symm)
  have F1 : Hid (Below G w w1) := Lib.hid (by rw [← hW1]; exact (Below.refl _ w).alloc (by omega) _)
  have HGE := Lib.hid hG
  clear hG hW1
  go_wp2_with fail
  go_loopw [2] (fun iv wr => ∃ k : Nat, k ≤ 32 ∧ iv = .int .i64 k ∧ Hid (Blk wr G 31 ((upd k K32 Z32).map (Value.int .u8))) ∧ Hid (Fr (fun j => j = G) w1 wr)) (fun iv _ => 32 - (intOf iv).toNat)
  case atStart => exact ⟨0, Nat.zero_le _, rfl, B1, Lib.hid (Fr.refl _ _)⟩
  case round =>
    obtain ⟨k, hk, rfl, HB, HF⟩ := hrel
    by_cases hlt : k < 32
    · have hi1 : (k : Int) < 32 := by omega
      have hwk : IntKind.u8.wrap (k : Int) = (k : Int) := by simp [IntKind.wrap, IntKind.bits, IntKind.signed]; omega
      have HOA : Hid (Blk wr G 31 ((upd k K32 Z32).map (Value.int .u8) ++ [])) := Lib.hid (by rw [List.append_nil]; exact HB.out)
      have hcz : wr.cell? ⟨G, k, none⟩ = some (.int .u8 (Z32.getD k 0)) := blk_upd_cell HOA.out rfl hlt
      have hfz : wr.frozen? ⟨G, k, none⟩ = false := HB.out.frozen k
      have HN : Hid (Blk (wr.setCell ⟨G, k, none⟩ (.int .u8 (k : Int))) G 31 ((upd (k + 1) K32 Z32).map (Value.int .u8))) := Lib.hid (by
        have h := blk_upd_set (w := wr) HOA.out rfl hlt (y := (k : Int)) (K32_at k hlt).symm
        rw [List.append_nil] at h
        exact h)
      go_wp2_with fail
      go_roundw
      case rel => exact ⟨k + 1, by omega, by go_num, HN, Lib.hid (HF.out.setCell (p := ⟨G, k, none⟩) (.inl rfl) _)⟩
      case measure => simp [intOf]; omega
    · have HK : Hid (k = 32) := Lib.hid (by omega)
      have hge : decide ((k : Int) < 32) = false := by simp; omega
      have KB : Hid (wr.heap[G]? = some (.cells (AY .u8 K32) 31 (0, 0))) := Lib.hid (blk_AY (by have h := HB.out; rw [HK.out, show upd 32 K32 Z32 = K32 from upd_all K32 Z32 rfl] at h; exact h))
      have FW : Hid (Below G w wr) := Lib.hid (F1.out.trans (HF.out.below (Nat.le_of_lt B1.out.lt) (fun j hj => by omega)))
      have HGS : Hid (G < wr.heap.size) := Lib.hid HB.out.lt
      clear HB HF
      go_upto_region 6 with fail
      go_wp2_with (first
        | (show wpList _ _ _ ({ dst := some 12, op := _, type := _, pos := _, after := _, guard := _ } :: _) _ _; refine wpList_load_row rfl 31 _ rfl G rfl 31 (AY .u8 K32) (0, 0) _ KB.out Try.underlying31 rfl I31.out ?_))
      rw [nArr12]
      refine (HCB.out wr).mono ?_
      rintro e w2 ⟨rfl, b2⟩
      have F2 : Hid (Below G w w2) := Lib.hid (FW.out.trans (b2.mono (Nat.le_of_lt HGS.out)))
      have I36 : Hid ((Try.prog.info? 36).map (·.size) = some (AY .u8 BL).size) := Lib.hid (by rw [info36, AY_size, HBV.out.2])
      have ZE : Hid (((Z64.map (Value.int .u8)).toArray).size = (AY .u8 BL).size) := Lib.hid (by rw [AY_size, HBV.out.2]; rfl)
      clear b2
      go_upto_region 7 with (first
        | (show wpList _ _ _ ({ dst := none, op := _, type := _, pos := _, after := _, guard := _ } :: _) _ _; refine wpList_store_row rfl 36 _ _ rfl w2.heap.size (AY .u8 BL) rfl rfl 36 _ (heap_alloc_new _ _) I36.out ZE.out (AY_one _ _) ?_))
      simp only [Act.put]
      generalize hS : w2.heap.size = S
      generalize hW3 : (w2.alloc _).setRow S (AY .u8 BL) = w3
      have S3 : Hid (Blk w3 S 36 (BL.map (Value.int .u8))) := Lib.hid (by rw [← hW3, ← hS]; exact AY_blk (setRow_heap _ _ _ _ _ _ (heap_alloc_new _ _)))
      have F3 : Hid (Below G w w3) := Lib.hid (by rw [← hW3]; have := F2.out.size; have h := HGE.out; exact below_setRow (F2.out.alloc (by omega) _) (by omega) _)
      clear hS hW3
      go_wp2_with fail
      refine (awake_any w3).mono ?_
      rintro e w4 ⟨rfl, b4⟩
      have S4 : Hid (Blk w4 S 36 (BL.map (Value.int .u8))) := Lib.hid (S3.out.below b4 S3.out.lt)
      have F4 : Hid (Below G w w4) := Lib.hid (F3.out.trans (b4.mono (by have := F3.out.size; have h := HGE.out; omega)))
      clear b4
      go_wp2_with fail
      refine (same_any _ _ 8 8 _ 8 R8 R8 _ rfl rfl ?_ (blk_rd0 (xs := R8) (Blk.new w4 5 (R8.map (Value.int .u8)))) (by decide) (by decide)).mono ?_
      · rw [← HBV.out.1]
        exact ((blk_rd0 S4.out).below ((Below.refl _ w4).alloc (Nat.le_refl _) _)).take 8
      rintro e w5 ⟨q, rfl, rfl⟩
      rw [show decide (R8 = R8) = true from by simp]
      go_wp2_with fail
      go_ret
      exact ⟨rfl, by rw [HGE.out]; exact belowN (F4.out.alloc (by have := F4.out.size; have h := HGE.out; omega) _) _⟩
end Go.Proofs.Ytldbmjkecmmmjaa

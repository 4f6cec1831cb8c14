/-
  Walks: Key, KeyBytes.
-/
import Derived.Test.YtcfbaildcocnhaaNb
set_option linter.unusedVariables false
set_option linter.unusedSimpArgs false
namespace Go.Proofs.Ytcfbaildcocnhaa
open Go.RowKit

set_option maxRecDepth 100000 in
theorem key_any (S : Nat) (ks : List Int) (p : Nat) (w : World) (hs : Src w S ks p) (hk : ks.length = 32) (bk : B8 ks) :
    Calls Try.prog 47 #[.pointer (some ⟨S, 0, none⟩)] w fun e w' => e = .returned (.agg (AY .u8 (rowL ks p 32))) ∧ Src w' S ks (p + 32) ∧ Fr (fun b => b = S) w w' := by
  have HT := Lib.hid (fun W hW => take_any S 32 ks p W hW hk bk (by decide))
  have HS := Lib.hid hs
  have HSl := Lib.hid hs.lt
  clear hs hk bk
  go_enter Try.func47, Try.ntmps47
  go_upto_region 1 with fail
  generalize hG : w.heap.size = G
  generalize hW1 : w.alloc _ = w1
  have R1 : Hid (Blk w1 G 53 ((List.replicate 32 0).map (Value.int .u8))) := Lib.hid (by rw [← hW1]; exact Blk.new_at _ 53 _ hG.symm)
  have F1 : Hid (Below w.heap.size w w1) := Lib.hid (by rw [← hW1]; exact (Below.refl _ w).alloc (Nat.le_refl _) _)
  have HGE := Lib.hid hG
  clear hG hW1
  have S1 := Lib.hid (HS.out.below F1.out)
  go_wp2_with fail
  refine (HT.out w1 S1.out).mono ?_
  rintro e w2 ⟨v, rfl, ho, hs, hf⟩
  have ho2 := ho
  obtain ⟨A', c', rfl, -, -, hr', -⟩ := ho2.slice
  rcases ho2.form with ⟨h1, h2⟩ | ⟨g, c2, rest, h1, -⟩
  · have := rowL_len ks p 32; rw [h2] at this; simp at this
  rw [rowL_len] at h1 ⊢
  injection h1 with q1 q2 q3
  subst q1
  have HR2 := Lib.hid hr'
  have S2 := Lib.hid hs
  have NE : Hid (¬ G = S) := Lib.hid (by have := HSl.out; have := HGE.out; omega)
  have R2 := Lib.hid (R1.out.fr hf NE.out)
  have F2 : Hid (Fr (fun b => b = S) w w2) := Lib.hid ((Fr.of_below F1.out _).trans hf)
  clear ho ho2 hs hf hr' q2 q3 HT S1 R1 F1
  have har : (Instr.arrayAt 53 (.slice (some ⟨g, 0, none⟩) 32 c')).run Try.prog w2 = .ok (.pointer (some ⟨g, 0, none⟩)) w2 := run_arrayAt w2 53 5 32 _ 32 c' Try.underlying53 (by omega)
  have I1 : Hid ((Try.prog.info? 53).map (·.size) = some (rowL ks p 32).length) := Lib.hid (by rw [info31, rowL_len])
  have I2 : Hid ((Try.prog.info? 53).map (·.size) = some (AY .u8 (rowL ks p 32)).size) := Lib.hid (by rw [info31, AY_size, rowL_len])
  have Z2 : Hid ((((List.replicate 32 0).map (Value.int .u8)).toArray).size = (AY .u8 (rowL ks p 32)).size) := Lib.hid (by rw [AY_size, rowL_len]; rfl)
  go_wp2_with (first
    | (show wpList _ _ _ ({ dst := some 9, op := _, type := _, pos := _, after := _, guard := _ } :: _) _ _; refine load_AY rfl 53 _ rfl g rfl .u8 (rowL ks p 32) _ HR2.out Try.underlying53 rfl I1.out ?_)
    | (show wpList _ _ _ ({ dst := none, op := _, type := _, pos := _, after := _, guard := _ } :: _) _ _; refine wpList_store_row rfl 53 _ _ rfl G (AY .u8 (rowL ks p 32)) rfl rfl 53 _ R2.out I2.out Z2.out (AY_one _ _) ?_))
  refine bodyPost_ret (results_cell_row rfl _ _ G 53 (AY .u8 (rowL ks p 32)) (0, 0) _ rfl (setRow_heap _ _ _ _ _ _ R2.out) Try.underlying53 rfl I2.out) rfl ⟨rfl, ?_, ?_⟩
  · exact S2.out.fr (fr_row w2 G _) (fun e => NE.out e.symm) (fun g bs hg e => Blk.ne hg R2.out (by decide) e)
  · exact F2.out.then (fr_row w2 G _) (fun i hi => .inr (by rw [hi]; have := HGE.out; omega))

set_option maxHeartbeats 2000000 in
theorem keyb_any (ks : List Int) (w : World) (hk : ks.length = 32) (bk : B8 ks) : Calls Try.prog 65 #[.agg (AY .u8 ks)] w (Made 5 .u8 ks w) := by
  have HK := Lib.hid hk
  have HB := Lib.hid bk
  have I2 : Hid ((Try.prog.info? 53).map (·.size) = some (AY .u8 ks).size) := Lib.hid (by rw [info31, AY_size, hk])
  clear hk bk
  go_enter Try.func65, Try.ntmps65
  go_upto_region 1 with fail
  generalize hG : w.heap.size = G
  generalize hW1 : w.alloc _ = w1
  have R1 : Hid (Blk w1 G 53 (ks.map (Value.int .u8))) := Lib.hid (by rw [← hW1]; exact AY_new_at .u8 w 53 ks hG.symm)
  have F1 : Hid (Below w.heap.size w w1) := Lib.hid (by rw [← hW1]; exact (Below.refl _ w).alloc (Nat.le_refl _) _)
  have HGE := Lib.hid hG
  clear hG hW1
  go_wp2_with fail
  go_loopw [3, 4] (fun v i wr => ∃ k : Nat, i = .int .i64 k ∧ Hid (k ≤ 32) ∧ Hid (Own wr w1.heap.size 5 .u8 v (ks.take k)) ∧ Hid (Below w1.heap.size w1 wr)) (fun _ i _ => 32 - (intOf i).toNat)
  case atStart => exact ⟨0, rfl, Lib.hid (by omega), Lib.hid (by rw [List.take_zero]; exact Own.nil _ _ _ _), Lib.hid (Below.refl _ _)⟩
  case round =>
    obtain ⟨k, rfl, HKK, HO, HW⟩ := hrel
    by_cases hlt : k < 32
    · have d1 : decide ((k : Int) < 32) = true := decide_eq_true (by omega)
      have hin : k < ks.length := by rw [HK.out]; exact hlt
      have hc : wr.cell? ⟨G, k, none⟩ = some (.int .u8 (ks.getD k 0)) := by
        have h := (R1.out.below HW.out R1.out.lt).cell k
        rw [h, List.getElem?_map, List.getElem?_eq_getElem hin, List.getD_eq_getElem?_getD, List.getElem?_eq_getElem hin]
        rfl
      have hc1 : ((ks.take k).length + 1) * 1 ≤ 140737488355328 := by rw [List.length_take]; omega
      have hsz := HW.out.size
      generalize hy : ks.getD k 0 = y at hc
      have m1 : IntKind.i64.wrap ((k : Int) + 1) = ((k + 1 : Nat) : Int) := by rw [IntKind.wrap_i64] <;> omega
      have HY := Lib.hid hy
      have HIN := Lib.hid hin
      clear hy hin
      go_wp2_with (first | (at_builtin; refine wpList_push wr rfl _ _ 75 rfl w1.heap.size 5 .u8 1 Try.underlying75 info5 y rfl _ _ rfl rfl HO.out hc1 (by decide) hsz ?_; intro v' w2 hown1 hfr1))
      go_roundw
      case rel =>
        refine ⟨k + 1, by go_num, Lib.hid (by omega), Lib.hid ?_, Lib.hid (HW.out.trans (hfr1.below hsz (fun g hg => (HO.out.base_le hg).1)))⟩
        rw [take_snocI ks k HIN.out, HY.out]
        exact hown1
      case measure => simp [intOf]; omega
    · have d1 : decide ((k : Int) < 32) = false := decide_eq_false (by omega)
      have HK2 : Hid (k = 32) := Lib.hid (by have := HKK.out; omega)
      go_wp2_with fail
      go_ret
      have ho := HO.out
      rw [HK2.out, ← HK.out, List.take_length] at ho
      exact ⟨_, rfl, ho.lower F1.out.size, F1.out.trans (HW.out.mono F1.out.size)⟩
end Go.Proofs.Ytcfbaildcocnhaa

/-
  A source's row: plain; walks: take.
-/
import Derived.Test.YtcfbaildcocnhaaSp
import Derived.Deep.Cut
import Derived.Deep.DeepCutAuto
set_option linter.unusedVariables false
set_option linter.unusedSimpArgs false
namespace Go.Proofs.Ytcfbaildcocnhaa
open Go.RowKit

set_option maxRecDepth 100000 in
set_option maxHeartbeats 16000000 in
theorem take_any (S n : Nat) (ks : List Int) (p : Nat) (w : World) (hs : Src w S ks p) (hk : ks.length = 32) (bk : B8 ks) (hn : n ≤ 140737488355328) :
    Calls Try.prog 63 #[.pointer (some ⟨S, 0, none⟩), .int .i64 (n : Int)] w fun e w' => ∃ v, e = .returned v ∧ Own w' w.heap.size 5 .u8 v (rowL ks p n) ∧ Src w' S ks (p + n) ∧ Fr (fun b => b = S) w w' := by
  have HS := Lib.hid hs
  have HCB : Hid (∀ nx W, nx < 18446744073709551616 → Calls Try.prog 76 #[.agg (AY .u8 ks), .int .u32 ((nx % 4294967296 : Nat) : Int), .agg (AY .u8 (nonL (nx / 4294967296)))] W fun e w' => e = .returned (.agg (AY .u8 (blkAt ks nx))) ∧ Below W.heap.size W w') := Lib.hid (fun nx W hnx => by rw [blkAt_eq]; exact block_any ks _ _ W hk (nonL_len _) bk (nonL_B8 _) (Nat.mod_lt _ (by decide)))
  have I53 : Hid ((Try.prog.info? 53).map (·.size) = some ks.length) := Lib.hid (by rw [info31, hk])
  have HKL := Lib.hid hk
  clear hs hk bk
  have hm1 : 1 * n ≤ 281474976710656 := by omega
  have hm2 : n ≤ 9223372036854775807 := by omega
  have HCE : Hid ((n : Int) = ((n : Nat) : Int)) := Lib.hid rfl
  go_enter Try.func63, Try.ntmps63
  go_wp2_with (first
    | (refine wpList_make_room w rfl _ _ 75 rfl 5 .u8 1 Try.underlying75 info5 .i64 .i64 0 n _ _ rfl rfl rfl HCE.out (Nat.zero_le _) hm1 hm2 ?_; intro w1 hb0 hfr0; have B0 := Lib.hid hb0; have F0 := Lib.hid hfr0; clear hb0 hfr0))
  have O0 : Hid (Own w1 w.heap.size 5 .u8 (.slice (some ⟨w.heap.size, 0, none⟩) 0 n) (rowL ks p 0)) := Lib.hid (by
    have h := Own.mk (k := .u8) (base := w.heap.size) (c := n) (xs := []) (rest := (List.replicate n (0 : Int)).map (Value.int .u8)) (Nat.le_refl _) (by rw [List.map_nil, List.nil_append]; exact B0.out) (by simp) (by unfold maxLen; omega)
    exact h)
  have S0 : Hid (Src w1 S ks (p + 0)) := Lib.hid (HS.out.fr F0.out (fun h => h) (fun _ _ _ h => h))
  have F1 : Hid (Fr (fun b => b = S) w w1) := Lib.hid (F0.out.mono (fun _ h => h.elim))
  clear hm1 hm2 HCE B0 F0 HS
  go_wp2_with fail
  go_loopw [5] (fun v wr => ∃ (m : Nat) (A0 : Option Addr) (c0 : Nat), v = .slice A0 m c0 ∧ m ≤ n ∧ Hid (Own wr w.heap.size 5 .u8 (.slice A0 m c0) (rowL ks p m)) ∧ Hid (Src wr S ks (p + m)) ∧ Hid (Fr (fun b => b = S) w wr)) (fun v _ => n - lenV v)
  case atStart => exact ⟨0, _, _, rfl, Nat.zero_le _, O0, S0, F1⟩
  case round =>
    clear O0 S0 F1
    obtain ⟨m, A0, c0, rfl, hmn, HO, HS, HF⟩ := hrel
    by_cases hlt : m < n
    · have hlt' : (m : Int) < (n : Int) := by omega
      obtain ⟨q, hq⟩ : ∃ q, q = p + m := ⟨_, rfl⟩
      have HQ := Lib.hid hq
      rw [← hq] at HS
      clear hq
      obtain ⟨A, c, nx, r, hblk, hst, hrp⟩ := HS.out
      have HB := Lib.hid hblk
      have HST := Lib.hid hst
      have HRP := Lib.hid hrp
      have hc33 : wr.cell? ⟨S, 33, none⟩ = some (.slice A r.length c) := (SRl_cells hblk HKL.out).2.2
      have hf33 : wr.frozen? ⟨S, 33, none⟩ = false := hblk.frozen 33
      have HOS : Hid (∀ g, (Value.slice A0 m c0).ownBlock = some g → g ≠ S) := Lib.hid (fun g hg => own_neB HO.out hblk (by decide) hg)
      have hnx : nx < 18446744073709551616 := StP.lt hst
      clear hst hrp
      by_cases hr0 : r.length = 0
      · have hc32 : wr.cell? ⟨S, 32, none⟩ = some (.int .u64 (nx : Int)) := (SRl_cells hblk HKL.out).2.1
        have HRG : Hid (wr.rangeAt S 0 (ks.map (Value.int .u8))) := Lib.hid (SRl_cells hblk HKL.out).1
        obtain ⟨hq0, hnq⟩ := StP.empty HST.out (List.eq_nil_of_length_eq_zero hr0)
        have HNQ := Lib.hid hnq
        have HQ0 := Lib.hid hq0
        rw [hr0] at hc33
        clear hr0 hblk hq0 hnq
        go_upto_region 4 with fail
        have HNC : Hid (∀ W, Calls Try.prog 77 #[.int .u64 ((nx / 4294967296 : Nat) : Int)] W fun e w' => e = .returned (.agg (AY .u8 (nonL (nx / 4294967296)))) ∧ Below W.heap.size W w') := Lib.hid (fun W => nonce_any _ W (by omega))
        have HBC := Lib.hid (fun W => HCB.out nx W hnx)
        have IE : Hid ((Try.prog.info? 103).map (·.size) = some (AY .u8 (blkAt ks nx)).size) := Lib.hid (by rw [info36, AY_size, blkAt_len])
        have ZE : Hid (((Z64.map (Value.int .u8)).toArray).size = (AY .u8 (blkAt ks nx)).size) := Lib.hid (by rw [AY_size, blkAt_len]; rfl)
        have HBL : Hid ((blkAt ks nx).length = 64) := Lib.hid (blkAt_len _ _)
        have HBE : Hid (∃ B, B = blkAt ks nx) := Lib.hid ⟨_, rfl⟩
        obtain ⟨BL, hBL⟩ := HBE.out
        have HBLE := Lib.hid hBL
        rw [← hBL] at HBC IE ZE HBL
        clear hBL HBE HCB
        go_cut [6] (fun qv wx => ∃ Q, qv = .pointer (some ⟨Q, 0, none⟩) ∧ Hid (wr.heap.size ≤ Q) ∧ Hid (Blk wx Q 103 (BL.map (Value.int .u8))) ∧ Hid (Below wr.heap.size wr wx))
        case first =>
          refine wp_region_held_drew (S := fun w' => w'.heap[S]? = wr.heap[S]?) (by kernel_rfl) (rfl) (fun hHeld => ?_)
          have HHd := Lib.hid hHeld
          clear hHeld
          have HSL : Hid (S < wr.heap.size) := Lib.hid HB.out.lt
          have hu32 : IntKind.u32.wrap (nx : Int) = ((nx % 4294967296 : Nat) : Int) := by simp [IntKind.wrap, IntKind.bits, IntKind.signed]
          have hsh : (nx : Int) / 2 ^ 32 = ((nx / 4294967296 : Nat) : Int) := by omega
          refine wpAnyH_take (i := 0) (oi := ⟨some 20, _, _, _, _, _⟩) (v := (.pointer (some ⟨S, 0, none⟩))) rfl (by kernel_rfl) (by kernel_rfl) (by kernel_rfl) (fun _ _ _ h => h) (Or.inl ⟨by rfl, ?_⟩) HHd.out ?_
          · intro w' hS; go_simp; try with_reducible rfl
          simp only [Act.put, List.setIfInBounds_toArray, List.set_cons_zero, List.set_cons_succ]
          refine wpAnyH_take (i := 1) (oi := ⟨some 21, _, _, _, _, _⟩) (v := (.pointer (some ⟨S, 0, none⟩))) rfl (by kernel_rfl) (by kernel_rfl) (by kernel_rfl) (fun _ _ _ h => h) (Or.inl ⟨by rfl, ?_⟩) HHd.out ?_
          · intro w' hS; go_simp; try with_reducible rfl
          simp only [Act.put, List.setIfInBounds_toArray, List.set_cons_zero, List.set_cons_succ]
          refine wpAnyH_take (i := 2) (oi := ⟨some 22, _, _, _, _, _⟩) (v := (.pointer (some ⟨S, 0, none⟩))) rfl (by kernel_rfl) (by kernel_rfl) (by kernel_rfl) (fun _ _ _ h => h) (Or.inl ⟨by rfl, ?_⟩) HHd.out ?_
          · intro w' hS; go_simp; try with_reducible rfl
          simp only [Act.put, List.setIfInBounds_toArray, List.set_cons_zero, List.set_cons_succ]
          refine wpAnyH_take (i := 3) (oi := ⟨some 23, _, _, _, _, _⟩) (v := (.agg (AY .u8 ks))) rfl (by kernel_rfl) (by kernel_rfl) (by kernel_rfl) (fun _ _ _ h => h) (Or.inl ⟨by rfl, ?_⟩) HHd.out ?_
          · intro w' hS; exact exec_load_AY 53 _ rfl S 0 (by rfl) .u8 ks _ (range_of_block HRG.out hS) Try.underlying53 rfl I53.out
          simp only [Act.put, List.setIfInBounds_toArray, List.set_cons_zero, List.set_cons_succ]
          refine wpAnyH_take (i := 4) (oi := ⟨some 24, _, _, _, _, _⟩) (v := (.pointer (some ⟨S, 0, none⟩))) rfl (by kernel_rfl) (by kernel_rfl) (by kernel_rfl) (fun _ _ _ h => h) (Or.inl ⟨by rfl, ?_⟩) HHd.out ?_
          · intro w' hS; go_simp; try with_reducible rfl
          simp only [Act.put, List.setIfInBounds_toArray, List.set_cons_zero, List.set_cons_succ]
          refine wpAnyH_take (i := 5) (oi := ⟨some 25, _, _, _, _, _⟩) (v := (.pointer (some ⟨S, 0, none⟩))) rfl (by kernel_rfl) (by kernel_rfl) (by kernel_rfl) (fun _ _ _ h => h) (Or.inl ⟨by rfl, ?_⟩) HHd.out ?_
          · intro w' hS; go_simp; try with_reducible rfl
          simp only [Act.put, List.setIfInBounds_toArray, List.set_cons_zero, List.set_cons_succ]
          refine wpAnyH_take (i := 6) (oi := ⟨some 26, _, _, _, _, _⟩) (v := (.pointer (some ⟨S, 32, none⟩))) rfl (by kernel_rfl) (by kernel_rfl) (by kernel_rfl) (fun _ _ _ h => h) (Or.inl ⟨by rfl, ?_⟩) HHd.out ?_
          · intro w' hS; go_simp; try with_reducible rfl
          simp only [Act.put, List.setIfInBounds_toArray, List.set_cons_zero, List.set_cons_succ]
          refine wpAnyH_take (i := 7) (oi := ⟨some 27, _, _, _, _, _⟩) (v := (.int .u64 (nx : Int))) rfl (by kernel_rfl) (by kernel_rfl) (by kernel_rfl) (fun _ _ _ h => h) (Or.inl ⟨by rfl, ?_⟩) HHd.out ?_
          · intro w' hS; have z0 : w'.cell? ⟨S, 32, none⟩ = some (.int .u64 (nx : Int)) := (World.cell?_of_block (w := wr) (w' := w') hS).trans hc32; go_simp; try with_reducible rfl
          simp only [Act.put, List.setIfInBounds_toArray, List.set_cons_zero, List.set_cons_succ]
          refine wpAnyH_take (i := 8) (oi := ⟨some 28, _, _, _, _, _⟩) (v := (.int .u32 ((nx % 4294967296 : Nat) : Int))) rfl (by kernel_rfl) (by kernel_rfl) (by kernel_rfl) (fun _ _ _ h => h) (Or.inl ⟨by rfl, ?_⟩) HHd.out ?_
          · intro w' hS; go_simp; try with_reducible rfl
          simp only [Act.put, List.setIfInBounds_toArray, List.set_cons_zero, List.set_cons_succ]
          refine wpAnyH_take (i := 9) (oi := ⟨some 29, _, _, _, _, _⟩) (v := (.pointer (some ⟨S, 0, none⟩))) rfl (by kernel_rfl) (by kernel_rfl) (by kernel_rfl) (fun _ _ _ h => h) (Or.inl ⟨by rfl, ?_⟩) HHd.out ?_
          · intro w' hS; go_simp; try with_reducible rfl
          simp only [Act.put, List.setIfInBounds_toArray, List.set_cons_zero, List.set_cons_succ]
          refine wpAnyH_take (i := 10) (oi := ⟨some 30, _, _, _, _, _⟩) (v := (.pointer (some ⟨S, 0, none⟩))) rfl (by kernel_rfl) (by kernel_rfl) (by kernel_rfl) (fun _ _ _ h => h) (Or.inl ⟨by rfl, ?_⟩) HHd.out ?_
          · intro w' hS; go_simp; try with_reducible rfl
          simp only [Act.put, List.setIfInBounds_toArray, List.set_cons_zero, List.set_cons_succ]
          refine wpAnyH_take (i := 11) (oi := ⟨some 31, _, _, _, _, _⟩) (v := (.pointer (some ⟨S, 32, none⟩))) rfl (by kernel_rfl) (by kernel_rfl) (by kernel_rfl) (fun _ _ _ h => h) (Or.inl ⟨by rfl, ?_⟩) HHd.out ?_
          · intro w' hS; go_simp; try with_reducible rfl
          simp only [Act.put, List.setIfInBounds_toArray, List.set_cons_zero, List.set_cons_succ]
          refine wpAnyH_take (i := 12) (oi := ⟨some 32, _, _, _, _, _⟩) (v := (.int .u64 (nx : Int))) rfl (by kernel_rfl) (by kernel_rfl) (by kernel_rfl) (fun _ _ _ h => h) (Or.inl ⟨by rfl, ?_⟩) HHd.out ?_
          · intro w' hS; have z0 : w'.cell? ⟨S, 32, none⟩ = some (.int .u64 (nx : Int)) := (World.cell?_of_block (w := wr) (w' := w') hS).trans hc32; go_simp; try with_reducible rfl
          simp only [Act.put, List.setIfInBounds_toArray, List.set_cons_zero, List.set_cons_succ]
          refine wpAnyH_take (i := 13) (oi := ⟨some 33, _, _, _, _, _⟩) (v := (.int .u64 ((nx / 4294967296 : Nat) : Int))) rfl (by kernel_rfl) (by kernel_rfl) (by kernel_rfl) (fun _ _ _ h => h) (Or.inl ⟨by rfl, ?_⟩) HHd.out ?_
          · intro w' hS; go_simp; try with_reducible rfl
          simp only [Act.put, List.setIfInBounds_toArray, List.set_cons_zero, List.set_cons_succ]
          have HB0 : Hid (Below wr.heap.size wr wr.drew) := Lib.hid ⟨rfl, rfl, rfl, Nat.le_refl _, fun _ _ => rfl⟩
          refine wpAnyH_ready (rs := [14, 16]) (by kernel_rfl) (by simp) ?_
          refine AllReadyH.cons (o := ⟨some 34, _, _, _, _, _⟩) rfl (fun K hK => ?_) (AllReadyH.cons (o := ⟨some 6, _, _, _, _, _⟩) rfl (fun K hK => ?_) AllReadyH.nil)
          · rw [if_pos (by rfl)]
            go_simp
            refine (HNC.out _).mono ?_
            rintro e v1 ⟨rfl, b1⟩
            (try simp only [Act.put, List.setIfInBounds_toArray, List.set_cons_zero, List.set_cons_succ])
            refine hK.out _ _ ((b1.block S (Nat.lt_of_lt_of_le HSL.out HB0.out.size)).trans HHd.out) (fun hHeld => ?_)
            clear hK K
            have HH1 := Lib.hid hHeld
            clear hHeld
            have HB1 : Hid (Below wr.heap.size wr v1) := Lib.hid (HB0.out.trans (b1.mono HB0.out.size))
            clear b1
            refine wpAnyH_ready (rs := [15, 16]) (by kernel_rfl) (by simp) ?_
            refine AllReadyH.cons (o := ⟨some 35, _, _, _, _, _⟩) rfl (fun K hK => ?_) (AllReadyH.cons (o := ⟨some 6, _, _, _, _, _⟩) rfl (fun K hK => ?_) AllReadyH.nil)
            · rw [if_pos (by rfl)]
              go_simp
              refine (HBC.out _).mono ?_
              rintro e v2 ⟨rfl, b1⟩
              (try simp only [Act.put, List.setIfInBounds_toArray, List.set_cons_zero, List.set_cons_succ])
              refine hK.out _ _ ((b1.block S (Nat.lt_of_lt_of_le HSL.out HB1.out.size)).trans HH1.out) (fun hHeld => ?_)
              clear hK K
              have HH2 := Lib.hid hHeld
              clear hHeld
              have HB2 : Hid (Below wr.heap.size wr v2) := Lib.hid (HB1.out.trans (b1.mono HB1.out.size))
              clear b1
              refine wpAnyH_ready (rs := [16]) (by kernel_rfl) (by simp) ?_
              refine AllReadyH.cons (o := ⟨some 6, _, _, _, _, _⟩) rfl (fun K hK => ?_) AllReadyH.nil
              rw [if_pos (by rfl)]
              go_simp
              refine hK.out _ _ ((Below.heap_alloc _ _ _ (Nat.lt_of_lt_of_le HSL.out HB2.out.size)).trans HH2.out) (fun hHeld => ?_)
              clear hK K
              have HH3 := Lib.hid hHeld
              clear hHeld
              generalize hW3 : v2.alloc _ = v3 at HH3 ⊢
              have HQ3 : Hid (v3.heap[v2.heap.size]? = some (.cells (Z64.map (Value.int .u8)).toArray 103 (0, 0))) := Lib.hid (by rw [← hW3]; exact heap_alloc_new _ _)
              have HB3 : Hid (Below wr.heap.size wr v3) := Lib.hid (by rw [← hW3]; exact HB2.out.alloc HB2.out.size _)
              clear hW3
              have HLQ : Hid (wr.heap.size ≤ v2.heap.size) := Lib.hid HB2.out.size
              refine wpAnyH_ready (rs := [17]) (by kernel_rfl) (by simp) ?_
              refine AllReadyH.cons (o := ⟨none, _, _, _, _, _⟩) rfl (fun K hK => ?_) AllReadyH.nil
              rw [if_pos (by rfl)]
              refine wp_store_row 103 _ _ rfl v2.heap.size (AY .u8 BL) rfl rfl 103 _ HQ3.out IE.out ZE.out (AY_one _ _) ?_
              (try simp only [Act.put, List.setIfInBounds_toArray, List.set_cons_zero, List.set_cons_succ])
              refine hK.out _ _ ((setRow_other _ _ _ _ (by have := HSL.out; have := HLQ.out; omega)).trans HH3.out) (fun hHeld => ?_)
              clear hK K hHeld
              refine wpAnyH_done (by kernel_rfl) ?_ _
              have hfin : Hid (wr.heap.size ≤ v2.heap.size) ∧ Hid (Blk (v3.setRow v2.heap.size (AY .u8 BL)) v2.heap.size 103 (BL.map (Value.int .u8))) ∧ Hid (Below wr.heap.size wr (v3.setRow v2.heap.size (AY .u8 BL))) := ⟨HLQ, Lib.hid (AY_blk (setRow_heap _ _ _ _ _ _ HQ3.out)), Lib.hid (below_setRow HB3.out HLQ.out _)⟩
              have HFIN := Lib.hid hfin
              clear hfin
              go_wp2_with fail
              go_meet
              exact ⟨_, rfl, HFIN.out⟩
            · rw [if_pos (by rfl)]
              go_simp
              refine hK.out _ _ ((Below.heap_alloc _ _ _ (Nat.lt_of_lt_of_le HSL.out HB1.out.size)).trans HH1.out) (fun hHeld => ?_)
              clear hK K
              have HH5 := Lib.hid hHeld
              clear hHeld
              generalize hW5 : v1.alloc _ = v5 at HH5 ⊢
              have HQ5 : Hid (v5.heap[v1.heap.size]? = some (.cells (Z64.map (Value.int .u8)).toArray 103 (0, 0))) := Lib.hid (by rw [← hW5]; exact heap_alloc_new _ _)
              have HB5 : Hid (Below wr.heap.size wr v5) := Lib.hid (by rw [← hW5]; exact HB1.out.alloc HB1.out.size _)
              clear hW5
              have HLQ : Hid (wr.heap.size ≤ v1.heap.size) := Lib.hid HB1.out.size
              refine wpAnyH_ready (rs := [15]) (by kernel_rfl) (by simp) ?_
              refine AllReadyH.cons (o := ⟨some 35, _, _, _, _, _⟩) rfl (fun K hK => ?_) AllReadyH.nil
              rw [if_pos (by rfl)]
              go_simp
              refine (HBC.out _).mono ?_
              rintro e v6 ⟨rfl, b1⟩
              (try simp only [Act.put, List.setIfInBounds_toArray, List.set_cons_zero, List.set_cons_succ])
              refine hK.out _ _ ((b1.block S (Nat.lt_of_lt_of_le HSL.out HB5.out.size)).trans HH5.out) (fun hHeld => ?_)
              clear hK K
              have HH6 := Lib.hid hHeld
              clear hHeld
              have HB6 : Hid (Below wr.heap.size wr v6) := Lib.hid (HB5.out.trans (b1.mono HB5.out.size))
              have HQ6 : Hid (v6.heap[v1.heap.size]? = some (.cells (Z64.map (Value.int .u8)).toArray 103 (0, 0))) := Lib.hid ((b1.block _ (Array.getElem?_eq_some_iff.1 HQ5.out).1).trans HQ5.out)
              clear b1
              refine wpAnyH_ready (rs := [17]) (by kernel_rfl) (by simp) ?_
              refine AllReadyH.cons (o := ⟨none, _, _, _, _, _⟩) rfl (fun K hK => ?_) AllReadyH.nil
              rw [if_pos (by rfl)]
              refine wp_store_row 103 _ _ rfl v1.heap.size (AY .u8 BL) rfl rfl 103 _ HQ6.out IE.out ZE.out (AY_one _ _) ?_
              (try simp only [Act.put, List.setIfInBounds_toArray, List.set_cons_zero, List.set_cons_succ])
              refine hK.out _ _ ((setRow_other _ _ _ _ (by have := HSL.out; have := HLQ.out; omega)).trans HH6.out) (fun hHeld => ?_)
              clear hK K hHeld
              refine wpAnyH_done (by kernel_rfl) ?_ _
              have hfin : Hid (wr.heap.size ≤ v1.heap.size) ∧ Hid (Blk (v6.setRow v1.heap.size (AY .u8 BL)) v1.heap.size 103 (BL.map (Value.int .u8))) ∧ Hid (Below wr.heap.size wr (v6.setRow v1.heap.size (AY .u8 BL))) := ⟨HLQ, Lib.hid (AY_blk (setRow_heap _ _ _ _ _ _ HQ6.out)), Lib.hid (below_setRow HB6.out HLQ.out _)⟩
              have HFIN := Lib.hid hfin
              clear hfin
              go_wp2_with fail
              go_meet
              exact ⟨_, rfl, HFIN.out⟩
          · rw [if_pos (by rfl)]
            go_simp
            refine hK.out _ _ ((Below.heap_alloc _ _ _ (Nat.lt_of_lt_of_le HSL.out HB0.out.size)).trans HHd.out) (fun hHeld => ?_)
            clear hK K
            have HH8 := Lib.hid hHeld
            clear hHeld
            generalize hW8 : (wr.alloc _).drew = v8 at HH8 ⊢
            have HQ8 : Hid (v8.heap[wr.heap.size]? = some (.cells (Z64.map (Value.int .u8)).toArray 103 (0, 0))) := Lib.hid (by rw [← hW8]; exact heap_alloc_new wr _)
            have HB8 : Hid (Below wr.heap.size wr v8) := Lib.hid (by rw [← hW8]; have h := (Below.refl wr.heap.size wr).alloc (Nat.le_refl _) (.cells (Z64.map (Value.int .u8)).toArray 103); exact ⟨h.os, h.tape, h.output, h.size, h.block⟩)
            clear hW8
            have HLQ : Hid (wr.heap.size ≤ wr.heap.size) := Lib.hid (Nat.le_refl _)
            refine wpAnyH_ready (rs := [14]) (by kernel_rfl) (by simp) ?_
            refine AllReadyH.cons (o := ⟨some 34, _, _, _, _, _⟩) rfl (fun K hK => ?_) AllReadyH.nil
            rw [if_pos (by rfl)]
            go_simp
            refine (HNC.out _).mono ?_
            rintro e v9 ⟨rfl, b1⟩
            (try simp only [Act.put, List.setIfInBounds_toArray, List.set_cons_zero, List.set_cons_succ])
            refine hK.out _ _ ((b1.block S (Nat.lt_of_lt_of_le HSL.out HB8.out.size)).trans HH8.out) (fun hHeld => ?_)
            clear hK K
            have HH9 := Lib.hid hHeld
            clear hHeld
            have HB9 : Hid (Below wr.heap.size wr v9) := Lib.hid (HB8.out.trans (b1.mono HB8.out.size))
            have HQ9 : Hid (v9.heap[wr.heap.size]? = some (.cells (Z64.map (Value.int .u8)).toArray 103 (0, 0))) := Lib.hid ((b1.block _ (Array.getElem?_eq_some_iff.1 HQ8.out).1).trans HQ8.out)
            clear b1
            refine wpAnyH_ready (rs := [15]) (by kernel_rfl) (by simp) ?_
            refine AllReadyH.cons (o := ⟨some 35, _, _, _, _, _⟩) rfl (fun K hK => ?_) AllReadyH.nil
            rw [if_pos (by rfl)]
            go_simp
            refine (HBC.out _).mono ?_
            rintro e v10 ⟨rfl, b1⟩
            (try simp only [Act.put, List.setIfInBounds_toArray, List.set_cons_zero, List.set_cons_succ])
            refine hK.out _ _ ((b1.block S (Nat.lt_of_lt_of_le HSL.out HB9.out.size)).trans HH9.out) (fun hHeld => ?_)
            clear hK K
            have HH10 := Lib.hid hHeld
            clear hHeld
            have HB10 : Hid (Below wr.heap.size wr v10) := Lib.hid (HB9.out.trans (b1.mono HB9.out.size))
            have HQ10 : Hid (v10.heap[wr.heap.size]? = some (.cells (Z64.map (Value.int .u8)).toArray 103 (0, 0))) := Lib.hid ((b1.block _ (Array.getElem?_eq_some_iff.1 HQ9.out).1).trans HQ9.out)
            clear b1
            refine wpAnyH_ready (rs := [17]) (by kernel_rfl) (by simp) ?_
            refine AllReadyH.cons (o := ⟨none, _, _, _, _, _⟩) rfl (fun K hK => ?_) AllReadyH.nil
            rw [if_pos (by rfl)]
            refine wp_store_row 103 _ _ rfl wr.heap.size (AY .u8 BL) rfl rfl 103 _ HQ10.out IE.out ZE.out (AY_one _ _) ?_
            (try simp only [Act.put, List.setIfInBounds_toArray, List.set_cons_zero, List.set_cons_succ])
            refine hK.out _ _ ((setRow_other _ _ _ _ (by have := HSL.out; have := HLQ.out; omega)).trans HH10.out) (fun hHeld => ?_)
            clear hK K hHeld
            refine wpAnyH_done (by kernel_rfl) ?_ _
            have hfin : Hid (wr.heap.size ≤ wr.heap.size) ∧ Hid (Blk (v10.setRow wr.heap.size (AY .u8 BL)) wr.heap.size 103 (BL.map (Value.int .u8))) ∧ Hid (Below wr.heap.size wr (v10.setRow wr.heap.size (AY .u8 BL))) := ⟨HLQ, Lib.hid (AY_blk (setRow_heap _ _ _ _ _ _ HQ10.out)), Lib.hid (below_setRow HB10.out HLQ.out _)⟩
            have HFIN := Lib.hid hfin
            clear hfin
            go_wp2_with fail
            go_meet
            exact ⟨_, rfl, HFIN.out⟩
        case rest =>
          obtain ⟨Q, rfl, HQS, HQB, HWX⟩ := hcut
          have HBc : Hid (Blk wc S 102 (SRl ks nx A r c)) := Lib.hid (HB.out.below HWX.out HB.out.lt)
          have HSQ : Hid (S ≠ Q) := Lib.hid (by have := HB.out.lt; have := HQS.out; omega)
          have HOc : Hid (Own wc w.heap.size 5 .u8 (.slice A0 m c0) (rowL ks p m)) := Lib.hid (HO.out.below HWX.out)
          have HFc : Hid (Fr (fun b => b = S) w wc) := Lib.hid (HF.out.trans (Fr.of_below HWX.out _))
          have d33 : wc.cell? ⟨S, 33, none⟩ = some (.slice A r.length c) := (SRl_cells HBc.out HKL.out).2.2
          have d32 : wc.cell? ⟨S, 32, none⟩ = some (.int .u64 (nx : Int)) := (SRl_cells HBc.out HKL.out).2.1
          have e33 : wc.frozen? ⟨S, 33, none⟩ = false := HBc.out.frozen 33
          have e32 : wc.frozen? ⟨S, 32, none⟩ = false := HBc.out.frozen 32
          clear hc33 hf33 hc32 HO HF HB
          have hw64 : IntKind.u64.wrap ((nx : Int) + 1) = (((nx + 1) % 18446744073709551616 : Nat) : Int) := by simp [IntKind.wrap, IntKind.bits, IntKind.signed]
          obtain ⟨ny, hny⟩ : ∃ ny, ny = (nx + 1) % 18446744073709551616 := ⟨_, rfl⟩
          have HNY := Lib.hid hny
          rw [← hny] at hw64
          clear hny
          go_upto_region 7 with fail
          generalize hW7 : (wc.setCell ⟨S, 33, none⟩ _).setCell ⟨S, 32, none⟩ _ = w7
          obtain ⟨o, ho0⟩ : ∃ o : Nat, o = 0 := ⟨0, rfl⟩
          have HB7 : Hid (Blk w7 S 102 (SRl ks ny (some ⟨Q, o, none⟩) BL 64)) := Lib.hid (by
            rw [← hW7, ho0]
            have h := SRl_next (SRl_set HBc.out HKL.out (some ⟨Q, 0, none⟩) BL 64) HKL.out ny
            rw [HBL.out] at h
            exact h)
          have F7 : Hid (Fr (fun b => b = S) wc w7) := Lib.hid (by rw [← hW7]; exact ((Fr.refl (fun b => b = S) wc).setCell (p := ⟨S, 33, none⟩) (.inl rfl) _).setCell (p := ⟨S, 32, none⟩) (.inl rfl) _)
          have HR7 : Hid (Blk w7 Q 103 (BL.map (Value.int .u8)) ∧ BL.length = 64 ∧ o ≤ 64 ∧ BL = BL.drop o ∧ (64 : Nat) = 64 - o) := Lib.hid ⟨HQB.out.fr F7.out (fun e => HSQ.out e.symm), HBL.out, by omega, by rw [ho0]; rfl, by omega⟩
          have HN7 : Hid (BL = (blkAt ks (q / 64 % 18446744073709551616)).drop (q % 64) ∧ ny = (q / 64 + 1) % 18446744073709551616) := Lib.hid ⟨by rw [HBLE.out, HNQ.out, HQ0.out, List.drop_zero], by rw [HNY.out, HNQ.out]; omega⟩
          have HO7 : Hid (Own w7 w.heap.size 5 .u8 (.slice A0 m c0) (rowL ks p m)) := Lib.hid (HOc.out.fr F7.out (fun g hg e => HOS.out g hg e))
          have HF7 : Hid (Fr (fun b => b = S) w w7) := Lib.hid (HFc.out.trans F7.out)
          obtain ⟨L, hL⟩ : ∃ L, L = BL.length := ⟨_, rfl⟩
          have HL7 := Lib.hid hL
          have HC7 : Hid ((64 : Nat) = L) := Lib.hid (by rw [hL, HBL.out])
          have hc33 : w7.cell? ⟨S, 33, none⟩ = some (.slice (some ⟨Q, o, none⟩) L L) := by
            have h := (SRl_cells HB7.out HKL.out).2.2
            rw [← hL, HC7.out] at h
            exact h
          have hf33 : w7.frozen? ⟨S, 33, none⟩ = false := HB7.out.frozen 33
          have hr0 : ¬ L = 0 := by have := HC7.out; omega
          clear hL ho0
          clear hW7 d33 d32 e33 e32 HBc HQB HWX HOc HFc F7 hw64 HST HRP
          have hwk : IntKind.i64.wrap ((n : Int) - (m : Int)) = ((n - m : Nat) : Int) := by
            have : (n : Int) - (m : Int) = ((n - m : Nat) : Int) := by omega
            rw [this, IntKind.wrap_i64] <;> omega
          go_upto_region 8 with fail
          obtain ⟨k, hk, hk0, hkL, hkn⟩ : ∃ k : Nat, (if L < n - m then (L : Int) else ((n - m : Nat) : Int)) = (k : Int) ∧ 0 < k ∧ k ≤ L ∧ k ≤ n - m := by
            by_cases h : L < n - m
            · exact ⟨L, by rw [if_pos h], by omega, by omega, by omega⟩
            · exact ⟨n - m, by rw [if_neg h], by omega, by omega, by omega⟩
          rw [hk]
          clear hk hwk
          have HRD : Hid (Rd w7 .u8 (some ⟨Q, o, none⟩) (BL.take k)) := Lib.hid (by
            have h := (blk_rd0 HR7.out.1).drop' o
            rw [← HR7.out.2.2.2.1] at h
            exact h.take k)
          have HKT : Hid (k = (BL.take k).length) := Lib.hid (by rw [List.length_take, ← HL7.out]; omega)
          have HBS : Hid (w.heap.size ≤ w7.heap.size) := Lib.hid HF7.out.size
          have HKK : Hid (0 < k ∧ k ≤ BL.length) := Lib.hid ⟨hk0, by rw [← HL7.out]; exact hkL⟩
          have hkL' : (k : Int) ≤ (L : Int) := by omega
          have HMK : Hid (m + k ≤ n) := Lib.hid (by omega)
          go_upto_region 9 with (show wpList _ _ _ ({ dst := some 64, op := _, type := _, pos := _, after := _, guard := _ } :: _) _ _; refine wpList_pushes w7 rfl _ _ 75 rfl w.heap.size 5 .u8 1 Try.underlying75 info5 _ (rowL ks p m) rfl HO7.out Q o k _ (BL.take k) rfl HKT.out HRD.out (by rw [rowL_len, ← HKT.out]; omega) (by decide) HBS.out ?_; intro v' w8 ho hf; have HO8 := Lib.hid ho; have HF8 := Lib.hid hf; clear ho hf)
          have HB8 : Hid (Blk w8 S 102 (SRl ks ny (some ⟨Q, o, none⟩) BL 64)) := Lib.hid (HB7.out.fr HF8.out (fun e => HOS.out _ e rfl))
          have HR8 : Hid (Blk w8 Q 103 (BL.map (Value.int .u8))) := Lib.hid (HR7.out.1.fr HF8.out (fun e => own_neB HO7.out HR7.out.1 (by decide) e rfl))
          have HRL : Hid (rowL ks p (m + k) = rowL ks p m ++ BL.take k) := Lib.hid (by rw [rowL_add, ← HQ.out, rowL_blk ks q k (by have h := congrArg List.length HN7.out.1; rw [List.length_drop, blkAt_len] at h; have := HKK.out; omega), ← HN7.out.1])
          have HO9 : Hid (Own w8 w.heap.size 5 .u8 v' (rowL ks p (m + k))) := Lib.hid (by rw [HRL.out]; exact HO8.out)
          obtain ⟨A9, c9, hv9, -, -, -, -⟩ := HO9.out.slice
          rw [rowL_len] at hv9
          subst hv9
          have HS9 : Hid (∀ g, (Value.slice A9 (m + k) c9).ownBlock = some g → g ≠ S) := Lib.hid (fun g hg => own_neB HO9.out HB8.out (by decide) hg)
          have hc33 : w8.cell? ⟨S, 33, none⟩ = some (.slice (some ⟨Q, o, none⟩) L L) := by
            have h := (SRl_cells HB8.out HKL.out).2.2
            rw [← HL7.out, HC7.out] at h
            exact h
          have hf33 : w8.frozen? ⟨S, 33, none⟩ = false := HB8.out.frozen 33
          obtain ⟨U, hU⟩ : ∃ U : Option Addr, U = (if L = k then some ⟨Q, o, none⟩ else some ⟨Q, o + k, none⟩) := ⟨_, rfl⟩
          have HU := Lib.hid hU
          have HF9 : Hid (Fr (fun b => b = S) w (w8.setCell ⟨S, 33, none⟩ (.slice U (L - k) (L - k)))) := Lib.hid ((HF7.out.then HF8.out (fun i hi => .inr (HO7.out.base_le hi).1)).setCell (p := ⟨S, 33, none⟩) (.inl rfl) _)
          have FS9 : Hid (Fr (fun b => b = S) w8 (w8.setCell ⟨S, 33, none⟩ (.slice U (L - k) (L - k)))) := Lib.hid ((Fr.refl (fun b => b = S) w8).setCell (p := ⟨S, 33, none⟩) (.inl rfl) _)
          have HO10 : Hid (Own (w8.setCell ⟨S, 33, none⟩ (.slice U (L - k) (L - k))) w.heap.size 5 .u8 (.slice A9 (m + k) c9) (rowL ks p (m + k))) := Lib.hid (HO9.out.fr FS9.out (fun g hg e => HS9.out g hg e))
          have HS10 : Hid (Src (w8.setCell ⟨S, 33, none⟩ (.slice U (L - k) (L - k))) S ks (p + (m + k))) := Lib.hid (by
            have hd : (BL.drop k).length = L - k := by rw [List.length_drop, ← HL7.out]
            have h := SRl_set HB8.out HKL.out U (BL.drop k) (L - k)
            rw [hd] at h
            refine ⟨_, _, _, _, h, ?_, ?_⟩
            rotate_left
            by_cases hLk : L = k
            · exact .inl (List.eq_nil_of_length_eq_zero (by omega))
            refine .inr ⟨Q, o + k, BL, by rw [HU.out, if_neg hLk], HR8.out.fr FS9.out (fun e => Blk.ne HR8.out HB8.out (by decide) e), HR7.out.2.1, ?_, ?_, ?_⟩
            rotate_right
            · rw [show p + (m + k) = q + k from by rw [HQ.out]; omega]
              exact StP.step HN7.out.1 HN7.out.2 HKK.out.1 HKK.out.2
            · have := HKK.out; have h8 := HL7.out; have h9 := HC7.out; have h7 := HR7.out.2.2.2.2; have h4 := HR7.out.2.2.1; omega
            · conv => lhs; rw [HR7.out.2.2.2.1]
              rw [List.drop_drop]
            · have h6 := HC7.out; have h7 := HR7.out.2.2.2.2; omega)
          have hw1 : (L : Int) - (k : Int) = ((L - k : Nat) : Int) := by omega
          clear HO7 HB7 HR7 HN7 HO8 HF8 HB8 HR8 HRL HO9 HS9 FS9 HF7 HS
          go_wp2_with fail
          rw [← hU]
          clear hU
          go_roundw
          case rel => exact ⟨m + k, A9, c9, rfl, HMK.out, HO10, HS10, HF9⟩
          case measure => simp [lenV]; omega
      · clear hnx
        obtain ⟨hrq, hnq⟩ := StP.some HST.out (by omega)
        rcases HRP.out with h2 | ⟨g, o, bs, rfl, h2, h3, h4, h5, h6⟩
        · rw [h2] at hr0; simp at hr0
        have HR7 : Hid (Blk wr g 103 (bs.map (Value.int .u8)) ∧ bs.length = 64 ∧ o ≤ 64 ∧ r = bs.drop o ∧ c = 64 - o) := Lib.hid ⟨h2, h3, h4, h5, h6⟩
        have HN7 : Hid (r = (blkAt ks (q / 64 % 18446744073709551616)).drop (q % 64) ∧ nx = (q / 64 + 1) % 18446744073709551616) := Lib.hid ⟨hrq, hnq⟩
        obtain ⟨L, hL⟩ : ∃ L, L = r.length := ⟨_, rfl⟩
        have HL7 := Lib.hid hL
        rw [← hL] at hc33 hr0
        have hL64 : L ≤ 64 - o := by rw [hL, h5, List.length_drop, h3]; omega
        have HC7 : Hid (c = L) := Lib.hid (by rw [hL, h6, h5, List.length_drop, h3])
        rw [HC7.out] at hc33
        have HB7 := HB
        have HO7 := HO
        have HF7 := HF
        clear HO HF HB
        clear hrq hnq h2 h3 h4 h5 h6 hL hblk HST HRP HCB
        go_upto_region 7 with fail
        have hwk : IntKind.i64.wrap ((n : Int) - (m : Int)) = ((n - m : Nat) : Int) := by
          have : (n : Int) - (m : Int) = ((n - m : Nat) : Int) := by omega
          rw [this, IntKind.wrap_i64] <;> omega
        go_upto_region 8 with fail
        obtain ⟨k, hk, hk0, hkL, hkn⟩ : ∃ k : Nat, (if L < n - m then (L : Int) else ((n - m : Nat) : Int)) = (k : Int) ∧ 0 < k ∧ k ≤ L ∧ k ≤ n - m := by
          by_cases h : L < n - m
          · exact ⟨L, by rw [if_pos h], by omega, by omega, by omega⟩
          · exact ⟨n - m, by rw [if_neg h], by omega, by omega, by omega⟩
        rw [hk]
        clear hk hwk
        have HRD : Hid (Rd wr .u8 (some ⟨g, o, none⟩) (r.take k)) := Lib.hid (by
          have h := (blk_rd0 HR7.out.1).drop' o
          rw [← HR7.out.2.2.2.1] at h
          exact h.take k)
        have HKT : Hid (k = (r.take k).length) := Lib.hid (by rw [List.length_take, ← HL7.out]; omega)
        have HBS : Hid (w.heap.size ≤ wr.heap.size) := Lib.hid HF7.out.size
        have HKK : Hid (0 < k ∧ k ≤ r.length) := Lib.hid ⟨hk0, by rw [← HL7.out]; exact hkL⟩
        have hkL' : (k : Int) ≤ (L : Int) := by omega
        have HMK : Hid (m + k ≤ n) := Lib.hid (by omega)
        go_upto_region 9 with (show wpList _ _ _ ({ dst := some 64, op := _, type := _, pos := _, after := _, guard := _ } :: _) _ _; refine wpList_pushes wr rfl _ _ 75 rfl w.heap.size 5 .u8 1 Try.underlying75 info5 _ (rowL ks p m) rfl HO7.out g o k _ (r.take k) rfl HKT.out HRD.out (by rw [rowL_len, ← HKT.out]; omega) (by decide) HBS.out ?_; intro v' w8 ho hf; have HO8 := Lib.hid ho; have HF8 := Lib.hid hf; clear ho hf)
        have HB8 : Hid (Blk w8 S 102 (SRl ks nx (some ⟨g, o, none⟩) r c)) := Lib.hid (HB7.out.fr HF8.out (fun e => HOS.out _ e rfl))
        have HR8 : Hid (Blk w8 g 103 (bs.map (Value.int .u8))) := Lib.hid (HR7.out.1.fr HF8.out (fun e => own_neB HO7.out HR7.out.1 (by decide) e rfl))
        have HRL : Hid (rowL ks p (m + k) = rowL ks p m ++ r.take k) := Lib.hid (by rw [rowL_add, ← HQ.out, rowL_blk ks q k (by have h := congrArg List.length HN7.out.1; rw [List.length_drop, blkAt_len] at h; have := HKK.out; omega), ← HN7.out.1])
        have HO9 : Hid (Own w8 w.heap.size 5 .u8 v' (rowL ks p (m + k))) := Lib.hid (by rw [HRL.out]; exact HO8.out)
        obtain ⟨A9, c9, hv9, -, -, -, -⟩ := HO9.out.slice
        rw [rowL_len] at hv9
        subst hv9
        have HS9 : Hid (∀ g, (Value.slice A9 (m + k) c9).ownBlock = some g → g ≠ S) := Lib.hid (fun g hg => own_neB HO9.out HB8.out (by decide) hg)
        have hc33 : w8.cell? ⟨S, 33, none⟩ = some (.slice (some ⟨g, o, none⟩) L L) := by
          have h := (SRl_cells HB8.out HKL.out).2.2
          rw [← HL7.out, HC7.out] at h
          exact h
        have hf33 : w8.frozen? ⟨S, 33, none⟩ = false := HB8.out.frozen 33
        obtain ⟨U, hU⟩ : ∃ U : Option Addr, U = (if L = k then some ⟨g, o, none⟩ else some ⟨g, o + k, none⟩) := ⟨_, rfl⟩
        have HU := Lib.hid hU
        have HF9 : Hid (Fr (fun b => b = S) w (w8.setCell ⟨S, 33, none⟩ (.slice U (L - k) (L - k)))) := Lib.hid ((HF7.out.then HF8.out (fun i hi => .inr (HO7.out.base_le hi).1)).setCell (p := ⟨S, 33, none⟩) (.inl rfl) _)
        have FS9 : Hid (Fr (fun b => b = S) w8 (w8.setCell ⟨S, 33, none⟩ (.slice U (L - k) (L - k)))) := Lib.hid ((Fr.refl (fun b => b = S) w8).setCell (p := ⟨S, 33, none⟩) (.inl rfl) _)
        have HO10 : Hid (Own (w8.setCell ⟨S, 33, none⟩ (.slice U (L - k) (L - k))) w.heap.size 5 .u8 (.slice A9 (m + k) c9) (rowL ks p (m + k))) := Lib.hid (HO9.out.fr FS9.out (fun g hg e => HS9.out g hg e))
        have HS10 : Hid (Src (w8.setCell ⟨S, 33, none⟩ (.slice U (L - k) (L - k))) S ks (p + (m + k))) := Lib.hid (by
          have hd : (r.drop k).length = L - k := by rw [List.length_drop, ← HL7.out]
          have h := SRl_set HB8.out HKL.out U (r.drop k) (L - k)
          rw [hd] at h
          refine ⟨_, _, _, _, h, ?_, ?_⟩
          rotate_left
          by_cases hLk : L = k
          · exact .inl (List.eq_nil_of_length_eq_zero (by omega))
          refine .inr ⟨g, o + k, bs, by rw [HU.out, if_neg hLk], HR8.out.fr FS9.out (fun e => Blk.ne HR8.out HB8.out (by decide) e), HR7.out.2.1, ?_, ?_, ?_⟩
          rotate_right
          · rw [show p + (m + k) = q + k from by rw [HQ.out]; omega]
            exact StP.step HN7.out.1 HN7.out.2 HKK.out.1 HKK.out.2
          · have := HKK.out; have h8 := HL7.out; have h9 := HC7.out; have h7 := HR7.out.2.2.2.2; have h4 := HR7.out.2.2.1; omega
          · conv => lhs; rw [HR7.out.2.2.2.1]
            rw [List.drop_drop]
          · have h6 := HC7.out; have h7 := HR7.out.2.2.2.2; omega)
        have hw1 : (L : Int) - (k : Int) = ((L - k : Nat) : Int) := by omega
        clear HO7 HB7 HR7 HN7 HO8 HF8 HB8 HR8 HRL HO9 HS9 FS9 HF7 HS
        go_wp2_with fail
        rw [← hU]
        clear hU
        go_roundw
        case rel => exact ⟨m + k, A9, c9, rfl, HMK.out, HO10, HS10, HF9⟩
        case measure => simp [lenV]; omega
    · obtain rfl : m = n := by omega
      have hge : decide ((m : Int) < (m : Int)) = false := by simp
      clear hlt
      go_wp2_with fail
      go_ret
      exact ⟨_, rfl, HO.out, HS.out, HF.out⟩
end Go.Proofs.Ytcfbaildcocnhaa

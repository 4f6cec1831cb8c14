/-
  Walk: Xor of the program's stream.
-/
import Derived.Test.YtldbmjkecmmmjaaKs
import Derived.Deep.Cut
import Derived.Deep.DeepCutAuto
set_option linter.unusedVariables false
set_option linter.unusedSimpArgs false
namespace Go.Proofs.Ytldbmjkecmmmjaa
open Go.RowKit

/-- What a stream's Xor answers. -/
def xorV (T : Nat) (ks ns : List Int) (p : Nat) (xs : List Int) (g : Nat) (kd : IntKind) (w : World) (e : Ending) (w' : World) : Prop :=
  (274877906944 - p < xs.length ∧ e = .returned (.tuple #[.slice none 0 0, .int kd 50]) ∧ w' = w) ∨
  (xs.length ≤ 274877906944 - p ∧ ∃ v, e = .returned (.tuple #[v, .int kd 0]) ∧ Own w' w.heap.size 5 .u8 v (lay ks ns p xs) ∧ Blk w' g T (SGl ks ns (p + xs.length)) ∧ Fr (fun j => j = g) w w')

set_option maxRecDepth 100000 in
set_option maxHeartbeats 16000000 in
theorem xor_any (g : Nat) (A : Option Addr) (n cap : Nat) (xs ks ns : List Int) (p : Nat) (w : World) (hn : n = xs.length) (hr : Rd w .u8 A xs) (hB : B8 xs) (hA : 0 < xs.length → ∀ a, A = some a → a.block ≠ g) (hl : xs.length ≤ 140737488355328)
    (hg : Blk w g 87 (SGl ks ns p)) (hp : p ≤ 274877906944) (hk : ks.length = 32) (hns : ns.length = 12) (bk : B8 ks) (bn : B8 ns) :
    Calls Try.prog 28 #[.pointer (some ⟨g, 0, none⟩), .slice A n cap] w (xorV 87 ks ns p xs g .i64 w) := by
  have HN := Lib.hid hn
  have HR := Lib.hid hr
  have HBX := Lib.hid hB
  have HA := Lib.hid hA
  have HG := Lib.hid hg
  have HCB : Hid (∀ c W, c < 4294967296 → Calls Try.prog 15 #[.agg (AY .u8 ks), .int .u32 ((c : Nat) : Int), .agg (AY .u8 ns)] W fun e w' => e = .returned (.agg (AY .u8 (blkL ks ns c))) ∧ Below W.heap.size W w') := Lib.hid (fun c W hc => block_any ks ns c W hk hns bk bn hc)
  have I31 : Hid ((Try.prog.info? 31).map (·.size) = some ks.length) := Lib.hid (by rw [info31, hk])
  have I33 : Hid ((Try.prog.info? 33).map (·.size) = some ns.length) := Lib.hid (by rw [info33, hns])
  have HSR : Hid (∀ W q, Blk W g 87 (SGl ks ns q) → W.rangeAt g 0 (ks.map (Value.int .u8)) ∧ W.rangeAt g 32 (ns.map (Value.int .u8)) ∧ W.cell? ⟨g, 44, none⟩ = some (.int .u64 (q : Int))) := Lib.hid (fun W q h => SGl_range h hk hns)
  have HSS : Hid (∀ W q q2, Blk W g 87 (SGl ks ns q) → Blk (W.setCell ⟨g, 44, none⟩ (.int .u64 ((q2 : Nat) : Int))) g 87 (SGl ks ns q2)) := Lib.hid (fun W q q2 h => SGl_set h hk hns q2)
  have hn48 : n ≤ 140737488355328 := by omega
  have hcp : w.cell? ⟨g, 44, none⟩ = some (.int .u64 (p : Int)) := (SGl_range hg hk hns).2.2
  have hsub : IntKind.u64.wrap (274877906944 - (p : Int)) = ((274877906944 - p : Nat) : Int) := by simp [IntKind.wrap, IntKind.bits, IntKind.signed]; omega
  have hsub2 : (274877906944 : Int) - (p : Int) = ((274877906944 - p : Nat) : Int) := by omega
  clear hn hr hB hA hg bk bn hk hns
  by_cases hbig : 274877906944 - p < n
  · have hd : decide (((274877906944 - p : Nat) : Int) < (n : Int)) = true := by simp; omega
    have HBIG : Hid (274877906944 - p < xs.length) := Lib.hid (by rw [← HN.out]; exact hbig)
    obtain ⟨M, hM⟩ : ∃ M, M = 274877906944 - p := ⟨_, rfl⟩
    rw [← hM] at hd hsub hsub2
    clear hM
    go_enter Try.func28, Try.ntmps28
    go_wp2_with fail
    go_ret2
    exact .inl ⟨HBIG.out, rfl, rfl⟩
  · have hd : decide (((274877906944 - p : Nat) : Int) < (n : Int)) = false := by simp; omega
    have HFIT : Hid (xs.length ≤ 274877906944 - p) := Lib.hid (by rw [← HN.out]; omega)
    have hpn : p + n ≤ 274877906944 := by omega
    obtain ⟨M, hM⟩ : ∃ M, M = 274877906944 - p := ⟨_, rfl⟩
    rw [← hM] at hd hsub hsub2
    have HMM := Lib.hid hM
    clear hM hbig
    have HNL : Hid (Rd w .u8 A xs) := HR
    go_enter Try.func28, Try.ntmps28
    go_upto_region 6 with (first
      | (refine wpList_make_blk w rfl _ _ 39 rfl 5 .u8 1 Try.underlying39 info5 .i64 .i64 n rfl rfl (by omega) (by omega) ?_; intro w1 hb0 hfr0; have B0 := Lib.hid hb0; have F0 := Lib.hid hfr0; clear hb0 hfr0))
    have G1 : Hid (Blk w1 g 87 (SGl ks ns (p + 0))) := Lib.hid (HG.out.fr F0.out (fun h => h))
    have HGO : Hid (g < w.heap.size) := Lib.hid HG.out.lt
    obtain ⟨O, hO⟩ : ∃ O, O = w.heap.size := ⟨_, rfl⟩
    have HOE := Lib.hid hO
    rw [← hO] at B0 HGO ⊢
    clear hO
    have HLL : Hid ((lay ks ns p xs).length = (List.replicate n (0 : Int)).length) := Lib.hid (by rw [lay_len, List.length_replicate, HN.out])
    have B1 : Hid (Blk w1 O 5 ((upd 0 (lay ks ns p xs) (List.replicate n 0)).map (Value.int .u8))) := Lib.hid (by rw [upd_zero]; exact B0.out)
    clear hcp hsub hsub2 hd B0
    go_wp2_with fail
    go_loopw [7] (fun dv wr => ∃ k : Nat, k ≤ n ∧ dv = .int .i64 k ∧ Hid (Blk wr O 5 ((upd k (lay ks ns p xs) (List.replicate n 0)).map (Value.int .u8))) ∧ Hid (Blk wr g 87 (SGl ks ns (p + k))) ∧ Hid (Fr (fun j => j = g ∨ j = O) w1 wr)) (fun dv _ => n - (intOf dv).toNat)
    case atStart => exact ⟨0, Nat.zero_le _, rfl, B1, G1, Lib.hid (Fr.refl _ _)⟩
    case round =>
      clear B1 G1
      obtain ⟨k, hkn, rfl, HO, HG1, HF⟩ := hrel
      by_cases hlt : k < n
      · have hdk : decide ((k : Int) < (n : Int)) = true := by simp; omega
        obtain ⟨q, hq⟩ : ∃ q, q = p + k := ⟨_, rfl⟩
        have HQ := Lib.hid hq
        rw [← hq] at HG1
        have hq38 : q < 274877906944 := by omega
        clear hq
        obtain ⟨d, hd⟩ : ∃ d, d = q / 64 := ⟨_, rfl⟩
        have HD := Lib.hid hd
        have hd32 : d < 4294967296 := by omega
        have HTD : Hid (Int.tdiv (q : Int) 64 = (d : Int)) := Lib.hid (by rw [Int.tdiv_eq_ediv_of_nonneg (by omega), hd]; omega)
        clear hd
        have HBC : Hid (∀ W, Calls Try.prog 15 #[.agg (AY .u8 ks), .int .u32 ((d : Nat) : Int), .agg (AY .u8 ns)] W fun e w' => e = .returned (.agg (AY .u8 (blkL ks ns d))) ∧ Below W.heap.size W w') := Lib.hid (fun W => HCB.out d W hd32)
        have IE : Hid ((Try.prog.info? 36).map (·.size) = some (AY .u8 (blkL ks ns d)).size) := Lib.hid (by rw [info36, AY_size, blkL_len])
        have ZE : Hid (((Z64.map (Value.int .u8)).toArray).size = (AY .u8 (blkL ks ns d)).size) := Lib.hid (by rw [AY_size, blkL_len]; rfl)
        have HBN : Hid (∀ i r, q % 64 = r → r + i < 64 → kst ks ns (q + i) = (blkL ks ns d).getD (r + i) 0) := Lib.hid (fun i r h1 h2 => by rw [kst_blk ks ns q r i h1 h2, ← HD.out, Nat.mod_eq_of_lt hd32])
        have HBLL : Hid ((blkL ks ns d).length = 64 ∧ B8 (blkL ks ns d)) := Lib.hid ⟨blkL_len _ _ _, blkL_B8 _ _ _⟩
        generalize blkL ks ns d = BL at *
        go_upto_region 8 with fail
        go_cut [8] (fun qv wx => ∃ Q, qv = .pointer (some ⟨Q, 0, none⟩) ∧ Hid (wr.heap.size ≤ Q) ∧ Hid (Blk wx Q 36 (BL.map (Value.int .u8))) ∧ Hid (Below wr.heap.size wr wx))
        case first =>
          refine wp_region_held_drew (S := fun w' => w'.heap[g]? = wr.heap[g]?) (by kernel_rfl) (rfl) (fun hHeld => ?_)
          have HHd := Lib.hid hHeld
          clear hHeld
          have hwd64 : IntKind.u64.wrap (d : Int) = (d : Int) := by simp [IntKind.wrap, IntKind.bits, IntKind.signed]; omega
          have hwd : IntKind.u32.wrap (d : Int) = (d : Int) := by simp [IntKind.wrap, IntKind.bits, IntKind.signed]; omega
          refine wpAnyH_take (i := 0) (oi := ⟨some 30, _, _, _, _, _⟩) (v := (.pointer (some ⟨g, 0, none⟩))) rfl (by kernel_rfl) (by kernel_rfl) (by kernel_rfl) (fun _ _ _ h => h) (Or.inl ⟨by rfl, ?_⟩) HHd.out ?_
          · intro w' hS; go_simp; try with_reducible rfl
          simp only [Act.put, List.setIfInBounds_toArray, List.set_cons_zero, List.set_cons_succ]
          refine wpAnyH_take (i := 1) (oi := ⟨some 31, _, _, _, _, _⟩) (v := (.pointer (some ⟨g, 0, none⟩))) rfl (by kernel_rfl) (by kernel_rfl) (by kernel_rfl) (fun _ _ _ h => h) (Or.inl ⟨by rfl, ?_⟩) HHd.out ?_
          · intro w' hS; go_simp; try with_reducible rfl
          simp only [Act.put, List.setIfInBounds_toArray, List.set_cons_zero, List.set_cons_succ]
          refine wpAnyH_take (i := 2) (oi := ⟨some 32, _, _, _, _, _⟩) (v := (.pointer (some ⟨g, 0, none⟩))) rfl (by kernel_rfl) (by kernel_rfl) (by kernel_rfl) (fun _ _ _ h => h) (Or.inl ⟨by rfl, ?_⟩) HHd.out ?_
          · intro w' hS; go_simp; try with_reducible rfl
          simp only [Act.put, List.setIfInBounds_toArray, List.set_cons_zero, List.set_cons_succ]
          refine wpAnyH_take (i := 3) (oi := ⟨some 33, _, _, _, _, _⟩) (v := (.agg (AY .u8 ks))) rfl (by kernel_rfl) (by kernel_rfl) (by kernel_rfl) (fun _ _ _ h => h) (Or.inl ⟨by rfl, ?_⟩) HHd.out ?_
          · intro w' hS; exact exec_load_AY 31 _ rfl g 0 (by rfl) .u8 ks _ (range_of_block (HSR.out wr q HG1.out).1 hS) Try.underlying31 rfl I31.out
          simp only [Act.put, List.setIfInBounds_toArray, List.set_cons_zero, List.set_cons_succ]
          refine wpAnyH_take (i := 4) (oi := ⟨some 34, _, _, _, _, _⟩) (v := (.pointer (some ⟨g, 0, none⟩))) rfl (by kernel_rfl) (by kernel_rfl) (by kernel_rfl) (fun _ _ _ h => h) (Or.inl ⟨by rfl, ?_⟩) HHd.out ?_
          · intro w' hS; go_simp; try with_reducible rfl
          simp only [Act.put, List.setIfInBounds_toArray, List.set_cons_zero, List.set_cons_succ]
          refine wpAnyH_take (i := 5) (oi := ⟨some 35, _, _, _, _, _⟩) (v := (.pointer (some ⟨g, 0, none⟩))) rfl (by kernel_rfl) (by kernel_rfl) (by kernel_rfl) (fun _ _ _ h => h) (Or.inl ⟨by rfl, ?_⟩) HHd.out ?_
          · intro w' hS; go_simp; try with_reducible rfl
          simp only [Act.put, List.setIfInBounds_toArray, List.set_cons_zero, List.set_cons_succ]
          refine wpAnyH_take (i := 6) (oi := ⟨some 36, _, _, _, _, _⟩) (v := (.pointer (some ⟨g, 44, none⟩))) rfl (by kernel_rfl) (by kernel_rfl) (by kernel_rfl) (fun _ _ _ h => h) (Or.inl ⟨by rfl, ?_⟩) HHd.out ?_
          · intro w' hS; go_simp; try with_reducible rfl
          simp only [Act.put, List.setIfInBounds_toArray, List.set_cons_zero, List.set_cons_succ]
          refine wpAnyH_take (i := 7) (oi := ⟨some 37, _, _, _, _, _⟩) (v := (.int .u64 (q : Int))) rfl (by kernel_rfl) (by kernel_rfl) (by kernel_rfl) (fun _ _ _ h => h) (Or.inl ⟨by rfl, ?_⟩) HHd.out ?_
          · intro w' hS; have z0 : w'.cell? ⟨g, 44, none⟩ = some (.int .u64 (q : Int)) := (World.cell?_of_block (w := wr) (w' := w') hS).trans (HSR.out wr q HG1.out).2.2; go_simp; try with_reducible rfl
          simp only [Act.put, List.setIfInBounds_toArray, List.set_cons_zero, List.set_cons_succ]
          refine wpAnyH_take (i := 8) (oi := ⟨some 38, _, _, _, _, _⟩) (v := (.int .u64 (d : Int))) rfl (by kernel_rfl) (by kernel_rfl) (by kernel_rfl) (fun _ _ _ h => h) (Or.inl ⟨by rfl, ?_⟩) HHd.out ?_
          · intro w' hS; have htd := HTD.out; go_simp; try with_reducible rfl
          simp only [Act.put, List.setIfInBounds_toArray, List.set_cons_zero, List.set_cons_succ]
          refine wpAnyH_take (i := 9) (oi := ⟨some 39, _, _, _, _, _⟩) (v := (.int .u32 (d : Int))) rfl (by kernel_rfl) (by kernel_rfl) (by kernel_rfl) (fun _ _ _ h => h) (Or.inl ⟨by rfl, ?_⟩) HHd.out ?_
          · intro w' hS; go_simp; try with_reducible rfl
          simp only [Act.put, List.setIfInBounds_toArray, List.set_cons_zero, List.set_cons_succ]
          refine wpAnyH_take (i := 10) (oi := ⟨some 40, _, _, _, _, _⟩) (v := (.pointer (some ⟨g, 0, none⟩))) rfl (by kernel_rfl) (by kernel_rfl) (by kernel_rfl) (fun _ _ _ h => h) (Or.inl ⟨by rfl, ?_⟩) HHd.out ?_
          · intro w' hS; go_simp; try with_reducible rfl
          simp only [Act.put, List.setIfInBounds_toArray, List.set_cons_zero, List.set_cons_succ]
          refine wpAnyH_take (i := 11) (oi := ⟨some 41, _, _, _, _, _⟩) (v := (.pointer (some ⟨g, 0, none⟩))) rfl (by kernel_rfl) (by kernel_rfl) (by kernel_rfl) (fun _ _ _ h => h) (Or.inl ⟨by rfl, ?_⟩) HHd.out ?_
          · intro w' hS; go_simp; try with_reducible rfl
          simp only [Act.put, List.setIfInBounds_toArray, List.set_cons_zero, List.set_cons_succ]
          refine wpAnyH_take (i := 12) (oi := ⟨some 42, _, _, _, _, _⟩) (v := (.pointer (some ⟨g, 32, none⟩))) rfl (by kernel_rfl) (by kernel_rfl) (by kernel_rfl) (fun _ _ _ h => h) (Or.inl ⟨by rfl, ?_⟩) HHd.out ?_
          · intro w' hS; go_simp; try with_reducible rfl
          simp only [Act.put, List.setIfInBounds_toArray, List.set_cons_zero, List.set_cons_succ]
          refine wpAnyH_take (i := 13) (oi := ⟨some 43, _, _, _, _, _⟩) (v := (.agg (AY .u8 ns))) rfl (by kernel_rfl) (by kernel_rfl) (by kernel_rfl) (fun _ _ _ h => h) (Or.inl ⟨by rfl, ?_⟩) HHd.out ?_
          · intro w' hS; exact exec_load_AY 33 _ rfl g 32 (by rfl) .u8 ns _ (range_of_block (HSR.out wr q HG1.out).2.1 hS) Try.underlying33 rfl I33.out
          simp only [Act.put, List.setIfInBounds_toArray, List.set_cons_zero, List.set_cons_succ]
          have HPD : Hid (g < wr.heap.size) := Lib.hid HG1.out.lt
          refine wpAnyH_ready (rs := [14, 15]) (by kernel_rfl) (by simp) ?_
          refine AllReadyH.cons (o := ⟨some 44, _, _, _, _, _⟩) rfl (fun K hK => ?_) (AllReadyH.cons (o := ⟨some 8, _, _, _, _, _⟩) rfl (fun K hK => ?_) AllReadyH.nil)
          · rw [if_pos (by rfl)]
            go_simp
            refine (HBC.out _).mono ?_
            rintro e w2 ⟨rfl, b1⟩
            (try simp only [Act.put, List.setIfInBounds_toArray, List.set_cons_zero, List.set_cons_succ])
            refine hK.out _ _ ((b1.block g HPD.out).trans HHd.out) (fun hHeld => ?_)
            clear hK K
            have HH1 := Lib.hid hHeld
            clear hHeld HHd
            have HB1 : Hid (Below wr.heap.size wr w2) := Lib.hid ((⟨rfl, rfl, rfl, Nat.le_refl _, fun _ _ => rfl⟩ : Below wr.heap.size wr wr.drew).trans b1)
            clear b1
            refine wpAnyH_ready (rs := [15]) (by kernel_rfl) (by simp) ?_
            refine AllReadyH.cons (o := ⟨some 8, _, _, _, _, _⟩) rfl (fun K hK => ?_) AllReadyH.nil
            rw [if_pos (by rfl)]
            go_simp
            refine hK.out _ _ ((Below.heap_alloc _ _ _ (by have := HPD.out; have := HB1.out.size; omega)).trans HH1.out) (fun hHeld => ?_)
            clear hK K
            have HH2 := Lib.hid hHeld
            clear hHeld HH1
            generalize hW3 : w2.alloc _ = w3
            have HQ2 : Hid (w3.heap[w2.heap.size]? = some (.cells (Z64.map (Value.int .u8)).toArray 36 (0, 0))) := Lib.hid (by rw [← hW3]; exact heap_alloc_new _ _)
            have HB2 : Hid (Below wr.heap.size wr w3) := Lib.hid (by rw [← hW3]; exact HB1.out.alloc HB1.out.size _)
            rw [hW3] at HH2
            clear hW3
            refine wpAnyH_ready (rs := [16]) (by kernel_rfl) (by simp) ?_
            refine AllReadyH.cons (o := ⟨none, _, _, _, _, _⟩) rfl (fun K hK => ?_) AllReadyH.nil
            rw [if_pos (by rfl)]
            refine wp_store_row 36 _ _ rfl w2.heap.size (AY .u8 BL) rfl rfl 36 _ HQ2.out IE.out ZE.out (AY_one _ _) ?_
            (try simp only [Act.put, List.setIfInBounds_toArray, List.set_cons_zero, List.set_cons_succ])
            refine hK.out _ _ ((setRow_other _ _ _ _ (by have := HPD.out; have := HB1.out.size; omega)).trans HH2.out) (fun hHeld => ?_)
            clear hK K hHeld
            refine wpAnyH_done (by kernel_rfl) ?_ _
            have hfin : Hid (wr.heap.size ≤ w2.heap.size) ∧ Hid (Blk (w3.setRow w2.heap.size (AY .u8 BL)) w2.heap.size 36 (BL.map (Value.int .u8))) ∧ Hid (Below wr.heap.size wr (w3.setRow w2.heap.size (AY .u8 BL))) := ⟨Lib.hid HB1.out.size, Lib.hid (AY_blk (setRow_heap _ _ _ _ _ _ HQ2.out)), Lib.hid (below_setRow HB2.out HB1.out.size _)⟩
            have HFIN := Lib.hid hfin
            clear hfin
            go_wp2_with fail
            go_meet
            exact ⟨_, rfl, HFIN.out⟩
          · rw [if_pos (by rfl)]
            go_simp
            refine hK.out _ _ ((Below.heap_alloc _ _ _ (by have := HPD.out; show g < wr.heap.size; omega)).trans HHd.out) (fun hHeld => ?_)
            clear hK K
            have HH1 := Lib.hid hHeld
            clear hHeld HHd
            generalize hW2 : (wr.alloc _).drew = w2 at HH1 ⊢
            have HQ1 : Hid (w2.heap[wr.heap.size]? = some (.cells (Z64.map (Value.int .u8)).toArray 36 (0, 0))) := Lib.hid (by rw [← hW2]; exact heap_alloc_new wr _)
            have HB1 : Hid (Below wr.heap.size wr w2) := Lib.hid (by rw [← hW2]; have h := (Below.refl wr.heap.size wr).alloc (Nat.le_refl _) (.cells (Z64.map (Value.int .u8)).toArray 36); exact ⟨h.os, h.tape, h.output, h.size, h.block⟩)
            clear hW2
            have HLT : Hid (wr.heap.size < w2.heap.size) := Lib.hid (Array.getElem?_eq_some_iff.1 HQ1.out).1
            refine wpAnyH_ready (rs := [14]) (by kernel_rfl) (by simp) ?_
            refine AllReadyH.cons (o := ⟨some 44, _, _, _, _, _⟩) rfl (fun K hK => ?_) AllReadyH.nil
            rw [if_pos (by rfl)]
            go_simp
            refine (HBC.out _).mono ?_
            rintro e w3 ⟨rfl, b1⟩
            (try simp only [Act.put, List.setIfInBounds_toArray, List.set_cons_zero, List.set_cons_succ])
            refine hK.out _ _ ((b1.block g (Nat.lt_trans HPD.out HLT.out)).trans HH1.out) (fun hHeld => ?_)
            clear hK K
            have HH2 := Lib.hid hHeld
            clear hHeld HH1
            have HQ2 : Hid (w3.heap[wr.heap.size]? = some (.cells (Z64.map (Value.int .u8)).toArray 36 (0, 0))) := Lib.hid ((b1.block _ HLT.out).trans HQ1.out)
            have HB2 : Hid (Below wr.heap.size wr w3) := Lib.hid (HB1.out.trans (b1.mono (Nat.le_of_lt HLT.out)))
            clear b1
            refine wpAnyH_ready (rs := [16]) (by kernel_rfl) (by simp) ?_
            refine AllReadyH.cons (o := ⟨none, _, _, _, _, _⟩) rfl (fun K hK => ?_) AllReadyH.nil
            rw [if_pos (by rfl)]
            refine wp_store_row 36 _ _ rfl wr.heap.size (AY .u8 BL) rfl rfl 36 _ HQ2.out IE.out ZE.out (AY_one _ _) ?_
            (try simp only [Act.put, List.setIfInBounds_toArray, List.set_cons_zero, List.set_cons_succ])
            refine hK.out _ _ ((setRow_other _ _ _ _ (by have := HPD.out; omega)).trans HH2.out) (fun hHeld => ?_)
            clear hK K hHeld
            refine wpAnyH_done (by kernel_rfl) ?_ _
            have hfin : Hid (wr.heap.size ≤ wr.heap.size) ∧ Hid (Blk (w3.setRow wr.heap.size (AY .u8 BL)) wr.heap.size 36 (BL.map (Value.int .u8))) ∧ Hid (Below wr.heap.size wr (w3.setRow wr.heap.size (AY .u8 BL))) := ⟨Lib.hid (Nat.le_refl _), Lib.hid (AY_blk (setRow_heap _ _ _ _ _ _ HQ2.out)), Lib.hid (below_setRow HB2.out (Nat.le_refl _) _)⟩
            have HFIN := Lib.hid hfin
            clear hfin
            go_wp2_with fail
            go_meet
            exact ⟨_, rfl, HFIN.out⟩
        case rest =>
          obtain ⟨Q, rfl, HQS, HQB, HWX⟩ := hcut
          have Oc : Hid (Blk wc O 5 ((upd k (lay ks ns p xs) (List.replicate n 0)).map (Value.int .u8))) := Lib.hid (HO.out.below HWX.out HO.out.lt)
          have Gc : Hid (Blk wc g 87 (SGl ks ns q)) := Lib.hid (HG1.out.below HWX.out HG1.out.lt)
          have Fc : Hid (Fr (fun j => j = g ∨ j = O) w1 wc) := Lib.hid (HF.out.trans (Fr.of_below HWX.out _))
          have HQG : Hid (O < Q ∧ g < Q) := Lib.hid ⟨Nat.lt_of_lt_of_le HO.out.lt HQS.out, Nat.lt_of_lt_of_le HG1.out.lt HQS.out⟩
          have hcq : wc.cell? ⟨g, 44, none⟩ = some (.int .u64 (q : Int)) := (HSR.out wc q Gc.out).2.2
          obtain ⟨r, hrr⟩ : ∃ r, r = q % 64 := ⟨_, rfl⟩
          have HRR := Lib.hid hrr
          have hr64 : r < 64 := by omega
          have htm : Int.tmod (q : Int) 64 = (r : Int) := by rw [Int.tmod_eq_emod_of_nonneg (by omega), hrr]; omega
          have hwr : IntKind.u64.wrap (r : Int) = (r : Int) := by simp [IntKind.wrap, IntKind.bits, IntKind.signed]; omega
          clear hrr
          have hs1 : (0 : Int) ≤ (r : Int) := by omega
          have hs2 : (r : Int) ≤ 64 := by omega
          have hs3 : ¬ (64 = r) := by omega
          have hwk : IntKind.i64.wrap ((n : Int) - (k : Int)) = ((n - k : Nat) : Int) := by
            have : (n : Int) - (k : Int) = ((n - k : Nat) : Int) := by omega
            rw [this]; simp [IntKind.wrap, IntKind.bits, IntKind.signed]; omega
          clear HO HG1 HF HWX HBC IE ZE
          go_upto_region 11 with fail
          obtain ⟨m, hm, hm1, hm2, hm3⟩ : ∃ m : Nat, (if n - k < 64 - r then ((n - k : Nat) : Int) else ((64 - r : Nat) : Int)) = (m : Int) ∧ m ≤ 64 - r ∧ m ≤ n - k ∧ 1 ≤ m := by
            by_cases h : n - k < 64 - r
            · exact ⟨n - k, by rw [if_pos h], by omega, by omega, by omega⟩
            · exact ⟨64 - r, by rw [if_neg h], by omega, by omega, by omega⟩
          rw [hm]
          clear hm
          have BO0 : Hid (Blk wc O 5 ((upd (k + 0) (lay ks ns p xs) (List.replicate n 0)).map (Value.int .u8))) := Oc
          clear hs1 hs2 hs3 hwk htm hwr hcq
          go_wp2_with fail
          go_loopw [59] (fun iv wr => ∃ i : Nat, i ≤ m ∧ iv = .int .i64 i ∧ Hid (Blk wr O 5 ((upd (k + i) (lay ks ns p xs) (List.replicate n 0)).map (Value.int .u8))) ∧ Hid (Fr (fun j => j = O) wc wr)) (fun iv _ => m - (intOf iv).toNat)
          case atStart => exact ⟨0, Nat.zero_le _, rfl, BO0, Lib.hid (Fr.refl _ _)⟩
          case round =>
            clear BO0
            obtain ⟨i, him, rfl, HOi, HFi⟩ := hrel
            by_cases hlti : i < m
            · have hki : k + i < n := by omega
              have HKL : Hid (k + i < xs.length) := Lib.hid (by rw [← HN.out]; exact hki)
              have HF0 : Hid (Fr (fun j => j = g ∨ j = O) w1 wr) := Lib.hid (Fc.out.trans (HFi.out.mono (fun _ h => .inr h)))
              have HRK : Hid (Rd wr .u8 A xs) := Lib.hid ((HR.out.fr F0.out (fun _ _ h => h)).fr HF0.out (fun a ha h => by
                rcases h with h | h
                · exact HA.out (by have := HKL.out; omega) a ha h
                · obtain ⟨b0, o0, hb0, hc0⟩ := HR.out (k + i) HKL.out
                  rw [hb0] at ha
                  injection ha with ha
                  subst ha
                  have := World.block_lt_of_cell? w _ hc0
                  rw [HOE.out] at h
                  simp at h this
                  omega))
              obtain ⟨b, off, x, rfl, hcx, HXK⟩ := HRK.out.at (k + i) HKL.out
              have HBO : Hid (b ≠ O) := Lib.hid (by
                obtain ⟨b0, o0, hb0, hc0⟩ := HR.out (k + i) HKL.out
                injection hb0 with hb0
                injection hb0 with hb0 ho0
                subst hb0
                have := World.block_lt_of_cell? w _ hc0
                rw [HOE.out]
                simp at this
                omega)
              obtain ⟨X, hX⟩ : ∃ X : Nat, x = (X : Int) := ⟨x.toNat, by have := HBX.out (k + i); have := HXK.out; omega⟩
              have hX8 : X < 256 := by have := HBX.out (k + i); have := HXK.out; omega
              subst hX
              have HQB2 : Hid (Blk wr Q 36 (BL.map (Value.int .u8))) := Lib.hid (HQB.out.fr HFi.out (by have := HQG.out; omega))
              obtain ⟨Y, hY⟩ : ∃ Y : Nat, BL.getD (r + i) 0 = (Y : Int) := ⟨(BL.getD (r + i) 0).toNat, by have := HBLL.out.2 (r + i); omega⟩
              have hY8 : Y < 256 := by have := HBLL.out.2 (r + i); omega
              have HCY : Hid (wr.cell? ⟨Q, r + i, none⟩ = some (.int .u8 (Y : Int))) := Lib.hid (by
                rw [HQB2.out.cell, List.getElem?_map, ← hY, List.getD_eq_getElem?_getD, List.getElem?_eq_getElem (by rw [HBLL.out.1]; omega)]; rfl)
              have HCX := Lib.hid hcx
              have HXR : Hid (bits .xor .u8 (X : Int) (Y : Int) = ((X ^^^ Y : Nat) : Int)) := Lib.hid (u8_xor_nat X Y hX8 hY8)
              have HLK : Hid (((X ^^^ Y : Nat) : Int) = (lay ks ns p xs).getD (k + i) 0) := Lib.hid (by
                rw [lay_at ks ns p xs (k + i) HKL.out, ← HXK.out, show p + (k + i) = q + i from by have := HQ.out; omega, HBN.out i r HRR.out.symm (by omega), hY]; rfl)
              have HOA : Hid (Blk wr O 5 ((upd (k + i) (lay ks ns p xs) (List.replicate n 0)).map (Value.int .u8) ++ [])) := Lib.hid (by rw [List.append_nil]; exact HOi.out)
              have HRL : Hid (k + i < (List.replicate n (0 : Int)).length) := Lib.hid (by rw [List.length_replicate]; exact hki)
              clear hcx hY HRK
              generalize X ^^^ Y = Z at *
              have hw1 : IntKind.i64.wrap ((k : Int) + (i : Int)) = (k : Int) + (i : Int) := by simp [IntKind.wrap, IntKind.bits, IntKind.signed]; omega
              have hn1 : (0 : Int) ≤ (k : Int) + (i : Int) := by omega
              have hn2 : (k : Int) + (i : Int) < (n : Int) := by omega
              have hn3 : ((k : Int) + (i : Int)).toNat = k + i := by omega
              have hi1 : (i : Int) < ((64 - r : Nat) : Int) := by omega
              have hi2 : i < 64 - r := by omega
              go_upto_region 14 with fail
              refine wp_region_held_drew (S := fun w' => w'.heap[b]? = wr.heap[b]? ∧ w'.heap[Q]? = wr.heap[Q]?) (by kernel_rfl) (⟨rfl, rfl⟩) (fun hHeld => ?_)
              have HHd := Lib.hid hHeld
              clear hHeld
              refine wpAnyH_take (i := 0) (oi := ⟨some 62, _, _, _, _, _⟩) (v := (.slice (some ⟨O, 0, none⟩) n n)) rfl (by kernel_rfl) (by kernel_rfl) (by kernel_rfl) (fun _ _ _ h => h) (Or.inl ⟨by rfl, ?_⟩) HHd.out ?_
              · intro w' hS; go_simp; try with_reducible rfl
              simp only [Act.put, List.setIfInBounds_toArray, List.set_cons_zero, List.set_cons_succ]
              refine wpAnyH_take (i := 1) (oi := ⟨some 63, _, _, _, _, _⟩) (v := (.int .i64 (k : Int))) rfl (by kernel_rfl) (by kernel_rfl) (by kernel_rfl) (fun _ _ _ h => h) (Or.inl ⟨by rfl, ?_⟩) HHd.out ?_
              · intro w' hS; go_simp; try with_reducible rfl
              simp only [Act.put, List.setIfInBounds_toArray, List.set_cons_zero, List.set_cons_succ]
              refine wpAnyH_take (i := 2) (oi := ⟨some 64, _, _, _, _, _⟩) (v := (.int .i64 (i : Int))) rfl (by kernel_rfl) (by kernel_rfl) (by kernel_rfl) (fun _ _ _ h => h) (Or.inl ⟨by rfl, ?_⟩) HHd.out ?_
              · intro w' hS; go_simp; try with_reducible rfl
              simp only [Act.put, List.setIfInBounds_toArray, List.set_cons_zero, List.set_cons_succ]
              refine wpAnyH_take (i := 3) (oi := ⟨some 65, _, _, _, _, _⟩) (v := (.int .i64 ((k : Int) + (i : Int)))) rfl (by kernel_rfl) (by kernel_rfl) (by kernel_rfl) (fun _ _ _ h => h) (Or.inl ⟨by rfl, ?_⟩) HHd.out ?_
              · intro w' hS; go_simp; try with_reducible rfl
              simp only [Act.put, List.setIfInBounds_toArray, List.set_cons_zero, List.set_cons_succ]
              refine wpAnyH_take (i := 4) (oi := ⟨some 66, _, _, _, _, _⟩) (v := (.slice (some ⟨b, off, none⟩) n cap)) rfl (by kernel_rfl) (by kernel_rfl) (by kernel_rfl) (fun _ _ _ h => h) (Or.inl ⟨by rfl, ?_⟩) HHd.out ?_
              · intro w' hS; go_simp; try with_reducible rfl
              simp only [Act.put, List.setIfInBounds_toArray, List.set_cons_zero, List.set_cons_succ]
              refine wpAnyH_take (i := 5) (oi := ⟨some 67, _, _, _, _, _⟩) (v := (.int .i64 (k : Int))) rfl (by kernel_rfl) (by kernel_rfl) (by kernel_rfl) (fun _ _ _ h => h) (Or.inl ⟨by rfl, ?_⟩) HHd.out ?_
              · intro w' hS; go_simp; try with_reducible rfl
              simp only [Act.put, List.setIfInBounds_toArray, List.set_cons_zero, List.set_cons_succ]
              refine wpAnyH_take (i := 6) (oi := ⟨some 68, _, _, _, _, _⟩) (v := (.int .i64 (i : Int))) rfl (by kernel_rfl) (by kernel_rfl) (by kernel_rfl) (fun _ _ _ h => h) (Or.inl ⟨by rfl, ?_⟩) HHd.out ?_
              · intro w' hS; go_simp; try with_reducible rfl
              simp only [Act.put, List.setIfInBounds_toArray, List.set_cons_zero, List.set_cons_succ]
              refine wpAnyH_take (i := 7) (oi := ⟨some 69, _, _, _, _, _⟩) (v := (.int .i64 ((k : Int) + (i : Int)))) rfl (by kernel_rfl) (by kernel_rfl) (by kernel_rfl) (fun _ _ _ h => h) (Or.inl ⟨by rfl, ?_⟩) HHd.out ?_
              · intro w' hS; go_simp; try with_reducible rfl
              simp only [Act.put, List.setIfInBounds_toArray, List.set_cons_zero, List.set_cons_succ]
              refine wpAnyH_take (i := 8) (oi := ⟨some 70, _, _, _, _, _⟩) (v := (.pointer (some ⟨b, off + (k + i), none⟩))) rfl (by kernel_rfl) (by kernel_rfl) (by kernel_rfl) (fun _ _ _ h => h) (Or.inl ⟨by rfl, ?_⟩) HHd.out ?_
              · intro w' hS; go_simp; try with_reducible rfl
              simp only [Act.put, List.setIfInBounds_toArray, List.set_cons_zero, List.set_cons_succ]
              refine wpAnyH_take (i := 9) (oi := ⟨some 71, _, _, _, _, _⟩) (v := (.int .u8 (X : Int))) rfl (by kernel_rfl) (by kernel_rfl) (by kernel_rfl) (fun _ _ _ h => h) (Or.inl ⟨by rfl, ?_⟩) HHd.out ?_
              · intro w' hS; have z0 : w'.cell? ⟨b, off + (k + i), none⟩ = some (.int .u8 (X : Int)) := (World.cell?_of_block (w := wr) (w' := w') hS.1).trans HCX.out; go_simp; try with_reducible rfl
              simp only [Act.put, List.setIfInBounds_toArray, List.set_cons_zero, List.set_cons_succ]
              refine wpAnyH_take (i := 10) (oi := ⟨some 72, _, _, _, _, _⟩) (v := (.slice (some ⟨Q, r, none⟩) (64 - r) (64 - r))) rfl (by kernel_rfl) (by kernel_rfl) (by kernel_rfl) (fun _ _ _ h => h) (Or.inl ⟨by rfl, ?_⟩) HHd.out ?_
              · intro w' hS; go_simp; try with_reducible rfl
              simp only [Act.put, List.setIfInBounds_toArray, List.set_cons_zero, List.set_cons_succ]
              refine wpAnyH_take (i := 11) (oi := ⟨some 73, _, _, _, _, _⟩) (v := (.int .i64 (i : Int))) rfl (by kernel_rfl) (by kernel_rfl) (by kernel_rfl) (fun _ _ _ h => h) (Or.inl ⟨by rfl, ?_⟩) HHd.out ?_
              · intro w' hS; go_simp; try with_reducible rfl
              simp only [Act.put, List.setIfInBounds_toArray, List.set_cons_zero, List.set_cons_succ]
              refine wpAnyH_take (i := 12) (oi := ⟨some 74, _, _, _, _, _⟩) (v := (.pointer (some ⟨Q, r + i, none⟩))) rfl (by kernel_rfl) (by kernel_rfl) (by kernel_rfl) (fun _ _ _ h => h) (Or.inl ⟨by rfl, ?_⟩) HHd.out ?_
              · intro w' hS; go_simp; try with_reducible rfl
              simp only [Act.put, List.setIfInBounds_toArray, List.set_cons_zero, List.set_cons_succ]
              refine wpAnyH_take (i := 13) (oi := ⟨some 75, _, _, _, _, _⟩) (v := (.int .u8 (Y : Int))) rfl (by kernel_rfl) (by kernel_rfl) (by kernel_rfl) (fun _ _ _ h => h) (Or.inl ⟨by rfl, ?_⟩) HHd.out ?_
              · intro w' hS; have z0 : w'.cell? ⟨Q, r + i, none⟩ = some (.int .u8 (Y : Int)) := (World.cell?_of_block (w := wr) (w' := w') hS.2).trans HCY.out; go_simp; try with_reducible rfl
              simp only [Act.put, List.setIfInBounds_toArray, List.set_cons_zero, List.set_cons_succ]
              refine wpAnyH_take (i := 14) (oi := ⟨some 76, _, _, _, _, _⟩) (v := (.int .u8 (Z : Int))) rfl (by kernel_rfl) (by kernel_rfl) (by kernel_rfl) (fun _ _ _ h => h) (Or.inl ⟨by rfl, ?_⟩) HHd.out ?_
              · intro w' hS; have z0 := HXR.out; go_simp; try with_reducible rfl
              simp only [Act.put, List.setIfInBounds_toArray, List.set_cons_zero, List.set_cons_succ]
              refine wpAnyH_take (i := 15) (oi := ⟨some 77, _, _, _, _, _⟩) (v := (.pointer (some ⟨O, k + i, none⟩))) rfl (by kernel_rfl) (by kernel_rfl) (by kernel_rfl) (fun _ _ _ h => h) (Or.inl ⟨by rfl, ?_⟩) HHd.out ?_
              · intro w' hS; go_simp; try with_reducible rfl
              simp only [Act.put, List.setIfInBounds_toArray, List.set_cons_zero, List.set_cons_succ]
              refine wpAnyH_ready (rs := [16]) (by kernel_rfl) (by simp) ?_
              refine AllReadyH.cons (o := ⟨none, _, _, _, _, _⟩) rfl (fun K hK => ?_) AllReadyH.nil
              rw [if_pos (by rfl)]
              have f1 : wr.drew.frozen? ⟨O, k + i, none⟩ = false := HOA.out.frozen (k + i)
              have g1 : wr.drew.cell? ⟨O, k + i, none⟩ = some (.int .u8 ((List.replicate n (0 : Int)).getD (k + i) 0)) := blk_upd_cell HOA.out HLL.out HRL.out
              go_simp
              refine hK.out _ _ ⟨Below.heap_setCell wr.drew ⟨O, k + i, none⟩ _ b (by have := HBO.out; show b ≠ O; omega), Below.heap_setCell wr.drew ⟨O, k + i, none⟩ _ Q (by have := HQG.out; show Q ≠ O; omega)⟩ (fun hHeld => ?_)
              clear hK K f1 g1 hHeld
              have HO2 : Hid (Blk (wr.setCell ⟨O, k + i, none⟩ (.int .u8 (Z : Int))).drew O 5 ((upd (k + (i + 1)) (lay ks ns p xs) (List.replicate n 0)).map (Value.int .u8))) := Lib.hid (by
                have h := blk_upd_set (w := wr) HOA.out HLL.out HRL.out HLK.out
                rw [List.append_nil] at h
                exact h)
              have HF2 : Hid (Fr (fun j => j = O) wc (wr.setCell ⟨O, k + i, none⟩ (.int .u8 (Z : Int))).drew) := Lib.hid ((HFi.out.setCell (p := ⟨O, k + i, none⟩) (.inl rfl) _).drew)
              generalize (wr.setCell ⟨O, k + i, none⟩ (.int .u8 (Z : Int))).drew = wz at *
              refine wpAnyH_done (by kernel_rfl) ?_ _
              go_wp2_with fail
              go_roundw
              case rel => exact ⟨i + 1, by omega, by go_num, HO2, HF2⟩
              case measure => simp [intOf]; omega
            · have HIM : Hid (i = m) := Lib.hid (by omega)
              have hge : decide ((i : Int) < (m : Int)) = false := by simp; omega
              have GE : Hid (Blk wr g 87 (SGl ks ns q)) := Lib.hid (Gc.out.fr HFi.out (by have := HGO.out; omega))
              have hcq : wr.cell? ⟨g, 44, none⟩ = some (.int .u64 (q : Int)) := (HSR.out wr q GE.out).2.2
              have hfq : wr.frozen? ⟨g, 44, none⟩ = false := GE.out.frozen 44
              have hwm : IntKind.u64.wrap (m : Int) = (m : Int) := by simp [IntKind.wrap, IntKind.bits, IntKind.signed]; omega
              have hwq : IntKind.u64.wrap ((q : Int) + (m : Int)) = ((q + m : Nat) : Int) := by simp [IntKind.wrap, IntKind.bits, IntKind.signed]; omega
              have hwk : IntKind.i64.wrap ((k : Int) + (m : Int)) = ((k + m : Nat) : Int) := by simp [IntKind.wrap, IntKind.bits, IntKind.signed]; omega
              have GE2 : Hid (Blk (wr.setCell ⟨g, 44, none⟩ (.int .u64 ((q + m : Nat) : Int))) g 87 (SGl ks ns (p + (k + m)))) := Lib.hid (by
                have h := HSS.out wr q (q + m) GE.out
                rw [show p + (k + m) = q + m from by have := HQ.out; omega]; exact h)
              have OE2 : Hid (Blk (wr.setCell ⟨g, 44, none⟩ (.int .u64 ((q + m : Nat) : Int))) O 5 ((upd (k + m) (lay ks ns p xs) (List.replicate n 0)).map (Value.int .u8))) := Lib.hid (by
                have h := HOi.out; rw [HIM.out] at h; exact h.other (p := ⟨g, 44, none⟩) (by have := HGO.out; simp; omega) _)
              have FE2 : Hid (Fr (fun j => j = g ∨ j = O) w1 (wr.setCell ⟨g, 44, none⟩ (.int .u64 ((q + m : Nat) : Int)))) := Lib.hid ((Fc.out.trans (HFi.out.mono (fun _ h => .inr h))).setCell (p := ⟨g, 44, none⟩) (.inl (.inl rfl)) _)
              clear HOi HFi
              go_wp2_with fail
              go_roundw
              case rel => exact ⟨k + m, by omega, by go_num, OE2, GE2, FE2⟩
              case measure => simp [intOf]; omega
      · have HK : Hid (k = n) := Lib.hid (by omega)
        have hge : decide ((k : Int) < (n : Int)) = false := by simp; omega
        have OE : Hid (Blk wr O 5 ((lay ks ns p xs).map (Value.int .u8))) := Lib.hid (by have h := HO.out; have hua := upd_all _ _ HLL.out; rw [List.length_replicate] at hua; rw [HK.out, hua] at h; exact h)
        have GE : Hid (Blk wr g 87 (SGl ks ns (p + n))) := Lib.hid (by have h := HG1.out; rw [HK.out] at h; exact h)
        clear HO HG1
        go_wp2_with fail
        go_ret2
        refine .inr ⟨HFIT.out, _, rfl, ?_, by rw [← HN.out]; exact GE.out, ?_⟩
        · rw [← HOE.out]
          have ho := Own.mk (k := .u8) (base := O) (c := n) (rest := []) (Nat.le_refl _) (by rw [List.append_nil]; exact OE.out) (by rw [lay_len, ← HN.out]; rfl) (by unfold maxLen; omega)
          rw [lay_len, ← HN.out] at ho
          exact ho
        · exact (F0.out.mono (fun _ h => h.elim)).then HF.out (fun i hi => by rcases hi with h | h; exact .inl h; exact .inr (by rw [h, HOE.out]; exact Nat.le_refl _))
end Go.Proofs.Ytldbmjkecmmmjaa

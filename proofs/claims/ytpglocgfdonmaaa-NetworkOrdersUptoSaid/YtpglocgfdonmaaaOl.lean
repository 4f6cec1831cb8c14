/-
  Walk: the law NetworkOrders.
-/
import Derived.Test.YtpglocgfdonmaaaOr
set_option linter.unusedVariables false
set_option linter.unusedSimpArgs false
namespace Go.Proofs.Ytpglocgfdonmaaa
open Go.RowKit Go.Shelf

set_option maxRecDepth 100000 in
set_option maxHeartbeats 16000000 in
theorem orders_law (A : Option Addr) (n c : Nat) (KS : Nat → ByteArray) (w : World) (hr : RdS KS n w A) (hl : n ≤ 5864062000000) :
    Calls Try.prog 6 #[.slice A n c] w fun e w' => e = .returned (.bool true) ∧ Below w.heap.size w w' := by
  have HR := Lib.hid hr
  have O0 : Hid (OwnT KS PI w w.heap.size (.slice none 0 0) (List.range 0)) := Lib.hid (OwnT.nil _ _)
  clear hr
  go_enter Try.func6, Try.ntmps6
  go_wp2_with fail
  go_loopw [3, 4] (fun v iv wr => ∃ i : Nat, i ≤ n ∧ iv = .int .i64 (i : Int) ∧ Hid (OwnT KS PI wr w.heap.size v (List.range i)) ∧ Hid (Below w.heap.size w wr)) (fun _ iv _ => n - (intOf iv).toNat)
  case atStart => exact ⟨0, Nat.zero_le _, rfl, O0, Lib.hid (Below.refl _ _)⟩
  case round =>
    clear O0
    obtain ⟨i, hi, rfl, HO, HB⟩ := hrel
    by_cases hlt : i < n
    · have hlt' : (i : Int) < (n : Int) := by omega
      obtain ⟨b, off, rfl, hc⟩ := (HR.out.below (w' := wr) HB.out) i hlt
      have HRS : Hid (List.range (i + 1) = List.range i ++ [i]) := Lib.hid List.range_succ
      have HC1 : Hid (((List.range i).length + 1) * 24 ≤ 140737488355328) := Lib.hid (by simp; omega)
      have m1 : IntKind.i64.wrap ((i : Int) + 1) = ((i + 1 : Nat) : Int) := by rw [IntKind.wrap_i64] <;> omega
      go_wp2_with (show wpList _ _ _ ({ dst := some 24, op := _, type := _, pos := _, after := _, guard := _ } :: _) _ _; refine wpList_pushT (KS := KS) (PV := PI) wr rfl _ _ rfl w.heap.size i rfl _ _ rfl rfl HO.out HC1.out HB.out.size ?_; intro v' w1 ho hf; rw [← HRS.out] at ho; have O1 := Lib.hid ho; have B1 : Hid (Below w.heap.size w w1) := Lib.hid (HB.out.trans (hf.below HB.out.size (fun g hg => (HO.out.base_le hg).1))); clear ho hf)
      go_roundw
      case rel => exact ⟨i + 1, by omega, by simp, O1, B1⟩
      case measure => simp [intOf]; omega
    · obtain rfl : n = i := by omega
      have hge : decide ((n : Int) < (n : Int)) = false := by simp
      obtain ⟨LA, lc, hlv, hrl⟩ := HO.out.slice
      rw [List.length_range] at hlv
      subst hlv
      have HRL := Lib.hid hrl
      have HRW : Hid (RdS KS n wr A) := Lib.hid (HR.out.below HB.out)
      clear hrl HO HR hlt hi
      by_cases hpos : 0 < n
      · cases hsz : sizeB (n : Int)
        · have HSN := Lib.hid (sortT_no 28 #[] LA n lc wr hpos hsz (by omega))
          have HLS : Hid (∀ W, Calls Try.prog 29 #[.int .i64 (n : Int)] W fun e w' => e = .returned (.bool false) ∧ w' = W) := Lib.hid (fun W => hsz ▸ lsize_any (n : Int) W)
          clear hsz
          go_wp2_with fail
          refine HSN.out.mono ?_
          rintro e w2 ⟨rfl, hb⟩
          have HB2 : Hid (Below w.heap.size w w2) := Lib.hid (HB.out.trans (hb.mono HB.out.size))
          clear hb HSN
          go_wp2_with fail
          refine (HLS.out w2).mono ?_
          rintro e w3 ⟨rfl, hw⟩
          obtain rfl : w2 = w3 := hw.symm
          go_wp2_with fail
          refine (works_any w2).mono ?_
          rintro e wg ⟨rfl, FG⟩
          go_wp2_with fail
          go_ret
          exact ⟨rfl, HB2.out.trans (FG.out.mono HB2.out.size)⟩
        · have hsm : n ≤ 65536 := by have := size_range hsz; omega
          have hok : sizeB (n : Int) = true ∨ n = 0 := .inl hsz
          have HSA := Lib.hid (sortT_any 28 #[] (kltF KS) KS PI LA n lc wr HRL.out hsm (enters_of Try.func28 (by kernel_rfl) rfl) (fun W hW p q hp hq => key_less (KS p) (KS q) (PI p) (PI q) W) hok)
          have HIP : Hid (Pl n (sortF 0 (kltF KS) (List.range n)) ∧ Inj n (sortF 0 (kltF KS) (List.range n))) := Lib.hid (by
            unfold sortF
            rw [List.length_range]
            exact sort_inj _ _ n _ (fun y hy => by
              obtain ⟨a, b, n', h1, h2, h3, h4, -⟩ := gates_mem hy
              rw [h2]
              simp
              omega) (Pl.range n) (Inj.range n))
          have HRI : Hid (∀ x y, x < y → y < n → kltF KS ((sortF 0 (kltF KS) (List.range n)).getD y 0) ((sortF 0 (kltF KS) (List.range n)).getD x 0) = false) := Lib.hid (fun x y hxy hy => by
            rcases hok with h | h
            · obtain ⟨e, he, hn⟩ := size_pow h
              exact sort_rises (klt_weak KS) he (List.range n) (by rw [List.length_range]; omega) x y hxy (by omega)
            · omega)
          have k59 := run_make_blk (P := Try.prog) 59 4 (.bool false) 1 Try.underlying59 info4 rfl n (by omega) (by omega)
          have HLS : Hid (∀ W, Calls Try.prog 29 #[.int .i64 (n : Int)] W fun e w' => e = .returned (.bool true) ∧ w' = W) := Lib.hid (fun W => hsz ▸ lsize_any (n : Int) W)
          clear hsz
          go_wp2_with fail
          refine HSA.out.mono ?_
          rintro e w2 ⟨v, rfl, ho, hb⟩
          obtain ⟨OA, oc, rfl, hro⟩ := ho.slice
          have HLQ : Hid ((sortF 0 (kltF KS) (List.range n)).length = n) := Lib.hid HIP.out.1.1
          rw [HLQ.out]
          have HB2 : Hid (Below wr.heap.size wr w2) := Lib.hid hb
          have HRO := Lib.hid hro
          have HM0 : Hid (Blk (w2.alloc (.cells (Array.replicate n (.bool false)) 4)) w2.heap.size 4 ((List.range n).map (metF (sortF 0 (kltF KS) (List.range n)) 0))) := Lib.hid (by
            have h := Blk.new w2 4 (List.replicate n (Value.bool false))
            rw [List.toArray_replicate] at h
            have e : (List.range n).map (metF (sortF 0 (kltF KS) (List.range n)) 0) = List.replicate n (Value.bool false) := by
              apply List.ext_getElem?
              intro j
              rw [List.getElem?_map, List.getElem?_replicate]
              rcases Nat.lt_or_ge j n with h | h
              · simp [h, metF]
              · simp [Nat.not_lt.2 h]
            rw [e]
            exact h)
          have HB3 : Hid (Below wr.heap.size wr (w2.alloc (.cells (Array.replicate n (.bool false)) 4))) := Lib.hid (HB2.out.alloc HB2.out.size _)
          have HRO3 : Hid (RdT KS PI (w2.alloc (.cells (Array.replicate n (.bool false)) 4)) OA (sortF 0 (kltF KS) (List.range n))) := Lib.hid (HRO.out.below ((Below.refl _ w2).alloc (Nat.le_refl _) _))
          have HOB : Hid (∀ i, i < n → ∃ b off, OA = some ⟨b, off, none⟩ ∧ b < w2.heap.size) := Lib.hid (fun i hi => by
            obtain ⟨b, off, hA, hlt, -, -⟩ := HRO.out i (by rw [HLQ.out]; exact hi)
            exact ⟨b, off, hA, hlt⟩)
          have HSZ3 : Hid ((w2.alloc (.cells (Array.replicate n (.bool false)) 4)).heap.size = w2.heap.size + 1) := Lib.hid (by simp)
          have HWR2 : Hid (wr.heap.size ≤ w2.heap.size) := Lib.hid hb.size
          clear ho hb hro HSA HRO HB2
          generalize sortF 0 (kltF KS) (List.range n) = Q at *
          go_wp2_with fail
          refine (HLS.out w2).mono ?_
          rintro e w3 ⟨rfl, hw⟩
          obtain rfl : w2 = w3 := hw.symm
          clear HLS
          go_upto_region 12 with fail
          clear k59
          generalize hw3 : w2.alloc (.cells (Array.replicate n (.bool false)) 4) = w3 at *
          generalize w2.heap.size = gM at *
          clear hw3
          obtain ⟨w0r, hw0r⟩ : ∃ w0r : World, w0r = wr := ⟨_, rfl⟩
          subst hw0r
          go_wp2_with fail
          go_loopw [8] (fun iv wx => ∃ i : Nat, iv = .int .i64 (i : Int) ∧ i ≤ n ∧ Hid (Blk wx gM 4 ((List.range n).map (metF Q i))) ∧ Hid (Fr (fun b => b = gM) w3 wx)) (fun iv _ => n - (intOf iv).toNat)
          case atStart => exact ⟨0, rfl, by omega, HM0, Lib.hid (Fr.refl _ _)⟩
          case round =>
            clear HM0
            obtain ⟨i, rfl, hi, HMB, HMF⟩ := hrel
            by_cases hlt : i < n
            · obtain ⟨ob, oo, rfl, hob⟩ := HOB.out i hlt
              have HCO : Hid (∀ j, j < n → wr.cell? ⟨ob, oo + j * 2, none⟩ = some (.string (KS (Q.getD j 0))) ∧ wr.cell? ⟨ob, oo + j * 2 + 1, none⟩ = some (.int .i64 ((Q.getD j 0 : Nat) : Int))) := Lib.hid (fun j hj => by
                obtain ⟨b', o', hA, hlt', h0, h1⟩ := HRO3.out j (by rw [HLQ.out]; exact hj)
                injection hA with hA
                injection hA with e1 e2
                subst e1 e2
                have hbk := HMF.out.block ob (by have := HSZ3.out; omega) (by omega)
                exact ⟨(World.cell?_of_block (w := w3) (w' := wr) hbk).trans h0, (World.cell?_of_block (w := w3) (w' := wr) hbk).trans h1⟩)
              obtain ⟨p, hp⟩ : ∃ p, p = Q.getD i 0 := ⟨_, rfl⟩
              have HPQ := Lib.hid hp
              have hpn : p < n := by rw [hp]; exact HIP.out.1.2 i hlt
              have hcoi := HCO.out i hlt
              rw [← hp] at hcoi
              obtain ⟨cK, cP⟩ := hcoi
              have HQI : Hid (Q[i]? = some p) := Lib.hid (by rw [hp, List.getD_eq_getElem?_getD, List.getElem?_eq_getElem (by rw [HLQ.out]; exact hlt)]; rfl)
              have cM : wr.cell? ⟨gM, p, none⟩ = some (.bool false) := by
                rw [HMB.out.cell, List.getElem?_map, List.getElem?_range hpn]
                show some (metF Q i p) = _
                unfold metF
                rw [met_no HIP.out.2 HLQ.out hlt hp.symm]
              have fM : wr.frozen? ⟨gM, p, none⟩ = false := HMB.out.frozen p
              obtain ⟨la, lo, hA, hc⟩ := HRW.out p hpn
              subst hA
              have hlaW := World.block_lt_of_cell? w0r _ hc
              have cL : wr.cell? ⟨la, lo + p, none⟩ = some (.string (KS p)) := ((HB3.out.trans (HMF.out.below (B := w0r.heap.size) HB3.out.size (fun k hk => by have := HWR2.out; omega))).cell (p := ⟨la, lo + p, none⟩) hlaW).trans hc
              have HB2 : Hid (∀ q, Blk ((wr.drewN q).setCell ⟨gM, p, none⟩ (.bool true)) gM 4 ((List.range n).map (metF Q (i + 1)))) := Lib.hid (fun q => by
                have h := Blk.set (HMB.out.drewN q) p (.bool true)
                rw [met_set HQI.out hpn] at h
                exact h)
              have HF2 : Hid (∀ q, Fr (fun b => b = gM) w3 ((wr.drewN q).setCell ⟨gM, p, none⟩ (.bool true))) := Lib.hid (fun q => (HMF.out.drewN q).setCell (p := ⟨gM, p, none⟩) (.inl rfl) _)
              obtain ⟨ks, hks⟩ : ∃ k, k = KS p := ⟨_, rfl⟩
              have HKS := Lib.hid hks
              rw [← hks] at cK cL
              have hp0 : ¬ (p : Int) < 0 := by omega
              have hpn' : (p : Int) < (n : Int) := by omega
              have hin' : (i : Int) < (n : Int) := by omega
              have m1 : IntKind.i64.wrap ((i : Int) + 1) = ((i + 1 : Nat) : Int) := by rw [IntKind.wrap_i64] <;> omega
              clear hc hlaW hp hob HMB HMF hks
              have HCL : Hid (wr.cell? ⟨la, lo + p, none⟩ = some (.string ks) ∧ wr.cell? ⟨ob, oo + i * 2, none⟩ = some (.string ks) ∧ wr.cell? ⟨gM, p, none⟩ = some (.bool false)) := Lib.hid ⟨cL, cK, cM⟩
              clear cK cL cM
              by_cases hz : i = 0
              · have dz : ¬ 0 < i := by omega
                clear hz
                go_wp2_with fail
                refine wp_region_held_drew (S := fun w' => w'.heap = wr.heap) (by kernel_rfl) rfl (fun hHeld => ?_)
                refine wpAnyH_take (i := 0) (oi := ⟨some 72, _, _, _, _, _⟩) (v := (.int .i64 (p : Int))) rfl (by kernel_rfl) (by kernel_rfl) (by kernel_rfl) (fun _ _ _ h => h) (Or.inl ⟨by rfl, ?_⟩) (by assumption) ?_
                · intro w' hS; go_simp; try with_reducible rfl
                simp only [Act.put, List.setIfInBounds_toArray, List.set_cons_zero, List.set_cons_succ]
                refine wpAnyH_take (i := 1) (oi := ⟨some 73, _, _, _, _, _⟩) (v := (.bool false)) rfl (by kernel_rfl) (by kernel_rfl) (by kernel_rfl) (fun _ _ _ h => h) (Or.inl ⟨by rfl, ?_⟩) (by assumption) ?_
                · intro w' hS; go_simp; try with_reducible rfl
                simp only [Act.put, List.setIfInBounds_toArray, List.set_cons_zero, List.set_cons_succ]
                refine wpAnyH_take (i := 2) (oi := ⟨some 74, _, _, _, _, _⟩) (v := (.bool false)) rfl (by kernel_rfl) (by kernel_rfl) (by kernel_rfl) (fun _ _ _ h => h) (Or.inl ⟨by rfl, ?_⟩) (by assumption) ?_
                · intro w' hS; go_simp; try with_reducible rfl
                simp only [Act.put, List.setIfInBounds_toArray, List.set_cons_zero, List.set_cons_succ]
                refine wpAnyH_take (i := 3) (oi := ⟨some 75, _, _, _, _, _⟩) (v := (.int .i64 (p : Int))) rfl (by kernel_rfl) (by kernel_rfl) (by kernel_rfl) (fun _ _ _ h => h) (Or.inl ⟨by rfl, ?_⟩) (by assumption) ?_
                · intro w' hS; go_simp; try with_reducible rfl
                simp only [Act.put, List.setIfInBounds_toArray, List.set_cons_zero, List.set_cons_succ]
                refine wpAnyH_take (i := 4) (oi := ⟨some 76, _, _, _, _, _⟩) (v := (.slice LA n lc)) rfl (by kernel_rfl) (by kernel_rfl) (by kernel_rfl) (fun _ _ _ h => h) (Or.inl ⟨by rfl, ?_⟩) (by assumption) ?_
                · intro w' hS; go_simp; try with_reducible rfl
                simp only [Act.put, List.setIfInBounds_toArray, List.set_cons_zero, List.set_cons_succ]
                refine wpAnyH_take (i := 5) (oi := ⟨some 77, _, _, _, _, _⟩) (v := (.int .i64 (n : Int))) rfl (by kernel_rfl) (by kernel_rfl) (by kernel_rfl) (fun _ _ _ h => h) (Or.inl ⟨by rfl, ?_⟩) (by assumption) ?_
                · intro w' hS; go_simp; try with_reducible rfl
                simp only [Act.put, List.setIfInBounds_toArray, List.set_cons_zero, List.set_cons_succ]
                refine wpAnyH_take (i := 6) (oi := ⟨some 78, _, _, _, _, _⟩) (v := (.bool false)) rfl (by kernel_rfl) (by kernel_rfl) (by kernel_rfl) (fun _ _ _ h => h) (Or.inl ⟨by rfl, ?_⟩) (by assumption) ?_
                · intro w' hS; go_simp; try with_reducible rfl
                simp only [Act.put, List.setIfInBounds_toArray, List.set_cons_zero, List.set_cons_succ]
                refine wpAnyH_take (i := 7) (oi := ⟨some 79, _, _, _, _, _⟩) (v := (.bool false)) rfl (by kernel_rfl) (by kernel_rfl) (by kernel_rfl) (fun _ _ _ h => h) (Or.inl ⟨by rfl, ?_⟩) (by assumption) ?_
                · intro w' hS; go_simp; try with_reducible rfl
                simp only [Act.put, List.setIfInBounds_toArray, List.set_cons_zero, List.set_cons_succ]
                refine wpAnyH_take (i := 8) (oi := ⟨some 80, _, _, _, _, _⟩) (v := (.bool false)) rfl (by kernel_rfl) (by kernel_rfl) (by kernel_rfl) (fun _ _ _ h => h) (Or.inl ⟨by rfl, ?_⟩) (by assumption) ?_
                · intro w' hS; go_simp; try with_reducible rfl
                simp only [Act.put, List.setIfInBounds_toArray, List.set_cons_zero, List.set_cons_succ]
                refine wpAnyH_take (i := 9) (oi := ⟨some 81, _, _, _, _, _⟩) (v := (.slice (some ⟨gM, 0, none⟩) n n)) rfl (by kernel_rfl) (by kernel_rfl) (by kernel_rfl) (fun _ _ _ h => h) (Or.inl ⟨by rfl, ?_⟩) (by assumption) ?_
                · intro w' hS; go_simp; try with_reducible rfl
                simp only [Act.put, List.setIfInBounds_toArray, List.set_cons_zero, List.set_cons_succ]
                refine wpAnyH_take (i := 10) (oi := ⟨some 82, _, _, _, _, _⟩) (v := (.int .i64 (p : Int))) rfl (by kernel_rfl) (by kernel_rfl) (by kernel_rfl) (fun _ _ _ h => h) (Or.inl ⟨by rfl, ?_⟩) (by assumption) ?_
                · intro w' hS; go_simp; try with_reducible rfl
                simp only [Act.put, List.setIfInBounds_toArray, List.set_cons_zero, List.set_cons_succ]
                refine wpAnyH_take (i := 11) (oi := ⟨some 83, _, _, _, _, _⟩) (v := (.pointer (some ⟨gM, p, none⟩))) rfl (by kernel_rfl) (by kernel_rfl) (by kernel_rfl) (fun _ _ _ h => h) (Or.inl ⟨by rfl, ?_⟩) (by assumption) ?_
                · intro w' hS; go_simp; try with_reducible rfl
                simp only [Act.put, List.setIfInBounds_toArray, List.set_cons_zero, List.set_cons_succ]
                refine wpAnyH_take (i := 12) (oi := ⟨some 84, _, _, _, _, _⟩) (v := (.bool false)) rfl (by kernel_rfl) (by kernel_rfl) (by kernel_rfl) (fun _ _ _ h => h) (Or.inl ⟨by rfl, ?_⟩) (by assumption) ?_
                · intro w' hS; have z0 : w'.cell? ⟨gM, p, none⟩ = some (.bool false) := (World.cell?_of_block (w := wr) (w' := w') (by rw [hS])).trans (HCL.out.2.2); go_simp; try with_reducible rfl
                simp only [Act.put, List.setIfInBounds_toArray, List.set_cons_zero, List.set_cons_succ]
                refine wpAnyH_take (i := 13) (oi := ⟨some 85, _, _, _, _, _⟩) (v := (.bool false)) rfl (by kernel_rfl) (by kernel_rfl) (by kernel_rfl) (fun _ _ _ h => h) (Or.inl ⟨by rfl, ?_⟩) (by assumption) ?_
                · intro w' hS; go_simp; try with_reducible rfl
                simp only [Act.put, List.setIfInBounds_toArray, List.set_cons_zero, List.set_cons_succ]
                refine wpAnyH_take (i := 14) (oi := ⟨some 86, _, _, _, _, _⟩) (v := (.bool false)) rfl (by kernel_rfl) (by kernel_rfl) (by kernel_rfl) (fun _ _ _ h => h) (Or.inl ⟨by rfl, ?_⟩) (by assumption) ?_
                · intro w' hS; go_simp; try with_reducible rfl
                simp only [Act.put, List.setIfInBounds_toArray, List.set_cons_zero, List.set_cons_succ]
                refine wpAnyH_take (i := 15) (oi := ⟨some 87, _, _, _, _, _⟩) (v := (.slice (some ⟨ob, oo, none⟩) n oc)) rfl (by kernel_rfl) (by kernel_rfl) (by kernel_rfl) (fun _ _ _ h => h) (Or.inl ⟨by rfl, ?_⟩) (by assumption) ?_
                · intro w' hS; go_simp; try with_reducible rfl
                simp only [Act.put, List.setIfInBounds_toArray, List.set_cons_zero, List.set_cons_succ]
                refine wpAnyH_take (i := 16) (oi := ⟨some 88, _, _, _, _, _⟩) (v := (.int .i64 (i : Int))) rfl (by kernel_rfl) (by kernel_rfl) (by kernel_rfl) (fun _ _ _ h => h) (Or.inl ⟨by rfl, ?_⟩) (by assumption) ?_
                · intro w' hS; go_simp; try with_reducible rfl
                simp only [Act.put, List.setIfInBounds_toArray, List.set_cons_zero, List.set_cons_succ]
                refine wpAnyH_take (i := 17) (oi := ⟨some 89, _, _, _, _, _⟩) (v := (.pointer (some ⟨ob, oo + i * 2, none⟩))) rfl (by kernel_rfl) (by kernel_rfl) (by kernel_rfl) (fun _ _ _ h => h) (Or.inl ⟨by rfl, ?_⟩) (by assumption) ?_
                · intro w' hS; go_simp; try with_reducible rfl
                simp only [Act.put, List.setIfInBounds_toArray, List.set_cons_zero, List.set_cons_succ]
                refine wpAnyH_take (i := 18) (oi := ⟨some 90, _, _, _, _, _⟩) (v := (.pointer (some ⟨ob, oo + i * 2, none⟩))) rfl (by kernel_rfl) (by kernel_rfl) (by kernel_rfl) (fun _ _ _ h => h) (Or.inl ⟨by rfl, ?_⟩) (by assumption) ?_
                · intro w' hS; go_simp; try with_reducible rfl
                simp only [Act.put, List.setIfInBounds_toArray, List.set_cons_zero, List.set_cons_succ]
                refine wpAnyH_take (i := 19) (oi := ⟨some 91, _, _, _, _, _⟩) (v := (.string ks)) rfl (by kernel_rfl) (by kernel_rfl) (by kernel_rfl) (fun _ _ _ h => h) (Or.inl ⟨by rfl, ?_⟩) (by assumption) ?_
                · intro w' hS; have z0 : w'.cell? ⟨ob, oo + i * 2, none⟩ = some (.string ks) := (World.cell?_of_block (w := wr) (w' := w') (by rw [hS])).trans (HCL.out.2.1); go_simp; try with_reducible rfl
                simp only [Act.put, List.setIfInBounds_toArray, List.set_cons_zero, List.set_cons_succ]
                refine wpAnyH_take (i := 20) (oi := ⟨some 92, _, _, _, _, _⟩) (v := (.slice (some ⟨la, lo, none⟩) n c)) rfl (by kernel_rfl) (by kernel_rfl) (by kernel_rfl) (fun _ _ _ h => h) (Or.inl ⟨by rfl, ?_⟩) (by assumption) ?_
                · intro w' hS; go_simp; try with_reducible rfl
                simp only [Act.put, List.setIfInBounds_toArray, List.set_cons_zero, List.set_cons_succ]
                refine wpAnyH_take (i := 21) (oi := ⟨some 93, _, _, _, _, _⟩) (v := (.int .i64 (p : Int))) rfl (by kernel_rfl) (by kernel_rfl) (by kernel_rfl) (fun _ _ _ h => h) (Or.inl ⟨by rfl, ?_⟩) (by assumption) ?_
                · intro w' hS; go_simp; try with_reducible rfl
                simp only [Act.put, List.setIfInBounds_toArray, List.set_cons_zero, List.set_cons_succ]
                refine wpAnyH_take (i := 22) (oi := ⟨some 94, _, _, _, _, _⟩) (v := (.pointer (some ⟨la, lo + p, none⟩))) rfl (by kernel_rfl) (by kernel_rfl) (by kernel_rfl) (fun _ _ _ h => h) (Or.inl ⟨by rfl, ?_⟩) (by assumption) ?_
                · intro w' hS; go_simp; try with_reducible rfl
                simp only [Act.put, List.setIfInBounds_toArray, List.set_cons_zero, List.set_cons_succ]
                refine wpAnyH_take (i := 23) (oi := ⟨some 95, _, _, _, _, _⟩) (v := (.string ks)) rfl (by kernel_rfl) (by kernel_rfl) (by kernel_rfl) (fun _ _ _ h => h) (Or.inl ⟨by rfl, ?_⟩) (by assumption) ?_
                · intro w' hS; have z0 : w'.cell? ⟨la, lo + p, none⟩ = some (.string ks) := (World.cell?_of_block (w := wr) (w' := w') (by rw [hS])).trans (HCL.out.1); go_simp; try with_reducible rfl
                simp only [Act.put, List.setIfInBounds_toArray, List.set_cons_zero, List.set_cons_succ]
                refine wpAnyH_take (i := 24) (oi := ⟨some 96, _, _, _, _, _⟩) (v := (.bool false)) rfl (by kernel_rfl) (by kernel_rfl) (by kernel_rfl) (fun _ _ _ h => h) (Or.inl ⟨by rfl, ?_⟩) (by assumption) ?_
                · intro w' hS; go_simp; try with_reducible rfl
                simp only [Act.put, List.setIfInBounds_toArray, List.set_cons_zero, List.set_cons_succ]
                refine wpAnyH_take (i := 25) (oi := ⟨some 97, _, _, _, _, _⟩) (v := (.bool false)) rfl (by kernel_rfl) (by kernel_rfl) (by kernel_rfl) (fun _ _ _ h => h) (Or.inl ⟨by rfl, ?_⟩) (by assumption) ?_
                · intro w' hS; go_simp; try with_reducible rfl
                simp only [Act.put, List.setIfInBounds_toArray, List.set_cons_zero, List.set_cons_succ]
                refine wpAnyH_take (i := 26) (oi := ⟨some 98, _, _, _, _, _⟩) (v := (.bool false)) rfl (by kernel_rfl) (by kernel_rfl) (by kernel_rfl) (fun _ _ _ h => h) (Or.inl ⟨by rfl, ?_⟩) (by assumption) ?_
                · intro w' hS; go_simp; try with_reducible rfl
                simp only [Act.put, List.setIfInBounds_toArray, List.set_cons_zero, List.set_cons_succ]
                refine wpAnyH_take (i := 27) (oi := ⟨some 99, _, _, _, _, _⟩) (v := (.int .i64 (i : Int))) rfl (by kernel_rfl) (by kernel_rfl) (by kernel_rfl) (fun _ _ _ h => h) (Or.inl ⟨by rfl, ?_⟩) (by assumption) ?_
                · intro w' hS; go_simp; try with_reducible rfl
                simp only [Act.put, List.setIfInBounds_toArray, List.set_cons_zero, List.set_cons_succ]
                refine wpAnyH_take (i := 28) (oi := ⟨some 100, _, _, _, _, _⟩) (v := (.bool false)) rfl (by kernel_rfl) (by kernel_rfl) (by kernel_rfl) (fun _ _ _ h => h) (Or.inl ⟨by rfl, ?_⟩) (by assumption) ?_
                · intro w' hS; go_simp; try with_reducible rfl
                simp only [Act.put, List.setIfInBounds_toArray, List.set_cons_zero, List.set_cons_succ]
                refine wpAnyH_take (i := 29) (oi := ⟨some 101, _, _, _, _, _⟩) (v := (.bool false)) rfl (by kernel_rfl) (by kernel_rfl) (by kernel_rfl) (fun _ _ _ h => h) (Or.inl ⟨by rfl, ?_⟩) (by assumption) ?_
                · intro w' hS; go_simp; try with_reducible rfl
                simp only [Act.put, List.setIfInBounds_toArray, List.set_cons_zero, List.set_cons_succ]
                refine wpAnyH_take (i := 30) (oi := ⟨some 102, _, _, _, _, _⟩) (v := undef) rfl (by kernel_rfl) (by kernel_rfl) (by kernel_rfl) (fun _ _ _ h => h) (Or.inr ⟨by rfl, rfl⟩) (by assumption) ?_
                simp only [Act.put, List.setIfInBounds_toArray, List.set_cons_zero, List.set_cons_succ]
                refine wpAnyH_take (i := 31) (oi := ⟨some 103, _, _, _, _, _⟩) (v := undef) rfl (by kernel_rfl) (by kernel_rfl) (by kernel_rfl) (fun _ _ _ h => h) (Or.inr ⟨by rfl, rfl⟩) (by assumption) ?_
                simp only [Act.put, List.setIfInBounds_toArray, List.set_cons_zero, List.set_cons_succ]
                refine wpAnyH_take (i := 32) (oi := ⟨some 104, _, _, _, _, _⟩) (v := undef) rfl (by kernel_rfl) (by kernel_rfl) (by kernel_rfl) (fun _ _ _ h => h) (Or.inr ⟨by rfl, rfl⟩) (by assumption) ?_
                simp only [Act.put, List.setIfInBounds_toArray, List.set_cons_zero, List.set_cons_succ]
                refine wpAnyH_take (i := 33) (oi := ⟨some 105, _, _, _, _, _⟩) (v := undef) rfl (by kernel_rfl) (by kernel_rfl) (by kernel_rfl) (fun _ _ _ h => h) (Or.inr ⟨by rfl, rfl⟩) (by assumption) ?_
                simp only [Act.put, List.setIfInBounds_toArray, List.set_cons_zero, List.set_cons_succ]
                refine wpAnyH_take (i := 34) (oi := ⟨some 106, _, _, _, _, _⟩) (v := undef) rfl (by kernel_rfl) (by kernel_rfl) (by kernel_rfl) (fun _ _ _ h => h) (Or.inr ⟨by rfl, rfl⟩) (by assumption) ?_
                simp only [Act.put, List.setIfInBounds_toArray, List.set_cons_zero, List.set_cons_succ]
                refine wpAnyH_take (i := 35) (oi := ⟨some 107, _, _, _, _, _⟩) (v := undef) rfl (by kernel_rfl) (by kernel_rfl) (by kernel_rfl) (fun _ _ _ h => h) (Or.inr ⟨by rfl, rfl⟩) (by assumption) ?_
                simp only [Act.put, List.setIfInBounds_toArray, List.set_cons_zero, List.set_cons_succ]
                refine wpAnyH_take (i := 36) (oi := ⟨some 108, _, _, _, _, _⟩) (v := undef) rfl (by kernel_rfl) (by kernel_rfl) (by kernel_rfl) (fun _ _ _ h => h) (Or.inr ⟨by rfl, rfl⟩) (by assumption) ?_
                simp only [Act.put, List.setIfInBounds_toArray, List.set_cons_zero, List.set_cons_succ]
                refine wpAnyH_take (i := 37) (oi := ⟨some 109, _, _, _, _, _⟩) (v := undef) rfl (by kernel_rfl) (by kernel_rfl) (by kernel_rfl) (fun _ _ _ h => h) (Or.inr ⟨by rfl, rfl⟩) (by assumption) ?_
                simp only [Act.put, List.setIfInBounds_toArray, List.set_cons_zero, List.set_cons_succ]
                refine wpAnyH_take (i := 38) (oi := ⟨some 110, _, _, _, _, _⟩) (v := undef) rfl (by kernel_rfl) (by kernel_rfl) (by kernel_rfl) (fun _ _ _ h => h) (Or.inr ⟨by rfl, rfl⟩) (by assumption) ?_
                simp only [Act.put, List.setIfInBounds_toArray, List.set_cons_zero, List.set_cons_succ]
                refine wpAnyH_take (i := 39) (oi := ⟨some 111, _, _, _, _, _⟩) (v := undef) rfl (by kernel_rfl) (by kernel_rfl) (by kernel_rfl) (fun _ _ _ h => h) (Or.inr ⟨by rfl, rfl⟩) (by assumption) ?_
                simp only [Act.put, List.setIfInBounds_toArray, List.set_cons_zero, List.set_cons_succ]
                refine wpAnyH_take (i := 40) (oi := ⟨some 112, _, _, _, _, _⟩) (v := undef) rfl (by kernel_rfl) (by kernel_rfl) (by kernel_rfl) (fun _ _ _ h => h) (Or.inr ⟨by rfl, rfl⟩) (by assumption) ?_
                simp only [Act.put, List.setIfInBounds_toArray, List.set_cons_zero, List.set_cons_succ]
                refine wpAnyH_take (i := 41) (oi := ⟨some 113, _, _, _, _, _⟩) (v := undef) rfl (by kernel_rfl) (by kernel_rfl) (by kernel_rfl) (fun _ _ _ h => h) (Or.inr ⟨by rfl, rfl⟩) (by assumption) ?_
                simp only [Act.put, List.setIfInBounds_toArray, List.set_cons_zero, List.set_cons_succ]
                refine wpAnyH_take (i := 42) (oi := ⟨some 114, _, _, _, _, _⟩) (v := (.bool false)) rfl (by kernel_rfl) (by kernel_rfl) (by kernel_rfl) (fun _ _ _ h => h) (Or.inl ⟨by rfl, ?_⟩) (by assumption) ?_
                · intro w' hS; go_simp; try with_reducible rfl
                simp only [Act.put, List.setIfInBounds_toArray, List.set_cons_zero, List.set_cons_succ]
                refine wpAnyH_take (i := 43) (oi := ⟨some 115, _, _, _, _, _⟩) (v := (.bool false)) rfl (by kernel_rfl) (by kernel_rfl) (by kernel_rfl) (fun _ _ _ h => h) (Or.inl ⟨by rfl, ?_⟩) (by assumption) ?_
                · intro w' hS; go_simp; try with_reducible rfl
                simp only [Act.put, List.setIfInBounds_toArray, List.set_cons_zero, List.set_cons_succ]
                refine wpAnyH_done (by kernel_rfl) ?_ _
                have cM1 : wr.drew.cell? ⟨gM, p, none⟩ = some (.bool false) := HCL.out.2.2
                have fM1 : wr.drew.frozen? ⟨gM, p, none⟩ = false := fM
                have HB4 : Hid (Blk (wr.drew.setCell ⟨gM, p, none⟩ (.bool true)) gM 4 ((List.range n).map (metF Q (i + 1)))) := Lib.hid (HB2.out 1)
                have HF4 : Hid (Fr (fun b => b = gM) w3 (wr.drew.setCell ⟨gM, p, none⟩ (.bool true))) := Lib.hid (HF2.out 1)
                clear fM cP hHeld
                generalize wr.drew = wz at cM1 fM1 HB4 HF4 ⊢
                go_wp2_with fail
                go_roundw
                case rel => exact ⟨i + 1, by simp, by omega, HB4, HF4⟩
                case measure => simp [intOf]; omega
              · obtain ⟨j, hij⟩ : ∃ j, i = j + 1 := ⟨i - 1, by omega⟩
                obtain ⟨kq, hkq⟩ : ∃ k, k = KS (Q.getD j 0) := ⟨_, rfl⟩
                have HCQ : Hid (wr.cell? ⟨ob, oo + j * 2, none⟩ = some (.string kq)) := Lib.hid (by rw [hkq]; exact (HCO.out j (by omega)).1)
                have hlq : Go.Op.bytesLess ks.toList kq.toList = false := by
                  rw [hkq, HKS.out, HPQ.out]
                  exact HRI.out j i (by omega) hlt
                have mj : IntKind.i64.wrap ((i : Int) - 1) = (j : Int) := by rw [IntKind.wrap_i64] <;> omega
                have dz : 0 < i := by omega
                have hjn : (j : Int) < (n : Int) := by omega
                clear hkq hij hz
                go_wp2_with fail
                refine wp_region_held_drew (S := fun w' => w'.heap = wr.heap) (by kernel_rfl) rfl (fun hHeld => ?_)
                refine wpAnyH_take (i := 0) (oi := ⟨some 72, _, _, _, _, _⟩) (v := (.int .i64 (p : Int))) rfl (by kernel_rfl) (by kernel_rfl) (by kernel_rfl) (fun _ _ _ h => h) (Or.inl ⟨by rfl, ?_⟩) (by assumption) ?_
                · intro w' hS; go_simp; try with_reducible rfl
                simp only [Act.put, List.setIfInBounds_toArray, List.set_cons_zero, List.set_cons_succ]
                refine wpAnyH_take (i := 1) (oi := ⟨some 73, _, _, _, _, _⟩) (v := (.bool false)) rfl (by kernel_rfl) (by kernel_rfl) (by kernel_rfl) (fun _ _ _ h => h) (Or.inl ⟨by rfl, ?_⟩) (by assumption) ?_
                · intro w' hS; go_simp; try with_reducible rfl
                simp only [Act.put, List.setIfInBounds_toArray, List.set_cons_zero, List.set_cons_succ]
                refine wpAnyH_take (i := 2) (oi := ⟨some 74, _, _, _, _, _⟩) (v := (.bool false)) rfl (by kernel_rfl) (by kernel_rfl) (by kernel_rfl) (fun _ _ _ h => h) (Or.inl ⟨by rfl, ?_⟩) (by assumption) ?_
                · intro w' hS; go_simp; try with_reducible rfl
                simp only [Act.put, List.setIfInBounds_toArray, List.set_cons_zero, List.set_cons_succ]
                refine wpAnyH_take (i := 3) (oi := ⟨some 75, _, _, _, _, _⟩) (v := (.int .i64 (p : Int))) rfl (by kernel_rfl) (by kernel_rfl) (by kernel_rfl) (fun _ _ _ h => h) (Or.inl ⟨by rfl, ?_⟩) (by assumption) ?_
                · intro w' hS; go_simp; try with_reducible rfl
                simp only [Act.put, List.setIfInBounds_toArray, List.set_cons_zero, List.set_cons_succ]
                refine wpAnyH_take (i := 4) (oi := ⟨some 76, _, _, _, _, _⟩) (v := (.slice LA n lc)) rfl (by kernel_rfl) (by kernel_rfl) (by kernel_rfl) (fun _ _ _ h => h) (Or.inl ⟨by rfl, ?_⟩) (by assumption) ?_
                · intro w' hS; go_simp; try with_reducible rfl
                simp only [Act.put, List.setIfInBounds_toArray, List.set_cons_zero, List.set_cons_succ]
                refine wpAnyH_take (i := 5) (oi := ⟨some 77, _, _, _, _, _⟩) (v := (.int .i64 (n : Int))) rfl (by kernel_rfl) (by kernel_rfl) (by kernel_rfl) (fun _ _ _ h => h) (Or.inl ⟨by rfl, ?_⟩) (by assumption) ?_
                · intro w' hS; go_simp; try with_reducible rfl
                simp only [Act.put, List.setIfInBounds_toArray, List.set_cons_zero, List.set_cons_succ]
                refine wpAnyH_take (i := 6) (oi := ⟨some 78, _, _, _, _, _⟩) (v := (.bool false)) rfl (by kernel_rfl) (by kernel_rfl) (by kernel_rfl) (fun _ _ _ h => h) (Or.inl ⟨by rfl, ?_⟩) (by assumption) ?_
                · intro w' hS; go_simp; try with_reducible rfl
                simp only [Act.put, List.setIfInBounds_toArray, List.set_cons_zero, List.set_cons_succ]
                refine wpAnyH_take (i := 7) (oi := ⟨some 79, _, _, _, _, _⟩) (v := (.bool false)) rfl (by kernel_rfl) (by kernel_rfl) (by kernel_rfl) (fun _ _ _ h => h) (Or.inl ⟨by rfl, ?_⟩) (by assumption) ?_
                · intro w' hS; go_simp; try with_reducible rfl
                simp only [Act.put, List.setIfInBounds_toArray, List.set_cons_zero, List.set_cons_succ]
                refine wpAnyH_take (i := 8) (oi := ⟨some 80, _, _, _, _, _⟩) (v := (.bool false)) rfl (by kernel_rfl) (by kernel_rfl) (by kernel_rfl) (fun _ _ _ h => h) (Or.inl ⟨by rfl, ?_⟩) (by assumption) ?_
                · intro w' hS; go_simp; try with_reducible rfl
                simp only [Act.put, List.setIfInBounds_toArray, List.set_cons_zero, List.set_cons_succ]
                refine wpAnyH_take (i := 9) (oi := ⟨some 81, _, _, _, _, _⟩) (v := (.slice (some ⟨gM, 0, none⟩) n n)) rfl (by kernel_rfl) (by kernel_rfl) (by kernel_rfl) (fun _ _ _ h => h) (Or.inl ⟨by rfl, ?_⟩) (by assumption) ?_
                · intro w' hS; go_simp; try with_reducible rfl
                simp only [Act.put, List.setIfInBounds_toArray, List.set_cons_zero, List.set_cons_succ]
                refine wpAnyH_take (i := 10) (oi := ⟨some 82, _, _, _, _, _⟩) (v := (.int .i64 (p : Int))) rfl (by kernel_rfl) (by kernel_rfl) (by kernel_rfl) (fun _ _ _ h => h) (Or.inl ⟨by rfl, ?_⟩) (by assumption) ?_
                · intro w' hS; go_simp; try with_reducible rfl
                simp only [Act.put, List.setIfInBounds_toArray, List.set_cons_zero, List.set_cons_succ]
                refine wpAnyH_take (i := 11) (oi := ⟨some 83, _, _, _, _, _⟩) (v := (.pointer (some ⟨gM, p, none⟩))) rfl (by kernel_rfl) (by kernel_rfl) (by kernel_rfl) (fun _ _ _ h => h) (Or.inl ⟨by rfl, ?_⟩) (by assumption) ?_
                · intro w' hS; go_simp; try with_reducible rfl
                simp only [Act.put, List.setIfInBounds_toArray, List.set_cons_zero, List.set_cons_succ]
                refine wpAnyH_take (i := 12) (oi := ⟨some 84, _, _, _, _, _⟩) (v := (.bool false)) rfl (by kernel_rfl) (by kernel_rfl) (by kernel_rfl) (fun _ _ _ h => h) (Or.inl ⟨by rfl, ?_⟩) (by assumption) ?_
                · intro w' hS; have z0 : w'.cell? ⟨gM, p, none⟩ = some (.bool false) := (World.cell?_of_block (w := wr) (w' := w') (by rw [hS])).trans (HCL.out.2.2); go_simp; try with_reducible rfl
                simp only [Act.put, List.setIfInBounds_toArray, List.set_cons_zero, List.set_cons_succ]
                refine wpAnyH_take (i := 13) (oi := ⟨some 85, _, _, _, _, _⟩) (v := (.bool false)) rfl (by kernel_rfl) (by kernel_rfl) (by kernel_rfl) (fun _ _ _ h => h) (Or.inl ⟨by rfl, ?_⟩) (by assumption) ?_
                · intro w' hS; go_simp; try with_reducible rfl
                simp only [Act.put, List.setIfInBounds_toArray, List.set_cons_zero, List.set_cons_succ]
                refine wpAnyH_take (i := 14) (oi := ⟨some 86, _, _, _, _, _⟩) (v := (.bool false)) rfl (by kernel_rfl) (by kernel_rfl) (by kernel_rfl) (fun _ _ _ h => h) (Or.inl ⟨by rfl, ?_⟩) (by assumption) ?_
                · intro w' hS; go_simp; try with_reducible rfl
                simp only [Act.put, List.setIfInBounds_toArray, List.set_cons_zero, List.set_cons_succ]
                refine wpAnyH_take (i := 15) (oi := ⟨some 87, _, _, _, _, _⟩) (v := (.slice (some ⟨ob, oo, none⟩) n oc)) rfl (by kernel_rfl) (by kernel_rfl) (by kernel_rfl) (fun _ _ _ h => h) (Or.inl ⟨by rfl, ?_⟩) (by assumption) ?_
                · intro w' hS; go_simp; try with_reducible rfl
                simp only [Act.put, List.setIfInBounds_toArray, List.set_cons_zero, List.set_cons_succ]
                refine wpAnyH_take (i := 16) (oi := ⟨some 88, _, _, _, _, _⟩) (v := (.int .i64 (i : Int))) rfl (by kernel_rfl) (by kernel_rfl) (by kernel_rfl) (fun _ _ _ h => h) (Or.inl ⟨by rfl, ?_⟩) (by assumption) ?_
                · intro w' hS; go_simp; try with_reducible rfl
                simp only [Act.put, List.setIfInBounds_toArray, List.set_cons_zero, List.set_cons_succ]
                refine wpAnyH_take (i := 17) (oi := ⟨some 89, _, _, _, _, _⟩) (v := (.pointer (some ⟨ob, oo + i * 2, none⟩))) rfl (by kernel_rfl) (by kernel_rfl) (by kernel_rfl) (fun _ _ _ h => h) (Or.inl ⟨by rfl, ?_⟩) (by assumption) ?_
                · intro w' hS; go_simp; try with_reducible rfl
                simp only [Act.put, List.setIfInBounds_toArray, List.set_cons_zero, List.set_cons_succ]
                refine wpAnyH_take (i := 18) (oi := ⟨some 90, _, _, _, _, _⟩) (v := (.pointer (some ⟨ob, oo + i * 2, none⟩))) rfl (by kernel_rfl) (by kernel_rfl) (by kernel_rfl) (fun _ _ _ h => h) (Or.inl ⟨by rfl, ?_⟩) (by assumption) ?_
                · intro w' hS; go_simp; try with_reducible rfl
                simp only [Act.put, List.setIfInBounds_toArray, List.set_cons_zero, List.set_cons_succ]
                refine wpAnyH_take (i := 19) (oi := ⟨some 91, _, _, _, _, _⟩) (v := (.string ks)) rfl (by kernel_rfl) (by kernel_rfl) (by kernel_rfl) (fun _ _ _ h => h) (Or.inl ⟨by rfl, ?_⟩) (by assumption) ?_
                · intro w' hS; have z0 : w'.cell? ⟨ob, oo + i * 2, none⟩ = some (.string ks) := (World.cell?_of_block (w := wr) (w' := w') (by rw [hS])).trans (HCL.out.2.1); go_simp; try with_reducible rfl
                simp only [Act.put, List.setIfInBounds_toArray, List.set_cons_zero, List.set_cons_succ]
                refine wpAnyH_take (i := 20) (oi := ⟨some 92, _, _, _, _, _⟩) (v := (.slice (some ⟨la, lo, none⟩) n c)) rfl (by kernel_rfl) (by kernel_rfl) (by kernel_rfl) (fun _ _ _ h => h) (Or.inl ⟨by rfl, ?_⟩) (by assumption) ?_
                · intro w' hS; go_simp; try with_reducible rfl
                simp only [Act.put, List.setIfInBounds_toArray, List.set_cons_zero, List.set_cons_succ]
                refine wpAnyH_take (i := 21) (oi := ⟨some 93, _, _, _, _, _⟩) (v := (.int .i64 (p : Int))) rfl (by kernel_rfl) (by kernel_rfl) (by kernel_rfl) (fun _ _ _ h => h) (Or.inl ⟨by rfl, ?_⟩) (by assumption) ?_
                · intro w' hS; go_simp; try with_reducible rfl
                simp only [Act.put, List.setIfInBounds_toArray, List.set_cons_zero, List.set_cons_succ]
                refine wpAnyH_take (i := 22) (oi := ⟨some 94, _, _, _, _, _⟩) (v := (.pointer (some ⟨la, lo + p, none⟩))) rfl (by kernel_rfl) (by kernel_rfl) (by kernel_rfl) (fun _ _ _ h => h) (Or.inl ⟨by rfl, ?_⟩) (by assumption) ?_
                · intro w' hS; go_simp; try with_reducible rfl
                simp only [Act.put, List.setIfInBounds_toArray, List.set_cons_zero, List.set_cons_succ]
                refine wpAnyH_take (i := 23) (oi := ⟨some 95, _, _, _, _, _⟩) (v := (.string ks)) rfl (by kernel_rfl) (by kernel_rfl) (by kernel_rfl) (fun _ _ _ h => h) (Or.inl ⟨by rfl, ?_⟩) (by assumption) ?_
                · intro w' hS; have z0 : w'.cell? ⟨la, lo + p, none⟩ = some (.string ks) := (World.cell?_of_block (w := wr) (w' := w') (by rw [hS])).trans (HCL.out.1); go_simp; try with_reducible rfl
                simp only [Act.put, List.setIfInBounds_toArray, List.set_cons_zero, List.set_cons_succ]
                refine wpAnyH_take (i := 24) (oi := ⟨some 96, _, _, _, _, _⟩) (v := (.bool false)) rfl (by kernel_rfl) (by kernel_rfl) (by kernel_rfl) (fun _ _ _ h => h) (Or.inl ⟨by rfl, ?_⟩) (by assumption) ?_
                · intro w' hS; go_simp; try with_reducible rfl
                simp only [Act.put, List.setIfInBounds_toArray, List.set_cons_zero, List.set_cons_succ]
                refine wpAnyH_take (i := 25) (oi := ⟨some 97, _, _, _, _, _⟩) (v := (.bool false)) rfl (by kernel_rfl) (by kernel_rfl) (by kernel_rfl) (fun _ _ _ h => h) (Or.inl ⟨by rfl, ?_⟩) (by assumption) ?_
                · intro w' hS; go_simp; try with_reducible rfl
                simp only [Act.put, List.setIfInBounds_toArray, List.set_cons_zero, List.set_cons_succ]
                refine wpAnyH_take (i := 26) (oi := ⟨some 98, _, _, _, _, _⟩) (v := (.bool false)) rfl (by kernel_rfl) (by kernel_rfl) (by kernel_rfl) (fun _ _ _ h => h) (Or.inl ⟨by rfl, ?_⟩) (by assumption) ?_
                · intro w' hS; go_simp; try with_reducible rfl
                simp only [Act.put, List.setIfInBounds_toArray, List.set_cons_zero, List.set_cons_succ]
                refine wpAnyH_take (i := 27) (oi := ⟨some 99, _, _, _, _, _⟩) (v := (.int .i64 (i : Int))) rfl (by kernel_rfl) (by kernel_rfl) (by kernel_rfl) (fun _ _ _ h => h) (Or.inl ⟨by rfl, ?_⟩) (by assumption) ?_
                · intro w' hS; go_simp; try with_reducible rfl
                simp only [Act.put, List.setIfInBounds_toArray, List.set_cons_zero, List.set_cons_succ]
                refine wpAnyH_take (i := 28) (oi := ⟨some 100, _, _, _, _, _⟩) (v := (.bool true)) rfl (by kernel_rfl) (by kernel_rfl) (by kernel_rfl) (fun _ _ _ h => h) (Or.inl ⟨by rfl, ?_⟩) (by assumption) ?_
                · intro w' hS; go_simp; try with_reducible rfl
                simp only [Act.put, List.setIfInBounds_toArray, List.set_cons_zero, List.set_cons_succ]
                refine wpAnyH_take (i := 29) (oi := ⟨some 101, _, _, _, _, _⟩) (v := (.bool true)) rfl (by kernel_rfl) (by kernel_rfl) (by kernel_rfl) (fun _ _ _ h => h) (Or.inl ⟨by rfl, ?_⟩) (by assumption) ?_
                · intro w' hS; go_simp; try with_reducible rfl
                simp only [Act.put, List.setIfInBounds_toArray, List.set_cons_zero, List.set_cons_succ]
                refine wpAnyH_take (i := 30) (oi := ⟨some 102, _, _, _, _, _⟩) (v := (.slice (some ⟨ob, oo, none⟩) n oc)) rfl (by kernel_rfl) (by kernel_rfl) (by kernel_rfl) (fun _ _ _ h => h) (Or.inl ⟨by rfl, ?_⟩) (by assumption) ?_
                · intro w' hS; go_simp; try with_reducible rfl
                simp only [Act.put, List.setIfInBounds_toArray, List.set_cons_zero, List.set_cons_succ]
                refine wpAnyH_take (i := 31) (oi := ⟨some 103, _, _, _, _, _⟩) (v := (.int .i64 (i : Int))) rfl (by kernel_rfl) (by kernel_rfl) (by kernel_rfl) (fun _ _ _ h => h) (Or.inl ⟨by rfl, ?_⟩) (by assumption) ?_
                · intro w' hS; go_simp; try with_reducible rfl
                simp only [Act.put, List.setIfInBounds_toArray, List.set_cons_zero, List.set_cons_succ]
                refine wpAnyH_take (i := 32) (oi := ⟨some 104, _, _, _, _, _⟩) (v := (.pointer (some ⟨ob, oo + i * 2, none⟩))) rfl (by kernel_rfl) (by kernel_rfl) (by kernel_rfl) (fun _ _ _ h => h) (Or.inl ⟨by rfl, ?_⟩) (by assumption) ?_
                · intro w' hS; go_simp; try with_reducible rfl
                simp only [Act.put, List.setIfInBounds_toArray, List.set_cons_zero, List.set_cons_succ]
                refine wpAnyH_take (i := 33) (oi := ⟨some 105, _, _, _, _, _⟩) (v := (.pointer (some ⟨ob, oo + i * 2, none⟩))) rfl (by kernel_rfl) (by kernel_rfl) (by kernel_rfl) (fun _ _ _ h => h) (Or.inl ⟨by rfl, ?_⟩) (by assumption) ?_
                · intro w' hS; go_simp; try with_reducible rfl
                simp only [Act.put, List.setIfInBounds_toArray, List.set_cons_zero, List.set_cons_succ]
                refine wpAnyH_take (i := 34) (oi := ⟨some 106, _, _, _, _, _⟩) (v := (.string ks)) rfl (by kernel_rfl) (by kernel_rfl) (by kernel_rfl) (fun _ _ _ h => h) (Or.inl ⟨by rfl, ?_⟩) (by assumption) ?_
                · intro w' hS; have z0 : w'.cell? ⟨ob, oo + i * 2, none⟩ = some (.string ks) := (World.cell?_of_block (w := wr) (w' := w') (by rw [hS])).trans (HCL.out.2.1); go_simp; try with_reducible rfl
                simp only [Act.put, List.setIfInBounds_toArray, List.set_cons_zero, List.set_cons_succ]
                refine wpAnyH_take (i := 35) (oi := ⟨some 107, _, _, _, _, _⟩) (v := (.slice (some ⟨ob, oo, none⟩) n oc)) rfl (by kernel_rfl) (by kernel_rfl) (by kernel_rfl) (fun _ _ _ h => h) (Or.inl ⟨by rfl, ?_⟩) (by assumption) ?_
                · intro w' hS; go_simp; try with_reducible rfl
                simp only [Act.put, List.setIfInBounds_toArray, List.set_cons_zero, List.set_cons_succ]
                refine wpAnyH_take (i := 36) (oi := ⟨some 108, _, _, _, _, _⟩) (v := (.int .i64 (i : Int))) rfl (by kernel_rfl) (by kernel_rfl) (by kernel_rfl) (fun _ _ _ h => h) (Or.inl ⟨by rfl, ?_⟩) (by assumption) ?_
                · intro w' hS; go_simp; try with_reducible rfl
                simp only [Act.put, List.setIfInBounds_toArray, List.set_cons_zero, List.set_cons_succ]
                refine wpAnyH_take (i := 37) (oi := ⟨some 109, _, _, _, _, _⟩) (v := (.int .i64 (j : Int))) rfl (by kernel_rfl) (by kernel_rfl) (by kernel_rfl) (fun _ _ _ h => h) (Or.inl ⟨by rfl, ?_⟩) (by assumption) ?_
                · intro w' hS; go_simp; try with_reducible rfl
                simp only [Act.put, List.setIfInBounds_toArray, List.set_cons_zero, List.set_cons_succ]
                refine wpAnyH_take (i := 38) (oi := ⟨some 110, _, _, _, _, _⟩) (v := (.pointer (some ⟨ob, oo + j * 2, none⟩))) rfl (by kernel_rfl) (by kernel_rfl) (by kernel_rfl) (fun _ _ _ h => h) (Or.inl ⟨by rfl, ?_⟩) (by assumption) ?_
                · intro w' hS; go_simp; try with_reducible rfl
                simp only [Act.put, List.setIfInBounds_toArray, List.set_cons_zero, List.set_cons_succ]
                refine wpAnyH_take (i := 39) (oi := ⟨some 111, _, _, _, _, _⟩) (v := (.pointer (some ⟨ob, oo + j * 2, none⟩))) rfl (by kernel_rfl) (by kernel_rfl) (by kernel_rfl) (fun _ _ _ h => h) (Or.inl ⟨by rfl, ?_⟩) (by assumption) ?_
                · intro w' hS; go_simp; try with_reducible rfl
                simp only [Act.put, List.setIfInBounds_toArray, List.set_cons_zero, List.set_cons_succ]
                refine wpAnyH_take (i := 40) (oi := ⟨some 112, _, _, _, _, _⟩) (v := (.string kq)) rfl (by kernel_rfl) (by kernel_rfl) (by kernel_rfl) (fun _ _ _ h => h) (Or.inl ⟨by rfl, ?_⟩) (by assumption) ?_
                · intro w' hS; have z0 : w'.cell? ⟨ob, oo + j * 2, none⟩ = some (.string kq) := (World.cell?_of_block (w := wr) (w' := w') (by rw [hS])).trans (HCQ.out); go_simp; try with_reducible rfl
                simp only [Act.put, List.setIfInBounds_toArray, List.set_cons_zero, List.set_cons_succ]
                refine wpAnyH_take (i := 41) (oi := ⟨some 113, _, _, _, _, _⟩) (v := (.bool false)) rfl (by kernel_rfl) (by kernel_rfl) (by kernel_rfl) (fun _ _ _ h => h) (Or.inl ⟨by rfl, ?_⟩) (by assumption) ?_
                · intro w' hS; go_simp; try with_reducible rfl
                simp only [Act.put, List.setIfInBounds_toArray, List.set_cons_zero, List.set_cons_succ]
                refine wpAnyH_take (i := 42) (oi := ⟨some 114, _, _, _, _, _⟩) (v := (.bool false)) rfl (by kernel_rfl) (by kernel_rfl) (by kernel_rfl) (fun _ _ _ h => h) (Or.inl ⟨by rfl, ?_⟩) (by assumption) ?_
                · intro w' hS; go_simp; try with_reducible rfl
                simp only [Act.put, List.setIfInBounds_toArray, List.set_cons_zero, List.set_cons_succ]
                refine wpAnyH_take (i := 43) (oi := ⟨some 115, _, _, _, _, _⟩) (v := (.bool false)) rfl (by kernel_rfl) (by kernel_rfl) (by kernel_rfl) (fun _ _ _ h => h) (Or.inl ⟨by rfl, ?_⟩) (by assumption) ?_
                · intro w' hS; go_simp; try with_reducible rfl
                simp only [Act.put, List.setIfInBounds_toArray, List.set_cons_zero, List.set_cons_succ]
                refine wpAnyH_done (by kernel_rfl) ?_ _
                have cM1 : wr.drew.cell? ⟨gM, p, none⟩ = some (.bool false) := HCL.out.2.2
                have fM1 : wr.drew.frozen? ⟨gM, p, none⟩ = false := fM
                have HB4 : Hid (Blk (wr.drew.setCell ⟨gM, p, none⟩ (.bool true)) gM 4 ((List.range n).map (metF Q (i + 1)))) := Lib.hid (HB2.out 1)
                have HF4 : Hid (Fr (fun b => b = gM) w3 (wr.drew.setCell ⟨gM, p, none⟩ (.bool true))) := Lib.hid (HF2.out 1)
                clear fM cP hHeld
                generalize wr.drew = wz at cM1 fM1 HB4 HF4 ⊢
                go_wp2_with fail
                go_roundw
                case rel => exact ⟨i + 1, by simp, by omega, HB4, HF4⟩
                case measure => simp [intOf]; omega
            · obtain rfl : n = i := by omega
              have hge2 : decide ((n : Int) < (n : Int)) = false := by simp
              have HBZ : Hid (Below w.heap.size w wr) := Lib.hid (HB.out.trans ((HB3.out.trans (HMF.out.below (B := w0r.heap.size) HB3.out.size (fun k hk => by have := HWR2.out; omega))).mono HB.out.size))
              clear HMB HMF
              go_wp2_with fail
              refine (works_any wr).mono ?_
              rintro e wg ⟨rfl, FG⟩
              go_wp2_with fail
              go_ret
              exact ⟨rfl, HBZ.out.trans (FG.out.mono HBZ.out.size)⟩
      · have hsm : n ≤ 65536 := by omega
        have hok : sizeB (n : Int) = true ∨ n = 0 := .inr (by omega)
        have HSA := Lib.hid (sortT_any 28 #[] (kltF KS) KS PI LA n lc wr HRL.out hsm (enters_of Try.func28 (by kernel_rfl) rfl) (fun W hW p q hp hq => key_less (KS p) (KS q) (PI p) (PI q) W) hok)
        have HIP : Hid (Pl n (sortF 0 (kltF KS) (List.range n)) ∧ Inj n (sortF 0 (kltF KS) (List.range n))) := Lib.hid (by
          unfold sortF
          rw [List.length_range]
          exact sort_inj _ _ n _ (fun y hy => by
            obtain ⟨a, b, n', h1, h2, h3, h4, -⟩ := gates_mem hy
            rw [h2]
            simp
            omega) (Pl.range n) (Inj.range n))
        have HRI : Hid (∀ x y, x < y → y < n → kltF KS ((sortF 0 (kltF KS) (List.range n)).getD y 0) ((sortF 0 (kltF KS) (List.range n)).getD x 0) = false) := Lib.hid (fun x y hxy hy => by
          rcases hok with h | h
          · obtain ⟨e, he, hn⟩ := size_pow h
            exact sort_rises (klt_weak KS) he (List.range n) (by rw [List.length_range]; omega) x y hxy (by omega)
          · omega)
        have k59 := run_make_blk (P := Try.prog) 59 4 (.bool false) 1 Try.underlying59 info4 rfl n (by omega) (by omega)
        go_wp2_with fail
        refine HSA.out.mono ?_
        rintro e w2 ⟨v, rfl, ho, hb⟩
        obtain ⟨OA, oc, rfl, hro⟩ := ho.slice
        have HLQ : Hid ((sortF 0 (kltF KS) (List.range n)).length = n) := Lib.hid HIP.out.1.1
        rw [HLQ.out]
        have HB2 : Hid (Below wr.heap.size wr w2) := Lib.hid hb
        have HRO := Lib.hid hro
        have HM0 : Hid (Blk (w2.alloc (.cells (Array.replicate n (.bool false)) 4)) w2.heap.size 4 ((List.range n).map (metF (sortF 0 (kltF KS) (List.range n)) 0))) := Lib.hid (by
          have h := Blk.new w2 4 (List.replicate n (Value.bool false))
          rw [List.toArray_replicate] at h
          have e : (List.range n).map (metF (sortF 0 (kltF KS) (List.range n)) 0) = List.replicate n (Value.bool false) := by
            apply List.ext_getElem?
            intro j
            rw [List.getElem?_map, List.getElem?_replicate]
            rcases Nat.lt_or_ge j n with h | h
            · simp [h, metF]
            · simp [Nat.not_lt.2 h]
          rw [e]
          exact h)
        have HB3 : Hid (Below wr.heap.size wr (w2.alloc (.cells (Array.replicate n (.bool false)) 4))) := Lib.hid (HB2.out.alloc HB2.out.size _)
        have HRO3 : Hid (RdT KS PI (w2.alloc (.cells (Array.replicate n (.bool false)) 4)) OA (sortF 0 (kltF KS) (List.range n))) := Lib.hid (HRO.out.below ((Below.refl _ w2).alloc (Nat.le_refl _) _))
        have HOB : Hid (∀ i, i < n → ∃ b off, OA = some ⟨b, off, none⟩ ∧ b < w2.heap.size) := Lib.hid (fun i hi => by
          obtain ⟨b, off, hA, hlt, -, -⟩ := HRO.out i (by rw [HLQ.out]; exact hi)
          exact ⟨b, off, hA, hlt⟩)
        have HSZ3 : Hid ((w2.alloc (.cells (Array.replicate n (.bool false)) 4)).heap.size = w2.heap.size + 1) := Lib.hid (by simp)
        have HWR2 : Hid (wr.heap.size ≤ w2.heap.size) := Lib.hid hb.size
        clear ho hb hro HSA HRO HB2
        generalize sortF 0 (kltF KS) (List.range n) = Q at *
        go_upto_region 12 with fail
        clear k59
        generalize hw3 : w2.alloc (.cells (Array.replicate n (.bool false)) 4) = w3 at *
        generalize w2.heap.size = gM at *
        clear hw3
        obtain ⟨w0r, hw0r⟩ : ∃ w0r : World, w0r = wr := ⟨_, rfl⟩
        subst hw0r
        go_wp2_with fail
        go_loopw [8] (fun iv wx => ∃ i : Nat, iv = .int .i64 (i : Int) ∧ i ≤ n ∧ Hid (Blk wx gM 4 ((List.range n).map (metF Q i))) ∧ Hid (Fr (fun b => b = gM) w3 wx)) (fun iv _ => n - (intOf iv).toNat)
        case atStart => exact ⟨0, rfl, by omega, HM0, Lib.hid (Fr.refl _ _)⟩
        case round =>
          clear HM0
          obtain ⟨i, rfl, hi, HMB, HMF⟩ := hrel
          by_cases hlt : i < n
          · exfalso; omega
          · obtain rfl : n = i := by omega
            have hge2 : decide ((n : Int) < (n : Int)) = false := by simp
            have HBZ : Hid (Below w.heap.size w wr) := Lib.hid (HB.out.trans ((HB3.out.trans (HMF.out.below (B := w0r.heap.size) HB3.out.size (fun k hk => by have := HWR2.out; omega))).mono HB.out.size))
            clear HMB HMF
            go_wp2_with fail
            refine (works_any wr).mono ?_
            rintro e wg ⟨rfl, FG⟩
            go_wp2_with fail
            go_ret
            exact ⟨rfl, HBZ.out.trans (FG.out.mono HBZ.out.size)⟩
end Go.Proofs.Ytpglocgfdonmaaa

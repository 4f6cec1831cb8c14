/-
  Walk: the law NetworkGathers, its closure.
-/
import Derived.Test.YtpglocgfdonmaaaSt
import Derived.Test.YtpglocgfdonmaaaWy
import Derived.Deep.Cut
set_option linter.unusedVariables false
set_option linter.unusedSimpArgs false
namespace Go.Proofs.Ytpglocgfdonmaaa
open Go.RowKit Go.Shelf

def KE : Nat → ByteArray := fun _ => ByteArray.empty
def PI : Nat → Int := fun p => (p : Int)
theorem lvLL (L : List Bool) {n : Nat} (hn : n = L.length) : lvL (fun k => L.getD k false) n = L := by
  subst hn
  apply List.ext_getElem?
  intro i
  unfold lvL
  rw [List.getElem?_map]
  rcases Nat.lt_or_ge i L.length with h | h
  · simp [h]
  · simp [h]
theorem gath_live (L : List Bool) (Bl : Nat) (A : Option Addr) (n c : Nat) (k : ByteArray) (p : Nat) (W : World) (hn : n = L.length) (hp : p < n) (hl : n ≤ 1000000) (hB : W.cell? ⟨Bl, 0, none⟩ = some (.slice A n c)) (hr : RdV W A (L.map Value.bool)) :
    Calls Try.prog 37 #[.agg #[.string k, .int .i64 (p : Int)], .pointer (some ⟨Bl, 0, none⟩)] W fun e W' => e = .returned (.bool (L.getD p false)) ∧ Below W.heap.size W W' := by
  have hBl := World.block_lt_of_cell? W _ hB
  obtain ⟨b, off, rfl, hc⟩ := rdv_at hr p (by omega)
  have hbl := World.block_lt_of_cell? W _ hc
  have HF : Hid (Below W.heap.size W (W.alloc (.cells #[.string k, .int .i64 (p : Int)] 54))) := Lib.hid ((Below.refl _ W).alloc (Nat.le_refl _) _)
  have hB1 : (W.alloc (.cells #[.string k, .int .i64 (p : Int)] 54)).cell? ⟨Bl, 0, none⟩ = some (.slice (some ⟨b, off, none⟩) n c) := (HF.out.cell (p := ⟨Bl, 0, none⟩) hBl).trans hB
  have hc1 : (W.alloc (.cells #[.string k, .int .i64 (p : Int)] 54)).cell? ⟨b, off + p, none⟩ = some (.bool (L.getD p false)) := (HF.out.cell (p := ⟨b, off + p, none⟩) hbl).trans hc
  have hp' : (p : Int) < (n : Int) := by omega
  generalize L.getD p false = x at *
  clear hB hc hr hn
  go_enter Try.func37, Try.ntmps37
  go_wp2_with fail
  go_ret
  exact ⟨rfl, HF.out⟩
/-- The places met so far. -/
def metF (Q : List Nat) (i j : Nat) : Value := .bool (decide (j ∈ Q.take i))
theorem met_set {Q : List Nat} {n i p : Nat} (hi : Q[i]? = some p) (hp : p < n) : ((List.range n).map (metF Q i)).set p (.bool true) = (List.range n).map (metF Q (i + 1)) := by
  apply List.ext_getElem?
  intro j
  rw [List.getElem?_set, List.getElem?_map, List.getElem?_map]
  by_cases hj : p = j
  · subst hj
    rw [if_pos rfl, if_pos (by simpa using hp), List.getElem?_range hp]
    simp [metF, List.take_add_one, hi]
  · rw [if_neg hj]
    rcases Nat.lt_or_ge j n with h | h
    · rw [List.getElem?_range h]
      simp [metF, List.take_add_one, hi, Ne.symm hj]
    · simp [h]
theorem met_no {Q : List Nat} {n i p : Nat} (hinj : Inj n Q) (hl : Q.length = n) (hi : i < n) (hp : Q.getD i 0 = p) : decide (p ∈ Q.take i) = false := by
  rw [decide_eq_false_iff_not]
  intro h
  obtain ⟨j, hj, he⟩ := List.getElem_of_mem h
  rw [List.length_take] at hj
  rw [List.getElem_take] at he
  have h1 : Q.getD j 0 = p := by rw [List.getD_eq_getElem?_getD, List.getElem?_eq_getElem (by omega)]; exact he
  have := hinj j i (by omega) hi (h1.trans hp.symm)
  omega

set_option maxRecDepth 100000 in
set_option maxHeartbeats 16000000 in
theorem gathers_law (A : Option Addr) (n c : Nat) (L : List Bool) (w : World) (hn : n = L.length) (hr : RdV w A (L.map Value.bool)) (hl : n ≤ 5864062000000) :
    Calls Try.prog 10 #[.slice A n c] w fun e w' => e = .returned (.bool true) ∧ Below w.heap.size w w' := by
  have HN := Lib.hid hn
  have HF0 : Hid (Below w.heap.size w (w.alloc (.cells #[.slice A n c] 59))) := Lib.hid ((Below.refl _ w).alloc (Nat.le_refl _) _)
  have HR : Hid (RdV (w.alloc (.cells #[.slice A n c] 59)) A (L.map Value.bool)) := Lib.hid (hr.below HF0.out)
  have HB1 : Hid (Blk (w.alloc (.cells #[.slice A n c] 59)) w.heap.size 59 [.slice A n c]) := Lib.hid (Blk.new w 59 [.slice A n c])
  have HS0 : Hid ((w.alloc (.cells #[.slice A n c] 59)).heap.size = w.heap.size + 1) := Lib.hid (by simp)
  have hl0 : liveF L 0 = 0 := by simp [liveF]
  have HL0 := Lib.hid hl0
  clear hn hr hl0
  go_enter Try.func10, Try.ntmps10
  go_upto_region 1 with fail
  generalize (w.alloc (.cells #[.slice A n c] 59)) = w0 at *
  have O0 : Hid (OwnT KE PI w0 w0.heap.size (.slice none 0 0) (List.range 0)) := Lib.hid (OwnT.nil _ _)
  go_wp2_with fail
  go_loopw [3, 4, 5] (fun v cv iv wr => ∃ i : Nat, i ≤ n ∧ iv = .int .i64 (i : Int) ∧ cv = .int .i64 (liveF L i : Int) ∧ Hid (OwnT KE PI wr w0.heap.size v (List.range i)) ∧ Hid (Below w0.heap.size w0 wr)) (fun _ _ iv _ => n - (intOf iv).toNat)
  case atStart => exact ⟨0, Nat.zero_le _, rfl, by rw [HL0.out]; rfl, O0, Lib.hid (Below.refl _ _)⟩
  case round =>
    clear O0
    obtain ⟨i, hi, rfl, rfl, HO, HB⟩ := hrel
    have c1 : wr.cell? ⟨w.heap.size, 0, none⟩ = some (.slice A n c) := (HB1.out.below HB.out (by have := HS0.out; omega)).cell 0
    by_cases hlt : i < n
    · have hlt' : (i : Int) < (n : Int) := by omega
      obtain ⟨b, off, rfl, hc⟩ := rdv_at HR.out i (by rw [← HN.out]; exact hlt)
      have hbl := World.block_lt_of_cell? w0 _ hc
      have HLS := Lib.hid (live_succ L i (by rw [← HN.out]; exact hlt))
      have hll : liveF L i ≤ i := by have := live_dead L i (by rw [← HN.out]; omega); omega
      have HRS : Hid (List.range (i + 1) = List.range i ++ [i]) := Lib.hid List.range_succ
      have HC1 : Hid (((List.range i).length + 1) * 24 ≤ 140737488355328) := Lib.hid (by simp; omega)
      have m1 : IntKind.i64.wrap ((i : Int) + 1) = ((i + 1 : Nat) : Int) := by rw [IntKind.wrap_i64] <;> omega
      have m2 : IntKind.i64.wrap ((liveF L i : Int) + 1) = ((liveF L i + 1 : Nat) : Int) := by rw [IntKind.wrap_i64] <;> omega
      have HB1L : Hid (w.heap.size < w0.heap.size) := Lib.hid HB1.out.lt
      have HCL : Hid (w0.cell? ⟨b, off + i, none⟩ = some (.bool (L.getD i false)) ∧ b < w0.heap.size) := Lib.hid ⟨hc, hbl⟩
      generalize L.getD i false = x at *
      generalize liveF L i = d at *
      clear hc hbl
      cases x
      · have HL2 : Hid (liveF L (i + 1) = d) := Lib.hid (by rw [HLS.out]; rfl)
        go_wp2_with (show wpList _ _ _ ({ dst := some 20, op := _, type := _, pos := _, after := _, guard := _ } :: _) _ _; refine wpList_pushT (KS := KE) (PV := PI) wr rfl _ _ rfl w0.heap.size i rfl _ _ rfl rfl HO.out HC1.out HB.out.size ?_; intro v' w1 ho hf; rw [← HRS.out] at ho; have O1 := Lib.hid ho; have B1 : Hid (Below w0.heap.size w0 w1) := Lib.hid (HB.out.trans (hf.below HB.out.size (fun g hg => (HO.out.base_le hg).1))); have c2 : w1.cell? ⟨w.heap.size, 0, none⟩ = some (.slice (some ⟨b, off, none⟩) n c) := (HB1.out.below B1.out HB1L.out).cell 0; have c3 : w1.cell? ⟨b, off + i, none⟩ = some (.bool false) := (B1.out.cell (p := ⟨b, off + i, none⟩) HCL.out.2).trans HCL.out.1; clear c1; clear ho hf)
        go_roundw
        case rel => exact ⟨i + 1, by omega, by simp, by rw [HL2.out], O1, B1⟩
        case measure => simp [intOf]; omega
      · have HL2 : Hid (liveF L (i + 1) = d + 1) := Lib.hid (by rw [HLS.out]; rfl)
        go_wp2_with (show wpList _ _ _ ({ dst := some 20, op := _, type := _, pos := _, after := _, guard := _ } :: _) _ _; refine wpList_pushT (KS := KE) (PV := PI) wr rfl _ _ rfl w0.heap.size i rfl _ _ rfl rfl HO.out HC1.out HB.out.size ?_; intro v' w1 ho hf; rw [← HRS.out] at ho; have O1 := Lib.hid ho; have B1 : Hid (Below w0.heap.size w0 w1) := Lib.hid (HB.out.trans (hf.below HB.out.size (fun g hg => (HO.out.base_le hg).1))); have c2 : w1.cell? ⟨w.heap.size, 0, none⟩ = some (.slice (some ⟨b, off, none⟩) n c) := (HB1.out.below B1.out HB1L.out).cell 0; have c3 : w1.cell? ⟨b, off + i, none⟩ = some (.bool true) := (B1.out.cell (p := ⟨b, off + i, none⟩) HCL.out.2).trans HCL.out.1; clear c1; clear ho hf)
        go_roundw
        case rel => exact ⟨i + 1, by omega, by simp, by rw [HL2.out]; simp, O1, B1⟩
        case measure => simp [intOf]; omega
    · obtain rfl : n = i := by omega
      have hge : decide ((n : Int) < (n : Int)) = false := by simp
      -- MARK
      obtain ⟨LA, lc, hlv, hrl⟩ := HO.out.slice
      rw [List.length_range] at hlv
      subst hlv
      have HRL := Lib.hid hrl
      have HBB : Hid (Blk wr w.heap.size 59 [.slice A n c]) := Lib.hid (HB1.out.below HB.out (by have := HS0.out; omega))
      have HRW : Hid (RdV wr A (L.map Value.bool)) := Lib.hid (HR.out.below HB.out)
      have HBE : Hid (Below w.heap.size w wr) := Lib.hid (HF0.out.trans (HB.out.mono HF0.out.size))
      clear hrl HO HB HR HB1 hlt hi
      have c1 : wr.cell? ⟨w.heap.size, 0, none⟩ = some (.slice A n c) := HBB.out.cell 0
      by_cases hbig : 65536 < n
      · have hbig' : (65536 : Int) < (n : Int) := by omega
        have HSB := Lib.hid (shiftT_big (.func (.func 37) #[] #[.pointer (some ⟨w.heap.size, 0, none⟩)]) LA n lc wr hbig)
        go_wp2_with fail
        refine HSB.out.mono ?_
        rintro e w2 ⟨rfl, hw⟩
        obtain rfl : wr = w2 := hw.symm
        clear c1 HSB
        go_wp2_with fail
        refine (works_any wr).mono ?_
        rintro e wg ⟨rfl, FG⟩
        go_wp2_with fail
        go_ret
        exact ⟨rfl, HBE.out.trans (FG.out.mono HBE.out.size)⟩
      · have hsm : n ≤ 65536 := by omega
        have hsm' : ¬ (65536 : Int) < (n : Int) := by omega
        have HSA := Lib.hid (shiftT_any 37 #[.pointer (some ⟨w.heap.size, 0, none⟩)] (fun k => L.getD k false) KE PI LA n lc wr HRL.out hsm (enters_of Try.func37 (by kernel_rfl) rfl)
          (fun W k hW hk => gath_live L w.heap.size A n c (KE k) k W HN.out hk (by omega) ((HBB.out.below hW HBB.out.lt).cell 0) (HRW.out.below hW)))
        have HPL : Hid (Pl n (shF L)) := Lib.hid (by rw [HN.out]; exact Pl.shF L)
        have HIN : Hid (Inj n (shF L)) := Lib.hid (by rw [HN.out]; exact (shF_gan L (by rw [← HN.out]; exact hsm)).1)
        have HGA : Hid (∀ i, i < n → L.getD ((shF L).getD i 0) false = decide (i < liveF L n)) := Lib.hid (fun i hi => by rw [HN.out]; exact gather_live L (by rw [← HN.out]; exact hsm) i (by rw [← HN.out]; exact hi))
        have HOR : Hid (∀ i, i + 1 < liveF L n → (shF L).getD i 0 < (shF L).getD (i + 1) 0) := Lib.hid (fun i hi => gather_order L (by rw [← HN.out]; exact hsm) i (by rw [← HN.out]; exact hi))
        have HCN : Hid (liveF L n ≤ n) := Lib.hid (by have := live_dead L n (by rw [← HN.out]; omega); omega)
        have k59 := run_make_blk (P := Try.prog) 59 4 (.bool false) 1 Try.underlying59 info4 rfl n (by omega) (by omega)
        rw [lvLL L HN.out] at HSA
        clear hbig
        go_wp2_with fail
        refine HSA.out.mono ?_
        rintro e w2 ⟨v, rfl, ho, hb⟩
        obtain ⟨OA, oc, rfl, hro⟩ := ho.slice
        have HLQ : Hid ((shF L).length = n) := Lib.hid HPL.out.1
        rw [HLQ.out]
        have HB2 : Hid (Below wr.heap.size wr w2) := Lib.hid hb
        have HRO := Lib.hid hro
        have HM0 : Hid (Blk (w2.alloc (.cells (Array.replicate n (.bool false)) 4)) w2.heap.size 4 ((List.range n).map (metF (shF L) 0))) := Lib.hid (by
          have h := Blk.new w2 4 (List.replicate n (Value.bool false))
          rw [List.toArray_replicate] at h
          have e : (List.range n).map (metF (shF L) 0) = List.replicate n (Value.bool false) := by
            apply List.ext_getElem?
            intro j
            rw [List.getElem?_map, List.getElem?_replicate]
            rcases Nat.lt_or_ge j n with h | h
            · simp [h, metF]
            · simp [Nat.not_lt.2 h]
          rw [e]
          exact h)
        have HB3 : Hid (Below wr.heap.size wr (w2.alloc (.cells (Array.replicate n (.bool false)) 4))) := Lib.hid (HB2.out.alloc HB2.out.size _)
        have HRO3 : Hid (RdT KE PI (w2.alloc (.cells (Array.replicate n (.bool false)) 4)) OA (shF L)) := Lib.hid (HRO.out.below ((Below.refl _ w2).alloc (Nat.le_refl _) _))
        have HOB : Hid (∀ i, i < n → ∃ b off, OA = some ⟨b, off, none⟩ ∧ b < w2.heap.size) := Lib.hid (fun i hi => by
          obtain ⟨b, off, hA, hlt, -, -⟩ := HRO.out i (by rw [HLQ.out]; exact hi)
          exact ⟨b, off, hA, hlt⟩)
        have HSZ3 : Hid ((w2.alloc (.cells (Array.replicate n (.bool false)) 4)).heap.size = w2.heap.size + 1) := Lib.hid (by simp)
        have HWR2 : Hid (wr.heap.size ≤ w2.heap.size) := Lib.hid hb.size
        generalize hcnt : liveF L n = cnt at *
        have HCNT := Lib.hid hcnt
        clear ho hb hro HSA HRO HB2 c1 hcnt
        generalize shF L = Q at *
        go_upto_region 15 with fail
        clear k59
        generalize hw3 : w2.alloc (.cells (Array.replicate n (.bool false)) 4) = w3 at *
        generalize w2.heap.size = gM at *
        clear hw3
        obtain ⟨w0r, hw0r⟩ : ∃ w0r : World, w0r = wr := ⟨_, rfl⟩
        subst hw0r
        go_wp2_with fail
        go_loopw [8] (fun iv wx => ∃ i : Nat, iv = .int .i64 (i : Int) ∧ i ≤ n ∧ Hid (Blk wx gM 4 ((List.range n).map (metF Q i))) ∧ Hid (Fr (fun b => b = gM) w3 wx)) (fun iv _ => n - (intOf iv).toNat)
        case atStart => exact ⟨0, rfl, by omega, HM0, Lib.hid (Fr.refl _ _)⟩
        case round =>
          clear HM0
          obtain ⟨i, rfl, hi, HMB, HMF⟩ := hrel
          by_cases hlt : i < n
          · obtain ⟨ob, oo, rfl, hob⟩ := HOB.out i hlt
            have HCO : Hid (∀ j, j < n → wr.cell? ⟨ob, oo + j * 2 + 1, none⟩ = some (.int .i64 ((Q.getD j 0 : Nat) : Int))) := Lib.hid (fun j hj => by
              obtain ⟨b', o', hA, hlt', -, h1⟩ := HRO3.out j (by rw [HLQ.out]; exact hj)
              injection hA with hA
              injection hA with e1 e2
              subst e1 e2
              exact (World.cell?_of_block (w := w3) (w' := wr) (HMF.out.block ob (by have := HSZ3.out; omega) (by omega))).trans h1)
            obtain ⟨p, hp⟩ : ∃ p, p = Q.getD i 0 := ⟨_, rfl⟩
            have HPQ := Lib.hid hp
            have hpn : p < n := by rw [hp]; exact HPL.out.2 i hlt
            have cP : wr.cell? ⟨ob, oo + i * 2 + 1, none⟩ = some (.int .i64 (p : Int)) := by rw [hp]; exact HCO.out i hlt
            have HQI : Hid (Q[i]? = some p) := Lib.hid (by rw [hp, List.getD_eq_getElem?_getD, List.getElem?_eq_getElem (by rw [HLQ.out]; exact hlt)]; rfl)
            have cM : wr.cell? ⟨gM, p, none⟩ = some (.bool false) := by
              rw [HMB.out.cell, List.getElem?_map, List.getElem?_range hpn]
              show some (metF Q i p) = _
              unfold metF
              rw [met_no HIN.out HLQ.out hlt hp.symm]
            have fM : wr.frozen? ⟨gM, p, none⟩ = false := HMB.out.frozen p
            obtain ⟨la, lo, hA, hc⟩ := rdv_at HRW.out p (by rw [← HN.out]; exact hpn)
            subst hA
            have hlaW := World.block_lt_of_cell? w0r _ hc
            have HLB : Hid (la < w0r.heap.size) := Lib.hid hlaW
            have c1 : wr.cell? ⟨w.heap.size, 0, none⟩ = some (.slice (some ⟨la, lo, none⟩) n c) := (HBB.out.below (HB3.out.trans (HMF.out.below (B := w0r.heap.size) HB3.out.size (fun k hk => by have := HWR2.out; omega))) HBB.out.lt).cell 0
            have HCL : Hid (wr.cell? ⟨la, lo + p, none⟩ = some (.bool (L.getD p false))) := Lib.hid (((HB3.out.trans (HMF.out.below (B := w0r.heap.size) HB3.out.size (fun k hk => by have := HWR2.out; omega))).cell (p := ⟨la, lo + p, none⟩) hlaW).trans hc)
            have HGL : Hid (L.getD p false = decide (i < cnt)) := Lib.hid (by rw [hp]; exact HGA.out i hlt)
            have HB2 : Hid (Blk (wr.setCell ⟨gM, p, none⟩ (.bool true)) gM 4 ((List.range n).map (metF Q (i + 1)))) := Lib.hid (by
              have h := Blk.set HMB.out p (.bool true)
              rw [met_set HQI.out hpn] at h
              exact h)
            have HF2 : Hid (Fr (fun b => b = gM) w3 (wr.setCell ⟨gM, p, none⟩ (.bool true))) := Lib.hid (HMF.out.setCell (p := ⟨gM, p, none⟩) (.inl rfl) _)
            have hp0 : ¬ (p : Int) < 0 := by omega
            have hpn' : (p : Int) < (n : Int) := by omega
            have hin' : (i : Int) < (n : Int) := by omega
            have m1 : IntKind.i64.wrap ((i : Int) + 1) = ((i + 1 : Nat) : Int) := by rw [IntKind.wrap_i64] <;> omega
            clear hc hlaW hp hob HMB HMF
            by_cases hcc : i < cnt
            · by_cases hz : i = 0
              · have dc : decide ((i : Int) < (cnt : Int)) = true := by simp; omega
                have dz : decide ((0 : Int) < (i : Int)) = false := by subst hz; rfl
                have cL : wr.cell? ⟨la, lo + p, none⟩ = some (.bool true) := by rw [HCL.out, HGL.out, show decide (i < cnt) = true from by simp; omega]
                obtain rfl : i = 0 := hz
                have cP0 : wr.cell? ⟨ob, oo + 1, none⟩ = some (.int .i64 (p : Int)) := by simpa using cP
                clear cP m1 hin' dz
                clear HCL HGL
                go_wp2_with fail
                go_roundw
                case rel => exact ⟨1, by simp, by omega, HB2, HF2⟩
                case measure => simp [intOf]; omega
              · have dc : decide ((i : Int) < (cnt : Int)) = true := by simp; omega
                have dz : decide ((0 : Int) < (i : Int)) = true := by simp; omega
                have cL : wr.cell? ⟨la, lo + p, none⟩ = some (.bool true) := by rw [HCL.out, HGL.out, show decide (i < cnt) = true from by simp; omega]
                obtain ⟨j, rfl⟩ : ∃ j, i = j + 1 := ⟨i - 1, by omega⟩
                obtain ⟨q, hq⟩ : ∃ q, q = Q.getD j 0 := ⟨_, rfl⟩
                have hqp : q < p := by rw [hq, HPQ.out]; exact HOR.out j hcc
                have cQ : wr.cell? ⟨ob, oo + j * 2 + 1, none⟩ = some (.int .i64 (q : Int)) := by rw [hq]; exact HCO.out j (by omega)
                have mj : IntKind.i64.wrap (((j + 1 : Nat) : Int) - 1) = (j : Int) := by rw [IntKind.wrap_i64] <;> omega
                have dq : decide ((p : Int) ≤ (q : Int)) = false := by simp; omega
                have HQ := Lib.hid hq
                clear hq
                clear HCL HGL
                go_wp2_with fail
                go_roundw
                case rel => exact ⟨j + 1 + 1, by simp, by omega, HB2, HF2⟩
                case measure => simp [intOf]; omega
            · by_cases hz : i = 0
              · have dc : decide ((i : Int) < (cnt : Int)) = false := by simp; omega
                have dz : decide ((0 : Int) < (i : Int)) = false := by subst hz; rfl
                have cL : wr.cell? ⟨la, lo + p, none⟩ = some (.bool false) := by rw [HCL.out, HGL.out, show decide (i < cnt) = false from by simp; omega]
                obtain rfl : i = 0 := hz
                have cP0 : wr.cell? ⟨ob, oo + 1, none⟩ = some (.int .i64 (p : Int)) := by simpa using cP
                clear cP m1 hin' dz
                clear HCL HGL
                go_wp2_with fail
                go_roundw
                case rel => exact ⟨1, by simp, by omega, HB2, HF2⟩
                case measure => simp [intOf]; omega
              · have dc : decide ((i : Int) < (cnt : Int)) = false := by simp; omega
                have dz : decide ((0 : Int) < (i : Int)) = true := by simp; omega
                have cL : wr.cell? ⟨la, lo + p, none⟩ = some (.bool false) := by rw [HCL.out, HGL.out, show decide (i < cnt) = false from by simp; omega]
                clear HCL HGL
                go_wp2_with fail
                go_roundw
                case rel => exact ⟨i + 1, by simp, by omega, HB2, HF2⟩
                case measure => simp [intOf]; omega
          · obtain rfl : n = i := by omega
            have hge2 : decide ((n : Int) < (n : Int)) = false := by simp
            have HBZ : Hid (Below w.heap.size w wr) := Lib.hid (HBE.out.trans ((HB3.out.trans (HMF.out.below (B := w0r.heap.size) HB3.out.size (fun k hk => by have := HWR2.out; omega))).mono HBE.out.size))
            clear HMB HMF
            go_wp2_with fail
            refine (works_any wr).mono ?_
            rintro e wg ⟨rfl, FG⟩
            go_wp2_with fail
            go_ret
            exact ⟨rfl, HBZ.out.trans (FG.out.mono HBZ.out.size)⟩
end Go.Proofs.Ytpglocgfdonmaaa

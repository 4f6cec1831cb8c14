/-
  Walk: Xor of the document's stream.
-/
import Derived.Test.YtldbmjkecmmmjaaXo
import Derived.Test.YtldbmjkecmmmjaaRq
set_option linter.unusedVariables false
set_option linter.unusedSimpArgs false
namespace Go.Proofs.Ytldbmjkecmmmjaa
open Go.RowKit

theorem lay_snoc (ks ns : List Int) (p : Nat) (xs : List Int) (i : Nat) (h : i < xs.length) : (lay ks ns p xs).take (i + 1) = (lay ks ns p xs).take i ++ [(lay ks ns p xs).getD i 0] := take_snocI _ _ (by rw [lay_len]; exact h)

set_option maxRecDepth 100000 in
set_option maxHeartbeats 16000000 in
theorem rxor_any (RB : ∀ (ks ns : List Int) (c : Nat) (w : World), ks.length = 32 → ns.length = 12 → B8 ks → B8 ns → c < 4294967296 →
      Calls Try.prog 16 #[.agg (AY .u8 ks), .int .u32 (c : Int), .agg (AY .u8 ns)] w fun e w' => e = .returned (.agg (AY .u8 (blkL ks ns c))) ∧ Below w.heap.size w w')
    (g : Nat) (A : Option Addr) (n cap : Nat) (xs ks ns : List Int) (p : Nat) (w : World) (hn : n = xs.length) (hr : Rd w .u8 A xs) (hB : B8 xs) (hA : 0 < xs.length → ∀ a, A = some a → a.block ≠ g) (hl : xs.length ≤ 140737488355328)
    (hg : Blk w g 66 (SGl ks ns p)) (hp : p ≤ 274877906944) (hk : ks.length = 32) (hns : ns.length = 12) (bk : B8 ks) (bn : B8 ns) :
    Calls Try.prog 19 #[.pointer (some ⟨g, 0, none⟩), .slice A n cap] w (xorV 66 ks ns p xs g .i64 w) := by
  have HN := Lib.hid hn
  have HR := Lib.hid hr
  have HBX := Lib.hid hB
  have HA := Lib.hid hA
  have HG := Lib.hid hg
  have HCB : Hid (∀ c W, c < 4294967296 → Calls Try.prog 16 #[.agg (AY .u8 ks), .int .u32 ((c : Nat) : Int), .agg (AY .u8 ns)] W fun e w' => e = .returned (.agg (AY .u8 (blkL ks ns c))) ∧ Below W.heap.size W w') := Lib.hid (fun c W hc => RB ks ns c W hk hns bk bn hc)
  have I31 : Hid ((Try.prog.info? 31).map (·.size) = some ks.length) := Lib.hid (by rw [info31, hk])
  have I33 : Hid ((Try.prog.info? 33).map (·.size) = some ns.length) := Lib.hid (by rw [info33, hns])
  have HSR : Hid (∀ W q, Blk W g 66 (SGl ks ns q) → W.rangeAt g 0 (ks.map (Value.int .u8)) ∧ W.rangeAt g 32 (ns.map (Value.int .u8)) ∧ W.cell? ⟨g, 44, none⟩ = some (.int .u64 (q : Int))) := Lib.hid (fun W q h => SGl_range h hk hns)
  have HSS : Hid (∀ W q q2, Blk W g 66 (SGl ks ns q) → Blk (W.setCell ⟨g, 44, none⟩ (.int .u64 ((q2 : Nat) : Int))) g 66 (SGl ks ns q2)) := Lib.hid (fun W q q2 h => SGl_set h hk hns q2)
  have hn48 : n ≤ 140737488355328 := by omega
  have hcp : w.cell? ⟨g, 44, none⟩ = some (.int .u64 (p : Int)) := (SGl_range hg hk hns).2.2
  have hsub : IntKind.u64.wrap (274877906944 - (p : Int)) = ((274877906944 - p : Nat) : Int) := by simp [IntKind.wrap, IntKind.bits, IntKind.signed]; omega
  have hsub2 : (274877906944 : Int) - (p : Int) = ((274877906944 - p : Nat) : Int) := by omega
  clear hn hr hB hA hg bk bn hk hns RB
  by_cases hbig : 274877906944 - p < n
  · have hd : decide (((274877906944 - p : Nat) : Int) < (n : Int)) = true := by simp; omega
    have HBIG : Hid (274877906944 - p < xs.length) := Lib.hid (by rw [← HN.out]; exact hbig)
    obtain ⟨M, hM⟩ : ∃ M, M = 274877906944 - p := ⟨_, rfl⟩
    rw [← hM] at hd hsub hsub2
    clear hM
    go_enter Try.func19, Try.ntmps19
    go_wp2_with fail
    go_ret2
    exact .inl ⟨HBIG.out, rfl, rfl⟩
  · have hd : decide (((274877906944 - p : Nat) : Int) < (n : Int)) = false := by simp; omega
    have HFIT : Hid (xs.length ≤ 274877906944 - p) := Lib.hid (by rw [← HN.out]; omega)
    have hpn : p + n ≤ 274877906944 := by omega
    obtain ⟨M, hM⟩ : ∃ M, M = 274877906944 - p := ⟨_, rfl⟩
    rw [← hM] at hd hsub hsub2
    have HMM := Lib.hid hM
    have hdm : decide (M < n) = false := by simp; omega
    clear hM hbig
    go_enter Try.func19, Try.ntmps19
    go_upto_region 5 with fail
    generalize hB0 : w.heap.size = B
    generalize hW1 : w.alloc _ = w1
    have B1 : Hid (Blk w1 B 36 (Z64.map (Value.int .u8))) := Lib.hid (by rw [← hW1, ← hB0]; exact Blk.new w 36 (Z64.map (Value.int .u8)))
    have F0 : Hid (Fr (fun _ => False) w w1) := Lib.hid (by rw [← hW1]; exact (Fr.refl _ w).alloc _)
    have HBE : Hid (B = w.heap.size) := Lib.hid hB0.symm
    clear hW1 hB0
    have G1 : Hid (Blk w1 g 66 (SGl ks ns p)) := Lib.hid (HG.out.fr F0.out (fun h => h))
    have HGB : Hid (g < B) := Lib.hid (by have := HG.out.lt; have := HBE.out; omega)
    have HAB : Hid (∀ b off, A = some ⟨b, off, none⟩ → 0 < n → b < B ∧ b ≠ g) := Lib.hid (fun b off h h0 => by
      obtain ⟨b0, o0, hb0, hc0⟩ := HR.out 0 (by rw [← HN.out]; exact h0)
      rw [h] at hb0
      injection hb0 with hb0
      injection hb0 with hb1 hb2
      subst hb1
      have := World.block_lt_of_cell? w _ hc0
      exact ⟨by rw [HBE.out]; simpa using this, HA.out (by rw [← HN.out]; exact h0) _ h⟩)
    have hB1s : Hid (B < w1.heap.size) := Lib.hid B1.out.lt
    have HBS : Hid (∃ L : List Int, L.length = 64 ∧ (0 < (0 : Nat) → L = blkL ks ns ((p + 0 - 1) / 64)) ∧ Blk w1 B 36 (L.map (Value.int .u8))) := Lib.hid ⟨Z64, rfl, fun h => absurd h (by decide), B1.out⟩
    have HO0 : Hid (Own w1 w1.heap.size 5 .u8 (.slice none 0 0) ((lay ks ns p xs).take 0)) := Lib.hid (Own.nil _ _ _ _)
    have HG0 : Hid (Blk w1 g 66 (SGl ks ns p)) := G1
    clear hcp hsub hsub2 hd B1 G1
    go_wp2_with fail
    go_loopw [6, 8] (fun v iv wr => ∃ i : Nat, i ≤ n ∧ iv = .int .i64 i ∧ Hid (∃ L : List Int, L.length = 64 ∧ (0 < i → L = blkL ks ns ((p + i - 1) / 64)) ∧ Blk wr B 36 (L.map (Value.int .u8))) ∧ Hid (Own wr w1.heap.size 5 .u8 v ((lay ks ns p xs).take i)) ∧ Hid (Fr (fun j => j = B) w1 wr)) (fun _ iv _ => n - (intOf iv).toNat)
    case atStart => exact ⟨0, Nat.zero_le _, rfl, HBS, HO0, Lib.hid (Fr.refl _ _)⟩
    case round =>
      clear HBS HO0
      obtain ⟨i, hin, rfl, HBS, HO, HF⟩ := hrel
      by_cases hlt : i < n
      · have hdk : decide ((i : Int) < (n : Int)) = true := by simp; omega
        have HIL : Hid (i < xs.length) := Lib.hid (by rw [← HN.out]; exact hlt)
        obtain ⟨b, off, x, rfl, hcx, HXK⟩ := ((HR.out.fr F0.out (fun _ _ h => h)).fr HF.out (fun a ha h => by
          obtain ⟨bb, oo, hbb, hcc⟩ := HR.out i HIL.out
          have := HAB.out bb oo hbb (by omega)
          rw [hbb] at ha
          injection ha with ha
          subst ha
          have h2 : bb = B := h
          omega)).at i HIL.out
        have HCX := Lib.hid hcx
        have HBB : Hid (b < B ∧ b ≠ g) := Lib.hid (HAB.out b off rfl (by omega))
        clear hcx
        obtain ⟨X, hX⟩ : ∃ X : Nat, x = (X : Int) := ⟨x.toNat, by have := HBX.out i; have := HXK.out; omega⟩
        have hX8 : X < 256 := by have := HBX.out i; have := HXK.out; omega
        subst hX
        have HGr : Hid (Blk wr g 66 (SGl ks ns p)) := Lib.hid (HG0.out.fr HF.out (by have := HGB.out; omega))
        have hcq : wr.cell? ⟨g, 44, none⟩ = some (.int .u64 (p : Int)) := (HSR.out wr p HGr.out).2.2
        obtain ⟨q, hq⟩ : ∃ q, q = p + i := ⟨_, rfl⟩
        have HQ := Lib.hid hq
        have hq38 : q < 274877906944 := by omega
        have hwq : IntKind.u64.wrap ((p : Int) + (i : Int)) = (q : Int) := by
          rw [hq]; simp [IntKind.wrap, IntKind.bits, IntKind.signed]; omega
        clear hq
        obtain ⟨r, hrr⟩ : ∃ r, r = q % 64 := ⟨_, rfl⟩
        have HRR := Lib.hid hrr
        have hr64 : r < 64 := by omega
        have htm : Int.tmod (q : Int) 64 = (r : Int) := by rw [Int.tmod_eq_emod_of_nonneg (by omega), hrr]; omega
        have HTM := Lib.hid htm
        have hwr : IntKind.u64.wrap (r : Int) = (r : Int) := by simp [IntKind.wrap, IntKind.bits, IntKind.signed]; omega
        have HWR := Lib.hid hwr
        clear hrr
        have hwi : IntKind.u64.wrap (i : Int) = (i : Int) := by simp [IntKind.wrap, IntKind.bits, IntKind.signed]; omega
        have hO38 : i ≤ 274877906944 := by omega
        by_cases hnew : i = 0 ∨ r = 0
        · obtain ⟨d, hd⟩ : ∃ d, d = q / 64 := ⟨_, rfl⟩
          have HD := Lib.hid hd
          have hd32 : d < 4294967296 := by omega
          have HTD : Hid (Int.tdiv (q : Int) 64 = (d : Int)) := Lib.hid (by rw [Int.tdiv_eq_ediv_of_nonneg (by omega), hd]; omega)
          clear hd
          have HBC : Hid (∀ W, Calls Try.prog 16 #[.agg (AY .u8 ks), .int .u32 ((d : Nat) : Int), .agg (AY .u8 ns)] W fun e w' => e = .returned (.agg (AY .u8 (blkL ks ns d))) ∧ Below W.heap.size W w') := Lib.hid (fun W => HCB.out d W hd32)
          have IE : Hid ((Try.prog.info? 36).map (·.size) = some (AY .u8 (blkL ks ns d)).size) := Lib.hid (by rw [info36, AY_size, blkL_len])
          have HBLL : Hid ((blkL ks ns d).length = 64 ∧ B8 (blkL ks ns d)) := Lib.hid ⟨blkL_len _ _ _, blkL_B8 _ _ _⟩
          have HKY : Hid (kst ks ns q = (blkL ks ns d).getD r 0) := Lib.hid (by have h := kst_blk ks ns q r 0 HRR.out.symm (by omega); rw [Nat.add_zero, Nat.add_zero] at h; rw [h, ← HD.out, Nat.mod_eq_of_lt hd32])
          have HND : Hid (q = p + i ∧ d = (p + (i + 1) - 1) / 64) := Lib.hid (by have h1 := HQ.out; have h2 := HD.out; refine ⟨h1, ?_⟩; rw [h2, h1]; rfl)
          have HNB : Hid (blkL ks ns ((p + (i + 1) - 1) / 64) = blkL ks ns d) := Lib.hid (by rw [← HND.out.2])
          generalize blkL ks ns d = BL at *
          have hnew1 : ((i : Int) == 0) = true ∨ ((i : Int) == 0) = false ∧ ((r : Int) == 0) = true := by
            by_cases h0 : i = 0
            · left; simp [h0]
            · right; have : r = 0 := by omega
              constructor
              · simp [h0]
              · simp [this]
          have HNW := Lib.hid hnew1
          clear hnew1 hnew
          obtain ⟨L, hL64, -, hBL⟩ := HBS.out
          have HBL0 := Lib.hid hBL
          have ZE : Hid (((L.map (Value.int .u8)).toArray).size = (AY .u8 BL).size) := Lib.hid (by rw [AY_size, HBLL.out.1, List.size_toArray, List.length_map, hL64])
          clear hBL hL64 HBS
          go_upto_region 9 with fail
          go_cut [38] (fun v wx => v = .bool true ∧ wx = wr)
          case first =>
            rcases HNW.out with h1 | ⟨h1, h2⟩
            · go_wp2_with fail
              go_meet
              exact ⟨rfl, rfl⟩
            · go_wp2_with fail
              go_meet
              exact ⟨rfl, rfl⟩
          case rest =>
            obtain ⟨rfl, rfl⟩ := hcut
            go_upto_region 10 with fail
            refine wp_region_held_drew (S := fun w' => w'.heap[g]? = wc.heap[g]?) (by kernel_rfl) (rfl) (fun hHeld => ?_)
            have HHd := Lib.hid hHeld
            clear hHeld
            have hwd64 : IntKind.u64.wrap (d : Int) = (d : Int) := by simp [IntKind.wrap, IntKind.bits, IntKind.signed]; omega
            have hwd : IntKind.u32.wrap (d : Int) = (d : Int) := by simp [IntKind.wrap, IntKind.bits, IntKind.signed]; omega
            refine wpAnyH_take (i := 0) (oi := ⟨some 39, _, _, _, _, _⟩) (v := (.pointer (some ⟨g, 0, none⟩))) rfl (by kernel_rfl) (by kernel_rfl) (by kernel_rfl) (fun _ _ _ h => h) (Or.inl ⟨by rfl, ?_⟩) HHd.out ?_
            · intro w' hS; go_simp; try with_reducible rfl
            simp only [Act.put, List.setIfInBounds_toArray, List.set_cons_zero, List.set_cons_succ]
            refine wpAnyH_take (i := 1) (oi := ⟨some 40, _, _, _, _, _⟩) (v := (.pointer (some ⟨g, 0, none⟩))) rfl (by kernel_rfl) (by kernel_rfl) (by kernel_rfl) (fun _ _ _ h => h) (Or.inl ⟨by rfl, ?_⟩) HHd.out ?_
            · intro w' hS; go_simp; try with_reducible rfl
            simp only [Act.put, List.setIfInBounds_toArray, List.set_cons_zero, List.set_cons_succ]
            refine wpAnyH_take (i := 2) (oi := ⟨some 41, _, _, _, _, _⟩) (v := (.pointer (some ⟨g, 0, none⟩))) rfl (by kernel_rfl) (by kernel_rfl) (by kernel_rfl) (fun _ _ _ h => h) (Or.inl ⟨by rfl, ?_⟩) HHd.out ?_
            · intro w' hS; go_simp; try with_reducible rfl
            simp only [Act.put, List.setIfInBounds_toArray, List.set_cons_zero, List.set_cons_succ]
            refine wpAnyH_take (i := 3) (oi := ⟨some 42, _, _, _, _, _⟩) (v := (.agg (AY .u8 ks))) rfl (by kernel_rfl) (by kernel_rfl) (by kernel_rfl) (fun _ _ _ h => h) (Or.inl ⟨by rfl, ?_⟩) HHd.out ?_
            · intro w' hS; exact exec_load_AY 31 _ rfl g 0 (by rfl) .u8 ks _ (range_of_block (HSR.out wc p HGr.out).1 hS) Try.underlying31 rfl I31.out
            simp only [Act.put, List.setIfInBounds_toArray, List.set_cons_zero, List.set_cons_succ]
            refine wpAnyH_take (i := 4) (oi := ⟨some 43, _, _, _, _, _⟩) (v := (.int .u64 (q : Int))) rfl (by kernel_rfl) (by kernel_rfl) (by kernel_rfl) (fun _ _ _ h => h) (Or.inl ⟨by rfl, ?_⟩) HHd.out ?_
            · intro w' hS; go_simp; try with_reducible rfl
            simp only [Act.put, List.setIfInBounds_toArray, List.set_cons_zero, List.set_cons_succ]
            refine wpAnyH_take (i := 5) (oi := ⟨some 44, _, _, _, _, _⟩) (v := (.int .u64 (d : Int))) rfl (by kernel_rfl) (by kernel_rfl) (by kernel_rfl) (fun _ _ _ h => h) (Or.inl ⟨by rfl, ?_⟩) HHd.out ?_
            · intro w' hS; have htd := HTD.out; go_simp; try with_reducible rfl
            simp only [Act.put, List.setIfInBounds_toArray, List.set_cons_zero, List.set_cons_succ]
            refine wpAnyH_take (i := 6) (oi := ⟨some 45, _, _, _, _, _⟩) (v := (.int .u32 (d : Int))) rfl (by kernel_rfl) (by kernel_rfl) (by kernel_rfl) (fun _ _ _ h => h) (Or.inl ⟨by rfl, ?_⟩) HHd.out ?_
            · intro w' hS; go_simp; try with_reducible rfl
            simp only [Act.put, List.setIfInBounds_toArray, List.set_cons_zero, List.set_cons_succ]
            refine wpAnyH_take (i := 7) (oi := ⟨some 46, _, _, _, _, _⟩) (v := (.pointer (some ⟨g, 0, none⟩))) rfl (by kernel_rfl) (by kernel_rfl) (by kernel_rfl) (fun _ _ _ h => h) (Or.inl ⟨by rfl, ?_⟩) HHd.out ?_
            · intro w' hS; go_simp; try with_reducible rfl
            simp only [Act.put, List.setIfInBounds_toArray, List.set_cons_zero, List.set_cons_succ]
            refine wpAnyH_take (i := 8) (oi := ⟨some 47, _, _, _, _, _⟩) (v := (.pointer (some ⟨g, 0, none⟩))) rfl (by kernel_rfl) (by kernel_rfl) (by kernel_rfl) (fun _ _ _ h => h) (Or.inl ⟨by rfl, ?_⟩) HHd.out ?_
            · intro w' hS; go_simp; try with_reducible rfl
            simp only [Act.put, List.setIfInBounds_toArray, List.set_cons_zero, List.set_cons_succ]
            refine wpAnyH_take (i := 9) (oi := ⟨some 48, _, _, _, _, _⟩) (v := (.pointer (some ⟨g, 32, none⟩))) rfl (by kernel_rfl) (by kernel_rfl) (by kernel_rfl) (fun _ _ _ h => h) (Or.inl ⟨by rfl, ?_⟩) HHd.out ?_
            · intro w' hS; go_simp; try with_reducible rfl
            simp only [Act.put, List.setIfInBounds_toArray, List.set_cons_zero, List.set_cons_succ]
            refine wpAnyH_take (i := 10) (oi := ⟨some 49, _, _, _, _, _⟩) (v := (.agg (AY .u8 ns))) rfl (by kernel_rfl) (by kernel_rfl) (by kernel_rfl) (fun _ _ _ h => h) (Or.inl ⟨by rfl, ?_⟩) HHd.out ?_
            · intro w' hS; exact exec_load_AY 33 _ rfl g 32 (by rfl) .u8 ns _ (range_of_block (HSR.out wc p HGr.out).2.1 hS) Try.underlying33 rfl I33.out
            simp only [Act.put, List.setIfInBounds_toArray, List.set_cons_zero, List.set_cons_succ]
            refine wpAnyH_ready (rs := [11]) (by kernel_rfl) (by simp) ?_
            refine AllReadyH.cons (o := ⟨some 50, _, _, _, _, _⟩) rfl (fun K hK => ?_) AllReadyH.nil
            rw [if_pos (by rfl)]
            go_simp
            refine (HBC.out _).mono ?_
            rintro e w2 ⟨rfl, b1⟩
            (try simp only [Act.put, List.setIfInBounds_toArray, List.set_cons_zero, List.set_cons_succ])
            refine hK.out _ _ ((b1.block g HGr.out.lt).trans HHd.out) (fun hHeld => ?_)
            clear hK K
            have HH1 := Lib.hid hHeld
            clear hHeld HHd
            have HB1 : Hid (Below wc.heap.size wc w2) := Lib.hid ((⟨rfl, rfl, rfl, Nat.le_refl _, fun _ _ => rfl⟩ : Below wc.heap.size wc wc.drew).trans b1)
            have HQ2 : Hid (w2.heap[B]? = some (.cells (L.map (Value.int .u8)).toArray 36 (0, 0))) := Lib.hid ((HB1.out.block B HBL0.out.lt).trans HBL0.out)
            clear b1
            refine wpAnyH_ready (rs := [12]) (by kernel_rfl) (by simp) ?_
            refine AllReadyH.cons (o := ⟨none, _, _, _, _, _⟩) rfl (fun K hK => ?_) AllReadyH.nil
            rw [if_pos (by rfl)]
            refine wp_store_row 36 _ _ rfl B (AY .u8 BL) rfl rfl 36 _ HQ2.out IE.out ZE.out (AY_one _ _) ?_
            (try simp only [Act.put, List.setIfInBounds_toArray, List.set_cons_zero, List.set_cons_succ])
            refine hK.out _ _ ((setRow_other _ _ _ _ (by have := HGB.out; omega)).trans HH1.out) (fun hHeld => ?_)
            clear hK K hHeld
            refine wpAnyH_done (by kernel_rfl) ?_ _
            have HB10 : Hid (Blk (w2.setRow B (AY .u8 BL)) B 36 (BL.map (Value.int .u8))) := Lib.hid (AY_blk (setRow_heap _ _ _ _ _ _ HQ2.out))
            have HF12 : Hid (Fr (fun j => j = B) wc (w2.setRow B (AY .u8 BL))) := Lib.hid (Fr.setRow (S := fun j => j = B) (Fr.of_below HB1.out _) rfl _)
            have HO10 : Hid (Own (w2.setRow B (AY .u8 BL)) w1.heap.size 5 .u8 u6 ((lay ks ns p xs).take i)) := Lib.hid (HO.out.fr HF12.out (fun gg h1 h2 => by
              have h3 := (HO.out.base_le h1).1
              have h5 : gg = B := h2
              have := hB1s.out
              omega))
            have HF10 : Hid (Fr (fun j => j = B) w1 (w2.setRow B (AY .u8 BL))) := Lib.hid (HF.out.trans HF12.out)
            have HC10 : Hid ((w2.setRow B (AY .u8 BL)).cell? ⟨b, off + i, none⟩ = some (.int .u8 (X : Int))) := Lib.hid ((World.cell?_of_block (w := wc) (w' := w2.setRow B (AY .u8 BL)) (HF12.out.block b (by have h := World.block_lt_of_cell? wc _ HCX.out; simpa using h) (by have := HBB.out; omega))).trans HCX.out)
            clear HO HF HCX HF12 HQ2 HH1 HB1 HBL0 hcq
            go_upto_region 11 with fail
            generalize w2.setRow B (AY .u8 BL) = wx at *
            obtain ⟨Y, hY⟩ : ∃ Y : Nat, BL.getD r 0 = (Y : Int) := ⟨(BL.getD r 0).toNat, by have := HBLL.out.2 r; omega⟩
            have hY8 : Y < 256 := by have := HBLL.out.2 r; omega
            have HCY : Hid (wx.cell? ⟨B, r, none⟩ = some (.int .u8 (Y : Int))) := Lib.hid (by
              rw [HB10.out.cell, List.getElem?_map, ← hY, List.getD_eq_getElem?_getD, List.getElem?_eq_getElem (by rw [HBLL.out.1]; omega)]; rfl)
            have HAG : Hid (∀ W, Calls Try.prog 36 #[.int .u64 X, .int .u64 Y] W fun e w' => e = .returned (.int .u64 (X ^^^ Y : Nat)) ∧ W = w') := Lib.hid (fun W => against_any X Y W (by omega) (by omega))
            have HZ8 : Hid (X ^^^ Y < 256) := Lib.hid (Nat.xor_lt_two_pow (n := 8) hX8 hY8)
            have HLK : Hid ((lay ks ns p xs).take (i + 1) = (lay ks ns p xs).take i ++ [((X ^^^ Y : Nat) : Int)]) := Lib.hid (by
              rw [lay_snoc ks ns p xs i HIL.out, lay_at ks ns p xs i HIL.out, ← HXK.out, ← HQ.out, HKY.out, hY]; rfl)
            have HTL : Hid (((lay ks ns p xs).take i).length = i) := Lib.hid (by rw [List.length_take, lay_len]; have := HIL.out; omega)
            have HLT : Hid (B < wx.heap.size ∧ b < wx.heap.size ∧ w1.heap.size ≤ wx.heap.size) := Lib.hid ⟨HB10.out.lt, by have h := World.block_lt_of_cell? wx _ HC10.out; simpa using h, HF10.out.size⟩
            generalize X ^^^ Y = Z at *
            have hZ8 := HZ8.out
            have hwX : IntKind.u64.wrap (X : Int) = (X : Int) := by simp [IntKind.wrap, IntKind.bits, IntKind.signed]; omega
            have hwY : IntKind.u64.wrap (Y : Int) = (Y : Int) := by simp [IntKind.wrap, IntKind.bits, IntKind.signed]; omega
            have hwZ : IntKind.u8.wrap (Z : Int) = (Z : Int) := by simp [IntKind.wrap, IntKind.bits, IntKind.signed]; omega
            have hi1 : (0 : Int) ≤ (i : Int) := by omega
            have hi2 : (i : Int) < (n : Int) := by omega
            have hr1 : (r : Int) < 64 := by omega
            clear hY
            refine wp_region_held_drew (S := fun w' => w'.heap[b]? = wx.heap[b]? ∧ w'.heap[B]? = wx.heap[B]?) (by kernel_rfl) (⟨rfl, rfl⟩) (fun hHeld => ?_)
            have HHd := Lib.hid hHeld
            clear hHeld
            refine wpAnyH_take (i := 0) (oi := ⟨some 51, _, _, _, _, _⟩) (v := u6) rfl (by kernel_rfl) (by kernel_rfl) (by kernel_rfl) (fun _ _ _ h => h) (Or.inl ⟨by rfl, ?_⟩) HHd.out ?_
            · intro w' hS; go_simp; try with_reducible rfl
            simp only [Act.put, List.setIfInBounds_toArray, List.set_cons_zero, List.set_cons_succ]
            refine wpAnyH_take (i := 1) (oi := ⟨some 52, _, _, _, _, _⟩) (v := (.slice (some ⟨b, off, none⟩) n cap)) rfl (by kernel_rfl) (by kernel_rfl) (by kernel_rfl) (fun _ _ _ h => h) (Or.inl ⟨by rfl, ?_⟩) HHd.out ?_
            · intro w' hS; go_simp; try with_reducible rfl
            simp only [Act.put, List.setIfInBounds_toArray, List.set_cons_zero, List.set_cons_succ]
            refine wpAnyH_take (i := 2) (oi := ⟨some 53, _, _, _, _, _⟩) (v := (.int .i64 (i : Int))) rfl (by kernel_rfl) (by kernel_rfl) (by kernel_rfl) (fun _ _ _ h => h) (Or.inl ⟨by rfl, ?_⟩) HHd.out ?_
            · intro w' hS; go_simp; try with_reducible rfl
            simp only [Act.put, List.setIfInBounds_toArray, List.set_cons_zero, List.set_cons_succ]
            refine wpAnyH_take (i := 3) (oi := ⟨some 54, _, _, _, _, _⟩) (v := (.pointer (some ⟨b, off + i, none⟩))) rfl (by kernel_rfl) (by kernel_rfl) (by kernel_rfl) (fun _ _ _ h => h) (Or.inl ⟨by rfl, ?_⟩) HHd.out ?_
            · intro w' hS; go_simp; try with_reducible rfl
            simp only [Act.put, List.setIfInBounds_toArray, List.set_cons_zero, List.set_cons_succ]
            refine wpAnyH_take (i := 4) (oi := ⟨some 55, _, _, _, _, _⟩) (v := (.int .u8 (X : Int))) rfl (by kernel_rfl) (by kernel_rfl) (by kernel_rfl) (fun _ _ _ h => h) (Or.inl ⟨by rfl, ?_⟩) HHd.out ?_
            · intro w' hS; have z0 : w'.cell? ⟨b, off + i, none⟩ = some (.int .u8 (X : Int)) := (World.cell?_of_block (w := wx) (w' := w') hS.1).trans HC10.out; go_simp; try with_reducible rfl
            simp only [Act.put, List.setIfInBounds_toArray, List.set_cons_zero, List.set_cons_succ]
            refine wpAnyH_take (i := 5) (oi := ⟨some 56, _, _, _, _, _⟩) (v := (.int .u64 (X : Int))) rfl (by kernel_rfl) (by kernel_rfl) (by kernel_rfl) (fun _ _ _ h => h) (Or.inl ⟨by rfl, ?_⟩) HHd.out ?_
            · intro w' hS; go_simp; try with_reducible rfl
            simp only [Act.put, List.setIfInBounds_toArray, List.set_cons_zero, List.set_cons_succ]
            refine wpAnyH_take (i := 6) (oi := ⟨some 57, _, _, _, _, _⟩) (v := (.int .u64 (q : Int))) rfl (by kernel_rfl) (by kernel_rfl) (by kernel_rfl) (fun _ _ _ h => h) (Or.inl ⟨by rfl, ?_⟩) HHd.out ?_
            · intro w' hS; go_simp; try with_reducible rfl
            simp only [Act.put, List.setIfInBounds_toArray, List.set_cons_zero, List.set_cons_succ]
            refine wpAnyH_take (i := 7) (oi := ⟨some 58, _, _, _, _, _⟩) (v := (.int .u64 (r : Int))) rfl (by kernel_rfl) (by kernel_rfl) (by kernel_rfl) (fun _ _ _ h => h) (Or.inl ⟨by rfl, ?_⟩) HHd.out ?_
            · intro w' hS; go_simp; try with_reducible rfl
            simp only [Act.put, List.setIfInBounds_toArray, List.set_cons_zero, List.set_cons_succ]
            refine wpAnyH_take (i := 8) (oi := ⟨some 59, _, _, _, _, _⟩) (v := (.pointer (some ⟨B, r, none⟩))) rfl (by kernel_rfl) (by kernel_rfl) (by kernel_rfl) (fun _ _ _ h => h) (Or.inl ⟨by rfl, ?_⟩) HHd.out ?_
            · intro w' hS; go_simp; try with_reducible rfl
            simp only [Act.put, List.setIfInBounds_toArray, List.set_cons_zero, List.set_cons_succ]
            refine wpAnyH_take (i := 9) (oi := ⟨some 60, _, _, _, _, _⟩) (v := (.int .u8 (Y : Int))) rfl (by kernel_rfl) (by kernel_rfl) (by kernel_rfl) (fun _ _ _ h => h) (Or.inl ⟨by rfl, ?_⟩) HHd.out ?_
            · intro w' hS; have z0 : w'.cell? ⟨B, r, none⟩ = some (.int .u8 (Y : Int)) := (World.cell?_of_block (w := wx) (w' := w') hS.2).trans HCY.out; go_simp; try with_reducible rfl
            simp only [Act.put, List.setIfInBounds_toArray, List.set_cons_zero, List.set_cons_succ]
            refine wpAnyH_take (i := 10) (oi := ⟨some 61, _, _, _, _, _⟩) (v := (.int .u64 (Y : Int))) rfl (by kernel_rfl) (by kernel_rfl) (by kernel_rfl) (fun _ _ _ h => h) (Or.inl ⟨by rfl, ?_⟩) HHd.out ?_
            · intro w' hS; go_simp; try with_reducible rfl
            simp only [Act.put, List.setIfInBounds_toArray, List.set_cons_zero, List.set_cons_succ]
            refine wpAnyH_ready (rs := [11]) (by kernel_rfl) (by simp) ?_
            refine AllReadyH.cons (o := ⟨some 62, _, _, _, _, _⟩) rfl (fun K hK => ?_) AllReadyH.nil
            rw [if_pos (by rfl)]
            go_simp
            refine (HAG.out _).mono ?_
            rintro e w2 ⟨rfl, rfl⟩
            (try simp only [Act.put, List.setIfInBounds_toArray, List.set_cons_zero, List.set_cons_succ])
            refine hK.out _ _ HHd.out (fun hHeld => ?_)
            clear hK K hHeld
            refine wpAnyH_take (i := 12) (oi := ⟨some 63, _, _, _, _, _⟩) (v := (.int .u8 (Z : Int))) rfl (by kernel_rfl) (by kernel_rfl) (by kernel_rfl) (fun _ _ _ h => h) (Or.inl ⟨by rfl, ?_⟩) HHd.out ?_
            · intro w' hS; go_simp; try with_reducible rfl
            simp only [Act.put, List.setIfInBounds_toArray, List.set_cons_zero, List.set_cons_succ]
            refine wpAnyH_ready (rs := [13]) (by kernel_rfl) (by simp) ?_
            refine AllReadyH.cons (o := ⟨some 64, _, _, _, _, _⟩) rfl (fun K hK => ?_) AllReadyH.nil
            rw [if_pos (by rfl)]
            go_simp
            refine hK.out _ _ ⟨(Below.heap_alloc _ _ _ (by have := HLT.out; show b < wx.heap.size; omega)).trans HHd.out.1, (Below.heap_alloc _ _ _ (by have := HLT.out; show B < wx.heap.size; omega)).trans HHd.out.2⟩ (fun hHeld => ?_)
            clear hK K
            have HH1 := Lib.hid hHeld
            clear hHeld HHd
            have hc1 : (((lay ks ns p xs).take i).length + 1) * 1 ≤ 140737488355328 := by rw [HTL.out]; omega
            refine wpAnyH_ready (rs := [14]) (by kernel_rfl) (by simp) ?_
            refine AllReadyH.cons (o := ⟨some 65, _, _, _, _, _⟩) rfl (fun K hK => ?_) AllReadyH.nil
            refine step_push wx.drew rfl _ _ 39 rfl w1.heap.size 5 .u8 1 Try.underlying39 info5 (Z : Int) rfl u6 ((lay ks ns p xs).take i) rfl rfl HO10.out hc1 (by decide) HLT.out.2.2 ?_
            intro v' w3 hown3 hfr3
            (try simp only [Act.put, List.setIfInBounds_toArray, List.set_cons_zero, List.set_cons_succ])
            have hnb : ∀ G2, G2 < w1.heap.size → ¬ (fun gk => u6.ownBlock = some gk) G2 := fun G2 h1 h2 => by
              have := (HO10.out.base_le h2).1
              omega
            have HBW : Hid (b < w1.heap.size ∧ B < w1.heap.size) := Lib.hid (by have := HBB.out; have := hB1s.out; omega)
            refine hK.out _ _ ⟨hfr3.block b HLT.out.2.1 (hnb b HBW.out.1), hfr3.block B HLT.out.1 (hnb B HBW.out.2)⟩ (fun hHeld => ?_)
            clear hK K
            have HH2 := Lib.hid hHeld
            clear hHeld HH1
            have HO3 : Hid (Own w3 w1.heap.size 5 .u8 v' ((lay ks ns p xs).take (i + 1))) := Lib.hid (by rw [HLK.out]; exact hown3)
            have HF3 : Hid (Fr (fun j => j = B) w1 w3) := Lib.hid (HF10.out.drew.then hfr3 (fun j hj => .inr (HO10.out.base_le hj).1))
            have HB3 : Hid (Blk w3 B 36 (BL.map (Value.int .u8))) := Lib.hid ((show Blk wx.drew B 36 _ from HB10.out).fr hfr3 (hnb B HBW.out.2))
            clear hown3 hfr3 hnb
            refine wpAnyH_take (i := 15) (oi := ⟨some 6, _, _, _, _, _⟩) (v := v') rfl (by kernel_rfl) (by kernel_rfl) (by kernel_rfl) (fun _ _ _ h => h) (Or.inl ⟨by rfl, ?_⟩) HH2.out ?_
            · intro w' hS; go_simp; try with_reducible rfl
            simp only [Act.put, List.setIfInBounds_toArray, List.set_cons_zero, List.set_cons_succ]
            refine wpAnyH_done (by kernel_rfl) ?_ _
            clear hwX hwY hwZ hi2 hr1 hc1 htm hwr hwq hwi
            go_wp2_with fail
            go_roundw
            case rel => exact ⟨i + 1, by omega, by go_num, Lib.hid ⟨BL, HBLL.out.1, fun _ => HNB.out.symm, HB3.out⟩, HO3, HF3⟩
            case measure => simp [intOf]; omega
        · have hi0 : ((i : Int) == 0) = false := by simp; omega
          have hr0 : ((r : Int) == 0) = false := by simp; omega
          obtain ⟨BL, hL64, hLe, hBL⟩ := HBS.out
          have hLe := hLe (by omega)
          have HB10 : Hid (Blk wr B 36 (BL.map (Value.int .u8))) := Lib.hid hBL
          have HQD : Hid ((p + i - 1) / 64 = q / 64) := Lib.hid (by have h1 := HQ.out; have h2 := HRR.out; omega)
          have HQD2 : Hid (q / 64 % 4294967296 = q / 64) := Lib.hid (by omega)
          have HBLL : Hid (BL.length = 64 ∧ B8 BL) := Lib.hid ⟨hL64, by rw [hLe]; exact blkL_B8 _ _ _⟩
          have HKY : Hid (kst ks ns q = BL.getD r 0) := Lib.hid (by have h := kst_blk ks ns q r 0 HRR.out.symm (by omega); rw [Nat.add_zero, Nat.add_zero] at h; rw [h, hLe, HQD.out, HQD2.out])
          have HNB : Hid (BL = blkL ks ns ((p + (i + 1) - 1) / 64)) := Lib.hid (by rw [hLe, HQD.out, HQ.out]; rfl)
          clear hBL hLe hL64 HBS HQD HQD2
          go_upto_region 11 with fail
          have HO10 := HO
          have HF10 := HF
          have HC10 := HCX
          clear HO HF HCX hi0 hr0 hcq
          generalize wr = wx at *
          obtain ⟨Y, hY⟩ : ∃ Y : Nat, BL.getD r 0 = (Y : Int) := ⟨(BL.getD r 0).toNat, by have := HBLL.out.2 r; omega⟩
          have hY8 : Y < 256 := by have := HBLL.out.2 r; omega
          have HCY : Hid (wx.cell? ⟨B, r, none⟩ = some (.int .u8 (Y : Int))) := Lib.hid (by
            rw [HB10.out.cell, List.getElem?_map, ← hY, List.getD_eq_getElem?_getD, List.getElem?_eq_getElem (by rw [HBLL.out.1]; omega)]; rfl)
          have HAG : Hid (∀ W, Calls Try.prog 36 #[.int .u64 X, .int .u64 Y] W fun e w' => e = .returned (.int .u64 (X ^^^ Y : Nat)) ∧ W = w') := Lib.hid (fun W => against_any X Y W (by omega) (by omega))
          have HZ8 : Hid (X ^^^ Y < 256) := Lib.hid (Nat.xor_lt_two_pow (n := 8) hX8 hY8)
          have HLK : Hid ((lay ks ns p xs).take (i + 1) = (lay ks ns p xs).take i ++ [((X ^^^ Y : Nat) : Int)]) := Lib.hid (by
            rw [lay_snoc ks ns p xs i HIL.out, lay_at ks ns p xs i HIL.out, ← HXK.out, ← HQ.out, HKY.out, hY]; rfl)
          have HTL : Hid (((lay ks ns p xs).take i).length = i) := Lib.hid (by rw [List.length_take, lay_len]; have := HIL.out; omega)
          have HLT : Hid (B < wx.heap.size ∧ b < wx.heap.size ∧ w1.heap.size ≤ wx.heap.size) := Lib.hid ⟨HB10.out.lt, by have h := World.block_lt_of_cell? wx _ HC10.out; simpa using h, HF10.out.size⟩
          generalize X ^^^ Y = Z at *
          have hZ8 := HZ8.out
          have hwX : IntKind.u64.wrap (X : Int) = (X : Int) := by simp [IntKind.wrap, IntKind.bits, IntKind.signed]; omega
          have hwY : IntKind.u64.wrap (Y : Int) = (Y : Int) := by simp [IntKind.wrap, IntKind.bits, IntKind.signed]; omega
          have hwZ : IntKind.u8.wrap (Z : Int) = (Z : Int) := by simp [IntKind.wrap, IntKind.bits, IntKind.signed]; omega
          have hi1 : (0 : Int) ≤ (i : Int) := by omega
          have hi2 : (i : Int) < (n : Int) := by omega
          have hr1 : (r : Int) < 64 := by omega
          clear hY
          refine wp_region_held_drew (S := fun w' => w'.heap[b]? = wx.heap[b]? ∧ w'.heap[B]? = wx.heap[B]?) (by kernel_rfl) (⟨rfl, rfl⟩) (fun hHeld => ?_)
          have HHd := Lib.hid hHeld
          clear hHeld
          refine wpAnyH_take (i := 0) (oi := ⟨some 51, _, _, _, _, _⟩) (v := u6) rfl (by kernel_rfl) (by kernel_rfl) (by kernel_rfl) (fun _ _ _ h => h) (Or.inl ⟨by rfl, ?_⟩) HHd.out ?_
          · intro w' hS; go_simp; try with_reducible rfl
          simp only [Act.put, List.setIfInBounds_toArray, List.set_cons_zero, List.set_cons_succ]
          refine wpAnyH_take (i := 1) (oi := ⟨some 52, _, _, _, _, _⟩) (v := (.slice (some ⟨b, off, none⟩) n cap)) rfl (by kernel_rfl) (by kernel_rfl) (by kernel_rfl) (fun _ _ _ h => h) (Or.inl ⟨by rfl, ?_⟩) HHd.out ?_
          · intro w' hS; go_simp; try with_reducible rfl
          simp only [Act.put, List.setIfInBounds_toArray, List.set_cons_zero, List.set_cons_succ]
          refine wpAnyH_take (i := 2) (oi := ⟨some 53, _, _, _, _, _⟩) (v := (.int .i64 (i : Int))) rfl (by kernel_rfl) (by kernel_rfl) (by kernel_rfl) (fun _ _ _ h => h) (Or.inl ⟨by rfl, ?_⟩) HHd.out ?_
          · intro w' hS; go_simp; try with_reducible rfl
          simp only [Act.put, List.setIfInBounds_toArray, List.set_cons_zero, List.set_cons_succ]
          refine wpAnyH_take (i := 3) (oi := ⟨some 54, _, _, _, _, _⟩) (v := (.pointer (some ⟨b, off + i, none⟩))) rfl (by kernel_rfl) (by kernel_rfl) (by kernel_rfl) (fun _ _ _ h => h) (Or.inl ⟨by rfl, ?_⟩) HHd.out ?_
          · intro w' hS; go_simp; try with_reducible rfl
          simp only [Act.put, List.setIfInBounds_toArray, List.set_cons_zero, List.set_cons_succ]
          refine wpAnyH_take (i := 4) (oi := ⟨some 55, _, _, _, _, _⟩) (v := (.int .u8 (X : Int))) rfl (by kernel_rfl) (by kernel_rfl) (by kernel_rfl) (fun _ _ _ h => h) (Or.inl ⟨by rfl, ?_⟩) HHd.out ?_
          · intro w' hS; have z0 : w'.cell? ⟨b, off + i, none⟩ = some (.int .u8 (X : Int)) := (World.cell?_of_block (w := wx) (w' := w') hS.1).trans HC10.out; go_simp; try with_reducible rfl
          simp only [Act.put, List.setIfInBounds_toArray, List.set_cons_zero, List.set_cons_succ]
          refine wpAnyH_take (i := 5) (oi := ⟨some 56, _, _, _, _, _⟩) (v := (.int .u64 (X : Int))) rfl (by kernel_rfl) (by kernel_rfl) (by kernel_rfl) (fun _ _ _ h => h) (Or.inl ⟨by rfl, ?_⟩) HHd.out ?_
          · intro w' hS; go_simp; try with_reducible rfl
          simp only [Act.put, List.setIfInBounds_toArray, List.set_cons_zero, List.set_cons_succ]
          refine wpAnyH_take (i := 6) (oi := ⟨some 57, _, _, _, _, _⟩) (v := (.int .u64 (q : Int))) rfl (by kernel_rfl) (by kernel_rfl) (by kernel_rfl) (fun _ _ _ h => h) (Or.inl ⟨by rfl, ?_⟩) HHd.out ?_
          · intro w' hS; go_simp; try with_reducible rfl
          simp only [Act.put, List.setIfInBounds_toArray, List.set_cons_zero, List.set_cons_succ]
          refine wpAnyH_take (i := 7) (oi := ⟨some 58, _, _, _, _, _⟩) (v := (.int .u64 (r : Int))) rfl (by kernel_rfl) (by kernel_rfl) (by kernel_rfl) (fun _ _ _ h => h) (Or.inl ⟨by rfl, ?_⟩) HHd.out ?_
          · intro w' hS; go_simp; try with_reducible rfl
          simp only [Act.put, List.setIfInBounds_toArray, List.set_cons_zero, List.set_cons_succ]
          refine wpAnyH_take (i := 8) (oi := ⟨some 59, _, _, _, _, _⟩) (v := (.pointer (some ⟨B, r, none⟩))) rfl (by kernel_rfl) (by kernel_rfl) (by kernel_rfl) (fun _ _ _ h => h) (Or.inl ⟨by rfl, ?_⟩) HHd.out ?_
          · intro w' hS; go_simp; try with_reducible rfl
          simp only [Act.put, List.setIfInBounds_toArray, List.set_cons_zero, List.set_cons_succ]
          refine wpAnyH_take (i := 9) (oi := ⟨some 60, _, _, _, _, _⟩) (v := (.int .u8 (Y : Int))) rfl (by kernel_rfl) (by kernel_rfl) (by kernel_rfl) (fun _ _ _ h => h) (Or.inl ⟨by rfl, ?_⟩) HHd.out ?_
          · intro w' hS; have z0 : w'.cell? ⟨B, r, none⟩ = some (.int .u8 (Y : Int)) := (World.cell?_of_block (w := wx) (w' := w') hS.2).trans HCY.out; go_simp; try with_reducible rfl
          simp only [Act.put, List.setIfInBounds_toArray, List.set_cons_zero, List.set_cons_succ]
          refine wpAnyH_take (i := 10) (oi := ⟨some 61, _, _, _, _, _⟩) (v := (.int .u64 (Y : Int))) rfl (by kernel_rfl) (by kernel_rfl) (by kernel_rfl) (fun _ _ _ h => h) (Or.inl ⟨by rfl, ?_⟩) HHd.out ?_
          · intro w' hS; go_simp; try with_reducible rfl
          simp only [Act.put, List.setIfInBounds_toArray, List.set_cons_zero, List.set_cons_succ]
          refine wpAnyH_ready (rs := [11]) (by kernel_rfl) (by simp) ?_
          refine AllReadyH.cons (o := ⟨some 62, _, _, _, _, _⟩) rfl (fun K hK => ?_) AllReadyH.nil
          rw [if_pos (by rfl)]
          go_simp
          refine (HAG.out _).mono ?_
          rintro e w2 ⟨rfl, rfl⟩
          (try simp only [Act.put, List.setIfInBounds_toArray, List.set_cons_zero, List.set_cons_succ])
          refine hK.out _ _ HHd.out (fun hHeld => ?_)
          clear hK K hHeld
          refine wpAnyH_take (i := 12) (oi := ⟨some 63, _, _, _, _, _⟩) (v := (.int .u8 (Z : Int))) rfl (by kernel_rfl) (by kernel_rfl) (by kernel_rfl) (fun _ _ _ h => h) (Or.inl ⟨by rfl, ?_⟩) HHd.out ?_
          · intro w' hS; go_simp; try with_reducible rfl
          simp only [Act.put, List.setIfInBounds_toArray, List.set_cons_zero, List.set_cons_succ]
          refine wpAnyH_ready (rs := [13]) (by kernel_rfl) (by simp) ?_
          refine AllReadyH.cons (o := ⟨some 64, _, _, _, _, _⟩) rfl (fun K hK => ?_) AllReadyH.nil
          rw [if_pos (by rfl)]
          go_simp
          refine hK.out _ _ ⟨(Below.heap_alloc _ _ _ (by have := HLT.out; show b < wx.heap.size; omega)).trans HHd.out.1, (Below.heap_alloc _ _ _ (by have := HLT.out; show B < wx.heap.size; omega)).trans HHd.out.2⟩ (fun hHeld => ?_)
          clear hK K
          have HH1 := Lib.hid hHeld
          clear hHeld HHd
          have hc1 : (((lay ks ns p xs).take i).length + 1) * 1 ≤ 140737488355328 := by rw [HTL.out]; omega
          refine wpAnyH_ready (rs := [14]) (by kernel_rfl) (by simp) ?_
          refine AllReadyH.cons (o := ⟨some 65, _, _, _, _, _⟩) rfl (fun K hK => ?_) AllReadyH.nil
          refine step_push wx.drew rfl _ _ 39 rfl w1.heap.size 5 .u8 1 Try.underlying39 info5 (Z : Int) rfl u6 ((lay ks ns p xs).take i) rfl rfl HO10.out hc1 (by decide) HLT.out.2.2 ?_
          intro v' w3 hown3 hfr3
          (try simp only [Act.put, List.setIfInBounds_toArray, List.set_cons_zero, List.set_cons_succ])
          have hnb : ∀ G2, G2 < w1.heap.size → ¬ (fun gk => u6.ownBlock = some gk) G2 := fun G2 h1 h2 => by
            have := (HO10.out.base_le h2).1
            omega
          have HBW : Hid (b < w1.heap.size ∧ B < w1.heap.size) := Lib.hid (by have := HBB.out; have := hB1s.out; omega)
          refine hK.out _ _ ⟨hfr3.block b HLT.out.2.1 (hnb b HBW.out.1), hfr3.block B HLT.out.1 (hnb B HBW.out.2)⟩ (fun hHeld => ?_)
          clear hK K
          have HH2 := Lib.hid hHeld
          clear hHeld HH1
          have HO3 : Hid (Own w3 w1.heap.size 5 .u8 v' ((lay ks ns p xs).take (i + 1))) := Lib.hid (by rw [HLK.out]; exact hown3)
          have HF3 : Hid (Fr (fun j => j = B) w1 w3) := Lib.hid (HF10.out.drew.then hfr3 (fun j hj => .inr (HO10.out.base_le hj).1))
          have HB3 : Hid (Blk w3 B 36 (BL.map (Value.int .u8))) := Lib.hid ((show Blk wx.drew B 36 _ from HB10.out).fr hfr3 (hnb B HBW.out.2))
          clear hown3 hfr3 hnb
          refine wpAnyH_take (i := 15) (oi := ⟨some 6, _, _, _, _, _⟩) (v := v') rfl (by kernel_rfl) (by kernel_rfl) (by kernel_rfl) (fun _ _ _ h => h) (Or.inl ⟨by rfl, ?_⟩) HH2.out ?_
          · intro w' hS; go_simp; try with_reducible rfl
          simp only [Act.put, List.setIfInBounds_toArray, List.set_cons_zero, List.set_cons_succ]
          refine wpAnyH_done (by kernel_rfl) ?_ _
          clear hwX hwY hwZ hi2 hr1 hc1 htm hwr hwq hwi
          go_wp2_with fail
          go_roundw
          case rel => exact ⟨i + 1, by omega, by go_num, Lib.hid ⟨BL, HBLL.out.1, fun _ => HNB.out, HB3.out⟩, HO3, HF3⟩
          case measure => simp [intOf]; omega
      · have HK : Hid (i = n) := Lib.hid (by omega)
        have hge : decide ((i : Int) < (n : Int)) = false := by simp; omega
        have OE : Hid (Own wr w1.heap.size 5 .u8 u6 (lay ks ns p xs)) := Lib.hid (by have h := HO.out; rw [HK.out, HN.out, List.take_of_length_le (by rw [lay_len]; exact Nat.le_refl _)] at h; exact h)
        have GE : Hid (Blk wr g 66 (SGl ks ns p)) := Lib.hid (HG0.out.fr HF.out (by have := HGB.out; omega))
        have hcq : wr.cell? ⟨g, 44, none⟩ = some (.int .u64 (p : Int)) := (HSR.out wr p GE.out).2.2
        have hfq : wr.frozen? ⟨g, 44, none⟩ = false := GE.out.frozen 44
        have hwn : IntKind.u64.wrap (n : Int) = (n : Int) := by simp [IntKind.wrap, IntKind.bits, IntKind.signed]; omega
        have hwq : IntKind.u64.wrap ((p : Int) + (n : Int)) = ((p + n : Nat) : Int) := by simp [IntKind.wrap, IntKind.bits, IntKind.signed]; omega
        have GE2 : Hid (Blk (wr.setCell ⟨g, 44, none⟩ (.int .u64 ((p + n : Nat) : Int))) g 66 (SGl ks ns (p + n))) := Lib.hid (HSS.out wr p (p + n) GE.out)
        have OE2 : Hid (Own (wr.setCell ⟨g, 44, none⟩ (.int .u64 ((p + n : Nat) : Int))) w.heap.size 5 .u8 u6 (lay ks ns p xs)) := Lib.hid ((OE.out.fr ((Fr.refl (fun j => j = g) wr).setCell (p := ⟨g, 44, none⟩) (.inl rfl) _) (fun gg h1 h2 => by
          have h3 := (OE.out.base_le h1).1
          have h4 := HG0.out.lt
          have h5 : gg = g := h2
          omega)).lower F0.out.size)
        have FE2 : Hid (Fr (fun j => j = g) w (wr.setCell ⟨g, 44, none⟩ (.int .u64 ((p + n : Nat) : Int)))) := Lib.hid (Fr.setCell (S := fun j => j = g) ((F0.out.mono (fun _ h => h.elim)).then HF.out (fun j hj => .inr (by rw [hj, HBE.out]; exact Nat.le_refl _))) (p := ⟨g, 44, none⟩) (.inl rfl) _)
        clear HO HF HBS OE
        go_wp2_with fail
        go_ret2
        exact .inr ⟨HFIT.out, _, rfl, OE2.out, by rw [← HN.out]; exact GE2.out, FE2.out⟩
end Go.Proofs.Ytldbmjkecmmmjaa

/-
  Shuffle: plain, and the walk.
-/
import Derived.Test.YtcfbaildcocnhaaNz
set_option linter.unusedVariables false
set_option linter.unusedSimpArgs false
namespace Go.Proofs.Ytcfbaildcocnhaa
open Go.RowKit

/-- Two places change. -/
def swp (l : List Int) (i k : Nat) : List Int := (l.set i (l.getD k 0)).set k (l.getD i 0)
theorem swp_len (l : List Int) (i k : Nat) : (swp l i k).length = l.length := by simp [swp]
theorem swp_count (l : List Int) (i k : Nat) (x : Int) (hi : i < l.length) (hk : k < l.length) : (swp l i k).count x = l.count x := by
  have e1 : l.getD k 0 = l[k] := by simp [List.getD_eq_getElem?_getD, hk]
  have e2 : l.getD i 0 = l[i] := by simp [List.getD_eq_getElem?_getD, hi]
  unfold swp
  rw [e1, e2, List.count_set (by simpa using hk), List.count_set hi, List.getElem_set]
  have h1 : l[i] = x → 0 < l.count x := fun h => List.count_pos_iff.2 (h ▸ List.getElem_mem hi)
  have h2 : l[k] = x → 0 < l.count x := fun h => List.count_pos_iff.2 (h ▸ List.getElem_mem hk)
  by_cases hik : i = k
  · subst hik
    simp only [if_true]
    by_cases h : l[i] = x
    · have := h1 h; simp [h]; omega
    · simp [h]
  · simp only [if_neg hik]
    by_cases ha : l[i] = x <;> by_cases hb : l[k] = x
    · have := h1 ha; simp [ha, hb]; omega
    · have := h1 ha; simp [ha, hb]; omega
    · have := h2 hb; simp [ha, hb]
    · simp [ha, hb]
/-- What is shuffled, from the i-th place down; and where the row is then. -/
def shR (ks : List Int) : Nat → List Int → Nat → List Int × Nat
  | 0, l, p => (l, p)
  | i + 1, l, p => shR ks i (swp l (i + 1) (belowN' ks (i + 2) p)) (belP ks (i + 2) 99 p + 8)
theorem shR_zero (ks : List Int) (l : List Int) (p : Nat) : shR ks 0 l p = (l, p) := rfl
theorem belowN'_lt (ks : List Int) (n p : Nat) (h : 0 < n) : belowN' ks n p < n := Nat.mod_lt _ h
theorem shR_len (ks : List Int) : ∀ i l p, (shR ks i l p).1.length = l.length
  | 0, l, p => rfl
  | i + 1, l, p => by unfold shR; rw [shR_len ks i, swp_len]
theorem shR_count (ks : List Int) (x : Int) : ∀ i l p, i < l.length → (shR ks i l p).1.count x = l.count x
  | 0, l, p, _ => rfl
  | i + 1, l, p, h => by
    unfold shR
    rw [shR_count ks x i _ _ (by rw [swp_len]; omega), swp_count]
    · exact h
    · have := belowN'_lt ks (i + 2) p (by omega); omega
def iota (n : Nat) : List Int := (List.range n).map fun i : Nat => (i : Int)
theorem iota_len (n : Nat) : (iota n).length = n := by simp [iota]
theorem iota_at (n i : Nat) (h : i < n) : (iota n).getD i 0 = (i : Int) := by
  unfold iota
  rw [List.getD_eq_getElem?_getD, List.getElem?_map, List.getElem?_range h]
  rfl
theorem iota_count (n x : Nat) (h : x < n) : (iota n).count (x : Int) = 1 := by
  unfold iota
  induction n with
  | zero => omega
  | succ n ih =>
    rw [List.range_succ, List.map_append, List.count_append]
    by_cases hx : x = n
    · subst hx
      have : ((List.range x).map fun i : Nat => (i : Int)).count (x : Int) = 0 := by
        rw [List.count_eq_zero]
        intro hm
        obtain ⟨j, hj, he⟩ := List.mem_map.1 hm
        have := List.mem_range.1 hj
        omega
      rw [this]; simp
    · rw [ih (by omega)]
      have : ([n].map fun i : Nat => (i : Int)).count (x : Int) = 0 := by
        rw [List.count_eq_zero]
        intro hm
        simp at hm
        omega
      rw [this]
theorem iota_hi (n : Nat) (x : Int) (h : x ∈ iota n) : 0 ≤ x ∧ x < n := by
  unfold iota at h
  obtain ⟨j, hj, rfl⟩ := List.mem_map.1 h
  have := List.mem_range.1 hj
  omega
/-- A shuffled order, and where the row is then. -/
def shL (ks : List Int) (n p : Nat) : List Int := (shR ks (n - 1) (iota n) p).1
def shQ (ks : List Int) (n p : Nat) : Nat := (shR ks (n - 1) (iota n) p).2
theorem shL_len (ks : List Int) (n p : Nat) : (shL ks n p).length = n := by unfold shL; rw [shR_len, iota_len]
theorem shL_count (ks : List Int) (n p x : Nat) (h : x < n) : (shL ks n p).count (x : Int) = 1 := by
  unfold shL
  rw [shR_count ks _ _ _ _ (by rw [iota_len]; omega), iota_count n x h]
theorem info3 : (Try.prog.info? 3).map (fun i => (i.zero, i.size, i.bytes)) = some (some (.int .i64 0), 1, 8) := by kernel_rfl
theorem shR_succ (ks : List Int) (i : Nat) (l : List Int) (p : Nat) : shR ks (i + 1) l p = shR ks i (swp l (i + 1) (belowN' ks (i + 2) p)) (belP ks (i + 2) 99 p + 8) := rfl
theorem shR_pred (ks : List Int) (i : Nat) (l : List Int) (p : Nat) (h : 0 < i) : shR ks i l p = shR ks (i - 1) (swp l i (belowN' ks (i + 1) p)) (belP ks (i + 1) 99 p + 8) := by
  obtain ⟨j, rfl⟩ : ∃ j, i = j + 1 := ⟨i - 1, by omega⟩
  rfl
theorem row_cell {w : World} {g T k : Nat} {kd : IntKind} {l : List Int} (h : Blk w g T (l.map (Value.int kd))) (hk : k < l.length) : w.cell? ⟨g, k, none⟩ = some (.int kd (l.getD k 0)) := by
  rw [h.cell, List.getElem?_map, List.getElem?_eq_getElem hk, List.getD_eq_getElem?_getD, List.getElem?_eq_getElem hk]
  rfl
theorem Src.set {w : World} {S g j : Nat} {ks : List Int} {p : Nat} {cs : List Value} {v : Value} (h : Src w S ks p) (hg : Blk w g 3 cs) : Src (w.setCell ⟨g, j, none⟩ v) S ks p :=
  h.fr ((Fr.refl (fun b => b = g) w).setCell (p := ⟨g, j, none⟩) (.inl rfl) v) (fun e => h.ne hg (by decide) e) (fun g' bs hg' e => Blk.ne hg' hg (by decide) e)
set_option maxRecDepth 100000 in
set_option maxHeartbeats 8000000 in
theorem shuffle_any (S n : Nat) (ks : List Int) (p : Nat) (w : World) (hs : Src w S ks p) (hk : ks.length = 32) (bk : B8 ks) (h1 : 1 ≤ n) (h2 : n ≤ 65536) :
    Calls Try.prog 39 #[.pointer (some ⟨S, 0, none⟩), .int .i64 (n : Int)] w fun e w' => ∃ v, e = .returned v ∧ Own w' w.heap.size 3 .i64 v (shL ks n p) ∧ Src w' S ks (shQ ks n p) ∧ Fr (fun b => b = S) w w' := by
  have HT := Lib.hid (fun i q W (hs : Src W S ks q) (hi : i < 65536) => below_any S (i + 1) ks q W hs hk bk (by omega) (by omega))
  have HS := Lib.hid hs
  have HSl := Lib.hid hs.lt
  have HN := Lib.hid (And.intro h1 h2)
  have d1 : decide ((n : Int) < 1) = false := decide_eq_false (by omega)
  have d2 : decide ((65536 : Int) < (n : Int)) = false := decide_eq_false (by omega)
  have d3 : decide (n < 1) = false := decide_eq_false (by omega)
  have d4 : decide (65536 < n) = false := decide_eq_false (by omega)
  have hm1 : 8 * n ≤ 281474976710656 := by omega
  have hm2 : n ≤ 9223372036854775807 := by omega
  clear hs hk bk h1 h2
  go_enter Try.func39, Try.ntmps39
  go_upto_region 3 with fail
  clear d1 d2 d3 d4
  go_wp2_with (first
    | (refine wpList_make_blk w rfl _ _ 81 rfl 3 .i64 8 Try.underlying81 info3 .i64 .i64 n rfl rfl hm1 hm2 ?_; intro w1 hb0 hfr0; have B0 := Lib.hid hb0; have F0 := Lib.hid hfr0; clear hb0 hfr0))
  have S0 : Hid (Src w1 S ks p) := Lib.hid (HS.out.fr F0.out (fun h => h) (fun _ _ _ h => h))
  have F1 : Hid (Fr (fun b => b = S) w w1) := Lib.hid (F0.out.mono (fun _ h => h.elim))
  have B1 : Hid (Blk w1 w.heap.size 3 ((upd 0 (iota n) (List.replicate n 0)).map (Value.int .i64) ++ [])) := Lib.hid (by rw [upd_zero, List.append_nil]; exact B0.out)
  have LR : Hid ((List.replicate n (0 : Int)).length = n) := Lib.hid (by simp)
  clear hm1 hm2 B0 F0 HS
  generalize hG : w.heap.size = G at *
  have HGE := Lib.hid hG
  clear hG
  go_loopw [6, 23] (fun v6 v23 wr => ∃ j : Nat, v23 = .int .i64 j ∧ Hid (j ≤ n) ∧ Hid (Blk wr G 3 ((upd j (iota n) (List.replicate n 0)).map (Value.int .i64) ++ [])) ∧ Hid (Src wr S ks p) ∧ Hid (Fr (fun b => b = S) w wr)) (fun _ v23 _ => n - (intOf v23).toNat)
  case atStart => exact ⟨0, rfl, Lib.hid (Nat.zero_le _), B1, S0, F1⟩
  case round =>
    clear B1 S0 F1
    obtain ⟨j, rfl, HJ, BJ, SJ, FJ⟩ := hrel
    by_cases hlt : j < n
    · have d1 : decide ((j : Int) < (n : Int)) = true := decide_eq_true (by omega)
      have d2 : decide (j < n) = true := decide_eq_true hlt
      have hn64 : j ≤ 65536 := by have := HN.out; omega
      have m1 : IntKind.i64.wrap ((j : Int) + 1) = ((j + 1 : Nat) : Int) := by rw [IntKind.wrap_i64] <;> omega
      have hc := blk_upd_cell (k := j) BJ.out (by rw [iota_len, LR.out]) (by rw [LR.out]; exact hlt)
      have hf : wr.frozen? ⟨G, j, none⟩ = false := BJ.out.frozen j
      have hlj : Hid (j < n) := Lib.hid hlt
      go_wp2_with fail
      go_roundw
      case rel => exact ⟨j + 1, by go_num, Lib.hid (by have := hlj.out; omega), Lib.hid (blk_upd_set BJ.out (by rw [iota_len, LR.out]) (by rw [LR.out]; exact hlj.out) (iota_at n j hlj.out).symm), Lib.hid (SJ.out.set BJ.out), Lib.hid (FJ.out.setCell (p := ⟨G, j, none⟩) (.inr (by rw [HGE.out]; exact Nat.le_refl _)) _)⟩
      case measure => simp [intOf]; omega
    · have d1 : decide ((j : Int) < (n : Int)) = false := decide_eq_false (by omega)
      have d2 : decide (j < n) = false := decide_eq_false hlt
      have HJN : Hid (j = n) := Lib.hid (by have := HJ.out; omega)
      have BI : Hid (Blk wr G 3 ((iota n).map (Value.int .i64))) := Lib.hid (by
        have h := BJ.out
        rw [HJN.out, List.append_nil] at h
        have h2 := upd_all (iota n) (List.replicate n (0 : Int)) (by rw [iota_len, LR.out])
        rw [LR.out] at h2
        rwa [h2] at h)
      have m0 : IntKind.i64.wrap ((n : Int) - 1) = ((n - 1 : Nat) : Int) := by have := HN.out; rw [IntKind.wrap_i64] <;> omega
      clear BJ HJN HJ
      go_upto_region 9 with fail
      clear d1 d2
      generalize hn1 : n - 1 = N1 at m0
      have HN1 := Lib.hid hn1
      clear hn1
      go_wp2_with fail
      clear m0
      go_loopw [7, 8] (fun v7 v8 wx => ∃ (i q : Nat) (l : List Int), v7 = .int .i64 i ∧ Hid (i < n) ∧ Hid (l.length = n) ∧ Hid (Blk wx G 3 (l.map (Value.int .i64))) ∧ Hid (Src wx S ks q) ∧ Hid (Fr (fun b => b = S) w wx) ∧ Hid (shR ks i l q = shR ks (n - 1) (iota n) p)) (fun v7 _ _ => (intOf v7).toNat)
      case atStart => exact ⟨N1, p, iota n, rfl, Lib.hid (by have := HN1.out; have := HN.out; omega), Lib.hid (iota_len n), BI, SJ, FJ, Lib.hid (by rw [HN1.out])⟩
      case round =>
        clear BI SJ FJ
        obtain ⟨i, q, l, rfl, HI, HLL, BL, SQ, FQ, HR⟩ := hrel
        by_cases hi0 : i = 0
        · subst hi0
          go_wp2_with fail
          go_ret
          have hr := HR.out
          rw [shR_zero] at hr
          refine ⟨_, rfl, ?_, ?_, FQ.out⟩
          · have e : shL ks n p = l := by unfold shL; rw [← hr]
            rw [e, HGE.out]
            have h := Own.mk (k := .i64) (base := G) (c := n) (xs := l) (rest := []) (Nat.le_refl _) (by rw [List.append_nil]; exact BL.out) (by rw [HLL.out]; rfl) (by have := HN.out; unfold maxLen; omega)
            rwa [HLL.out] at h
          · have e : shQ ks n p = q := by unfold shQ; rw [← hr]
            rw [e]; exact SQ.out
        · have hi64 : i + 1 ≤ 65536 := by have := HI.out; have := HN.out; omega
          have c1 : IntKind.u64.wrap (i : Int) = (i : Int) := by rw [IntKind.wrap_u64] <;> omega
          have c2 : IntKind.u64.wrap ((i : Int) + 1) = ((i + 1 : Nat) : Int) := by rw [IntKind.wrap_u64] <;> omega
          have c3 : decide ((0 : Int) < (i : Int)) = true := decide_eq_true (by omega)
          have c4 : decide (0 < i) = true := decide_eq_true (by omega)
          go_wp2_with fail
          clear c1 c2 c3 c4
          refine (HT.out i q wr SQ.out (by omega)).mono ?_
          rintro e w2 ⟨rfl, hs, hf⟩
          have S2 := Lib.hid hs
          have B2 := Lib.hid (BL.out.fr hf (fun e => SQ.out.ne BL.out (by decide) e.symm))
          have F2 := Lib.hid (FQ.out.trans hf)
          obtain ⟨kk, hkk⟩ : ∃ kk, kk = belowN' ks (i + 1) q := ⟨_, rfl⟩
          have HKL : Hid (kk < i + 1) := Lib.hid (by rw [hkk]; exact belowN'_lt ks _ _ (by omega))
          have HKE := Lib.hid hkk
          rw [← hkk]
          clear hs hf hkk SQ BL FQ
          have lk : kk < n := by have := HKL.out; have := HI.out; omega
          have li : i < n := HI.out
          have LKI := Lib.hid (And.intro lk li)
          clear lk li
          obtain ⟨y, hy⟩ : ∃ y, y = l.getD kk 0 := ⟨_, rfl⟩
          obtain ⟨z, hz⟩ : ∃ z, z = l.getD i 0 := ⟨_, rfl⟩
          have HYE := Lib.hid hy
          have HZE := Lib.hid hz
          clear hy hz
          go_upto_region 13 with fail
          refine wp_region_held_drew (S := fun _ => True) (by kernel_rfl) (trivial) (fun hHeld => ?_)
          have S3 : Hid (Src w2.drew S ks (belP ks (i + 1) 99 q + 8)) := Lib.hid (S2.out.below (Below.refl _ _).drew)
          have B3 : Hid (Blk w2.drew G 3 (l.map (Value.int .i64))) := B2
          have F3 : Hid (Fr (fun b => b = S) w w2.drew) := Lib.hid F2.out.drew
          clear S2 B2 F2
          generalize w2.drew = v0 at S3 B3 F3 ⊢
          refine wpAnyH_take (i := 0) (oi := ⟨some 43, _, _, _, _, _⟩) (v := (.slice (some ⟨G, 0, none⟩) n n)) rfl (by kernel_rfl) (by kernel_rfl) (by kernel_rfl) (fun _ _ _ h => h) (Or.inl ⟨by rfl, ?_⟩) (by assumption) ?_
          · intro w' hS; go_simp; try with_reducible rfl
          simp only [Act.put, List.setIfInBounds_toArray, List.set_cons_zero, List.set_cons_succ]
          refine wpAnyH_take (i := 1) (oi := ⟨some 44, _, _, _, _, _⟩) (v := (.int .i64 (i : Nat))) rfl (by kernel_rfl) (by kernel_rfl) (by kernel_rfl) (fun _ _ _ h => h) (Or.inl ⟨by rfl, ?_⟩) (by assumption) ?_
          · intro w' hS; go_simp; try with_reducible rfl
          simp only [Act.put, List.setIfInBounds_toArray, List.set_cons_zero, List.set_cons_succ]
          refine wpAnyH_take (i := 2) (oi := ⟨some 45, _, _, _, _, _⟩) (v := (.slice (some ⟨G, 0, none⟩) n n)) rfl (by kernel_rfl) (by kernel_rfl) (by kernel_rfl) (fun _ _ _ h => h) (Or.inl ⟨by rfl, ?_⟩) (by assumption) ?_
          · intro w' hS; go_simp; try with_reducible rfl
          simp only [Act.put, List.setIfInBounds_toArray, List.set_cons_zero, List.set_cons_succ]
          refine wpAnyH_take (i := 3) (oi := ⟨some 46, _, _, _, _, _⟩) (v := (.int .u64 (kk : Nat))) rfl (by kernel_rfl) (by kernel_rfl) (by kernel_rfl) (fun _ _ _ h => h) (Or.inl ⟨by rfl, ?_⟩) (by assumption) ?_
          · intro w' hS; go_simp; try with_reducible rfl
          simp only [Act.put, List.setIfInBounds_toArray, List.set_cons_zero, List.set_cons_succ]
          refine wpAnyH_take (i := 4) (oi := ⟨some 47, _, _, _, _, _⟩) (v := (.slice (some ⟨G, 0, none⟩) n n)) rfl (by kernel_rfl) (by kernel_rfl) (by kernel_rfl) (fun _ _ _ h => h) (Or.inl ⟨by rfl, ?_⟩) (by assumption) ?_
          · intro w' hS; go_simp; try with_reducible rfl
          simp only [Act.put, List.setIfInBounds_toArray, List.set_cons_zero, List.set_cons_succ]
          refine wpAnyH_take (i := 5) (oi := ⟨some 48, _, _, _, _, _⟩) (v := (.int .u64 (kk : Nat))) rfl (by kernel_rfl) (by kernel_rfl) (by kernel_rfl) (fun _ _ _ h => h) (Or.inl ⟨by rfl, ?_⟩) (by assumption) ?_
          · intro w' hS; go_simp; try with_reducible rfl
          simp only [Act.put, List.setIfInBounds_toArray, List.set_cons_zero, List.set_cons_succ]
          refine wpAnyH_take (i := 6) (oi := ⟨some 49, _, _, _, _, _⟩) (v := (.pointer (some ⟨G, kk, none⟩))) rfl (by kernel_rfl) (by kernel_rfl) (by kernel_rfl) (fun _ _ _ h => h) (Or.inl ⟨by rfl, ?_⟩) (by assumption) ?_
          · intro w' hS; have z1 := LKI.out.1; have z2 := LKI.out.2; go_simp; try with_reducible rfl
          simp only [Act.put, List.setIfInBounds_toArray, List.set_cons_zero, List.set_cons_succ]
          refine wpAnyH_take (i := 8) (oi := ⟨some 51, _, _, _, _, _⟩) (v := (.slice (some ⟨G, 0, none⟩) n n)) rfl (by kernel_rfl) (by kernel_rfl) (by kernel_rfl) (fun _ _ _ h => h) (Or.inl ⟨by rfl, ?_⟩) (by assumption) ?_
          · intro w' hS; go_simp; try with_reducible rfl
          simp only [Act.put, List.setIfInBounds_toArray, List.set_cons_zero, List.set_cons_succ]
          refine wpAnyH_take (i := 9) (oi := ⟨some 52, _, _, _, _, _⟩) (v := (.int .i64 (i : Nat))) rfl (by kernel_rfl) (by kernel_rfl) (by kernel_rfl) (fun _ _ _ h => h) (Or.inl ⟨by rfl, ?_⟩) (by assumption) ?_
          · intro w' hS; go_simp; try with_reducible rfl
          simp only [Act.put, List.setIfInBounds_toArray, List.set_cons_zero, List.set_cons_succ]
          refine wpAnyH_take (i := 10) (oi := ⟨some 53, _, _, _, _, _⟩) (v := (.pointer (some ⟨G, i, none⟩))) rfl (by kernel_rfl) (by kernel_rfl) (by kernel_rfl) (fun _ _ _ h => h) (Or.inl ⟨by rfl, ?_⟩) (by assumption) ?_
          · intro w' hS; have z1 := LKI.out.1; have z2 := LKI.out.2; go_simp; try with_reducible rfl
          simp only [Act.put, List.setIfInBounds_toArray, List.set_cons_zero, List.set_cons_succ]
          refine wpAnyH_ready (rs := [7, 11]) (by kernel_rfl) (by simp) ?_
          refine AllReadyH.cons (o := ⟨some 50, _, _, _, _, _⟩) rfl (fun K hK => ?_) (AllReadyH.cons (o := ⟨some 54, _, _, _, _, _⟩) rfl (fun K hK => ?_) AllReadyH.nil)
          · rw [if_pos (by rfl)]
            have hcell : v0.cell? ⟨G, kk, none⟩ = some (.int .i64 (y)) := (row_cell B3.out (by rw [HLL.out]; have := LKI.out; omega)).trans (by rw [HYE.out])
            go_simp
            (try simp only [Act.put, List.setIfInBounds_toArray, List.set_cons_zero, List.set_cons_succ])
            refine hK.out _ _ trivial (fun hHeld => ?_)
            clear hK K hcell
            refine wpAnyH_ready (rs := [11]) (by kernel_rfl) (by simp) ?_
            refine AllReadyH.cons (o := ⟨some 54, _, _, _, _, _⟩) rfl (fun K hK => ?_) AllReadyH.nil
            rw [if_pos (by rfl)]
            have hcell : v0.cell? ⟨G, i, none⟩ = some (.int .i64 (z)) := (row_cell B3.out (by rw [HLL.out]; have := LKI.out; omega)).trans (by rw [HZE.out])
            go_simp
            (try simp only [Act.put, List.setIfInBounds_toArray, List.set_cons_zero, List.set_cons_succ])
            refine hK.out _ _ trivial (fun hHeld => ?_)
            clear hK K hcell
            refine wpAnyH_take (i := 12) (oi := ⟨some 55, _, _, _, _, _⟩) (v := (.pointer (some ⟨G, i, none⟩))) rfl (by kernel_rfl) (by kernel_rfl) (by kernel_rfl) (fun _ _ _ h => h) (Or.inl ⟨by rfl, ?_⟩) (by assumption) ?_
            · intro w' hS; have z1 := LKI.out.1; have z2 := LKI.out.2; go_simp; try with_reducible rfl
            simp only [Act.put, List.setIfInBounds_toArray, List.set_cons_zero, List.set_cons_succ]
            refine wpAnyH_ready (rs := [13]) (by kernel_rfl) (by simp) ?_
            refine AllReadyH.cons (o := ⟨none, _, _, _, _, _⟩) rfl (fun K hK => ?_) AllReadyH.nil
            rw [if_pos (by rfl)]
            have hcell : v0.cell? ⟨G, i, none⟩ = some (.int .i64 z) := (row_cell B3.out (by rw [HLL.out]; have := LKI.out; omega)).trans (by rw [HZE.out])
            have hfz : v0.frozen? ⟨G, i, none⟩ = false := B3.out.frozen _
            go_simp
            (try simp only [Act.put, List.setIfInBounds_toArray, List.set_cons_zero, List.set_cons_succ])
            refine hK.out _ _ trivial (fun hHeld => ?_)
            clear hK K hcell hfz
            have S4 := Lib.hid (S3.out.set (j := i) (v := .int .i64 (y)) B3.out)
            have B4 : Hid (Blk (v0.setCell ⟨G, i, none⟩ (.int .i64 (y))) G 3 ((l.set i (y)).map (Value.int .i64))) := Lib.hid (by rw [List.map_set]; exact B3.out.set _ _)
            have F4 := Lib.hid (F3.out.setCell (p := ⟨G, i, none⟩) (.inr (by rw [HGE.out]; exact Nat.le_refl _)) (.int .i64 (y)))
            clear S3 B3 F3
            generalize v0.setCell ⟨G, i, none⟩ (.int .i64 (y)) = v1 at *
            refine wpAnyH_take (i := 14) (oi := ⟨some 56, _, _, _, _, _⟩) (v := (.pointer (some ⟨G, kk, none⟩))) rfl (by kernel_rfl) (by kernel_rfl) (by kernel_rfl) (fun _ _ _ h => h) (Or.inl ⟨by rfl, ?_⟩) (by assumption) ?_
            · intro w' hS; have z1 := LKI.out.1; have z2 := LKI.out.2; go_simp; try with_reducible rfl
            simp only [Act.put, List.setIfInBounds_toArray, List.set_cons_zero, List.set_cons_succ]
            refine wpAnyH_ready (rs := [15]) (by kernel_rfl) (by simp) ?_
            refine AllReadyH.cons (o := ⟨none, _, _, _, _, _⟩) rfl (fun K hK => ?_) AllReadyH.nil
            rw [if_pos (by rfl)]
            obtain ⟨uu, hcell⟩ : ∃ uu, v1.cell? ⟨G, kk, none⟩ = some (.int .i64 uu) := ⟨_, row_cell B4.out (by rw [List.length_set, HLL.out]; have := LKI.out; omega)⟩
            have hfz : v1.frozen? ⟨G, kk, none⟩ = false := B4.out.frozen _
            go_simp
            (try simp only [Act.put, List.setIfInBounds_toArray, List.set_cons_zero, List.set_cons_succ])
            refine hK.out _ _ trivial (fun hHeld => ?_)
            clear hK K hcell hfz
            have S5 := Lib.hid (S4.out.set (j := kk) (v := .int .i64 (z)) B4.out)
            have B5 : Hid (Blk (v1.setCell ⟨G, kk, none⟩ (.int .i64 (z))) G 3 ((swp l i kk).map (Value.int .i64))) := Lib.hid (by unfold swp; rw [← HYE.out, ← HZE.out, List.map_set (i := kk)]; exact B4.out.set _ _)
            have F5 := Lib.hid (F4.out.setCell (p := ⟨G, kk, none⟩) (.inr (by rw [HGE.out]; exact Nat.le_refl _)) (.int .i64 (z)))
            clear S4 B4 F4
            generalize v1.setCell ⟨G, kk, none⟩ (.int .i64 (z)) = v2 at *
            refine wpAnyH_done (by kernel_rfl) ?_ _
            have m1 : IntKind.i64.wrap ((i : Int) - 1) = ((i - 1 : Nat) : Int) := by rw [IntKind.wrap_i64] <;> omega
            go_wp2_with fail
            go_roundw
            case rel => exact ⟨i - 1, _, _, rfl, Lib.hid (by have := HI.out; omega), Lib.hid (by rw [swp_len]; exact HLL.out), B5, S5, F5, Lib.hid (by rw [← HR.out, shR_pred ks i l q (by omega), HKE.out])⟩
            case measure => simp [intOf]; omega
          · rw [if_pos (by rfl)]
            have hcell : v0.cell? ⟨G, i, none⟩ = some (.int .i64 (z)) := (row_cell B3.out (by rw [HLL.out]; have := LKI.out; omega)).trans (by rw [HZE.out])
            go_simp
            (try simp only [Act.put, List.setIfInBounds_toArray, List.set_cons_zero, List.set_cons_succ])
            refine hK.out _ _ trivial (fun hHeld => ?_)
            clear hK K hcell
            refine wpAnyH_ready (rs := [7]) (by kernel_rfl) (by simp) ?_
            refine AllReadyH.cons (o := ⟨some 50, _, _, _, _, _⟩) rfl (fun K hK => ?_) AllReadyH.nil
            rw [if_pos (by rfl)]
            have hcell : v0.cell? ⟨G, kk, none⟩ = some (.int .i64 (y)) := (row_cell B3.out (by rw [HLL.out]; have := LKI.out; omega)).trans (by rw [HYE.out])
            go_simp
            (try simp only [Act.put, List.setIfInBounds_toArray, List.set_cons_zero, List.set_cons_succ])
            refine hK.out _ _ trivial (fun hHeld => ?_)
            clear hK K hcell
            refine wpAnyH_take (i := 12) (oi := ⟨some 55, _, _, _, _, _⟩) (v := (.pointer (some ⟨G, i, none⟩))) rfl (by kernel_rfl) (by kernel_rfl) (by kernel_rfl) (fun _ _ _ h => h) (Or.inl ⟨by rfl, ?_⟩) (by assumption) ?_
            · intro w' hS; have z1 := LKI.out.1; have z2 := LKI.out.2; go_simp; try with_reducible rfl
            simp only [Act.put, List.setIfInBounds_toArray, List.set_cons_zero, List.set_cons_succ]
            refine wpAnyH_ready (rs := [13]) (by kernel_rfl) (by simp) ?_
            refine AllReadyH.cons (o := ⟨none, _, _, _, _, _⟩) rfl (fun K hK => ?_) AllReadyH.nil
            rw [if_pos (by rfl)]
            have hcell : v0.cell? ⟨G, i, none⟩ = some (.int .i64 z) := (row_cell B3.out (by rw [HLL.out]; have := LKI.out; omega)).trans (by rw [HZE.out])
            have hfz : v0.frozen? ⟨G, i, none⟩ = false := B3.out.frozen _
            go_simp
            (try simp only [Act.put, List.setIfInBounds_toArray, List.set_cons_zero, List.set_cons_succ])
            refine hK.out _ _ trivial (fun hHeld => ?_)
            clear hK K hcell hfz
            have S4 := Lib.hid (S3.out.set (j := i) (v := .int .i64 (y)) B3.out)
            have B4 : Hid (Blk (v0.setCell ⟨G, i, none⟩ (.int .i64 (y))) G 3 ((l.set i (y)).map (Value.int .i64))) := Lib.hid (by rw [List.map_set]; exact B3.out.set _ _)
            have F4 := Lib.hid (F3.out.setCell (p := ⟨G, i, none⟩) (.inr (by rw [HGE.out]; exact Nat.le_refl _)) (.int .i64 (y)))
            clear S3 B3 F3
            generalize v0.setCell ⟨G, i, none⟩ (.int .i64 (y)) = v1 at *
            refine wpAnyH_take (i := 14) (oi := ⟨some 56, _, _, _, _, _⟩) (v := (.pointer (some ⟨G, kk, none⟩))) rfl (by kernel_rfl) (by kernel_rfl) (by kernel_rfl) (fun _ _ _ h => h) (Or.inl ⟨by rfl, ?_⟩) (by assumption) ?_
            · intro w' hS; have z1 := LKI.out.1; have z2 := LKI.out.2; go_simp; try with_reducible rfl
            simp only [Act.put, List.setIfInBounds_toArray, List.set_cons_zero, List.set_cons_succ]
            refine wpAnyH_ready (rs := [15]) (by kernel_rfl) (by simp) ?_
            refine AllReadyH.cons (o := ⟨none, _, _, _, _, _⟩) rfl (fun K hK => ?_) AllReadyH.nil
            rw [if_pos (by rfl)]
            obtain ⟨uu, hcell⟩ : ∃ uu, v1.cell? ⟨G, kk, none⟩ = some (.int .i64 uu) := ⟨_, row_cell B4.out (by rw [List.length_set, HLL.out]; have := LKI.out; omega)⟩
            have hfz : v1.frozen? ⟨G, kk, none⟩ = false := B4.out.frozen _
            go_simp
            (try simp only [Act.put, List.setIfInBounds_toArray, List.set_cons_zero, List.set_cons_succ])
            refine hK.out _ _ trivial (fun hHeld => ?_)
            clear hK K hcell hfz
            have S5 := Lib.hid (S4.out.set (j := kk) (v := .int .i64 (z)) B4.out)
            have B5 : Hid (Blk (v1.setCell ⟨G, kk, none⟩ (.int .i64 (z))) G 3 ((swp l i kk).map (Value.int .i64))) := Lib.hid (by unfold swp; rw [← HYE.out, ← HZE.out, List.map_set (i := kk)]; exact B4.out.set _ _)
            have F5 := Lib.hid (F4.out.setCell (p := ⟨G, kk, none⟩) (.inr (by rw [HGE.out]; exact Nat.le_refl _)) (.int .i64 (z)))
            clear S4 B4 F4
            generalize v1.setCell ⟨G, kk, none⟩ (.int .i64 (z)) = v2 at *
            refine wpAnyH_done (by kernel_rfl) ?_ _
            have m1 : IntKind.i64.wrap ((i : Int) - 1) = ((i - 1 : Nat) : Int) := by rw [IntKind.wrap_i64] <;> omega
            go_wp2_with fail
            go_roundw
            case rel => exact ⟨i - 1, _, _, rfl, Lib.hid (by have := HI.out; omega), Lib.hid (by rw [swp_len]; exact HLL.out), B5, S5, F5, Lib.hid (by rw [← HR.out, shR_pred ks i l q (by omega), HKE.out])⟩
            case measure => simp [intOf]; omega
end Go.Proofs.Ytcfbaildcocnhaa

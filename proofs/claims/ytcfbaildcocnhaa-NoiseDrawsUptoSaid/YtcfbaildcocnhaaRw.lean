/-
  Walk: the law NoiseRow.
-/
import Derived.Test.YtcfbaildcocnhaaTd
set_option linter.unusedVariables false
set_option linter.unusedSimpArgs false
namespace Go.Proofs.Ytcfbaildcocnhaa
open Go.RowKit

/-- A step as its cells tell it. -/
structure Nst where
  d : Int
  u : Int
  n : Int
  m : Int
  x : Nat
  o : Int
def Nst.cells (s : Nst) : List Value := [.int .i64 s.d, .int .u64 s.u, .int .i64 s.n, .int .i64 s.m, .float .f64 s.x, .int .i64 s.o]
/-- A row of steps. -/
def RdN (w : World) (A : Option Addr) (ss : Nat → Nst) (m : Nat) : Prop := ∀ i, i < m → ∃ b off, A = some ⟨b, off, none⟩ ∧ b < w.heap.size ∧ w.rangeAt b (off + i * 6) (ss i).cells
theorem RdN.below {w w' : World} {A : Option Addr} {ss : Nat → Nst} {m : Nat} (h : RdN w A ss m) (hb : Below w.heap.size w w') : RdN w' A ss m := fun i hi => by
  obtain ⟨b, off, hA, hlt, h0⟩ := h i hi
  exact ⟨b, off, hA, Nat.lt_of_lt_of_le hlt hb.size, range_of_block h0 (hb.block b hlt)⟩
theorem rowL_drop (ks : List Int) (p n k : Nat) (h : k ≤ n) : (rowL ks p n).drop k = rowL ks (p + k) (n - k) := by
  obtain ⟨j, rfl⟩ : ∃ j, n = k + j := ⟨n - k, by omega⟩
  rw [rowL_add, List.drop_left' (rowL_len _ _ _)]
  congr 1
  omega
/-- A row of one's own, from where one is. -/
def Tail (w : World) (g c : Nat) (ks : List Int) (M : Nat) : Prop := Own w 0 5 .u8 (.slice (some ⟨g, 0, none⟩) M c) (rowL ks 0 M)
theorem Tail.rd {w : World} {g c M a : Nat} {ks : List Int} (h : Tail w g c ks M) (ha : a ≤ M) : Rd w .u8 (some ⟨g, a, none⟩) (rowL ks a (M - a)) := by
  obtain ⟨A, c', h1, h2, h3, h4, h5⟩ := Own.slice h
  injection h1 with q1 q2 q3
  subst q1
  have := Rd.drop' h4 a
  rwa [rowL_drop ks 0 M a ha, Nat.zero_add] at this
theorem Tail.cap {w : World} {g c M : Nat} {ks : List Int} (h : Tail w g c ks M) : M ≤ c := by
  obtain ⟨A, c', h1, h2, h3, h4, h5⟩ := Own.slice h
  injection h1 with q1 q2 q3
  subst q3
  rw [rowL_len] at h2
  exact h2
theorem info64 : (Try.prog.info? 64).map (·.size) = some 6 := by kernel_rfl
set_option maxRecDepth 100000 in
set_option maxHeartbeats 8000000 in
theorem row_law (ks : List Int) (A1 : Option Addr) (k1 c1 : Nat) (f1 : Nat → Nst) (w : World) (hk : ks.length = 32) (bk : B8 ks) (hs1 : RdN w A1 f1 k1) (hk1 : k1 ≤ c1) :
    Calls Try.prog 8 #[.agg (AY .u8 ks), .slice A1 k1 c1] w fun e w' => e = .returned (.bool true) ∧ Below w.heap.size w w' := by
  have HK := Lib.hid hk
  have BK := Lib.hid bk
  have HS1 := Lib.hid hs1
  have HKC := Lib.hid hk1
  have I53 : Hid ((Try.prog.info? 53).map (·.size) = some ks.length) := Lib.hid (by rw [info31, hk])
  clear hk bk hs1 hk1
  go_enter Try.func8, Try.ntmps8
  go_upto_region 1 with fail
  generalize hX : w.heap.size = X
  generalize hW1 : w.alloc _ = w1
  have X1 : Hid (Blk w1 X 53 (ks.map (Value.int .u8))) := Lib.hid (by rw [← hW1]; exact AY_new_at .u8 w 53 ks hX.symm)
  have F1 : Hid (Below w.heap.size w w1) := Lib.hid (by rw [← hW1]; exact (Below.refl _ w).alloc (Nat.le_refl _) _)
  have HXE := Lib.hid hX
  clear hX hW1
  go_wp2_with fail
  refine (awake_any w1).mono ?_
  rintro e w2 ⟨rfl, bb⟩
  have X2 := Lib.hid (X1.out.below bb X1.out.lt)
  have F2 := Lib.hid (F1.out.trans (bb.mono F1.out.size))
  clear bb X1 F1
  go_upto_region 3 with fail
  go_cut [5, 6] from 11 (fun v5 v6 wx => ∃ S T, v5 = .pointer (some ⟨S, 0, none⟩) ∧ v6 = .pointer (some ⟨T, 0, none⟩) ∧ Src wx S ks 0 ∧ Src wx T ks 0 ∧ w2.heap.size ≤ S ∧ S < T ∧ Below w2.heap.size w2 wx)
  case first =>
    refine wp_region_held_drew (S := fun w' => Below w2.heap.size w2 w') (by kernel_rfl) ((Below.refl w2.heap.size w2).drew) (fun hHeld => ?_)
    have V0 : Hid (Below w2.heap.size w2 w2.drew) := Lib.hid (Below.refl w2.heap.size w2).drew
    generalize w2.drew = v0 at V0 hHeld ⊢
    refine wpAnyH_take (i := 0) (oi := ⟨some 13, _, _, _, _, _⟩) (v := (.agg (AY .u8 ks))) rfl (by kernel_rfl) (by kernel_rfl) (by kernel_rfl) (fun _ _ _ h => h) (Or.inl ⟨by rfl, ?_⟩) (by assumption) ?_
    · intro w' hS; have hq := X2.out.below hS X2.out.lt; exact exec_load_AY 53 _ rfl X 0 (by rfl) .u8 ks _ (fun j v hv => by rw [hq.cell, Nat.zero_add]; exact hv) Try.underlying53 rfl I53.out
    simp only [Act.put, List.setIfInBounds_toArray, List.set_cons_zero, List.set_cons_succ]
    refine wpAnyH_take (i := 2) (oi := ⟨some 15, _, _, _, _, _⟩) (v := (.agg (AY .u8 ks))) rfl (by kernel_rfl) (by kernel_rfl) (by kernel_rfl) (fun _ _ _ h => h) (Or.inl ⟨by rfl, ?_⟩) (by assumption) ?_
    · intro w' hS; have hq := X2.out.below hS X2.out.lt; exact exec_load_AY 53 _ rfl X 0 (by rfl) .u8 ks _ (fun j v hv => by rw [hq.cell, Nat.zero_add]; exact hv) Try.underlying53 rfl I53.out
    simp only [Act.put, List.setIfInBounds_toArray, List.set_cons_zero, List.set_cons_succ]
    refine wpAnyH_ready (rs := [1]) (by kernel_rfl) (by simp) ?_
    refine AllReadyH.cons (o := ⟨some 14, _, _, _, _, _⟩) rfl (fun K hK => ?_) AllReadyH.nil
    rw [if_pos (by rfl)]
    go_simp
    refine (new_any ks v0 HK.out).mono ?_
    rintro e' v1 ⟨S, rfl, hlo, hs, bb⟩
    have HS := Lib.hid hs
    have V1 := Lib.hid (V0.out.trans (bb.mono V0.out.size))
    have HLO : Hid (w2.heap.size ≤ S ∧ S < v1.heap.size) := Lib.hid ⟨Nat.le_trans V0.out.size hlo, hs.lt⟩
    clear bb V0 hlo hs
    dsimp only
    (try simp only [Act.put, List.setIfInBounds_toArray, List.set_cons_zero, List.set_cons_succ])
    refine hK.out _ _ V1.out (fun hHeld => ?_)
    clear hK K
    refine wpAnyH_ready (rs := [3]) (by kernel_rfl) (by simp) ?_
    refine AllReadyH.cons (o := ⟨some 16, _, _, _, _, _⟩) rfl (fun K hK => ?_) AllReadyH.nil
    rw [if_pos (by rfl)]
    go_simp
    refine (new_any ks v1 HK.out).mono ?_
    rintro e' v2 ⟨T, rfl, hlo, hs, bb⟩
    have HT := Lib.hid hs
    have HS2 := Lib.hid (HS.out.below bb)
    have V2 := Lib.hid (V1.out.trans (bb.mono V1.out.size))
    have HLO2 : Hid (v1.heap.size ≤ T) := Lib.hid hlo
    clear bb V1 hlo hs HS
    dsimp only
    (try simp only [Act.put, List.setIfInBounds_toArray, List.set_cons_zero, List.set_cons_succ])
    refine hK.out _ _ V2.out (fun hHeld => ?_)
    clear hK K
    refine wpAnyH_take (i := 4) (oi := ⟨some 5, _, _, _, _, _⟩) (v := (.pointer (some ⟨S, 0, none⟩))) rfl (by kernel_rfl) (by kernel_rfl) (by kernel_rfl) (fun _ _ _ h => h) (Or.inl ⟨by rfl, ?_⟩) (by assumption) ?_
    · intro w' hS; go_simp; try with_reducible rfl
    simp only [Act.put, List.setIfInBounds_toArray, List.set_cons_zero, List.set_cons_succ]
    refine wpAnyH_take (i := 5) (oi := ⟨some 6, _, _, _, _, _⟩) (v := (.pointer (some ⟨T, 0, none⟩))) rfl (by kernel_rfl) (by kernel_rfl) (by kernel_rfl) (fun _ _ _ h => h) (Or.inl ⟨by rfl, ?_⟩) (by assumption) ?_
    · intro w' hS; go_simp; try with_reducible rfl
    simp only [Act.put, List.setIfInBounds_toArray, List.set_cons_zero, List.set_cons_succ]
    refine wpAnyH_done (by kernel_rfl) ?_ _
    go_wp2_with fail
    go_meet
    exact ⟨S, T, rfl, rfl, HS2.out, HT.out, HLO.out.1, by have := HLO.out; have := HLO2.out; omega, V2.out⟩
  case rest =>
  obtain ⟨S, T, rfl, rfl, hs, ht, hlo, hlt, bb⟩ := hcut
  have HS := Lib.hid hs
  have HT := Lib.hid ht
  have HL : Hid (w.heap.size ≤ S ∧ w.heap.size ≤ T ∧ ¬ T = S) := Lib.hid (by have := F2.out.size; omega)
  have F3 := Lib.hid (F2.out.trans (bb.mono F2.out.size))
  clear hs ht hlo hlt bb F2 X2
  generalize wc = w3 at *
  go_upto_if 25 with fail
  go_cut [1] from 11 (fun v1 wx => ∃ k : Nat, v1 = .slice A1 k c1 ∧ k ≤ 200 ∧ k ≤ k1 ∧ wx = w3)
  case first =>
    by_cases h200 : 200 < k1
    · have d1 : decide ((200 : Int) < (k1 : Int)) = true := decide_eq_true (by omega)
      have d2 : decide (200 < k1) = true := decide_eq_true h200
      have d3 : 200 ≤ c1 := by have := HKC.out; omega
      have d4 : decide (200 ≤ c1) = true := decide_eq_true d3
      have d5 : decide ((200 : Int) ≤ (c1 : Int)) = true := decide_eq_true (by omega)
      have d6 : ¬ c1 = 0 := by omega
      go_wp2_with fail
      go_meet
      exact ⟨200, rfl, by omega, by omega, rfl⟩
    · have d1 : decide ((200 : Int) < (k1 : Int)) = false := decide_eq_false (by omega)
      have d2 : decide (200 < k1) = false := decide_eq_false h200
      go_wp2_with fail
      go_meet
      exact ⟨k1, rfl, by omega, by omega, rfl⟩
  case rest =>
  obtain ⟨k, rfl, hk200, hkk, rfl⟩ := hcut
  generalize wc = w3 at *
  have m1 : IntKind.i64.wrap (40 * (k : Int)) = ((40 * k : Nat) : Int) := by rw [IntKind.wrap_i64] <;> omega
  have m2 : IntKind.i64.wrap (((40 * k : Nat) : Int) + 8) = ((40 * k + 8 : Nat) : Int) := by rw [IntKind.wrap_i64] <;> omega
  have m3 : IntKind.i64.wrap (40 * (k : Int) + 8) = ((40 * k + 8 : Nat) : Int) := by rw [IntKind.wrap_i64] <;> omega
  go_wp2_with fail
  obtain ⟨M, hM⟩ : ∃ M, M = 40 * k + 8 := ⟨_, rfl⟩
  rw [show (40 * (k : Int) + 8) = ((M : Nat) : Int) from by omega]
  refine (bytes_some T M ks 0 w3 HT.out HK.out BK.out (by omega) (by omega)).mono ?_
  rintro e w4 ⟨v, rfl, ho, ht, hf⟩
  have HS4 := Lib.hid (HS.out.keep HT.out (Ne.symm HL.out.2.2) hf)
  have F4 := Lib.hid (F3.out.trans (hf.below (B := w.heap.size) F3.out.size (fun j hj => by rw [hj]; exact HL.out.2.1)))
  have hoo := ho
  rcases hoo.form with ⟨h1, h2⟩ | ⟨g, c2, rest, h1, -⟩
  · have := rowL_len ks 0 M; rw [h2] at this; simp at this; omega
  rw [rowL_len] at h1
  subst h1
  have HTL : Hid (Tail w4 g c2 ks M) := Lib.hid (ho.lower (Nat.zero_le _))
  have HME := Lib.hid hM
  clear ho hoo ht hf HS F3 HT hM
  have hl1 : ((M : Int) != (M : Int)) = false := by simp
  have mm : (40 * (k : Int) + 8) = ((M : Nat) : Int) := by have := HME.out; omega
  go_wp2_with fail
  clear m1 m2 m3 hl1 mm
  go_loopw [8, 9] (fun z8 z9 wx => ∃ (i a : Nat), z8 = .int .i64 a ∧ z9 = .int .i64 i ∧ Hid (i ≤ k ∧ a ≤ 40 * i) ∧ Hid (Src wx S ks a) ∧ Hid (Tail wx g c2 ks M) ∧ Hid (Below w.heap.size w wx)) (fun _ z9 _ => k - (intOf z9).toNat)
  case atStart => exact ⟨0, 0, rfl, rfl, Lib.hid (by omega), HS4, HTL, F4⟩
  case round =>
    obtain ⟨i, a, rfl, rfl, HI, SA, TA, WA⟩ := hrel
    clear HS4 HTL F4
    have HCP : Hid (M ≤ c2) := Lib.hid TA.out.cap
    have hi0 : i ≤ 200 ∧ a ≤ 8000 := by have := HI.out; omega
    have m1 : IntKind.i64.wrap ((i : Int) + 1) = ((i + 1 : Nat) : Int) := by rw [IntKind.wrap_i64] <;> omega
    have HRD : Hid (Rd wr .u8 (some ⟨g, a, none⟩) (rowL ks a (M - a))) := Lib.hid (TA.out.rd (by have := HI.out; have := HME.out; omega))
    have HGS : Hid (¬ g = S) := Lib.hid (by
      obtain ⟨A', c', nx, r, h1, -⟩ := SA.out
      exact own_neB TA.out h1 (by decide) rfl)
    have hsl1 : a ≤ M := by have := HI.out; have := HME.out; omega
    have hsl2 : ¬ c2 = a := by have := HI.out; have := HME.out; have := HCP.out; omega
    have hsl3 : ¬ M = a := by have := HI.out; have := HME.out; omega
    have HSL := Lib.hid (And.intro hsl1 (And.intro hsl2 hsl3))
    clear hsl1 hsl2 hsl3
    by_cases hi1 : i < k
    · have d1 : decide ((i : Int) < (k : Int)) = true := decide_eq_true (by omega)
      have d2 : decide (i < k) = true := decide_eq_true hi1
      obtain ⟨b, off, hA1, hbl1, hrg⟩ := (HS1.out.below WA.out) i (by omega)
      cases hA1
      have HRG := Lib.hid hrg
      have HBL := Lib.hid hbl1
      have hik1 : decide ((i : Int) < (k : Int)) = true := d1
      clear hrg hbl1
      go_upto_region 15 with fail
      go_cut [10] from 47 to 60 (fun v10 wx => ∃ q : Nat, v10 = .int .i64 q ∧ q ≤ 40 ∧ Src wx S ks (a + q) ∧ Fr (fun b => b = S) wr wx)
      case first =>
        refine wp_region_held_drew (S := fun w' => Fr (fun b => b = S) wr w') (by kernel_rfl) ((Fr.refl _ wr).drew) (fun hHeld => ?_)
        have V0 : Hid (Below wr.heap.size wr wr.drew) := Lib.hid (Below.refl wr.heap.size wr).drew
        have S0 := Lib.hid (SA.out.below V0.out)
        have R0 := Lib.hid (HRD.out.below V0.out)
        generalize wr.drew = v0 at V0 hHeld S0 R0 ⊢
        have HBS : Hid (¬ b = S) := Lib.hid (by
          intro e
          obtain ⟨b2, off2, hA2, hbl2, -⟩ := HS1.out i (by omega)
          injection hA2 with hA2
          injection hA2 with hA2
          have := HL.out.1
          omega)
        refine wpAnyH_take (i := 0) (oi := ⟨some 47, _, _, _, _, _⟩) (v := (.pointer (some ⟨S, 0, none⟩))) rfl (by kernel_rfl) (by kernel_rfl) (by kernel_rfl) (fun _ _ _ h => h) (Or.inl ⟨by rfl, ?_⟩) (by assumption) ?_
        · intro w' hS; go_simp; try with_reducible rfl
        simp only [Act.put, List.setIfInBounds_toArray, List.set_cons_zero, List.set_cons_succ]
        refine wpAnyH_take (i := 1) (oi := ⟨some 48, _, _, _, _, _⟩) (v := (.slice (some ⟨b, off, none⟩) k c1)) rfl (by kernel_rfl) (by kernel_rfl) (by kernel_rfl) (fun _ _ _ h => h) (Or.inl ⟨by rfl, ?_⟩) (by assumption) ?_
        · intro w' hS; go_simp; try with_reducible rfl
        simp only [Act.put, List.setIfInBounds_toArray, List.set_cons_zero, List.set_cons_succ]
        refine wpAnyH_take (i := 2) (oi := ⟨some 49, _, _, _, _, _⟩) (v := (.int .i64 i)) rfl (by kernel_rfl) (by kernel_rfl) (by kernel_rfl) (fun _ _ _ h => h) (Or.inl ⟨by rfl, ?_⟩) (by assumption) ?_
        · intro w' hS; go_simp; try with_reducible rfl
        simp only [Act.put, List.setIfInBounds_toArray, List.set_cons_zero, List.set_cons_succ]
        refine wpAnyH_take (i := 3) (oi := ⟨some 50, _, _, _, _, _⟩) (v := (.pointer (some ⟨b, off + i * 6, none⟩))) rfl (by kernel_rfl) (by kernel_rfl) (by kernel_rfl) (fun _ _ _ h => h) (Or.inl ⟨by rfl, ?_⟩) (by assumption) ?_
        · intro w' hS; go_simp; try with_reducible rfl
        simp only [Act.put, List.setIfInBounds_toArray, List.set_cons_zero, List.set_cons_succ]
        refine wpAnyH_take (i := 4) (oi := ⟨some 51, _, _, _, _, _⟩) (v := (.agg (f1 i).cells.toArray)) rfl (by kernel_rfl) (by kernel_rfl) (by kernel_rfl) (fun _ _ _ h => h) (Or.inl ⟨by rfl, ?_⟩) (by assumption) ?_
        · intro w' hS; exact exec_load_mid 64 _ rfl b (off + i * 6) (by rfl) (f1 i).cells _ (range_of_block HRG.out (hS.block b HBL.out (HBS.out))) Try.underlying64 rfl info64
        simp only [Act.put, List.setIfInBounds_toArray, List.set_cons_zero, List.set_cons_succ]
        refine wpAnyH_take (i := 5) (oi := ⟨some 52, _, _, _, _, _⟩) (v := (.slice (some ⟨g, 0, none⟩) M c2)) rfl (by kernel_rfl) (by kernel_rfl) (by kernel_rfl) (fun _ _ _ h => h) (Or.inl ⟨by rfl, ?_⟩) (by assumption) ?_
        · intro w' hS; go_simp; try with_reducible rfl
        simp only [Act.put, List.setIfInBounds_toArray, List.set_cons_zero, List.set_cons_succ]
        refine wpAnyH_take (i := 6) (oi := ⟨some 53, _, _, _, _, _⟩) (v := (.int .i64 a)) rfl (by kernel_rfl) (by kernel_rfl) (by kernel_rfl) (fun _ _ _ h => h) (Or.inl ⟨by rfl, ?_⟩) (by assumption) ?_
        · intro w' hS; go_simp; try with_reducible rfl
        simp only [Act.put, List.setIfInBounds_toArray, List.set_cons_zero, List.set_cons_succ]
        refine wpAnyH_take (i := 7) (oi := ⟨some 54, _, _, _, _, _⟩) (v := (.slice (some ⟨g, a, none⟩) ((M - a : Nat)) ((c2 - a : Nat)))) rfl (by kernel_rfl) (by kernel_rfl) (by kernel_rfl) (fun _ _ _ h => h) (Or.inl ⟨by rfl, ?_⟩) (by assumption) ?_
        · intro w' hS; have z1 : a ≤ M := HSL.out.1; have z2 : ¬ c2 = a := HSL.out.2.1; have z3 : ¬ M = a := HSL.out.2.2; have z4 : M ≤ c2 := HCP.out; have z5 : a ≤ c2 := (by omega); have z6 : ¬ c2 - a = 0 := (by omega); have z7 : ((M : Int) - (a : Int)).toNat = M - a := (by omega); have z8 : ((c2 : Int) - (a : Int)).toNat = c2 - a := (by omega); go_simp; try with_reducible rfl
        simp only [Act.put, List.setIfInBounds_toArray, List.set_cons_zero, List.set_cons_succ]
        refine wpAnyH_ready (rs := [8]) (by kernel_rfl) (by simp) ?_
        refine AllReadyH.cons (o := ⟨some 55, _, _, _, _, _⟩) rfl (fun K hK => ?_) AllReadyH.nil
        rw [if_pos (by rfl)]
        go_simp
        refine (told_step S ks a (M - a) (c2 - a) (some ⟨g, a, none⟩) (f1 i).d (f1 i).u (f1 i).n (f1 i).m (f1 i).x (f1 i).o v0 S0.out HK.out BK.out R0.out (fun z hz => by injection hz with hz; rw [← hz]; exact HGS.out) (by have := HI.out; have := HME.out; omega) (by have := HCP.out; omega) (by have := HME.out; omega)).mono ?_
        rintro e' v1 ⟨q, rfl, hq, hs, hf⟩
        have G1 : Hid (Fr (fun b => b = S) wr v1) := Lib.hid ((Fr.of_below V0.out _).trans hf)
        have S1 := Lib.hid hs
        clear hs hf V0 S0 R0
        dsimp only
        (try simp only [Act.put, List.setIfInBounds_toArray, List.set_cons_zero, List.set_cons_succ])
        refine hK.out _ _ G1.out (fun hHeld => ?_)
        clear hK K
        refine wpAnyH_take (i := 9) (oi := ⟨some 10, _, _, _, _, _⟩) (v := (.int .i64 (q : Nat))) rfl (by kernel_rfl) (by kernel_rfl) (by kernel_rfl) (fun _ _ _ h => h) (Or.inl ⟨by rfl, ?_⟩) (by assumption) ?_
        · intro w' hS; go_simp; try with_reducible rfl
        simp only [Act.put, List.setIfInBounds_toArray, List.set_cons_zero, List.set_cons_succ]
        refine wpAnyH_done (by kernel_rfl) ?_ _
        go_wp2_with fail
        go_meet
        exact ⟨q, rfl, hq, S1.out, G1.out⟩
      case rest =>
        obtain ⟨q, rfl, hq, hs, hf⟩ := hcut
        have SB := Lib.hid hs
        have TB : Hid (Tail wc g c2 ks M) := Lib.hid (Own.keepS TA.out SA.out (by decide) hf)
        have WB := Lib.hid (WA.out.trans (hf.below (B := w.heap.size) WA.out.size (fun j hj => by rw [hj]; exact HL.out.1)))
        clear hs hf
        have m2 : IntKind.i64.wrap ((a : Int) + (q : Int)) = ((a + q : Nat) : Int) := by rw [IntKind.wrap_i64] <;> omega
        have hq0 : decide ((q : Int) < 0) = false := by simp
        go_wp2_with fail
        go_roundw
        case rel => exact ⟨i + 1, a + q, by go_num, by go_num, Lib.hid (by have := HI.out; omega), SB, TB, WB⟩
        case measure => simp [intOf]; omega
    · have d1 : decide ((i : Int) < (k : Int)) = false := decide_eq_false (by omega)
      have d2 : decide (i < k) = false := decide_eq_false hi1
      go_upto_region 19 with fail
      refine wp_region_held_drew (S := fun w' => Fr (fun b => b = S) wr w') (by kernel_rfl) ((Fr.refl _ wr).drew) (fun hHeld => ?_)
      have V0 : Hid (Below wr.heap.size wr wr.drew) := Lib.hid (Below.refl wr.heap.size wr).drew
      have S0 := Lib.hid (SA.out.below V0.out)
      have R0 := Lib.hid (HRD.out.below V0.out)
      generalize wr.drew = v0 at V0 hHeld S0 R0 ⊢
      refine wpAnyH_take (i := 0) (oi := ⟨some 61, _, _, _, _, _⟩) (v := (.pointer (some ⟨S, 0, none⟩))) rfl (by kernel_rfl) (by kernel_rfl) (by kernel_rfl) (fun _ _ _ h => h) (Or.inl ⟨by rfl, ?_⟩) (by assumption) ?_
      · intro w' hS; go_simp; try with_reducible rfl
      simp only [Act.put, List.setIfInBounds_toArray, List.set_cons_zero, List.set_cons_succ]
      refine wpAnyH_take (i := 2) (oi := ⟨some 63, _, _, _, _, _⟩) (v := (.slice (some ⟨g, 0, none⟩) M c2)) rfl (by kernel_rfl) (by kernel_rfl) (by kernel_rfl) (fun _ _ _ h => h) (Or.inl ⟨by rfl, ?_⟩) (by assumption) ?_
      · intro w' hS; go_simp; try with_reducible rfl
      simp only [Act.put, List.setIfInBounds_toArray, List.set_cons_zero, List.set_cons_succ]
      refine wpAnyH_take (i := 3) (oi := ⟨some 64, _, _, _, _, _⟩) (v := (.int .i64 a)) rfl (by kernel_rfl) (by kernel_rfl) (by kernel_rfl) (fun _ _ _ h => h) (Or.inl ⟨by rfl, ?_⟩) (by assumption) ?_
      · intro w' hS; go_simp; try with_reducible rfl
      simp only [Act.put, List.setIfInBounds_toArray, List.set_cons_zero, List.set_cons_succ]
      refine wpAnyH_take (i := 4) (oi := ⟨some 65, _, _, _, _, _⟩) (v := (.slice (some ⟨g, a, none⟩) ((M - a : Nat)) ((c2 - a : Nat)))) rfl (by kernel_rfl) (by kernel_rfl) (by kernel_rfl) (fun _ _ _ h => h) (Or.inl ⟨by rfl, ?_⟩) (by assumption) ?_
      · intro w' hS; have z1 : a ≤ M := HSL.out.1; have z2 : ¬ c2 = a := HSL.out.2.1; have z3 : ¬ M = a := HSL.out.2.2; have z4 : M ≤ c2 := HCP.out; have z5 : a ≤ c2 := (by omega); have z6 : ¬ c2 - a = 0 := (by omega); have z7 : ((M : Int) - (a : Int)).toNat = M - a := (by omega); have z8 : ((c2 : Int) - (a : Int)).toNat = c2 - a := (by omega); go_simp; try with_reducible rfl
      simp only [Act.put, List.setIfInBounds_toArray, List.set_cons_zero, List.set_cons_succ]
      refine wpAnyH_ready (rs := [1]) (by kernel_rfl) (by simp) ?_
      refine AllReadyH.cons (o := ⟨some 62, _, _, _, _, _⟩) rfl (fun K hK => ?_) AllReadyH.nil
      rw [if_pos (by rfl)]
      go_simp
      refine (next_any S ks a v0 S0.out HK.out BK.out).mono ?_
      rintro e' v1 ⟨rfl, hs, hf⟩
      have G1 : Hid (Fr (fun b => b = S) wr v1) := Lib.hid ((Fr.of_below V0.out _).trans hf)
      have R1 := Lib.hid (R0.out.fr hf (fun z hz e => by injection hz with hz; rw [← hz] at e; exact HGS.out e))
      clear hs hf V0 S0 R0
      dsimp only
      (try simp only [Act.put, List.setIfInBounds_toArray, List.set_cons_zero, List.set_cons_succ])
      refine hK.out _ _ G1.out (fun hHeld => ?_)
      clear hK K
      refine wpAnyH_ready (rs := [5]) (by kernel_rfl) (by simp) ?_
      refine AllReadyH.cons (o := ⟨some 66, _, _, _, _, _⟩) rfl (fun K hK => ?_) AllReadyH.nil
      rw [if_pos (by rfl)]
      go_simp
      have hcc := number_any (some ⟨g, a, none⟩) (M - a) (c2 - a) (rowL ks a (M - a)) v1 (rowL_len _ _ _).symm R1.out (rowL_B8 _ _ _) (by have := HI.out; have := HME.out; omega)
      rw [numN_row ks a (M - a) (by have := HI.out; have := HME.out; omega)] at hcc
      refine hcc.mono ?_
      rintro e' v2 ⟨rfl, hw⟩
      obtain rfl : v1 = v2 := hw.symm
      clear hcc
      dsimp only
      (try simp only [Act.put, List.setIfInBounds_toArray, List.set_cons_zero, List.set_cons_succ])
      refine hK.out _ _ G1.out (fun hHeld => ?_)
      clear hK K
      refine wpAnyH_take (i := 6) (oi := ⟨some 67, _, _, _, _, _⟩) (v := (.bool true)) rfl (by kernel_rfl) (by kernel_rfl) (by kernel_rfl) (fun _ _ _ h => h) (Or.inl ⟨by rfl, ?_⟩) (by assumption) ?_
      · intro w' hS; go_simp; try with_reducible rfl
      simp only [Act.put, List.setIfInBounds_toArray, List.set_cons_zero, List.set_cons_succ]
      refine wpAnyH_take (i := 7) (oi := ⟨some 4, _, _, _, _, _⟩) (v := (.bool true)) rfl (by kernel_rfl) (by kernel_rfl) (by kernel_rfl) (fun _ _ _ h => h) (Or.inl ⟨by rfl, ?_⟩) (by assumption) ?_
      · intro w' hS; go_simp; try with_reducible rfl
      simp only [Act.put, List.setIfInBounds_toArray, List.set_cons_zero, List.set_cons_succ]
      refine wpAnyH_done (by kernel_rfl) ?_ _
      have WB := Lib.hid (WA.out.trans (G1.out.below (B := w.heap.size) WA.out.size (fun j hj => by rw [hj]; exact HL.out.1)))
      go_wp2_with fail
      go_ret
      exact ⟨rfl, HXE.out ▸ WB.out⟩
end Go.Proofs.Ytcfbaildcocnhaa

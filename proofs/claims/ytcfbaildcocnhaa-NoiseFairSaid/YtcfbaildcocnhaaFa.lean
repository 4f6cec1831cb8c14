/-
  Walk: the law NoiseFair.
-/
import Derived.Test.YtcfbaildcocnhaaRw
import Derived.Test.YtcfbaildcocnhaaLz
set_option linter.unusedVariables false
set_option linter.unusedSimpArgs false
namespace Go.Proofs.Ytcfbaildcocnhaa
open Go.RowKit

theorem below_ge {ks : List Int} {n p : Nat} (h : 0 < n) : decide ((n : Int) ≤ (belowN' ks n p : Int)) = false := by
  have : belowN' ks n p < n := Nat.mod_lt _ h
  exact decide_eq_false (by omega)
theorem count_take (l : List Int) (x : Int) (j : Nat) (h : j < l.length) : (l.take (j + 1)).count x = (l.take j).count x + (if l.getD j 0 == x then 1 else 0) := by
  rw [take_snocI l j h, List.count_append]
  congr 1
  simp [List.count_cons]
set_option maxRecDepth 100000 in
set_option maxHeartbeats 8000000 in
theorem fair_law (ks : List Int) (sd : Int) (su : Nat) (sn sm : Int) (sx : Nat) (so : Int) (w : World) (hk : ks.length = 32) (bk : B8 ks) (hu : su < 18446744073709551616) (hx : (Lit.float .f64 sx).wf = true) :
    Calls Try.prog 10 #[.agg (AY .u8 ks), .agg #[.int .i64 sd, .int .u64 (su : Nat), .int .i64 sn, .int .i64 sm, .float .f64 sx, .int .i64 so]] w fun e w' => e = .returned (.bool true) ∧ Below w.heap.size w w' := by
  have HK := Lib.hid hk
  have BK := Lib.hid bk
  have HSU := Lib.hid hu
  have HSX := Lib.hid hx
  have I53 : Hid ((Try.prog.info? 53).map (·.size) = some ks.length) := Lib.hid (by rw [info31, hk])
  clear hk bk hu hx
  go_enter Try.func10, Try.ntmps10
  go_upto_region 1 with fail
  generalize hX : w.heap.size = X
  generalize hW1 : (w.alloc _).alloc _ = w1
  have X1 : Hid (Blk w1 X 53 (ks.map (Value.int .u8))) := Lib.hid (by rw [← hW1]; exact Blk.alloc (AY_new_at .u8 w 53 ks hX.symm) _)
  have Y1 : Hid (Blk w1 (X + 1) 64 [.int .i64 sd, .int .u64 (su : Nat), .int .i64 sn, .int .i64 sm, .float .f64 sx, .int .i64 so]) := Lib.hid (by rw [← hW1]; exact Blk.new_at _ 64 [.int .i64 sd, .int .u64 (su : Nat), .int .i64 sn, .int .i64 sm, .float .f64 sx, .int .i64 so] (by rw [← hX]; simp))
  have F1 : Hid (Below w.heap.size w w1) := Lib.hid (by rw [← hW1]; exact ((Below.refl _ w).alloc (Nat.le_refl _) _).alloc (by simp) _)
  have HXE := Lib.hid hX
  clear hX hW1
  go_wp2_with fail
  refine (awake_any w1).mono ?_
  rintro e w2 ⟨rfl, bb⟩
  have X2 := Lib.hid (X1.out.below bb X1.out.lt)
  have Y2 := Lib.hid (Y1.out.below bb Y1.out.lt)
  have F2 := Lib.hid (F1.out.trans (bb.mono F1.out.size))
  clear bb X1 F1 Y1
  go_upto_region 3 with fail
  go_cut [5, 6] from 21 (fun v5 v6 wx => ∃ S T, v5 = .pointer (some ⟨S, 0, none⟩) ∧ v6 = .pointer (some ⟨T, 0, none⟩) ∧ Src wx S ks 0 ∧ Src wx T ks 0 ∧ w2.heap.size ≤ S ∧ S < T ∧ Below w2.heap.size w2 wx)
  case first =>
    refine wp_region_held_drew (S := fun w' => Below w2.heap.size w2 w') (by kernel_rfl) ((Below.refl w2.heap.size w2).drew) (fun hHeld => ?_)
    have V0 : Hid (Below w2.heap.size w2 w2.drew) := Lib.hid (Below.refl w2.heap.size w2).drew
    generalize w2.drew = v0 at V0 hHeld ⊢
    refine wpAnyH_take (i := 0) (oi := ⟨some 23, _, _, _, _, _⟩) (v := (.agg (AY .u8 ks))) rfl (by kernel_rfl) (by kernel_rfl) (by kernel_rfl) (fun _ _ _ h => h) (Or.inl ⟨by rfl, ?_⟩) (by assumption) ?_
    · intro w' hS; have hq := X2.out.below hS X2.out.lt; exact exec_load_AY 53 _ rfl X 0 (by rfl) .u8 ks _ (fun j v hv => by rw [hq.cell, Nat.zero_add]; exact hv) Try.underlying53 rfl I53.out
    simp only [Act.put, List.setIfInBounds_toArray, List.set_cons_zero, List.set_cons_succ]
    refine wpAnyH_take (i := 2) (oi := ⟨some 25, _, _, _, _, _⟩) (v := (.agg (AY .u8 ks))) rfl (by kernel_rfl) (by kernel_rfl) (by kernel_rfl) (fun _ _ _ h => h) (Or.inl ⟨by rfl, ?_⟩) (by assumption) ?_
    · intro w' hS; have hq := X2.out.below hS X2.out.lt; exact exec_load_AY 53 _ rfl X 0 (by rfl) .u8 ks _ (fun j v hv => by rw [hq.cell, Nat.zero_add]; exact hv) Try.underlying53 rfl I53.out
    simp only [Act.put, List.setIfInBounds_toArray, List.set_cons_zero, List.set_cons_succ]
    refine wpAnyH_ready (rs := [1]) (by kernel_rfl) (by simp) ?_
    refine AllReadyH.cons (o := ⟨some 24, _, _, _, _, _⟩) rfl (fun K hK => ?_) AllReadyH.nil
    rw [if_pos (by rfl)]
    go_simp
    refine (new_any ks v0 HK.out).mono ?_
    rintro e' v1 ⟨S, rfl, hlo, hs, bb⟩
    have HS := Lib.hid hs
    have V1 := Lib.hid (V0.out.trans (bb.mono V0.out.size))
    have HLO : Hid (w2.heap.size ≤ S ∧ S < v1.heap.size) := Lib.hid ⟨Nat.le_trans V0.out.size hlo, hs.lt⟩
    clear bb V0 hlo hs
    dsimp only
    (try simp only [Act.put, List.setIfInBounds_toArray, List.set_cons_zero, List.set_cons_succ])
    refine hK.out _ _ V1.out (fun hHeld => ?_)
    clear hK K
    refine wpAnyH_ready (rs := [3]) (by kernel_rfl) (by simp) ?_
    refine AllReadyH.cons (o := ⟨some 26, _, _, _, _, _⟩) rfl (fun K hK => ?_) AllReadyH.nil
    rw [if_pos (by rfl)]
    go_simp
    refine (new_any ks v1 HK.out).mono ?_
    rintro e' v2 ⟨T, rfl, hlo, hs, bb⟩
    have HT := Lib.hid hs
    have HS2 := Lib.hid (HS.out.below bb)
    have V2 := Lib.hid (V1.out.trans (bb.mono V1.out.size))
    have HLO2 : Hid (v1.heap.size ≤ T) := Lib.hid hlo
    clear bb V1 hlo hs HS
    dsimp only
    (try simp only [Act.put, List.setIfInBounds_toArray, List.set_cons_zero, List.set_cons_succ])
    refine hK.out _ _ V2.out (fun hHeld => ?_)
    clear hK K
    refine wpAnyH_take (i := 4) (oi := ⟨some 5, _, _, _, _, _⟩) (v := (.pointer (some ⟨S, 0, none⟩))) rfl (by kernel_rfl) (by kernel_rfl) (by kernel_rfl) (fun _ _ _ h => h) (Or.inl ⟨by rfl, ?_⟩) (by assumption) ?_
    · intro w' hS; go_simp; try with_reducible rfl
    simp only [Act.put, List.setIfInBounds_toArray, List.set_cons_zero, List.set_cons_succ]
    refine wpAnyH_take (i := 5) (oi := ⟨some 6, _, _, _, _, _⟩) (v := (.pointer (some ⟨T, 0, none⟩))) rfl (by kernel_rfl) (by kernel_rfl) (by kernel_rfl) (fun _ _ _ h => h) (Or.inl ⟨by rfl, ?_⟩) (by assumption) ?_
    · intro w' hS; go_simp; try with_reducible rfl
    simp only [Act.put, List.setIfInBounds_toArray, List.set_cons_zero, List.set_cons_succ]
    refine wpAnyH_done (by kernel_rfl) ?_ _
    go_wp2_with fail
    go_meet
    exact ⟨S, T, rfl, rfl, HS2.out, HT.out, HLO.out.1, by have := HLO.out; have := HLO2.out; omega, V2.out⟩
  case rest =>
  obtain ⟨S, T, rfl, rfl, hs, ht, hlo, hlt, bb⟩ := hcut
  have HS := Lib.hid hs
  have HT := Lib.hid ht
  have YL : Hid (X + 1 < w2.heap.size) := Lib.hid Y2.out.lt
  have YB := Lib.hid (Y2.out.below bb Y2.out.lt)
  have YN : Hid (¬ X + 1 = S ∧ ¬ X + 1 = T) := Lib.hid (by have := YL.out; omega)
  have HL : Hid (w.heap.size ≤ S ∧ w.heap.size ≤ T ∧ ¬ T = S) := Lib.hid (by have := F2.out.size; omega)
  have F3 := Lib.hid (F2.out.trans (bb.mono F2.out.size))
  clear hs ht hlo hlt bb F2 X2 Y2
  generalize wc = w3 at *
  generalize X + 1 = Y at *
  go_upto_region 6 with fail
  refine wp_region_held_drew (S := fun w' => Below w3.heap.size w3 w') (by kernel_rfl) ((Below.refl w3.heap.size w3).drew) (fun hHeld => ?_)
  have V0 : Hid (Below w3.heap.size w3 w3.drew) := Lib.hid (Below.refl w3.heap.size w3).drew
  generalize w3.drew = v0 at V0 hHeld ⊢
  refine wpAnyH_take (i := 0) (oi := ⟨some 34, _, _, _, _, _⟩) (v := (.pointer (some ⟨S, 0, none⟩))) rfl (by kernel_rfl) (by kernel_rfl) (by kernel_rfl) (fun _ _ _ h => h) (Or.inl ⟨by rfl, ?_⟩) (by assumption) ?_
  · intro w' hS; go_simp; try with_reducible rfl
  simp only [Act.put, List.setIfInBounds_toArray, List.set_cons_zero, List.set_cons_succ]
  refine wpAnyH_take (i := 1) (oi := ⟨some 35, _, _, _, _, _⟩) (v := (.pointer (some ⟨Y, 2, none⟩))) rfl (by kernel_rfl) (by kernel_rfl) (by kernel_rfl) (fun _ _ _ h => h) (Or.inl ⟨by rfl, ?_⟩) (by assumption) ?_
  · intro w' hS; go_simp; try with_reducible rfl
  simp only [Act.put, List.setIfInBounds_toArray, List.set_cons_zero, List.set_cons_succ]
  refine wpAnyH_take (i := 2) (oi := ⟨some 36, _, _, _, _, _⟩) (v := (.int .i64 sn)) rfl (by kernel_rfl) (by kernel_rfl) (by kernel_rfl) (fun _ _ _ h => h) (Or.inl ⟨by rfl, ?_⟩) (by assumption) ?_
  · intro w' hS; have hq := YB.out.below hS YB.out.lt; have h0 : w'.cell? ⟨Y, 2, none⟩ = some (.int .i64 sn) := hq.cell 2; clear hq; go_simp; try with_reducible rfl
  simp only [Act.put, List.setIfInBounds_toArray, List.set_cons_zero, List.set_cons_succ]
  refine wpAnyH_take (i := 3) (oi := ⟨some 37, _, _, _, _, _⟩) (v := (.pointer (some ⟨Y, 4, none⟩))) rfl (by kernel_rfl) (by kernel_rfl) (by kernel_rfl) (fun _ _ _ h => h) (Or.inl ⟨by rfl, ?_⟩) (by assumption) ?_
  · intro w' hS; go_simp; try with_reducible rfl
  simp only [Act.put, List.setIfInBounds_toArray, List.set_cons_zero, List.set_cons_succ]
  refine wpAnyH_take (i := 4) (oi := ⟨some 38, _, _, _, _, _⟩) (v := (.agg #[.float .f64 sx, .int .i64 so])) rfl (by kernel_rfl) (by kernel_rfl) (by kernel_rfl) (fun _ _ _ h => h) (Or.inl ⟨by rfl, ?_⟩) (by assumption) ?_
  · intro w' hS; have hq := YB.out.below hS YB.out.lt; have h0 : w'.cell? ⟨Y, 4, none⟩ = some (.float .f64 sx) := hq.cell 4; have h1 : w'.cell? ⟨Y, 5, none⟩ = some (.int .i64 so) := hq.cell 5; clear hq; go_simp; try with_reducible rfl
  simp only [Act.put, List.setIfInBounds_toArray, List.set_cons_zero, List.set_cons_succ]
  refine wpAnyH_ready (rs := [5]) (by kernel_rfl) (by simp) ?_
  refine AllReadyH.cons (o := ⟨some 39, _, _, _, _, _⟩) rfl (fun K hK => ?_) AllReadyH.nil
  rw [if_pos (by rfl)]
  go_simp
  refine (value_any sx so v0 HSX.out).mono ?_
  rintro e' v2 ⟨r1, rfl, hr1, -, bb⟩
  have Hr1 := Lib.hid hr1
  have V2 := Lib.hid (V0.out.trans (bb.mono V0.out.size))
  clear bb V0 hr1
  dsimp only
  (try simp only [Act.put, List.setIfInBounds_toArray, List.set_cons_zero, List.set_cons_succ])
  refine hK.out _ _ V2.out (fun hHeld => ?_)
  clear hK K
  refine wpAnyH_ready (rs := [6]) (by kernel_rfl) (by simp) ?_
  refine AllReadyH.cons (o := ⟨some 40, _, _, _, _, _⟩) rfl (fun K hK => ?_) AllReadyH.nil
  rw [if_pos (by rfl)]
  go_simp
  refine (lap_arg S sn r1 v2).mono ?_
  rintro e' v3 ⟨rfl, bb⟩
  have V3 := Lib.hid (V2.out.trans (bb.mono V2.out.size))
  clear bb V2
  dsimp only
  (try simp only [Act.put, List.setIfInBounds_toArray, List.set_cons_zero, List.set_cons_succ])
  refine hK.out _ _ V3.out (fun hHeld => ?_)
  clear hK K
  refine wpAnyH_take (i := 7) (oi := ⟨some 33, _, _, _, _, _⟩) (v := (.tuple #[.int .i64 0, .int .i64 2])) rfl (by kernel_rfl) (by kernel_rfl) (by kernel_rfl) (fun _ _ _ h => h) (Or.inl ⟨by rfl, ?_⟩) (by assumption) ?_
  · intro w' hS; go_simp; try with_reducible rfl
  simp only [Act.put, List.setIfInBounds_toArray, List.set_cons_zero, List.set_cons_succ]
  refine wpAnyH_take (i := 8) (oi := ⟨some 41, _, _, _, _, _⟩) (v := (.int .i64 0)) rfl (by kernel_rfl) (by kernel_rfl) (by kernel_rfl) (fun _ _ _ h => h) (Or.inl ⟨by rfl, ?_⟩) (by assumption) ?_
  · intro w' hS; go_simp; try with_reducible rfl
  simp only [Act.put, List.setIfInBounds_toArray, List.set_cons_zero, List.set_cons_succ]
  refine wpAnyH_take (i := 9) (oi := ⟨some 42, _, _, _, _, _⟩) (v := (.int .i64 2)) rfl (by kernel_rfl) (by kernel_rfl) (by kernel_rfl) (fun _ _ _ h => h) (Or.inl ⟨by rfl, ?_⟩) (by assumption) ?_
  · intro w' hS; go_simp; try with_reducible rfl
  simp only [Act.put, List.setIfInBounds_toArray, List.set_cons_zero, List.set_cons_succ]
  refine wpAnyH_take (i := 10) (oi := ⟨some 7, _, _, _, _, _⟩) (v := (.int .i64 0)) rfl (by kernel_rfl) (by kernel_rfl) (by kernel_rfl) (fun _ _ _ h => h) (Or.inl ⟨by rfl, ?_⟩) (by assumption) ?_
  · intro w' hS; go_simp; try with_reducible rfl
  simp only [Act.put, List.setIfInBounds_toArray, List.set_cons_zero, List.set_cons_succ]
  refine wpAnyH_take (i := 11) (oi := ⟨some 8, _, _, _, _, _⟩) (v := (.int .i64 2)) rfl (by kernel_rfl) (by kernel_rfl) (by kernel_rfl) (fun _ _ _ h => h) (Or.inl ⟨by rfl, ?_⟩) (by assumption) ?_
  · intro w' hS; go_simp; try with_reducible rfl
  simp only [Act.put, List.setIfInBounds_toArray, List.set_cons_zero, List.set_cons_succ]
  refine wpAnyH_done (by kernel_rfl) ?_ _
  replace HS := Lib.hid (HS.out.below V3.out)
  replace HT := Lib.hid (HT.out.below V3.out)
  replace YB := Lib.hid (YB.out.below V3.out YB.out.lt)
  replace F3 := Lib.hid (F3.out.trans (V3.out.mono F3.out.size))
  clear V3
  generalize v3 = w4 at *
  go_upto_region 7 with fail
  refine wp_region_held_drew (S := fun w' => Below w4.heap.size w4 w') (by kernel_rfl) ((Below.refl w4.heap.size w4).drew) (fun hHeld => ?_)
  have V0 : Hid (Below w4.heap.size w4 w4.drew) := Lib.hid (Below.refl w4.heap.size w4).drew
  generalize w4.drew = v0 at V0 hHeld ⊢
  refine wpAnyH_take (i := 0) (oi := ⟨some 44, _, _, _, _, _⟩) (v := (.pointer (some ⟨Y, 2, none⟩))) rfl (by kernel_rfl) (by kernel_rfl) (by kernel_rfl) (fun _ _ _ h => h) (Or.inl ⟨by rfl, ?_⟩) (by assumption) ?_
  · intro w' hS; go_simp; try with_reducible rfl
  simp only [Act.put, List.setIfInBounds_toArray, List.set_cons_zero, List.set_cons_succ]
  refine wpAnyH_take (i := 1) (oi := ⟨some 45, _, _, _, _, _⟩) (v := (.int .i64 sn)) rfl (by kernel_rfl) (by kernel_rfl) (by kernel_rfl) (fun _ _ _ h => h) (Or.inl ⟨by rfl, ?_⟩) (by assumption) ?_
  · intro w' hS; have hq := YB.out.below hS YB.out.lt; have h0 : w'.cell? ⟨Y, 2, none⟩ = some (.int .i64 sn) := hq.cell 2; clear hq; go_simp; try with_reducible rfl
  simp only [Act.put, List.setIfInBounds_toArray, List.set_cons_zero, List.set_cons_succ]
  refine wpAnyH_take (i := 2) (oi := ⟨some 46, _, _, _, _, _⟩) (v := (.pointer (some ⟨Y, 4, none⟩))) rfl (by kernel_rfl) (by kernel_rfl) (by kernel_rfl) (fun _ _ _ h => h) (Or.inl ⟨by rfl, ?_⟩) (by assumption) ?_
  · intro w' hS; go_simp; try with_reducible rfl
  simp only [Act.put, List.setIfInBounds_toArray, List.set_cons_zero, List.set_cons_succ]
  refine wpAnyH_take (i := 3) (oi := ⟨some 47, _, _, _, _, _⟩) (v := (.agg #[.float .f64 sx, .int .i64 so])) rfl (by kernel_rfl) (by kernel_rfl) (by kernel_rfl) (fun _ _ _ h => h) (Or.inl ⟨by rfl, ?_⟩) (by assumption) ?_
  · intro w' hS; have hq := YB.out.below hS YB.out.lt; have h0 : w'.cell? ⟨Y, 4, none⟩ = some (.float .f64 sx) := hq.cell 4; have h1 : w'.cell? ⟨Y, 5, none⟩ = some (.int .i64 so) := hq.cell 5; clear hq; go_simp; try with_reducible rfl
  simp only [Act.put, List.setIfInBounds_toArray, List.set_cons_zero, List.set_cons_succ]
  refine wpAnyH_take (i := 5) (oi := ⟨some 49, _, _, _, _, _⟩) (v := (.pointer (some ⟨Y, 3, none⟩))) rfl (by kernel_rfl) (by kernel_rfl) (by kernel_rfl) (fun _ _ _ h => h) (Or.inl ⟨by rfl, ?_⟩) (by assumption) ?_
  · intro w' hS; go_simp; try with_reducible rfl
  simp only [Act.put, List.setIfInBounds_toArray, List.set_cons_zero, List.set_cons_succ]
  refine wpAnyH_take (i := 6) (oi := ⟨some 50, _, _, _, _, _⟩) (v := (.int .i64 sm)) rfl (by kernel_rfl) (by kernel_rfl) (by kernel_rfl) (fun _ _ _ h => h) (Or.inl ⟨by rfl, ?_⟩) (by assumption) ?_
  · intro w' hS; have hq := YB.out.below hS YB.out.lt; have h0 : w'.cell? ⟨Y, 3, none⟩ = some (.int .i64 sm) := hq.cell 3; clear hq; go_simp; try with_reducible rfl
  simp only [Act.put, List.setIfInBounds_toArray, List.set_cons_zero, List.set_cons_succ]
  refine wpAnyH_ready (rs := [4]) (by kernel_rfl) (by simp) ?_
  refine AllReadyH.cons (o := ⟨some 48, _, _, _, _, _⟩) rfl (fun K hK => ?_) AllReadyH.nil
  rw [if_pos (by rfl)]
  go_simp
  refine (value_any sx so v0 HSX.out).mono ?_
  rintro e' v2 ⟨r2, rfl, hr2, -, bb⟩
  have Hr2 := Lib.hid hr2
  have V2 := Lib.hid (V0.out.trans (bb.mono V0.out.size))
  clear bb V0 hr2
  dsimp only
  (try simp only [Act.put, List.setIfInBounds_toArray, List.set_cons_zero, List.set_cons_succ])
  refine hK.out _ _ V2.out (fun hHeld => ?_)
  clear hK K
  refine wpAnyH_ready (rs := [7]) (by kernel_rfl) (by simp) ?_
  refine AllReadyH.cons (o := ⟨some 51, _, _, _, _, _⟩) rfl (fun K hK => ?_) AllReadyH.nil
  rw [if_pos (by rfl)]
  go_simp
  refine (lap_nil sn sm r2 v2).mono ?_
  rintro e' v3 ⟨rfl, bb⟩
  have V3 := Lib.hid (V2.out.trans (bb.mono V2.out.size))
  clear bb V2
  dsimp only
  (try simp only [Act.put, List.setIfInBounds_toArray, List.set_cons_zero, List.set_cons_succ])
  refine hK.out _ _ V3.out (fun hHeld => ?_)
  clear hK K
  refine wpAnyH_take (i := 8) (oi := ⟨some 43, _, _, _, _, _⟩) (v := (.tuple #[.int .i64 0, .int .i64 1])) rfl (by kernel_rfl) (by kernel_rfl) (by kernel_rfl) (fun _ _ _ h => h) (Or.inl ⟨by rfl, ?_⟩) (by assumption) ?_
  · intro w' hS; go_simp; try with_reducible rfl
  simp only [Act.put, List.setIfInBounds_toArray, List.set_cons_zero, List.set_cons_succ]
  refine wpAnyH_take (i := 9) (oi := ⟨some 52, _, _, _, _, _⟩) (v := (.int .i64 0)) rfl (by kernel_rfl) (by kernel_rfl) (by kernel_rfl) (fun _ _ _ h => h) (Or.inl ⟨by rfl, ?_⟩) (by assumption) ?_
  · intro w' hS; go_simp; try with_reducible rfl
  simp only [Act.put, List.setIfInBounds_toArray, List.set_cons_zero, List.set_cons_succ]
  refine wpAnyH_take (i := 10) (oi := ⟨some 53, _, _, _, _, _⟩) (v := (.int .i64 1)) rfl (by kernel_rfl) (by kernel_rfl) (by kernel_rfl) (fun _ _ _ h => h) (Or.inl ⟨by rfl, ?_⟩) (by assumption) ?_
  · intro w' hS; go_simp; try with_reducible rfl
  simp only [Act.put, List.setIfInBounds_toArray, List.set_cons_zero, List.set_cons_succ]
  refine wpAnyH_take (i := 11) (oi := ⟨some 9, _, _, _, _, _⟩) (v := (.int .i64 0)) rfl (by kernel_rfl) (by kernel_rfl) (by kernel_rfl) (fun _ _ _ h => h) (Or.inl ⟨by rfl, ?_⟩) (by assumption) ?_
  · intro w' hS; go_simp; try with_reducible rfl
  simp only [Act.put, List.setIfInBounds_toArray, List.set_cons_zero, List.set_cons_succ]
  refine wpAnyH_take (i := 12) (oi := ⟨some 10, _, _, _, _, _⟩) (v := (.int .i64 1)) rfl (by kernel_rfl) (by kernel_rfl) (by kernel_rfl) (fun _ _ _ h => h) (Or.inl ⟨by rfl, ?_⟩) (by assumption) ?_
  · intro w' hS; go_simp; try with_reducible rfl
  simp only [Act.put, List.setIfInBounds_toArray, List.set_cons_zero, List.set_cons_succ]
  refine wpAnyH_done (by kernel_rfl) ?_ _
  replace HS := Lib.hid (HS.out.below V3.out)
  replace HT := Lib.hid (HT.out.below V3.out)
  replace YB := Lib.hid (YB.out.below V3.out YB.out.lt)
  replace F3 := Lib.hid (F3.out.trans (V3.out.mono F3.out.size))
  clear V3
  generalize v3 = w5 at *
  have q0 := fbelow_none (some ⟨S, 0, none⟩) 0 w5 (.inr rfl)
  rw [show ((0 : Nat) : Int) = 0 from rfl] at q0
  go_wp2_with fail
  refine q0.mono ?_
  rintro e w6 ⟨rfl, hw⟩
  obtain rfl : w5 = w6 := hw.symm
  clear q0
  go_wp2_with fail
  refine (bytes_none (some ⟨S, 0, none⟩) 0 w5 (.inr (.inl (by decide)))).mono ?_
  rintro e w6 ⟨rfl, hw⟩
  obtain rfl : w5 = w6 := hw.symm
  go_wp2_with fail
  refine (bytes_none (some ⟨S, 0, none⟩) (-1) w5 (.inr (.inl (by decide)))).mono ?_
  rintro e w6 ⟨rfl, hw⟩
  obtain rfl : w5 = w6 := hw.symm
  go_wp2_with fail
  refine (bytes_none (some ⟨S, 0, none⟩) 1048577 w5 (.inr (.inr (by decide)))).mono ?_
  rintro e w6 ⟨rfl, hw⟩
  obtain rfl : w5 = w6 := hw.symm
  go_wp2_with fail
  refine (shuffle_none S 0 w5 (.inl (by decide))).mono ?_
  rintro e w6 ⟨rfl, hw⟩
  obtain rfl : w5 = w6 := hw.symm
  go_wp2_with fail
  refine (shuffle_none S 65537 w5 (.inr (by decide))).mono ?_
  rintro e w6 ⟨rfl, hw⟩
  obtain rfl : w5 = w6 := hw.symm
  go_wp2_with fail
  refine (next_any S ks 0 w5 HS.out HK.out BK.out).mono ?_
  rintro e w6 ⟨rfl, hs, hf⟩
  replace HT := Lib.hid (HT.out.keep HS.out HL.out.2.2 hf)
  replace YB := Lib.hid (YB.out.fr hf YN.out.1)
  replace F3 := Lib.hid (F3.out.trans (hf.below (B := w.heap.size) F3.out.size (fun j hj => by rw [hj]; exact HL.out.1)))
  replace HS := Lib.hid hs
  clear hs hf
  go_wp2_with fail
  refine (next_any T ks 0 w6 HT.out HK.out BK.out).mono ?_
  rintro e w7 ⟨rfl, hs, hf⟩
  replace HS := Lib.hid (HS.out.keep HT.out (Ne.symm HL.out.2.2) hf)
  replace YB := Lib.hid (YB.out.fr hf YN.out.2)
  replace F3 := Lib.hid (F3.out.trans (hf.below (B := w.heap.size) F3.out.size (fun j hj => by rw [hj]; exact HL.out.2.1)))
  clear hs hf HT
  generalize numN ks 0 = N
  go_upto_region 10 with fail
  go_cut [121] from 110 (fun v121 wx => v121 = .bool false ∧ ∃ p, Src wx S ks p ∧ Fr (fun b => b = S) w7 wx)
  case first =>
    by_cases hu0 : su = 0
    · have hz : Hid ((su : Int) = 0) := Lib.hid (by omega)
      refine wp_region_held_drew (S := fun w' => Fr (fun b => b = S) w7 w') (by kernel_rfl) ((Fr.refl _ w7).drew) (fun hHeld => ?_)
      have V0 : Hid (Below w7.heap.size w7 w7.drew) := Lib.hid (Below.refl w7.heap.size w7).drew
      have S0 := Lib.hid (HS.out.below V0.out)
      generalize w7.drew = v0 at V0 hHeld S0 ⊢
      refine wpAnyH_take (i := 0) (oi := ⟨some 110, _, _, _, _, _⟩) (v := (.pointer (some ⟨Y, 1, none⟩))) rfl (by kernel_rfl) (by kernel_rfl) (by kernel_rfl) (fun _ _ _ h => h) (Or.inl ⟨by rfl, ?_⟩) (by assumption) ?_
      · intro w' hS; go_simp; try with_reducible rfl
      simp only [Act.put, List.setIfInBounds_toArray, List.set_cons_zero, List.set_cons_succ]
      refine wpAnyH_take (i := 1) (oi := ⟨some 111, _, _, _, _, _⟩) (v := (.int .u64 (su : Nat))) rfl (by kernel_rfl) (by kernel_rfl) (by kernel_rfl) (fun _ _ _ h => h) (Or.inl ⟨by rfl, ?_⟩) (by assumption) ?_
      · intro w' hS; have hq := YB.out.fr hS YN.out.1; have h0 : w'.cell? ⟨Y, 1, none⟩ = some (.int .u64 (su : Nat)) := hq.cell 1; clear hq; go_simp; try with_reducible rfl
      simp only [Act.put, List.setIfInBounds_toArray, List.set_cons_zero, List.set_cons_succ]
      refine wpAnyH_take (i := 2) (oi := ⟨some 112, _, _, _, _, _⟩) (v := (.bool false)) rfl (by kernel_rfl) (by kernel_rfl) (by kernel_rfl) (fun _ _ _ h => h) (Or.inl ⟨by rfl, ?_⟩) (by assumption) ?_
      · intro w' hS; have z1 : decide ((0 : Int) < (su : Int)) = false := decide_eq_false (by have := hz.out; omega); have z2 : decide (0 < su) = false := decide_eq_false (by have := hz.out; omega); go_simp; try with_reducible rfl
      simp only [Act.put, List.setIfInBounds_toArray, List.set_cons_zero, List.set_cons_succ]
      refine wpAnyH_take (i := 3) (oi := ⟨some 113, _, _, _, _, _⟩) (v := (.bool false)) rfl (by kernel_rfl) (by kernel_rfl) (by kernel_rfl) (fun _ _ _ h => h) (Or.inl ⟨by rfl, ?_⟩) (by assumption) ?_
      · intro w' hS; go_simp; try with_reducible rfl
      simp only [Act.put, List.setIfInBounds_toArray, List.set_cons_zero, List.set_cons_succ]
      refine wpAnyH_take (i := 4) (oi := ⟨some 114, _, _, _, _, _⟩) (v := undef) rfl (by kernel_rfl) (by kernel_rfl) (by kernel_rfl) (fun _ _ _ h => h) (Or.inr ⟨by rfl, by rfl⟩) (by assumption) ?_
      simp only [Act.put, List.setIfInBounds_toArray, List.set_cons_zero, List.set_cons_succ]
      refine wpAnyH_take (i := 5) (oi := ⟨some 115, _, _, _, _, _⟩) (v := undef) rfl (by kernel_rfl) (by kernel_rfl) (by kernel_rfl) (fun _ _ _ h => h) (Or.inr ⟨by rfl, by rfl⟩) (by assumption) ?_
      simp only [Act.put, List.setIfInBounds_toArray, List.set_cons_zero, List.set_cons_succ]
      refine wpAnyH_take (i := 6) (oi := ⟨some 116, _, _, _, _, _⟩) (v := undef) rfl (by kernel_rfl) (by kernel_rfl) (by kernel_rfl) (fun _ _ _ h => h) (Or.inr ⟨by rfl, by rfl⟩) (by assumption) ?_
      simp only [Act.put, List.setIfInBounds_toArray, List.set_cons_zero, List.set_cons_succ]
      refine wpAnyH_take (i := 7) (oi := ⟨some 117, _, _, _, _, _⟩) (v := undef) rfl (by kernel_rfl) (by kernel_rfl) (by kernel_rfl) (fun _ _ _ h => h) (Or.inr ⟨by rfl, by rfl⟩) (by assumption) ?_
      simp only [Act.put, List.setIfInBounds_toArray, List.set_cons_zero, List.set_cons_succ]
      refine wpAnyH_take (i := 8) (oi := ⟨some 118, _, _, _, _, _⟩) (v := undef) rfl (by kernel_rfl) (by kernel_rfl) (by kernel_rfl) (fun _ _ _ h => h) (Or.inr ⟨by rfl, by rfl⟩) (by assumption) ?_
      simp only [Act.put, List.setIfInBounds_toArray, List.set_cons_zero, List.set_cons_succ]
      refine wpAnyH_take (i := 9) (oi := ⟨some 119, _, _, _, _, _⟩) (v := undef) rfl (by kernel_rfl) (by kernel_rfl) (by kernel_rfl) (fun _ _ _ h => h) (Or.inr ⟨by rfl, by rfl⟩) (by assumption) ?_
      simp only [Act.put, List.setIfInBounds_toArray, List.set_cons_zero, List.set_cons_succ]
      refine wpAnyH_take (i := 10) (oi := ⟨some 120, _, _, _, _, _⟩) (v := undef) rfl (by kernel_rfl) (by kernel_rfl) (by kernel_rfl) (fun _ _ _ h => h) (Or.inr ⟨by rfl, by rfl⟩) (by assumption) ?_
      simp only [Act.put, List.setIfInBounds_toArray, List.set_cons_zero, List.set_cons_succ]
      refine wpAnyH_take (i := 11) (oi := ⟨some 121, _, _, _, _, _⟩) (v := (.bool false)) rfl (by kernel_rfl) (by kernel_rfl) (by kernel_rfl) (fun _ _ _ h => h) (Or.inl ⟨by rfl, ?_⟩) (by assumption) ?_
      · intro w' hS; go_simp; try with_reducible rfl
      simp only [Act.put, List.setIfInBounds_toArray, List.set_cons_zero, List.set_cons_succ]
      refine wpAnyH_done (by kernel_rfl) ?_ _
      go_wp2_with fail
      go_meet
      exact ⟨rfl, _, S0.out, Fr.of_below V0.out _⟩
    · have hz : Hid (0 < su) := Lib.hid (by omega)
      refine wp_region_held_drew (S := fun w' => Fr (fun b => b = S) w7 w') (by kernel_rfl) ((Fr.refl _ w7).drew) (fun hHeld => ?_)
      have V0 : Hid (Below w7.heap.size w7 w7.drew) := Lib.hid (Below.refl w7.heap.size w7).drew
      have S0 := Lib.hid (HS.out.below V0.out)
      generalize w7.drew = v0 at V0 hHeld S0 ⊢
      refine wpAnyH_take (i := 0) (oi := ⟨some 110, _, _, _, _, _⟩) (v := (.pointer (some ⟨Y, 1, none⟩))) rfl (by kernel_rfl) (by kernel_rfl) (by kernel_rfl) (fun _ _ _ h => h) (Or.inl ⟨by rfl, ?_⟩) (by assumption) ?_
      · intro w' hS; go_simp; try with_reducible rfl
      simp only [Act.put, List.setIfInBounds_toArray, List.set_cons_zero, List.set_cons_succ]
      refine wpAnyH_take (i := 1) (oi := ⟨some 111, _, _, _, _, _⟩) (v := (.int .u64 (su : Nat))) rfl (by kernel_rfl) (by kernel_rfl) (by kernel_rfl) (fun _ _ _ h => h) (Or.inl ⟨by rfl, ?_⟩) (by assumption) ?_
      · intro w' hS; have hq := YB.out.fr hS YN.out.1; have h0 : w'.cell? ⟨Y, 1, none⟩ = some (.int .u64 (su : Nat)) := hq.cell 1; clear hq; go_simp; try with_reducible rfl
      simp only [Act.put, List.setIfInBounds_toArray, List.set_cons_zero, List.set_cons_succ]
      refine wpAnyH_take (i := 2) (oi := ⟨some 112, _, _, _, _, _⟩) (v := (.bool true)) rfl (by kernel_rfl) (by kernel_rfl) (by kernel_rfl) (fun _ _ _ h => h) (Or.inl ⟨by rfl, ?_⟩) (by assumption) ?_
      · intro w' hS; have z1 : decide ((0 : Int) < (su : Int)) = true := decide_eq_true (by have := hz.out; omega); have z2 : decide (0 < su) = true := decide_eq_true (by have := hz.out; omega); go_simp; try with_reducible rfl
      simp only [Act.put, List.setIfInBounds_toArray, List.set_cons_zero, List.set_cons_succ]
      refine wpAnyH_take (i := 3) (oi := ⟨some 113, _, _, _, _, _⟩) (v := (.bool true)) rfl (by kernel_rfl) (by kernel_rfl) (by kernel_rfl) (fun _ _ _ h => h) (Or.inl ⟨by rfl, ?_⟩) (by assumption) ?_
      · intro w' hS; go_simp; try with_reducible rfl
      simp only [Act.put, List.setIfInBounds_toArray, List.set_cons_zero, List.set_cons_succ]
      refine wpAnyH_take (i := 4) (oi := ⟨some 114, _, _, _, _, _⟩) (v := (.pointer (some ⟨S, 0, none⟩))) rfl (by kernel_rfl) (by kernel_rfl) (by kernel_rfl) (fun _ _ _ h => h) (Or.inl ⟨by rfl, ?_⟩) (by assumption) ?_
      · intro w' hS; go_simp; try with_reducible rfl
      simp only [Act.put, List.setIfInBounds_toArray, List.set_cons_zero, List.set_cons_succ]
      refine wpAnyH_take (i := 5) (oi := ⟨some 115, _, _, _, _, _⟩) (v := (.pointer (some ⟨Y, 1, none⟩))) rfl (by kernel_rfl) (by kernel_rfl) (by kernel_rfl) (fun _ _ _ h => h) (Or.inl ⟨by rfl, ?_⟩) (by assumption) ?_
      · intro w' hS; go_simp; try with_reducible rfl
      simp only [Act.put, List.setIfInBounds_toArray, List.set_cons_zero, List.set_cons_succ]
      refine wpAnyH_take (i := 6) (oi := ⟨some 116, _, _, _, _, _⟩) (v := (.int .u64 (su : Nat))) rfl (by kernel_rfl) (by kernel_rfl) (by kernel_rfl) (fun _ _ _ h => h) (Or.inl ⟨by rfl, ?_⟩) (by assumption) ?_
      · intro w' hS; have hq := YB.out.fr hS YN.out.1; have h0 : w'.cell? ⟨Y, 1, none⟩ = some (.int .u64 (su : Nat)) := hq.cell 1; clear hq; go_simp; try with_reducible rfl
      simp only [Act.put, List.setIfInBounds_toArray, List.set_cons_zero, List.set_cons_succ]
      refine wpAnyH_take (i := 8) (oi := ⟨some 118, _, _, _, _, _⟩) (v := (.pointer (some ⟨Y, 1, none⟩))) rfl (by kernel_rfl) (by kernel_rfl) (by kernel_rfl) (fun _ _ _ h => h) (Or.inl ⟨by rfl, ?_⟩) (by assumption) ?_
      · intro w' hS; go_simp; try with_reducible rfl
      simp only [Act.put, List.setIfInBounds_toArray, List.set_cons_zero, List.set_cons_succ]
      refine wpAnyH_take (i := 9) (oi := ⟨some 119, _, _, _, _, _⟩) (v := (.int .u64 (su : Nat))) rfl (by kernel_rfl) (by kernel_rfl) (by kernel_rfl) (fun _ _ _ h => h) (Or.inl ⟨by rfl, ?_⟩) (by assumption) ?_
      · intro w' hS; have hq := YB.out.fr hS YN.out.1; have h0 : w'.cell? ⟨Y, 1, none⟩ = some (.int .u64 (su : Nat)) := hq.cell 1; clear hq; go_simp; try with_reducible rfl
      simp only [Act.put, List.setIfInBounds_toArray, List.set_cons_zero, List.set_cons_succ]
      refine wpAnyH_ready (rs := [7]) (by kernel_rfl) (by simp) ?_
      refine AllReadyH.cons (o := ⟨some 117, _, _, _, _, _⟩) rfl (fun K hK => ?_) AllReadyH.nil
      rw [if_pos (by rfl)]
      go_simp
      refine (fbelow_any S su ks (0 + 8) v0 S0.out HK.out BK.out hz.out HSU.out).mono ?_
      rintro e' v1 ⟨rfl, hs, hf⟩
      have G1 : Hid (Fr (fun b => b = S) w7 v1) := Lib.hid ((Fr.of_below V0.out _).trans hf)
      have S1 := Lib.hid hs
      have HGE := Lib.hid (below_ge (ks := ks) (n := su) (p := 0 + 8) hz.out)
      generalize belowN' ks su (0 + 8) = bn at *
      clear hs hf V0 S0
      dsimp only
      (try simp only [Act.put, List.setIfInBounds_toArray, List.set_cons_zero, List.set_cons_succ])
      refine hK.out _ _ G1.out (fun hHeld => ?_)
      clear hK K
      refine wpAnyH_take (i := 10) (oi := ⟨some 120, _, _, _, _, _⟩) (v := (.bool false)) rfl (by kernel_rfl) (by kernel_rfl) (by kernel_rfl) (fun _ _ _ h => h) (Or.inl ⟨by rfl, ?_⟩) (by assumption) ?_
      · intro w' hS; have z1 := HGE.out; have z2 : decide (su ≤ bn) = false := decide_eq_false (by have := of_decide_eq_false HGE.out; omega); go_simp; try with_reducible rfl
      simp only [Act.put, List.setIfInBounds_toArray, List.set_cons_zero, List.set_cons_succ]
      refine wpAnyH_take (i := 11) (oi := ⟨some 121, _, _, _, _, _⟩) (v := (.bool false)) rfl (by kernel_rfl) (by kernel_rfl) (by kernel_rfl) (fun _ _ _ h => h) (Or.inl ⟨by rfl, ?_⟩) (by assumption) ?_
      · intro w' hS; go_simp; try with_reducible rfl
      simp only [Act.put, List.setIfInBounds_toArray, List.set_cons_zero, List.set_cons_succ]
      refine wpAnyH_done (by kernel_rfl) ?_ _
      go_wp2_with fail
      go_meet
      exact ⟨rfl, _, S1.out, G1.out⟩
  case rest =>
  obtain ⟨rfl, p, hs, hf⟩ := hcut
  replace HS := Lib.hid hs
  replace YB := Lib.hid (YB.out.fr hf YN.out.1)
  replace F3 := Lib.hid (F3.out.trans (hf.below (B := w.heap.size) F3.out.size (fun j hj => by rw [hj]; exact HL.out.1)))
  clear hs hf
  generalize wc = w8 at *
  go_upto_region 12 with fail
  have y2 : w8.cell? ⟨Y, 2, none⟩ = some (.int .i64 sn) := YB.out.cell 2
  obtain ⟨n, hn⟩ : ∃ n : Nat, sn % 60 = (n : Int) := ⟨(sn % 60).toNat, by omega⟩
  have hn60 : n < 60 := by omega
  have hwi := within_any sn 60 w8 (by decide) (by decide)
  rw [show ((60 : Nat) : Int) = 60 from rfl, hn] at hwi
  go_wp2_with fail
  refine hwi.mono ?_
  rintro e w9 ⟨rfl, hw⟩
  obtain rfl : w8 = w9 := hw.symm
  clear hwi hn y2
  go_wp2_with fail
  refine (shuffle_all S n ks p w8 HS.out HK.out BK.out (by omega)).mono ?_
  rintro e w9 ⟨A, c, l, q, rfl, hll, hcnt, hrd, hs, hf⟩
  have LL := Lib.hid hll
  have CN := Lib.hid hcnt
  have RD := Lib.hid hrd
  have HN := Lib.hid hn60
  replace YB := Lib.hid (YB.out.fr hf YN.out.1)
  replace F3 := Lib.hid (F3.out.trans (hf.below (B := w.heap.size) F3.out.size (fun j hj => by rw [hj]; exact HL.out.1)))
  replace HS := Lib.hid hs
  clear hs hf hll hcnt hrd hn60
  have hnn : ((n : Int) != (n : Int)) = false := by simp
  go_wp2_with fail
  clear hnn
  go_loopw [13] (fun z13 wx => ∃ i : Nat, z13 = .int .i64 i ∧ Hid (i ≤ n) ∧ wx = w9) (fun z13 _ => n - (intOf z13).toNat)
  case atStart => exact ⟨0, rfl, Lib.hid (Nat.zero_le _), rfl⟩
  case round =>
    obtain ⟨i, rfl, HI, rfl⟩ := hrel
    have hi60 : i ≤ 60 := by have := HI.out; have := HN.out; omega
    have m1 : IntKind.i64.wrap ((i : Int) + 1) = ((i + 1 : Nat) : Int) := by rw [IntKind.wrap_i64] <;> omega
    by_cases hin : i < n
    · have d1 : decide ((i : Int) < (n : Int)) = true := decide_eq_true (by omega)
      have d2 : decide (i < n) = true := decide_eq_true hin
      have HIN := Lib.hid hin
      go_wp2_with fail
      clear m1 d1 d2 hin
      go_loopw [14, 15] (fun z14 z15 wx => ∃ (k j : Nat), z14 = .int .i64 k ∧ z15 = .int .i64 j ∧ Hid (j ≤ n) ∧ Hid (k = (l.take j).count ((i : Nat) : Int)) ∧ wx = wr) (fun _ z15 _ => n - (intOf z15).toNat)
      case atStart => exact ⟨0, 0, rfl, rfl, Lib.hid (Nat.zero_le _), Lib.hid rfl, rfl⟩
      case round =>
        obtain ⟨k, j, rfl, rfl, HJ, HKK, rfl⟩ := hrel
        have hj60 : j ≤ 60 := by have := HJ.out; have := HN.out; omega
        have hk60 : k ≤ 60 := by
          rw [HKK.out]
          have := List.count_le_length (a := ((i : Nat) : Int)) (l := l.take j)
          rw [List.length_take] at this
          omega
        have m1 : IntKind.i64.wrap ((j : Int) + 1) = ((j + 1 : Nat) : Int) := by rw [IntKind.wrap_i64] <;> omega
        have m2 : IntKind.i64.wrap ((k : Int) + 1) = ((k + 1 : Nat) : Int) := by rw [IntKind.wrap_i64] <;> omega
        by_cases hjn : j < n
        · have d1 : decide ((j : Int) < (n : Int)) = true := decide_eq_true (by omega)
          have d2 : decide (j < n) = true := decide_eq_true hjn
          obtain ⟨b, off, y, rfl, hc, HY⟩ := RD.out.at j (by rw [LL.out]; exact hjn)
          have HCT := Lib.hid (count_take l ((i : Nat) : Int) j (by rw [LL.out]; exact hjn))
          by_cases hyi : y = (i : Int)
          · have e1 : (y == (i : Int)) = true := by simpa using hyi
            have HYI := Lib.hid hyi
            have HJN := Lib.hid hjn
            clear hyi hjn
            go_wp2_with fail
            go_roundw
            case rel => exact ⟨k + 1, j + 1, by go_num, by go_num, Lib.hid (by have := HJN.out; omega), Lib.hid (by rw [HCT.out, ← HY.out, HYI.out, HKK.out]; simp), trivial⟩
            case measure => simp [intOf]; have := HJN.out; omega
          · have e1 : (y == (i : Int)) = false := by simpa using hyi
            have HYI := Lib.hid hyi
            have HJN := Lib.hid hjn
            clear hyi hjn
            go_wp2_with fail
            go_roundw
            case rel => exact ⟨k, j + 1, by go_num, by go_num, Lib.hid (by have := HJN.out; omega), Lib.hid (by rw [HCT.out, ← HY.out, HKK.out]; simp [HYI.out]), trivial⟩
            case measure => simp [intOf]; have := HJN.out; omega
        · have d1 : decide ((j : Int) < (n : Int)) = false := decide_eq_false (by omega)
          have d2 : decide (j < n) = false := decide_eq_false hjn
          have hk1 : k = 1 := by
            have hj : j = l.length := by rw [LL.out]; have := HJ.out; omega
            rw [HKK.out, hj, List.take_length]
            exact CN.out i HIN.out
          subst hk1
          clear m1 m2
          have m3 : IntKind.i64.wrap ((i : Int) + 1) = ((i + 1 : Nat) : Int) := by rw [IntKind.wrap_i64] <;> omega
          go_wp2_with fail
          go_roundw
          case rel => exact ⟨i + 1, by go_num, Lib.hid (by have := HIN.out; omega), trivial⟩
          case measure => simp [intOf]; have := HIN.out; omega
    · have d1 : decide ((i : Int) < (n : Int)) = false := decide_eq_false (by omega)
      have d2 : decide (i < n) = false := decide_eq_false hin
      clear m1
      have y3 : wr.cell? ⟨Y, 3, none⟩ = some (.int .i64 sm) := YB.out.cell 3
      have y2 : wr.cell? ⟨Y, 2, none⟩ = some (.int .i64 sn) := YB.out.cell 2
      obtain ⟨M1, hM1⟩ : ∃ M1 : Nat, sm % 65 = (M1 : Int) := ⟨(sm % 65).toNat, by omega⟩
      have hM65 : M1 ≤ 64 := by omega
      have hwi := within_any sm 65 wr (by decide) (by decide)
      rw [show ((65 : Nat) : Int) = 65 from rfl, hM1] at hwi
      go_wp2_with fail
      refine hwi.mono ?_
      rintro e w10 ⟨rfl, hw⟩
      obtain rfl : wr = w10 := hw.symm
      clear hwi hM1 y3
      have m4 : IntKind.i64.wrap ((M1 : Int) + 1) = ((M1 + 1 : Nat) : Int) := by rw [IntKind.wrap_i64] <;> omega
      obtain ⟨X1, hX1⟩ : ∃ X1 : Nat, sn % ((M1 + 1 : Nat) : Int) = (X1 : Int) := ⟨(sn % ((M1 + 1 : Nat) : Int)).toNat, by have := Int.emod_nonneg sn (b := ((M1 + 1 : Nat) : Int)) (by omega); omega⟩
      have hXM : X1 ≤ M1 := by have := Int.emod_lt_of_pos sn (b := ((M1 + 1 : Nat) : Int)) (by omega); omega
      have hwi := within_any sn (M1 + 1) wr (by omega) (by omega)
      rw [hX1] at hwi
      have HWI := Lib.hid hwi
      clear hwi hX1
      go_wp2_with fail
      refine HWI.out.mono ?_
      rintro e w10 ⟨rfl, hw⟩
      obtain rfl : wr = w10 := hw.symm
      clear HWI m4 y2
      have HXM := Lib.hid (And.intro hXM hM65)
      have hl0 := laplace_ok S X1 M1 0 ks q wr HS.out HK.out BK.out hM65 hXM (by decide) (by decide)
      rw [lapN0 ks X1 M1 q hXM] at hl0
      have HL0 := Lib.hid hl0
      clear hl0 hXM hM65
      go_wp2_with fail
      refine HL0.out.mono ?_
      rintro e w10 ⟨rfl, hs, hf⟩
      replace YB := Lib.hid (YB.out.fr hf YN.out.1)
      replace F3 := Lib.hid (F3.out.trans (hf.below (B := w.heap.size) F3.out.size (fun j hj => by rw [hj]; exact HL.out.1)))
      replace HS := Lib.hid hs
      clear hs hf HL0
      generalize lapP ks 0 X1 M1 q = q2 at *
      have y4 : w10.cell? ⟨Y, 4, none⟩ = some (.float .f64 sx) := YB.out.cell 4
      have y5 : w10.cell? ⟨Y, 5, none⟩ = some (.int .i64 so) := YB.out.cell 5
      go_wp2_with fail
      refine (value_any sx so w10 HSX.out).mono ?_
      rintro e w11 ⟨v, rfl, hv, -, bb⟩
      have HV := Lib.hid hv
      replace HS := Lib.hid (HS.out.below bb)
      replace YB := Lib.hid (YB.out.below bb YB.out.lt)
      replace F3 := Lib.hid (F3.out.trans (bb.mono F3.out.size))
      clear bb hv y4 y5
      obtain ⟨A1, hA1⟩ : ∃ A1, (FloatKind.f64.format.order v 0 == some .gt || FloatKind.f64.format.order v 0 == some .eq) = A1 := ⟨_, rfl⟩
      obtain ⟨B1, hB1⟩ : ∃ B1, (FloatKind.f64.format.order v 4607182418800017408 == some .lt) = B1 := ⟨_, rfl⟩
      by_cases hok : (A1 && B1) = true
      · simp only [Bool.and_eq_true] at hok
        obtain ⟨rfl, rfl⟩ := hok
        have hlp := laplace_ok S X1 M1 v ks q2 w11 HS.out HK.out BK.out HXM.out.2 HXM.out.1 hA1 hB1
        have hle := lapN_le ks v X1 M1 q2
        have HLP := Lib.hid hlp
        have HLE := Lib.hid hle
        clear hlp hle hA1 hB1
        go_wp2_with fail
        refine HLP.out.mono ?_
        rintro e w12 ⟨rfl, hs, hf⟩
        have F12 := Lib.hid (F3.out.trans (hf.below (B := w.heap.size) F3.out.size (fun j hj => by rw [hj]; exact HL.out.1)))
        clear hs hf HLP
        generalize lapN ks v X1 M1 q2 = bb at *
        have e1 : ((X1 : Int) != (X1 : Int)) = false := by simp
        have e2 : decide ((0 : Int) ≤ (bb : Int)) = true := decide_eq_true (by omega)
        have e3 : decide ((bb : Int) ≤ (M1 : Int)) = true := decide_eq_true (by have := HLE.out; omega)
        have e4 : decide (bb ≤ M1) = true := decide_eq_true HLE.out
        go_wp2_with fail
        go_ret
        exact ⟨rfl, HXE.out ▸ F12.out⟩
      · have hfa : (A1 && B1) = false := by simpa using hok
        have hlf := lap_float S X1 M1 v w11 HXM.out.2 HXM.out.1 (by rw [hA1, hB1]; exact hfa)
        have HLF := Lib.hid hlf
        have HFA := Lib.hid hfa
        have HA1 := Lib.hid hA1
        have HB1 := Lib.hid hB1
        clear hlf hok hfa hA1 hB1
        go_wp2_with fail
        refine HLF.out.mono ?_
        rintro e w12 ⟨rfl, bb⟩
        replace YB := Lib.hid (YB.out.below bb YB.out.lt)
        replace F3 := Lib.hid (F3.out.trans (bb.mono F3.out.size))
        clear bb HLF
        have e1 : ((X1 : Int) != (X1 : Int)) = false := by simp
        have y4 : w12.cell? ⟨Y, 4, none⟩ = some (.float .f64 sx) := YB.out.cell 4
        have y5 : w12.cell? ⟨Y, 5, none⟩ = some (.int .i64 so) := YB.out.cell 5
        go_wp2_with fail
        clear e1 y4 y5
        refine (value_any sx so w12 HSX.out).mono ?_
        rintro e w13 ⟨v2, rfl, hv2, -, bb⟩
        replace YB := Lib.hid (YB.out.below bb YB.out.lt)
        replace F3 := Lib.hid (F3.out.trans (bb.mono F3.out.size))
        have hA2 : (FloatKind.f64.format.order v2 0 == some .gt || FloatKind.f64.format.order v2 0 == some .eq) = A1 := by rw [← HA1.out, ford_eq, ford_eq, hv2, HV.out]
        clear bb hv2
        have y4 : w13.cell? ⟨Y, 4, none⟩ = some (.float .f64 sx) := YB.out.cell 4
        have y5 : w13.cell? ⟨Y, 5, none⟩ = some (.int .i64 so) := YB.out.cell 5
        cases A1
        · go_wp2_with fail
          go_ret
          exact ⟨rfl, HXE.out ▸ F3.out⟩
        · have hb1 : B1 = false := by simpa using HFA.out
          subst hb1
          go_wp2_with fail
          clear y4 y5 hA2
          refine (value_any sx so w13 HSX.out).mono ?_
          rintro e w14 ⟨v3, rfl, hv3, -, bb⟩
          replace F3 := Lib.hid (F3.out.trans (bb.mono F3.out.size))
          have hB2 : (FloatKind.f64.format.order v3 4607182418800017408 == some .lt) = false := by rw [← HB1.out, ford_eq, ford_eq, hv3, HV.out]
          clear bb hv3
          go_wp2_with fail
          go_ret
          exact ⟨rfl, HXE.out ▸ F3.out⟩
end Go.Proofs.Ytcfbaildcocnhaa

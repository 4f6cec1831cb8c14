/-
  Walk: the law NoiseLosses.
-/
import Derived.Test.YtcfbaildcocnhaaLp
import Derived.Test.YtcfbaildcocnhaaBv
set_option linter.unusedVariables false
set_option linter.unusedSimpArgs false
namespace Go.Proofs.Ytcfbaildcocnhaa
open Go.RowKit

set_option maxRecDepth 100000 in
set_option maxHeartbeats 16000000 in
theorem losses_law (xe : Nat) (oe : Int) (xd : Nat) (od : Int) (xn : Nat) (on : Int) (xs : Nat) (os : Int) (rn : Int) (w : World)
    (hx0 : (Lit.float .f64 xe).wf = true) (hx1 : (Lit.float .f64 xd).wf = true) (hx2 : (Lit.float .f64 xn).wf = true) (hx3 : (Lit.float .f64 xs).wf = true) :
    Calls Try.prog 5 #[.agg #[.float .f64 xe, .int .i64 oe, .float .f64 xd, .int .i64 od, .float .f64 xn, .int .i64 on, .float .f64 xs, .int .i64 os, .int .i64 rn]] w fun e w' => e = .returned (.bool true) ∧ Below w.heap.size w w' := by
  have HW0 := Lib.hid hx0
  have HW1 := Lib.hid hx1
  have HW2 := Lib.hid hx2
  have HW3 := Lib.hid hx3
  clear hx0 hx1 hx2 hx3
  have F0 := Lib.hid ((Below.refl w.heap.size w).alloc (Nat.le_refl _) (.cells #[.float .f64 xe, .int .i64 oe, .float .f64 xd, .int .i64 od, .float .f64 xn, .int .i64 on, .float .f64 xs, .int .i64 os, .int .i64 rn] 46))
  have HX : Hid (Blk (w.alloc (.cells #[.float .f64 xe, .int .i64 oe, .float .f64 xd, .int .i64 od, .float .f64 xn, .int .i64 on, .float .f64 xs, .int .i64 os, .int .i64 rn] 46)) w.heap.size 46 [.float .f64 xe, .int .i64 oe, .float .f64 xd, .int .i64 od, .float .f64 xn, .int .i64 on, .float .f64 xs, .int .i64 os, .int .i64 rn]) := Lib.hid (Blk.new w 46 _)
  go_enter Try.func5, Try.ntmps5
  go_upto_region 1 with fail
  generalize hX : w.heap.size = X at HX ⊢
  have HXE := Lib.hid hX
  clear hX
  generalize (w.alloc (.cells #[.float .f64 xe, .int .i64 oe, .float .f64 xd, .int .i64 od, .float .f64 xn, .int .i64 on, .float .f64 xs, .int .i64 os, .int .i64 rn] 46)) = w0 at *
  go_cut [3] from 8 (fun v7 wx => ∃ l e d, v7 = .pointer (some ⟨l, 0, none⟩) ∧ Blk wx l 34 [.float .f64 e, .float .f64 d] ∧ w0.heap.size ≤ l ∧ Below w0.heap.size w0 wx)
  case first =>
    refine wp_region_held_drew (S := fun w' => Below w0.heap.size w0 w') (by kernel_rfl) ((Below.refl w0.heap.size w0).drew) (fun hHeld => ?_)
    have V0 : Hid (Below w0.heap.size w0 w0.drew) := Lib.hid (Below.refl w0.heap.size w0).drew
    generalize w0.drew = v0 at V0 hHeld ⊢
    refine wpAnyH_take (i := 0) (oi := ⟨some 8, _, _, _, _, _⟩) (v := (.pointer (some ⟨X, 0, none⟩))) rfl (by kernel_rfl) (by kernel_rfl) (by kernel_rfl) (fun _ _ _ h => h) (Or.inl ⟨by rfl, ?_⟩) (by assumption) ?_
    · intro w' hS; go_simp; try with_reducible rfl
    simp only [Act.put, List.setIfInBounds_toArray, List.set_cons_zero, List.set_cons_succ]
    refine wpAnyH_take (i := 1) (oi := ⟨some 9, _, _, _, _, _⟩) (v := (.agg #[.float .f64 xe, .int .i64 oe])) rfl (by kernel_rfl) (by kernel_rfl) (by kernel_rfl) (fun _ _ _ h => h) (Or.inl ⟨by rfl, ?_⟩) (by assumption) ?_
    · intro w' hS; have hq := HX.out.below hS (Blk.lt HX.out); have h0 : w'.cell? ⟨X, 0, none⟩ = some (.float .f64 xe) := hq.cell 0; have h1 : w'.cell? ⟨X, 1, none⟩ = some (.int .i64 oe) := hq.cell 1; clear hq; go_simp; try with_reducible rfl
    simp only [Act.put, List.setIfInBounds_toArray, List.set_cons_zero, List.set_cons_succ]
    refine wpAnyH_take (i := 3) (oi := ⟨some 11, _, _, _, _, _⟩) (v := (.pointer (some ⟨X, 2, none⟩))) rfl (by kernel_rfl) (by kernel_rfl) (by kernel_rfl) (fun _ _ _ h => h) (Or.inl ⟨by rfl, ?_⟩) (by assumption) ?_
    · intro w' hS; go_simp; try with_reducible rfl
    simp only [Act.put, List.setIfInBounds_toArray, List.set_cons_zero, List.set_cons_succ]
    refine wpAnyH_take (i := 4) (oi := ⟨some 12, _, _, _, _, _⟩) (v := (.agg #[.float .f64 xd, .int .i64 od])) rfl (by kernel_rfl) (by kernel_rfl) (by kernel_rfl) (fun _ _ _ h => h) (Or.inl ⟨by rfl, ?_⟩) (by assumption) ?_
    · intro w' hS; have hq := HX.out.below hS (Blk.lt HX.out); have h0 : w'.cell? ⟨X, 2, none⟩ = some (.float .f64 xd) := hq.cell 2; have h1 : w'.cell? ⟨X, 3, none⟩ = some (.int .i64 od) := hq.cell 3; clear hq; go_simp; try with_reducible rfl
    simp only [Act.put, List.setIfInBounds_toArray, List.set_cons_zero, List.set_cons_succ]
    refine wpAnyH_ready (rs := [2, 7]) (by kernel_rfl) (by simp) ?_
    refine AllReadyH.cons (o := ⟨some 10, _, _, _, _, _⟩) rfl (fun K hK => ?_) (AllReadyH.cons (o := ⟨some 3, _, _, _, _, _⟩) rfl (fun K hK => ?_) AllReadyH.nil)
    · rw [if_pos (by rfl)]
      go_simp
      refine (value_any xe oe v0 HW0.out).mono ?_
      rintro e' v1 ⟨r1, rfl, -, -, bb⟩
      have V1 := Lib.hid (V0.out.trans (bb.mono V0.out.size))
      clear bb V0
      dsimp only
      (try simp only [Act.put, List.setIfInBounds_toArray, List.set_cons_zero, List.set_cons_succ])
      refine hK.out _ _ V1.out (fun hHeld => ?_)
      clear hK K
      refine wpAnyH_ready (rs := [5, 7]) (by kernel_rfl) (by simp) ?_
      refine AllReadyH.cons (o := ⟨some 13, _, _, _, _, _⟩) rfl (fun K hK => ?_) (AllReadyH.cons (o := ⟨some 3, _, _, _, _, _⟩) rfl (fun K hK => ?_) AllReadyH.nil)
      · rw [if_pos (by rfl)]
        go_simp
        refine (value_any xd od v1 HW1.out).mono ?_
        rintro e' v2 ⟨r2, rfl, -, -, bb⟩
        have V2 := Lib.hid (V1.out.trans (bb.mono V1.out.size))
        clear bb V1
        dsimp only
        (try simp only [Act.put, List.setIfInBounds_toArray, List.set_cons_zero, List.set_cons_succ])
        refine hK.out _ _ V2.out (fun hHeld => ?_)
        clear hK K
        refine wpAnyH_take (i := 6) (oi := ⟨some 14, _, _, _, _, _⟩) (v := (.agg #[.float .f64 r1, .float .f64 r2])) rfl (by kernel_rfl) (by kernel_rfl) (by kernel_rfl) (fun _ _ _ h => h) (Or.inl ⟨by rfl, ?_⟩) (by assumption) ?_
        · intro w' hS; go_simp; try with_reducible rfl
        simp only [Act.put, List.setIfInBounds_toArray, List.set_cons_zero, List.set_cons_succ]
        refine wpAnyH_ready (rs := [7]) (by kernel_rfl) (by simp) ?_
        refine AllReadyH.cons (o := ⟨some 3, _, _, _, _, _⟩) rfl (fun K hK => ?_) AllReadyH.nil
        rw [if_pos (by rfl)]
        go_simp
        have V3 := Lib.hid (V2.out.alloc V2.out.size (.cells #[.float .f64 0, .float .f64 0] 34))
        have L3 : Hid (Blk (v2.alloc (.cells #[.float .f64 0, .float .f64 0] 34)) v2.heap.size 34 [.float .f64 0, .float .f64 0]) := Lib.hid (Blk.new v2 34 _)
        have G : Hid (w0.heap.size ≤ v2.heap.size) := Lib.hid V2.out.size
        generalize v2.heap.size = l at L3 G ⊢
        generalize (v2.alloc (.cells #[.float .f64 0, .float .f64 0] 34)) = v3 at *
        clear V2
        (try simp only [Act.put, List.setIfInBounds_toArray, List.set_cons_zero, List.set_cons_succ])
        refine hK.out _ _ V3.out (fun hHeld => ?_)
        clear hK K
        refine wpAnyH_ready (rs := [8]) (by kernel_rfl) (by simp) ?_
        refine AllReadyH.cons (o := ⟨none, _, _, _, _, _⟩) rfl (fun K hK => ?_) AllReadyH.nil
        rw [if_pos (by rfl)]
        (try simp only [Act.put, List.setIfInBounds_toArray, List.set_cons_zero, List.set_cons_succ])
        refine wp_store_row 34 _ _ rfl l #[.float .f64 r1, .float .f64 r2] rfl rfl 34 #[.float .f64 0, .float .f64 0] L3.out (by kernel_rfl) rfl (by kernel_rfl) ?_
        have V4 := Lib.hid (below_setRow V3.out G.out #[.float .f64 r1, .float .f64 r2])
        have L4 : Hid (Blk (v3.setRow l #[.float .f64 r1, .float .f64 r2]) l 34 [.float .f64 r1, .float .f64 r2]) := Lib.hid (setRow_heap _ _ _ _ _ _ L3.out)
        generalize v3.setRow l #[.float .f64 r1, .float .f64 r2] = v4 at *
        clear V3 L3
        (try simp only [Act.put, List.setIfInBounds_toArray, List.set_cons_zero, List.set_cons_succ])
        refine hK.out _ _ V4.out (fun hHeld => ?_)
        clear hK K
        refine wpAnyH_done (by kernel_rfl) ?_ _
        go_wp2_with fail
        go_meet
        exact ⟨l, r1, r2, rfl, L4.out, G.out, V4.out⟩
      · rw [if_pos (by rfl)]
        go_simp
        have V2 := Lib.hid (V1.out.alloc V1.out.size (.cells #[.float .f64 0, .float .f64 0] 34))
        have L2 : Hid (Blk (v1.alloc (.cells #[.float .f64 0, .float .f64 0] 34)) v1.heap.size 34 [.float .f64 0, .float .f64 0]) := Lib.hid (Blk.new v1 34 _)
        have G : Hid (w0.heap.size ≤ v1.heap.size) := Lib.hid V1.out.size
        generalize v1.heap.size = l at L2 G ⊢
        generalize (v1.alloc (.cells #[.float .f64 0, .float .f64 0] 34)) = v2 at *
        clear V1
        (try simp only [Act.put, List.setIfInBounds_toArray, List.set_cons_zero, List.set_cons_succ])
        refine hK.out _ _ V2.out (fun hHeld => ?_)
        clear hK K
        refine wpAnyH_ready (rs := [5]) (by kernel_rfl) (by simp) ?_
        refine AllReadyH.cons (o := ⟨some 13, _, _, _, _, _⟩) rfl (fun K hK => ?_) AllReadyH.nil
        rw [if_pos (by rfl)]
        go_simp
        refine (value_any xd od v2 HW1.out).mono ?_
        rintro e' v3 ⟨r2, rfl, -, -, bb⟩
        have V3 := Lib.hid (V2.out.trans (bb.mono V2.out.size))
        have L3 := Lib.hid (L2.out.below bb (Blk.lt L2.out))
        clear L2
        clear bb V2
        dsimp only
        (try simp only [Act.put, List.setIfInBounds_toArray, List.set_cons_zero, List.set_cons_succ])
        refine hK.out _ _ V3.out (fun hHeld => ?_)
        clear hK K
        refine wpAnyH_take (i := 6) (oi := ⟨some 14, _, _, _, _, _⟩) (v := (.agg #[.float .f64 r1, .float .f64 r2])) rfl (by kernel_rfl) (by kernel_rfl) (by kernel_rfl) (fun _ _ _ h => h) (Or.inl ⟨by rfl, ?_⟩) (by assumption) ?_
        · intro w' hS; go_simp; try with_reducible rfl
        simp only [Act.put, List.setIfInBounds_toArray, List.set_cons_zero, List.set_cons_succ]
        refine wpAnyH_ready (rs := [8]) (by kernel_rfl) (by simp) ?_
        refine AllReadyH.cons (o := ⟨none, _, _, _, _, _⟩) rfl (fun K hK => ?_) AllReadyH.nil
        rw [if_pos (by rfl)]
        (try simp only [Act.put, List.setIfInBounds_toArray, List.set_cons_zero, List.set_cons_succ])
        refine wp_store_row 34 _ _ rfl l #[.float .f64 r1, .float .f64 r2] rfl rfl 34 #[.float .f64 0, .float .f64 0] L3.out (by kernel_rfl) rfl (by kernel_rfl) ?_
        have V4 := Lib.hid (below_setRow V3.out G.out #[.float .f64 r1, .float .f64 r2])
        have L4 : Hid (Blk (v3.setRow l #[.float .f64 r1, .float .f64 r2]) l 34 [.float .f64 r1, .float .f64 r2]) := Lib.hid (setRow_heap _ _ _ _ _ _ L3.out)
        generalize v3.setRow l #[.float .f64 r1, .float .f64 r2] = v4 at *
        clear V3 L3
        (try simp only [Act.put, List.setIfInBounds_toArray, List.set_cons_zero, List.set_cons_succ])
        refine hK.out _ _ V4.out (fun hHeld => ?_)
        clear hK K
        refine wpAnyH_done (by kernel_rfl) ?_ _
        go_wp2_with fail
        go_meet
        exact ⟨l, r1, r2, rfl, L4.out, G.out, V4.out⟩
    · rw [if_pos (by rfl)]
      go_simp
      have V1 := Lib.hid (V0.out.alloc V0.out.size (.cells #[.float .f64 0, .float .f64 0] 34))
      have L1 : Hid (Blk (v0.alloc (.cells #[.float .f64 0, .float .f64 0] 34)) v0.heap.size 34 [.float .f64 0, .float .f64 0]) := Lib.hid (Blk.new v0 34 _)
      have G : Hid (w0.heap.size ≤ v0.heap.size) := Lib.hid V0.out.size
      generalize v0.heap.size = l at L1 G ⊢
      generalize (v0.alloc (.cells #[.float .f64 0, .float .f64 0] 34)) = v1 at *
      clear V0
      (try simp only [Act.put, List.setIfInBounds_toArray, List.set_cons_zero, List.set_cons_succ])
      refine hK.out _ _ V1.out (fun hHeld => ?_)
      clear hK K
      refine wpAnyH_ready (rs := [2]) (by kernel_rfl) (by simp) ?_
      refine AllReadyH.cons (o := ⟨some 10, _, _, _, _, _⟩) rfl (fun K hK => ?_) AllReadyH.nil
      rw [if_pos (by rfl)]
      go_simp
      refine (value_any xe oe v1 HW0.out).mono ?_
      rintro e' v2 ⟨r1, rfl, -, -, bb⟩
      have V2 := Lib.hid (V1.out.trans (bb.mono V1.out.size))
      have L2 := Lib.hid (L1.out.below bb (Blk.lt L1.out))
      clear L1
      clear bb V1
      dsimp only
      (try simp only [Act.put, List.setIfInBounds_toArray, List.set_cons_zero, List.set_cons_succ])
      refine hK.out _ _ V2.out (fun hHeld => ?_)
      clear hK K
      refine wpAnyH_ready (rs := [5]) (by kernel_rfl) (by simp) ?_
      refine AllReadyH.cons (o := ⟨some 13, _, _, _, _, _⟩) rfl (fun K hK => ?_) AllReadyH.nil
      rw [if_pos (by rfl)]
      go_simp
      refine (value_any xd od v2 HW1.out).mono ?_
      rintro e' v3 ⟨r2, rfl, -, -, bb⟩
      have V3 := Lib.hid (V2.out.trans (bb.mono V2.out.size))
      have L3 := Lib.hid (L2.out.below bb (Blk.lt L2.out))
      clear L2
      clear bb V2
      dsimp only
      (try simp only [Act.put, List.setIfInBounds_toArray, List.set_cons_zero, List.set_cons_succ])
      refine hK.out _ _ V3.out (fun hHeld => ?_)
      clear hK K
      refine wpAnyH_take (i := 6) (oi := ⟨some 14, _, _, _, _, _⟩) (v := (.agg #[.float .f64 r1, .float .f64 r2])) rfl (by kernel_rfl) (by kernel_rfl) (by kernel_rfl) (fun _ _ _ h => h) (Or.inl ⟨by rfl, ?_⟩) (by assumption) ?_
      · intro w' hS; go_simp; try with_reducible rfl
      simp only [Act.put, List.setIfInBounds_toArray, List.set_cons_zero, List.set_cons_succ]
      refine wpAnyH_ready (rs := [8]) (by kernel_rfl) (by simp) ?_
      refine AllReadyH.cons (o := ⟨none, _, _, _, _, _⟩) rfl (fun K hK => ?_) AllReadyH.nil
      rw [if_pos (by rfl)]
      (try simp only [Act.put, List.setIfInBounds_toArray, List.set_cons_zero, List.set_cons_succ])
      refine wp_store_row 34 _ _ rfl l #[.float .f64 r1, .float .f64 r2] rfl rfl 34 #[.float .f64 0, .float .f64 0] L3.out (by kernel_rfl) rfl (by kernel_rfl) ?_
      have V4 := Lib.hid (below_setRow V3.out G.out #[.float .f64 r1, .float .f64 r2])
      have L4 : Hid (Blk (v3.setRow l #[.float .f64 r1, .float .f64 r2]) l 34 [.float .f64 r1, .float .f64 r2]) := Lib.hid (setRow_heap _ _ _ _ _ _ L3.out)
      generalize v3.setRow l #[.float .f64 r1, .float .f64 r2] = v4 at *
      clear V3 L3
      (try simp only [Act.put, List.setIfInBounds_toArray, List.set_cons_zero, List.set_cons_succ])
      refine hK.out _ _ V4.out (fun hHeld => ?_)
      clear hK K
      refine wpAnyH_done (by kernel_rfl) ?_ _
      go_wp2_with fail
      go_meet
      exact ⟨l, r1, r2, rfl, L4.out, G.out, V4.out⟩
  case rest =>
    obtain ⟨l, e, d, rfl, hcl, hcg, hcb⟩ := hcut
    have L1 := Lib.hid hcl
    have X1 := Lib.hid (HX.out.below hcb (Blk.lt HX.out))
    have B1 : Hid (Below w.heap.size w wc) := Lib.hid (F0.out.trans (hcb.mono F0.out.size))
    clear hcl hcg hcb F0 HX
    generalize wc = w1 at *
    have l0 : w1.cell? ⟨l, 0, none⟩ = some (.float .f64 e) := L1.out.cell 0
    have l1 : w1.cell? ⟨l, 1, none⟩ = some (.float .f64 d) := L1.out.cell 1
    have x8 : w1.cell? ⟨X, 8, none⟩ = some (.int .i64 rn) := X1.out.cell 8
    go_wp2_with fail
    clear l0 l1 x8
    refine (simple_any e d rn w1).mono ?_
    rintro e' w2 ⟨a1, b1, rfl, ha, hb, bb⟩
    have HA1 := Lib.hid ha
    have HB1 := Lib.hid hb
    clear ha hb
    obtain ⟨TS, hTS⟩ : ∃ T, T = simpleF (fv e) (fv d) rn := ⟨_, rfl⟩
    rw [← hTS] at HA1 HB1 ⊢
    have HTS := Lib.hid hTS
    clear hTS
    have L2 := Lib.hid (L1.out.below bb (Blk.lt L1.out))
    have X2 := Lib.hid (X1.out.below bb (Blk.lt X1.out))
    have B2 := Lib.hid (B1.out.trans (bb.mono B1.out.size))
    clear bb B1 L1 X1
    go_upto_region 3 with (refine wpList_store_row rfl 34 _ _ rfl w2.heap.size #[.float .f64 a1, .float .f64 b1] rfl rfl 34 #[.float .f64 0, .float .f64 0] (heap_alloc_new _ _) (by kernel_rfl) rfl (by kernel_rfl) ?_)
    have P3 : Hid (Blk ((w2.alloc (.cells #[.float .f64 0, .float .f64 0] 34)).setRow w2.heap.size #[.float .f64 a1, .float .f64 b1]) w2.heap.size 34 [.float .f64 a1, .float .f64 b1]) := Lib.hid (setRow_heap _ _ _ _ _ _ (heap_alloc_new _ _))
    have bb : Below w2.heap.size w2 ((w2.alloc (.cells #[.float .f64 0, .float .f64 0] 34)).setRow w2.heap.size #[.float .f64 a1, .float .f64 b1]) := below_setRow ((Below.refl _ _).alloc (Nat.le_refl _) _) (Nat.le_refl _) _
    have NEA : Hid (w.heap.size ≤ w2.heap.size ∧ l < w2.heap.size ∧ X < w2.heap.size) := Lib.hid ⟨B2.out.size, Blk.lt L2.out, Blk.lt X2.out⟩
    have L3 := Lib.hid (L2.out.below bb (Blk.lt L2.out))
    have X3 := Lib.hid (X2.out.below bb (Blk.lt X2.out))
    have B3 := Lib.hid (B2.out.trans (bb.mono B2.out.size))
    clear bb B2 L2 X2
    generalize (w2.alloc (.cells #[.float .f64 0, .float .f64 0] 34)).setRow w2.heap.size #[.float .f64 a1, .float .f64 b1] = w3 at *
    generalize w2.heap.size = A at *
    have l0 : w3.cell? ⟨l, 0, none⟩ = some (.float .f64 e) := L3.out.cell 0
    have l1 : w3.cell? ⟨l, 1, none⟩ = some (.float .f64 d) := L3.out.cell 1
    have x8 : w3.cell? ⟨X, 8, none⟩ = some (.int .i64 rn) := X3.out.cell 8
    go_wp2_with fail
    clear l0 l1 x8
    have hcc := rsimple_any e d rn w3
    rw [← HTS.out] at hcc
    refine hcc.mono ?_
    clear hcc
    rintro e' w4 ⟨a2, b2, rfl, ha, hb, bb⟩
    have HA2 := Lib.hid ha
    have HB2 := Lib.hid hb
    clear ha hb
    have L4 := Lib.hid (L3.out.below bb (Blk.lt L3.out))
    have X4 := Lib.hid (X3.out.below bb (Blk.lt X3.out))
    have P4 := Lib.hid (P3.out.below bb (Blk.lt P3.out))
    have B4 := Lib.hid (B3.out.trans (bb.mono B3.out.size))
    clear bb B3 L3 X3 P3
    go_upto_region 4 with (refine wpList_store_row rfl 34 _ _ rfl w4.heap.size #[.float .f64 a2, .float .f64 b2] rfl rfl 34 #[.float .f64 0, .float .f64 0] (heap_alloc_new _ _) (by kernel_rfl) rfl (by kernel_rfl) ?_)
    have Q5 : Hid (Blk ((w4.alloc (.cells #[.float .f64 0, .float .f64 0] 34)).setRow w4.heap.size #[.float .f64 a2, .float .f64 b2]) w4.heap.size 34 [.float .f64 a2, .float .f64 b2]) := Lib.hid (setRow_heap _ _ _ _ _ _ (heap_alloc_new _ _))
    have bb : Below w4.heap.size w4 ((w4.alloc (.cells #[.float .f64 0, .float .f64 0] 34)).setRow w4.heap.size #[.float .f64 a2, .float .f64 b2]) := below_setRow ((Below.refl _ _).alloc (Nat.le_refl _) _) (Nat.le_refl _) _
    have NEBk : Hid (w.heap.size ≤ w4.heap.size ∧ l < w4.heap.size ∧ X < w4.heap.size ∧ A < w4.heap.size) := Lib.hid ⟨B4.out.size, Blk.lt L4.out, Blk.lt X4.out, Blk.lt P4.out⟩
    have L5 := Lib.hid (L4.out.below bb (Blk.lt L4.out))
    have X5 := Lib.hid (X4.out.below bb (Blk.lt X4.out))
    have P5 := Lib.hid (P4.out.below bb (Blk.lt P4.out))
    have B5 := Lib.hid (B4.out.trans (bb.mono B4.out.size))
    clear bb B4 L4 X4 P4
    generalize (w4.alloc (.cells #[.float .f64 0, .float .f64 0] 34)).setRow w4.heap.size #[.float .f64 a2, .float .f64 b2] = w5 at *
    generalize w4.heap.size = Bk at *
    have pa0 : w5.cell? ⟨A, 0, none⟩ = some (.float .f64 a1) := P5.out.cell 0
    have pa1 : w5.cell? ⟨A, 1, none⟩ = some (.float .f64 b1) := P5.out.cell 1
    have qa0 : w5.cell? ⟨Bk, 0, none⟩ = some (.float .f64 a2) := Q5.out.cell 0
    have qa1 : w5.cell? ⟨Bk, 1, none⟩ = some (.float .f64 b2) := Q5.out.cell 1
    go_wp2_with fail
    clear pa0 pa1 qa0 qa1
    refine (sameLoss_any a1 b1 a2 b2 w5 (by rw [HA1.out, HA2.out]) (by rw [HB1.out, HB2.out])).mono ?_
    rintro e' w6 ⟨rfl, bb⟩
    clear HA1 HA2 HB1 HB2
    have L6 := Lib.hid (L5.out.below bb (Blk.lt L5.out))
    have X6 := Lib.hid (X5.out.below bb (Blk.lt X5.out))
    have P6 := Lib.hid (P5.out.below bb (Blk.lt P5.out))
    have Q6 := Lib.hid (Q5.out.below bb (Blk.lt Q5.out))
    have B6 := Lib.hid (B5.out.trans (bb.mono B5.out.size))
    clear bb B5 L5 X5 P5 Q5
    generalize TS.2.2 = cc at *
    go_wp2_with fail
    obtain ⟨TT, hTT⟩ : ∃ T, T = advF (fv e) (fv d) rn (valF xn on) (valF xs os) := ⟨_, rfl⟩
    have HTT := Lib.hid hTT
    clear hTT
    refine wp_region_held_drew (S := fun w' => Blk w' X 46 [.float .f64 xe, .int .i64 oe, .float .f64 xd, .int .i64 od, .float .f64 xn, .int .i64 on, .float .f64 xs, .int .i64 os, .int .i64 rn] ∧ Blk w' l 34 [.float .f64 e, .float .f64 d]) (by kernel_rfl) (⟨X6.out, L6.out⟩) (fun hHeld => ?_)
    have L7 : Hid (Blk w6.drew l 34 [.float .f64 e, .float .f64 d]) := L6
    have X7 : Hid (Blk w6.drew X 46 [.float .f64 xe, .int .i64 oe, .float .f64 xd, .int .i64 od, .float .f64 xn, .int .i64 on, .float .f64 xs, .int .i64 os, .int .i64 rn]) := X6
    have P7 : Hid (Blk w6.drew A 34 [.float .f64 a1, .float .f64 b1]) := P6
    have Q7 : Hid (Blk w6.drew Bk 34 [.float .f64 a2, .float .f64 b2]) := Q6
    have B7 := Lib.hid B6.out.drew
    clear B6 L6 X6 P6 Q6
    generalize w6.drew = w7 at *
    refine wpAnyH_take (i := 0) (oi := ⟨some 39, _, _, _, _, _⟩) (v := (.agg #[.float .f64 e, .float .f64 d])) rfl (by kernel_rfl) (by kernel_rfl) (by kernel_rfl) (fun _ _ _ h => h) (Or.inl ⟨by rfl, ?_⟩) (by assumption) ?_
    · intro w' hS; have h0 : w'.cell? ⟨l, 0, none⟩ = some (.float .f64 e) := Blk.cell hS.2 0; have h1 : w'.cell? ⟨l, 1, none⟩ = some (.float .f64 d) := Blk.cell hS.2 1; go_simp; try with_reducible rfl
    simp only [Act.put, List.setIfInBounds_toArray, List.set_cons_zero, List.set_cons_succ]
    refine wpAnyH_take (i := 1) (oi := ⟨some 40, _, _, _, _, _⟩) (v := (.pointer (some ⟨X, 8, none⟩))) rfl (by kernel_rfl) (by kernel_rfl) (by kernel_rfl) (fun _ _ _ h => h) (Or.inl ⟨by rfl, ?_⟩) (by assumption) ?_
    · intro w' hS; go_simp; try with_reducible rfl
    simp only [Act.put, List.setIfInBounds_toArray, List.set_cons_zero, List.set_cons_succ]
    refine wpAnyH_take (i := 2) (oi := ⟨some 41, _, _, _, _, _⟩) (v := (.int .i64 rn)) rfl (by kernel_rfl) (by kernel_rfl) (by kernel_rfl) (fun _ _ _ h => h) (Or.inl ⟨by rfl, ?_⟩) (by assumption) ?_
    · intro w' hS; have h0 : w'.cell? ⟨X, 8, none⟩ = some (.int .i64 rn) := Blk.cell hS.1 8; go_simp; try with_reducible rfl
    simp only [Act.put, List.setIfInBounds_toArray, List.set_cons_zero, List.set_cons_succ]
    refine wpAnyH_take (i := 3) (oi := ⟨some 42, _, _, _, _, _⟩) (v := (.pointer (some ⟨X, 4, none⟩))) rfl (by kernel_rfl) (by kernel_rfl) (by kernel_rfl) (fun _ _ _ h => h) (Or.inl ⟨by rfl, ?_⟩) (by assumption) ?_
    · intro w' hS; go_simp; try with_reducible rfl
    simp only [Act.put, List.setIfInBounds_toArray, List.set_cons_zero, List.set_cons_succ]
    refine wpAnyH_take (i := 4) (oi := ⟨some 43, _, _, _, _, _⟩) (v := (.agg #[.float .f64 xn, .int .i64 on])) rfl (by kernel_rfl) (by kernel_rfl) (by kernel_rfl) (fun _ _ _ h => h) (Or.inl ⟨by rfl, ?_⟩) (by assumption) ?_
    · intro w' hS; have h0 : w'.cell? ⟨X, 4, none⟩ = some (.float .f64 xn) := Blk.cell hS.1 4; have h1 : w'.cell? ⟨X, 5, none⟩ = some (.int .i64 on) := Blk.cell hS.1 5; go_simp; try with_reducible rfl
    simp only [Act.put, List.setIfInBounds_toArray, List.set_cons_zero, List.set_cons_succ]
    refine wpAnyH_take (i := 6) (oi := ⟨some 45, _, _, _, _, _⟩) (v := (.pointer (some ⟨X, 6, none⟩))) rfl (by kernel_rfl) (by kernel_rfl) (by kernel_rfl) (fun _ _ _ h => h) (Or.inl ⟨by rfl, ?_⟩) (by assumption) ?_
    · intro w' hS; go_simp; try with_reducible rfl
    simp only [Act.put, List.setIfInBounds_toArray, List.set_cons_zero, List.set_cons_succ]
    refine wpAnyH_take (i := 7) (oi := ⟨some 46, _, _, _, _, _⟩) (v := (.agg #[.float .f64 xs, .int .i64 os])) rfl (by kernel_rfl) (by kernel_rfl) (by kernel_rfl) (fun _ _ _ h => h) (Or.inl ⟨by rfl, ?_⟩) (by assumption) ?_
    · intro w' hS; have h0 : w'.cell? ⟨X, 6, none⟩ = some (.float .f64 xs) := Blk.cell hS.1 6; have h1 : w'.cell? ⟨X, 7, none⟩ = some (.int .i64 os) := Blk.cell hS.1 7; go_simp; try with_reducible rfl
    simp only [Act.put, List.setIfInBounds_toArray, List.set_cons_zero, List.set_cons_succ]
    refine wpAnyH_ready (rs := [5]) (by kernel_rfl) (by simp) ?_
    refine AllReadyH.cons (o := ⟨some 44, _, _, _, _, _⟩) rfl (fun K hK => ?_) AllReadyH.nil
    rw [if_pos (by rfl)]
    go_simp
    refine (value_any xn on w7 HW2.out).mono ?_
    rintro e' w8 ⟨r1, rfl, hv, -, bb⟩
    have Hr1 := Lib.hid hv
    clear hv
    have L8 := Lib.hid (L7.out.below bb (Blk.lt L7.out))
    have X8 := Lib.hid (X7.out.below bb (Blk.lt X7.out))
    have P8 := Lib.hid (P7.out.below bb (Blk.lt P7.out))
    have Q8 := Lib.hid (Q7.out.below bb (Blk.lt Q7.out))
    have B8 := Lib.hid (B7.out.trans (bb.mono B7.out.size))
    clear bb B7 L7 X7 P7 Q7
    dsimp only
    (try simp only [Act.put, List.setIfInBounds_toArray, List.set_cons_zero, List.set_cons_succ])
    refine hK.out _ _ ⟨X8.out, L8.out⟩ (fun hHeld => ?_)
    clear hK K
    refine wpAnyH_ready (rs := [8]) (by kernel_rfl) (by simp) ?_
    refine AllReadyH.cons (o := ⟨some 47, _, _, _, _, _⟩) rfl (fun K hK => ?_) AllReadyH.nil
    rw [if_pos (by rfl)]
    go_simp
    refine (value_any xs os w8 HW3.out).mono ?_
    rintro e' w9 ⟨r2, rfl, hv, -, bb⟩
    have Hr2 := Lib.hid hv
    clear hv
    have L9 := Lib.hid (L8.out.below bb (Blk.lt L8.out))
    have X9 := Lib.hid (X8.out.below bb (Blk.lt X8.out))
    have P9 := Lib.hid (P8.out.below bb (Blk.lt P8.out))
    have Q9 := Lib.hid (Q8.out.below bb (Blk.lt Q8.out))
    have B9 := Lib.hid (B8.out.trans (bb.mono B8.out.size))
    clear bb B8 L8 X8 P8 Q8
    dsimp only
    (try simp only [Act.put, List.setIfInBounds_toArray, List.set_cons_zero, List.set_cons_succ])
    refine hK.out _ _ ⟨X9.out, L9.out⟩ (fun hHeld => ?_)
    clear hK K
    refine wpAnyH_ready (rs := [9]) (by kernel_rfl) (by simp) ?_
    refine AllReadyH.cons (o := ⟨some 48, _, _, _, _, _⟩) rfl (fun K hK => ?_) AllReadyH.nil
    rw [if_pos (by rfl)]
    go_simp
    have hcc := adv_any e d rn r1 r2 w9
    rw [Hr1.out, Hr2.out, ← HTT.out] at hcc
    refine hcc.mono ?_
    clear hcc
    rintro e' w10 ⟨a3, b3, rfl, ha, hb, bb⟩
    have HAa3 := Lib.hid ha
    have HBa3 := Lib.hid hb
    clear ha hb Hr1 Hr2
    have L10 := Lib.hid (L9.out.below bb (Blk.lt L9.out))
    have X10 := Lib.hid (X9.out.below bb (Blk.lt X9.out))
    have P10 := Lib.hid (P9.out.below bb (Blk.lt P9.out))
    have Q10 := Lib.hid (Q9.out.below bb (Blk.lt Q9.out))
    have B10 := Lib.hid (B9.out.trans (bb.mono B9.out.size))
    clear bb B9 L9 X9 P9 Q9
    dsimp only
    (try simp only [Act.put, List.setIfInBounds_toArray, List.set_cons_zero, List.set_cons_succ])
    refine hK.out _ _ ⟨X10.out, L10.out⟩ (fun hHeld => ?_)
    clear hK K
    refine wpAnyH_take (i := 10) (oi := ⟨some 38, _, _, _, _, _⟩) (v := (.tuple #[.agg #[.float .f64 a3, .float .f64 b3], .int .i64 TT.2.2])) rfl (by kernel_rfl) (by kernel_rfl) (by kernel_rfl) (fun _ _ _ h => h) (Or.inl ⟨by rfl, ?_⟩) (by assumption) ?_
    · intro w' hS; go_simp; try with_reducible rfl
    simp only [Act.put, List.setIfInBounds_toArray, List.set_cons_zero, List.set_cons_succ]
    refine wpAnyH_take (i := 11) (oi := ⟨some 49, _, _, _, _, _⟩) (v := (.agg #[.float .f64 a3, .float .f64 b3])) rfl (by kernel_rfl) (by kernel_rfl) (by kernel_rfl) (fun _ _ _ h => h) (Or.inl ⟨by rfl, ?_⟩) (by assumption) ?_
    · intro w' hS; go_simp; try with_reducible rfl
    simp only [Act.put, List.setIfInBounds_toArray, List.set_cons_zero, List.set_cons_succ]
    refine wpAnyH_take (i := 12) (oi := ⟨some 50, _, _, _, _, _⟩) (v := (.int .i64 TT.2.2)) rfl (by kernel_rfl) (by kernel_rfl) (by kernel_rfl) (fun _ _ _ h => h) (Or.inl ⟨by rfl, ?_⟩) (by assumption) ?_
    · intro w' hS; go_simp; try with_reducible rfl
    simp only [Act.put, List.setIfInBounds_toArray, List.set_cons_zero, List.set_cons_succ]
    refine wpAnyH_ready (rs := [13]) (by kernel_rfl) (by simp) ?_
    refine AllReadyH.cons (o := ⟨none, _, _, _, _, _⟩) rfl (fun K hK => ?_) AllReadyH.nil
    rw [if_pos (by rfl)]
    (try simp only [Act.put, List.setIfInBounds_toArray, List.set_cons_zero, List.set_cons_succ])
    refine wp_store_row 34 _ _ rfl A #[.float .f64 a3, .float .f64 b3] rfl rfl 34 #[.float .f64 a1, .float .f64 b1] P10.out (by kernel_rfl) rfl (by kernel_rfl) ?_
    have P11 : Hid (Blk (w10.setRow A #[.float .f64 a3, .float .f64 b3]) A 34 [.float .f64 a3, .float .f64 b3]) := Lib.hid (setRow_heap _ _ _ _ _ _ P10.out)
    have L11 := Lib.hid (L10.out.fr (fr_row w10 A #[.float .f64 a3, .float .f64 b3]) (by have h1 := NEA.out; have h2 := NEBk.out; omega))
    have X11 := Lib.hid (X10.out.fr (fr_row w10 A #[.float .f64 a3, .float .f64 b3]) (by have h1 := NEA.out; have h2 := NEBk.out; omega))
    have Q11 := Lib.hid (Q10.out.fr (fr_row w10 A #[.float .f64 a3, .float .f64 b3]) (by have h1 := NEA.out; have h2 := NEBk.out; omega))
    have B11 := Lib.hid (below_setRow B10.out (by have h1 := NEA.out; have h2 := NEBk.out; omega : w.heap.size ≤ A) #[.float .f64 a3, .float .f64 b3])
    clear B10 L10 X10 P10 Q10
    generalize w10.setRow A #[.float .f64 a3, .float .f64 b3] = w11 at *
    (try simp only [Act.put, List.setIfInBounds_toArray, List.set_cons_zero, List.set_cons_succ])
    refine hK.out _ _ ⟨X11.out, L11.out⟩ (fun hHeld => ?_)
    clear hK K
    refine wpAnyH_take (i := 14) (oi := ⟨some 5, _, _, _, _, _⟩) (v := (.int .i64 TT.2.2)) rfl (by kernel_rfl) (by kernel_rfl) (by kernel_rfl) (fun _ _ _ h => h) (Or.inl ⟨by rfl, ?_⟩) (by assumption) ?_
    · intro w' hS; go_simp; try with_reducible rfl
    simp only [Act.put, List.setIfInBounds_toArray, List.set_cons_zero, List.set_cons_succ]
    refine wpAnyH_done (by kernel_rfl) ?_ _
    go_wp2_with fail
    refine wp_region_held_drew (S := fun w' => Blk w' X 46 [.float .f64 xe, .int .i64 oe, .float .f64 xd, .int .i64 od, .float .f64 xn, .int .i64 on, .float .f64 xs, .int .i64 os, .int .i64 rn] ∧ Blk w' l 34 [.float .f64 e, .float .f64 d]) (by kernel_rfl) (⟨X11.out, L11.out⟩) (fun hHeld => ?_)
    have L12 : Hid (Blk w11.drew l 34 [.float .f64 e, .float .f64 d]) := L11
    have X12 : Hid (Blk w11.drew X 46 [.float .f64 xe, .int .i64 oe, .float .f64 xd, .int .i64 od, .float .f64 xn, .int .i64 on, .float .f64 xs, .int .i64 os, .int .i64 rn]) := X11
    have P12 : Hid (Blk w11.drew A 34 [.float .f64 a3, .float .f64 b3]) := P11
    have Q12 : Hid (Blk w11.drew Bk 34 [.float .f64 a2, .float .f64 b2]) := Q11
    have B12 := Lib.hid B11.out.drew
    clear B11 L11 X11 P11 Q11
    generalize w11.drew = w12 at *
    refine wpAnyH_take (i := 0) (oi := ⟨some 52, _, _, _, _, _⟩) (v := (.agg #[.float .f64 e, .float .f64 d])) rfl (by kernel_rfl) (by kernel_rfl) (by kernel_rfl) (fun _ _ _ h => h) (Or.inl ⟨by rfl, ?_⟩) (by assumption) ?_
    · intro w' hS; have h0 : w'.cell? ⟨l, 0, none⟩ = some (.float .f64 e) := Blk.cell hS.2 0; have h1 : w'.cell? ⟨l, 1, none⟩ = some (.float .f64 d) := Blk.cell hS.2 1; go_simp; try with_reducible rfl
    simp only [Act.put, List.setIfInBounds_toArray, List.set_cons_zero, List.set_cons_succ]
    refine wpAnyH_take (i := 1) (oi := ⟨some 53, _, _, _, _, _⟩) (v := (.pointer (some ⟨X, 8, none⟩))) rfl (by kernel_rfl) (by kernel_rfl) (by kernel_rfl) (fun _ _ _ h => h) (Or.inl ⟨by rfl, ?_⟩) (by assumption) ?_
    · intro w' hS; go_simp; try with_reducible rfl
    simp only [Act.put, List.setIfInBounds_toArray, List.set_cons_zero, List.set_cons_succ]
    refine wpAnyH_take (i := 2) (oi := ⟨some 54, _, _, _, _, _⟩) (v := (.int .i64 rn)) rfl (by kernel_rfl) (by kernel_rfl) (by kernel_rfl) (fun _ _ _ h => h) (Or.inl ⟨by rfl, ?_⟩) (by assumption) ?_
    · intro w' hS; have h0 : w'.cell? ⟨X, 8, none⟩ = some (.int .i64 rn) := Blk.cell hS.1 8; go_simp; try with_reducible rfl
    simp only [Act.put, List.setIfInBounds_toArray, List.set_cons_zero, List.set_cons_succ]
    refine wpAnyH_take (i := 3) (oi := ⟨some 55, _, _, _, _, _⟩) (v := (.pointer (some ⟨X, 4, none⟩))) rfl (by kernel_rfl) (by kernel_rfl) (by kernel_rfl) (fun _ _ _ h => h) (Or.inl ⟨by rfl, ?_⟩) (by assumption) ?_
    · intro w' hS; go_simp; try with_reducible rfl
    simp only [Act.put, List.setIfInBounds_toArray, List.set_cons_zero, List.set_cons_succ]
    refine wpAnyH_take (i := 4) (oi := ⟨some 56, _, _, _, _, _⟩) (v := (.agg #[.float .f64 xn, .int .i64 on])) rfl (by kernel_rfl) (by kernel_rfl) (by kernel_rfl) (fun _ _ _ h => h) (Or.inl ⟨by rfl, ?_⟩) (by assumption) ?_
    · intro w' hS; have h0 : w'.cell? ⟨X, 4, none⟩ = some (.float .f64 xn) := Blk.cell hS.1 4; have h1 : w'.cell? ⟨X, 5, none⟩ = some (.int .i64 on) := Blk.cell hS.1 5; go_simp; try with_reducible rfl
    simp only [Act.put, List.setIfInBounds_toArray, List.set_cons_zero, List.set_cons_succ]
    refine wpAnyH_take (i := 6) (oi := ⟨some 58, _, _, _, _, _⟩) (v := (.pointer (some ⟨X, 6, none⟩))) rfl (by kernel_rfl) (by kernel_rfl) (by kernel_rfl) (fun _ _ _ h => h) (Or.inl ⟨by rfl, ?_⟩) (by assumption) ?_
    · intro w' hS; go_simp; try with_reducible rfl
    simp only [Act.put, List.setIfInBounds_toArray, List.set_cons_zero, List.set_cons_succ]
    refine wpAnyH_take (i := 7) (oi := ⟨some 59, _, _, _, _, _⟩) (v := (.agg #[.float .f64 xs, .int .i64 os])) rfl (by kernel_rfl) (by kernel_rfl) (by kernel_rfl) (fun _ _ _ h => h) (Or.inl ⟨by rfl, ?_⟩) (by assumption) ?_
    · intro w' hS; have h0 : w'.cell? ⟨X, 6, none⟩ = some (.float .f64 xs) := Blk.cell hS.1 6; have h1 : w'.cell? ⟨X, 7, none⟩ = some (.int .i64 os) := Blk.cell hS.1 7; go_simp; try with_reducible rfl
    simp only [Act.put, List.setIfInBounds_toArray, List.set_cons_zero, List.set_cons_succ]
    refine wpAnyH_ready (rs := [5]) (by kernel_rfl) (by simp) ?_
    refine AllReadyH.cons (o := ⟨some 57, _, _, _, _, _⟩) rfl (fun K hK => ?_) AllReadyH.nil
    rw [if_pos (by rfl)]
    go_simp
    refine (value_any xn on w12 HW2.out).mono ?_
    rintro e' w13 ⟨r1, rfl, hv, -, bb⟩
    have Hr1 := Lib.hid hv
    clear hv
    have L13 := Lib.hid (L12.out.below bb (Blk.lt L12.out))
    have X13 := Lib.hid (X12.out.below bb (Blk.lt X12.out))
    have P13 := Lib.hid (P12.out.below bb (Blk.lt P12.out))
    have Q13 := Lib.hid (Q12.out.below bb (Blk.lt Q12.out))
    have B13 := Lib.hid (B12.out.trans (bb.mono B12.out.size))
    clear bb B12 L12 X12 P12 Q12
    dsimp only
    (try simp only [Act.put, List.setIfInBounds_toArray, List.set_cons_zero, List.set_cons_succ])
    refine hK.out _ _ ⟨X13.out, L13.out⟩ (fun hHeld => ?_)
    clear hK K
    refine wpAnyH_ready (rs := [8]) (by kernel_rfl) (by simp) ?_
    refine AllReadyH.cons (o := ⟨some 60, _, _, _, _, _⟩) rfl (fun K hK => ?_) AllReadyH.nil
    rw [if_pos (by rfl)]
    go_simp
    refine (value_any xs os w13 HW3.out).mono ?_
    rintro e' w14 ⟨r2, rfl, hv, -, bb⟩
    have Hr2 := Lib.hid hv
    clear hv
    have L14 := Lib.hid (L13.out.below bb (Blk.lt L13.out))
    have X14 := Lib.hid (X13.out.below bb (Blk.lt X13.out))
    have P14 := Lib.hid (P13.out.below bb (Blk.lt P13.out))
    have Q14 := Lib.hid (Q13.out.below bb (Blk.lt Q13.out))
    have B14 := Lib.hid (B13.out.trans (bb.mono B13.out.size))
    clear bb B13 L13 X13 P13 Q13
    dsimp only
    (try simp only [Act.put, List.setIfInBounds_toArray, List.set_cons_zero, List.set_cons_succ])
    refine hK.out _ _ ⟨X14.out, L14.out⟩ (fun hHeld => ?_)
    clear hK K
    refine wpAnyH_ready (rs := [9]) (by kernel_rfl) (by simp) ?_
    refine AllReadyH.cons (o := ⟨some 61, _, _, _, _, _⟩) rfl (fun K hK => ?_) AllReadyH.nil
    rw [if_pos (by rfl)]
    go_simp
    have hcc := radv_any e d rn r1 r2 w14
    rw [Hr1.out, Hr2.out, ← HTT.out] at hcc
    refine hcc.mono ?_
    clear hcc
    rintro e' w15 ⟨a4, b4, rfl, ha, hb, bb⟩
    have HAa4 := Lib.hid ha
    have HBa4 := Lib.hid hb
    clear ha hb Hr1 Hr2
    have L15 := Lib.hid (L14.out.below bb (Blk.lt L14.out))
    have X15 := Lib.hid (X14.out.below bb (Blk.lt X14.out))
    have P15 := Lib.hid (P14.out.below bb (Blk.lt P14.out))
    have Q15 := Lib.hid (Q14.out.below bb (Blk.lt Q14.out))
    have B15 := Lib.hid (B14.out.trans (bb.mono B14.out.size))
    clear bb B14 L14 X14 P14 Q14
    dsimp only
    (try simp only [Act.put, List.setIfInBounds_toArray, List.set_cons_zero, List.set_cons_succ])
    refine hK.out _ _ ⟨X15.out, L15.out⟩ (fun hHeld => ?_)
    clear hK K
    refine wpAnyH_take (i := 10) (oi := ⟨some 51, _, _, _, _, _⟩) (v := (.tuple #[.agg #[.float .f64 a4, .float .f64 b4], .int .i64 TT.2.2])) rfl (by kernel_rfl) (by kernel_rfl) (by kernel_rfl) (fun _ _ _ h => h) (Or.inl ⟨by rfl, ?_⟩) (by assumption) ?_
    · intro w' hS; go_simp; try with_reducible rfl
    simp only [Act.put, List.setIfInBounds_toArray, List.set_cons_zero, List.set_cons_succ]
    refine wpAnyH_take (i := 11) (oi := ⟨some 62, _, _, _, _, _⟩) (v := (.agg #[.float .f64 a4, .float .f64 b4])) rfl (by kernel_rfl) (by kernel_rfl) (by kernel_rfl) (fun _ _ _ h => h) (Or.inl ⟨by rfl, ?_⟩) (by assumption) ?_
    · intro w' hS; go_simp; try with_reducible rfl
    simp only [Act.put, List.setIfInBounds_toArray, List.set_cons_zero, List.set_cons_succ]
    refine wpAnyH_take (i := 12) (oi := ⟨some 63, _, _, _, _, _⟩) (v := (.int .i64 TT.2.2)) rfl (by kernel_rfl) (by kernel_rfl) (by kernel_rfl) (fun _ _ _ h => h) (Or.inl ⟨by rfl, ?_⟩) (by assumption) ?_
    · intro w' hS; go_simp; try with_reducible rfl
    simp only [Act.put, List.setIfInBounds_toArray, List.set_cons_zero, List.set_cons_succ]
    refine wpAnyH_ready (rs := [13]) (by kernel_rfl) (by simp) ?_
    refine AllReadyH.cons (o := ⟨none, _, _, _, _, _⟩) rfl (fun K hK => ?_) AllReadyH.nil
    rw [if_pos (by rfl)]
    (try simp only [Act.put, List.setIfInBounds_toArray, List.set_cons_zero, List.set_cons_succ])
    refine wp_store_row 34 _ _ rfl Bk #[.float .f64 a4, .float .f64 b4] rfl rfl 34 #[.float .f64 a2, .float .f64 b2] Q15.out (by kernel_rfl) rfl (by kernel_rfl) ?_
    have Q16 : Hid (Blk (w15.setRow Bk #[.float .f64 a4, .float .f64 b4]) Bk 34 [.float .f64 a4, .float .f64 b4]) := Lib.hid (setRow_heap _ _ _ _ _ _ Q15.out)
    have L16 := Lib.hid (L15.out.fr (fr_row w15 Bk #[.float .f64 a4, .float .f64 b4]) (by have h1 := NEA.out; have h2 := NEBk.out; omega))
    have X16 := Lib.hid (X15.out.fr (fr_row w15 Bk #[.float .f64 a4, .float .f64 b4]) (by have h1 := NEA.out; have h2 := NEBk.out; omega))
    have P16 := Lib.hid (P15.out.fr (fr_row w15 Bk #[.float .f64 a4, .float .f64 b4]) (by have h1 := NEA.out; have h2 := NEBk.out; omega))
    have B16 := Lib.hid (below_setRow B15.out (by have h1 := NEA.out; have h2 := NEBk.out; omega : w.heap.size ≤ Bk) #[.float .f64 a4, .float .f64 b4])
    clear B15 L15 X15 P15 Q15
    generalize w15.setRow Bk #[.float .f64 a4, .float .f64 b4] = w16 at *
    (try simp only [Act.put, List.setIfInBounds_toArray, List.set_cons_zero, List.set_cons_succ])
    refine hK.out _ _ ⟨X16.out, L16.out⟩ (fun hHeld => ?_)
    clear hK K
    refine wpAnyH_take (i := 14) (oi := ⟨some 7, _, _, _, _, _⟩) (v := (.int .i64 TT.2.2)) rfl (by kernel_rfl) (by kernel_rfl) (by kernel_rfl) (fun _ _ _ h => h) (Or.inl ⟨by rfl, ?_⟩) (by assumption) ?_
    · intro w' hS; go_simp; try with_reducible rfl
    simp only [Act.put, List.setIfInBounds_toArray, List.set_cons_zero, List.set_cons_succ]
    refine wpAnyH_done (by kernel_rfl) ?_ _
    have pa0 : w16.cell? ⟨A, 0, none⟩ = some (.float .f64 a3) := P16.out.cell 0
    have pa1 : w16.cell? ⟨A, 1, none⟩ = some (.float .f64 b3) := P16.out.cell 1
    have qa0 : w16.cell? ⟨Bk, 0, none⟩ = some (.float .f64 a4) := Q16.out.cell 0
    have qa1 : w16.cell? ⟨Bk, 1, none⟩ = some (.float .f64 b4) := Q16.out.cell 1
    go_wp2_with fail
    clear pa0 pa1 qa0 qa1
    refine (sameLoss_any a3 b3 a4 b4 w16 (by rw [HAa3.out, HAa4.out]) (by rw [HBa3.out, HBa4.out])).mono ?_
    rintro e' w17 ⟨rfl, bb⟩
    have L17 := Lib.hid (L16.out.below bb (Blk.lt L16.out))
    have B17 := Lib.hid (B16.out.trans (bb.mono B16.out.size))
    clear bb B16 L16
    generalize TT.2.2 = ct at *
    go_wp2_with fail
    go_ret
    exact ⟨rfl, HXE.out ▸ B17.out⟩
end Go.Proofs.Ytcfbaildcocnhaa

/-
  Walks: Advanced: the program's and the document's.
-/
import Derived.Test.YtcfbaildcocnhaaLo
import Derived.LoopTactic
import Derived.Deep.DeepCutAuto
import Derived.Outline
set_option linter.unusedVariables false
set_option linter.unusedSimpArgs false
namespace Go.Proofs.Ytcfbaildcocnhaa
open Go.RowKit

set_option maxRecDepth 100000 in
set_option maxHeartbeats 16000000 in
theorem adv_any (E D : Nat) (n : Int) (N S : Nat) (w : World) : Calls Try.prog 23 #[.agg #[.float .f64 E, .float .f64 D], .int .i64 n, .float .f64 N, .float .f64 S] w (LossP (advF (fv E) (fv D) n (fv N) (fv S)) w) := by
  have b0 := (((Below.refl w.heap.size w).alloc (Nat.le_refl _) (.cells #[.float .f64 E, .float .f64 D] 34)).alloc (by simp) (.cells #[.float .f64 0, .float .f64 0] 34))
  have B0 := Lib.hid b0
  have L0 : Hid (Blk ((w.alloc (.cells #[.float .f64 E, .float .f64 D] 34)).alloc (.cells #[.float .f64 0, .float .f64 0] 34)) w.heap.size 34 [.float .f64 E, .float .f64 D]) := Lib.hid ((Blk.new w 34 [.float .f64 E, .float .f64 D]).alloc _)
  have R0 : Hid (Blk ((w.alloc (.cells #[.float .f64 E, .float .f64 D] 34)).alloc (.cells #[.float .f64 0, .float .f64 0] 34)) (w.heap.size + 1) 34 [.float .f64 0, .float .f64 0]) := Lib.hid (Blk.new_at _ 34 [.float .f64 0, .float .f64 0] (by simp))
  clear b0
  go_enter Try.func23, Try.ntmps23
  go_upto_region 1 with fail
  generalize hR : w.heap.size + 1 = R at R0 ⊢
  have HR : Hid (w.heap.size ≤ R ∧ ¬ w.heap.size = R) := Lib.hid (by omega)
  clear hR
  generalize (w.alloc (.cells #[.float .f64 E, .float .f64 D] 34)).alloc (.cells #[.float .f64 0, .float .f64 0] 34) = w0 at *
  obtain ⟨n1, hn1⟩ : ∃ b, decide (n < 0) = b := ⟨_, rfl⟩
  obtain ⟨n2, hn2⟩ : ∃ b, decide (65536 < n) = b := ⟨_, rfl⟩
  have HO : Hid (outN n = (n1 || n2)) := Lib.hid (by unfold outN; rw [hn1, hn2])
  cases n1
  · cases n2
    · obtain ⟨p1, h1⟩ : ∃ b, (FloatKind.f64.format.order N 0 == some .gt || FloatKind.f64.format.order N 0 == some .eq) = b := ⟨_, rfl⟩
      obtain ⟨p2, h2⟩ : ∃ b, (FloatKind.f64.format.order N 4649368480934526976 == some .lt || FloatKind.f64.format.order N 4649368480934526976 == some .eq) = b := ⟨_, rfl⟩
      obtain ⟨p3, h3⟩ : ∃ b, (FloatKind.f64.format.order S 0 == some .gt || FloatKind.f64.format.order S 0 == some .eq) = b := ⟨_, rfl⟩
      obtain ⟨p4, h4⟩ : ∃ b, (FloatKind.f64.format.order S 4607182418800017408 == some .lt || FloatKind.f64.format.order S 4607182418800017408 == some .eq) = b := ⟨_, rfl⟩
      have HM : Hid (mayF (fv N) (fv S) = (p1 && p2 && p3 && p4)) := Lib.hid (by unfold mayF ge0 le7 le1; simp only [← ford_eq]; rw [h1, h2, h3, h4])
      have l0 : w0.cell? ⟨w.heap.size, 0, none⟩ = some (.float .f64 E) := L0.out.cell 0
      have l1 : w0.cell? ⟨w.heap.size, 1, none⟩ = some (.float .f64 D) := L0.out.cell 1
      go_wp2_with fail
      clear l0 l1
      refine (good_any E D _).mono ?_
      rintro e w1 ⟨rfl, b1⟩
      have B1 := Lib.hid (B0.out.trans (b1.mono B0.out.size))
      have L1 := Lib.hid (L0.out.below b1 (Blk.lt L0.out))
      have R1 := Lib.hid (R0.out.below b1 (Blk.lt R0.out))
      clear B0 L0 R0 b1
      cases hg : (fin (fv E) && fin (fv D))
      · have HG := Lib.hid hg
        clear hg
        go_wp2_with (refine wpList_store_row rfl 34 _ _ rfl R #[.float .f64 0, .float .f64 0] rfl rfl 34 #[.float .f64 0, .float .f64 0] R1.out (by kernel_rfl) rfl (by kernel_rfl) ?_)
        have hq : Blk (w1.setRow R #[.float .f64 0, .float .f64 0]) R 34 [.float .f64 0, .float .f64 0] := setRow_heap _ _ _ _ _ _ R1.out
        have r0 : (w1.setRow R #[.float .f64 0, .float .f64 0]).cell? ⟨R, 0, none⟩ = some (.float .f64 0) := hq.cell 0
        have r1 : (w1.setRow R #[.float .f64 0, .float .f64 0]).cell? ⟨R, 1, none⟩ = some (.float .f64 0) := hq.cell 1
        refine bodyPost_ret (v := .tuple #[.agg #[.float .f64 0, .float .f64 0], .int .i64 260]) (by simp [results, Try.results23, go_sem, r0, r1]) rfl ?_
        exact LossP.mk (T' := (fv 0, fv 0, 260)) (by unfold advF; rw [HO.out, HG.out]; rfl) rfl rfl (below_setRow B1.out HR.out.1 _) rfl
      · have HG := Lib.hid hg
        clear hg
        cases p1
        · go_wp2_with (refine wpList_store_row rfl 34 _ _ rfl R #[.float .f64 0, .float .f64 0] rfl rfl 34 #[.float .f64 0, .float .f64 0] R1.out (by kernel_rfl) rfl (by kernel_rfl) ?_)
          have hq : Blk (w1.setRow R #[.float .f64 0, .float .f64 0]) R 34 [.float .f64 0, .float .f64 0] := setRow_heap _ _ _ _ _ _ R1.out
          have r0 : (w1.setRow R #[.float .f64 0, .float .f64 0]).cell? ⟨R, 0, none⟩ = some (.float .f64 0) := hq.cell 0
          have r1 : (w1.setRow R #[.float .f64 0, .float .f64 0]).cell? ⟨R, 1, none⟩ = some (.float .f64 0) := hq.cell 1
          refine bodyPost_ret (v := .tuple #[.agg #[.float .f64 0, .float .f64 0], .int .i64 260]) (by simp [results, Try.results23, go_sem, r0, r1]) rfl ?_
          exact LossP.mk (T' := (fv 0, fv 0, 260)) (by unfold advF; rw [HO.out, HG.out, HM.out]; rfl) rfl rfl (below_setRow B1.out HR.out.1 _) rfl
        · cases p2
          · go_wp2_with (refine wpList_store_row rfl 34 _ _ rfl R #[.float .f64 0, .float .f64 0] rfl rfl 34 #[.float .f64 0, .float .f64 0] R1.out (by kernel_rfl) rfl (by kernel_rfl) ?_)
            have hq : Blk (w1.setRow R #[.float .f64 0, .float .f64 0]) R 34 [.float .f64 0, .float .f64 0] := setRow_heap _ _ _ _ _ _ R1.out
            have r0 : (w1.setRow R #[.float .f64 0, .float .f64 0]).cell? ⟨R, 0, none⟩ = some (.float .f64 0) := hq.cell 0
            have r1 : (w1.setRow R #[.float .f64 0, .float .f64 0]).cell? ⟨R, 1, none⟩ = some (.float .f64 0) := hq.cell 1
            refine bodyPost_ret (v := .tuple #[.agg #[.float .f64 0, .float .f64 0], .int .i64 260]) (by simp [results, Try.results23, go_sem, r0, r1]) rfl ?_
            exact LossP.mk (T' := (fv 0, fv 0, 260)) (by unfold advF; rw [HO.out, HG.out, HM.out]; rfl) rfl rfl (below_setRow B1.out HR.out.1 _) rfl
          · cases p3
            · go_wp2_with (refine wpList_store_row rfl 34 _ _ rfl R #[.float .f64 0, .float .f64 0] rfl rfl 34 #[.float .f64 0, .float .f64 0] R1.out (by kernel_rfl) rfl (by kernel_rfl) ?_)
              have hq : Blk (w1.setRow R #[.float .f64 0, .float .f64 0]) R 34 [.float .f64 0, .float .f64 0] := setRow_heap _ _ _ _ _ _ R1.out
              have r0 : (w1.setRow R #[.float .f64 0, .float .f64 0]).cell? ⟨R, 0, none⟩ = some (.float .f64 0) := hq.cell 0
              have r1 : (w1.setRow R #[.float .f64 0, .float .f64 0]).cell? ⟨R, 1, none⟩ = some (.float .f64 0) := hq.cell 1
              refine bodyPost_ret (v := .tuple #[.agg #[.float .f64 0, .float .f64 0], .int .i64 260]) (by simp [results, Try.results23, go_sem, r0, r1]) rfl ?_
              exact LossP.mk (T' := (fv 0, fv 0, 260)) (by unfold advF; rw [HO.out, HG.out, HM.out]; rfl) rfl rfl (below_setRow B1.out HR.out.1 _) rfl
            · cases p4
              · go_wp2_with (refine wpList_store_row rfl 34 _ _ rfl R #[.float .f64 0, .float .f64 0] rfl rfl 34 #[.float .f64 0, .float .f64 0] R1.out (by kernel_rfl) rfl (by kernel_rfl) ?_)
                have hq : Blk (w1.setRow R #[.float .f64 0, .float .f64 0]) R 34 [.float .f64 0, .float .f64 0] := setRow_heap _ _ _ _ _ _ R1.out
                have r0 : (w1.setRow R #[.float .f64 0, .float .f64 0]).cell? ⟨R, 0, none⟩ = some (.float .f64 0) := hq.cell 0
                have r1 : (w1.setRow R #[.float .f64 0, .float .f64 0]).cell? ⟨R, 1, none⟩ = some (.float .f64 0) := hq.cell 1
                refine bodyPost_ret (v := .tuple #[.agg #[.float .f64 0, .float .f64 0], .int .i64 260]) (by simp [results, Try.results23, go_sem, r0, r1]) rfl ?_
                exact LossP.mk (T' := (fv 0, fv 0, 260)) (by unfold advF; rw [HO.out, HG.out, HM.out]; rfl) rfl rfl (below_setRow B1.out HR.out.1 _) rfl
              · have l0 : w1.cell? ⟨w.heap.size, 0, none⟩ = some (.float .f64 E) := L1.out.cell 0
                have l1 : w1.cell? ⟨w.heap.size, 1, none⟩ = some (.float .f64 D) := L1.out.cell 1
                go_wp2_with (first | (refine wpList_float rfl .sub rfl _ _ _ _ rfl _ _ rfl rfl ?_; intro ra mra hr _; have Hra := Lib.hid hr; clear hr))
                refine (exp_of 13 exp_any ra _).mono ?_
                rintro e w' ⟨rb, mrb, rfl, rfl, hrb⟩
                have Hrb := Lib.hid hrb
                clear hrb
                go_wp2_with fail
                refine (exp_of 13 exp_any E _).mono ?_
                rintro e w' ⟨rc, mrc, rfl, rfl, hrc⟩
                have Hrc := Lib.hid hrc
                clear hrc
                obtain ⟨u1, hu1⟩ : ∃ b, (FloatKind.f64.format.order rb S == some .gt) = b := ⟨_, rfl⟩
                obtain ⟨u2, hu2⟩ : ∃ b, (exC (fv E) == 0) = b := ⟨_, rfl⟩
                have HU : Hid (badF (fv E) (fv N) (fv S) = (u1 || !u2)) := Lib.hid (by unfold badF; rw [show fv 0 = fv 0 from rfl, ← Hra.out, ← Hrb.out, ← ford_eq, hu1, hu2])
                generalize exC (fv E) = xc at *
                have B2 : Hid (Below w.heap.size w ((w1.drewN (mra + mrb)).drewN mrc)) := Lib.hid (belowN (belowN B1.out _) _)
                have L2 : Hid (Blk ((w1.drewN (mra + mrb)).drewN mrc) w.heap.size 34 [.float .f64 E, .float .f64 D]) := L1
                have R2 : Hid (Blk ((w1.drewN (mra + mrb)).drewN mrc) R 34 [.float .f64 0, .float .f64 0]) := R1
                clear B1 L1 R1 l0 l1
                generalize (w1.drewN (mra + mrb)).drewN mrc = w2 at *
                cases u1
                · cases u2
                  · go_wp2_with (refine wpList_store_row rfl 34 _ _ rfl R #[.float .f64 0, .float .f64 0] rfl rfl 34 #[.float .f64 0, .float .f64 0] R2.out (by kernel_rfl) rfl (by kernel_rfl) ?_)
                    have hq : Blk (w2.setRow R #[.float .f64 0, .float .f64 0]) R 34 [.float .f64 0, .float .f64 0] := setRow_heap _ _ _ _ _ _ R2.out
                    have r0 : (w2.setRow R #[.float .f64 0, .float .f64 0]).cell? ⟨R, 0, none⟩ = some (.float .f64 0) := hq.cell 0
                    have r1 : (w2.setRow R #[.float .f64 0, .float .f64 0]).cell? ⟨R, 1, none⟩ = some (.float .f64 0) := hq.cell 1
                    refine bodyPost_ret (v := .tuple #[.agg #[.float .f64 0, .float .f64 0], .int .i64 260]) (by simp [results, Try.results23, go_sem, r0, r1]) rfl ?_
                    exact LossP.mk (T' := (fv 0, fv 0, 260)) (by unfold advF; rw [HO.out, HG.out, HM.out, HU.out]; rfl) rfl rfl (below_setRow B2.out HR.out.1 _) rfl
                  · go_wp2_with fail
                    refine wp_region_held_drew (S := fun w' => Blk w' w.heap.size 34 [.float .f64 E, .float .f64 D]) (by kernel_rfl) (L2.out) (fun hHeld => ?_)
                    have B3 := Lib.hid B2.out.drew
                    have L3 : Hid (Blk w2.drew w.heap.size 34 [.float .f64 E, .float .f64 D]) := L2
                    have R3 : Hid (Blk w2.drew R 34 [.float .f64 0, .float .f64 0]) := R2
                    clear B2 L2 R2
                    generalize w2.drew = w3 at *
                    refine wpAnyH_take (i := 0) (oi := ⟨some 68, _, _, _, _, _⟩) (v := (.float .f64 (floatOfInt .f64 n))) rfl (by kernel_rfl) (by kernel_rfl) (by kernel_rfl) (fun _ _ _ h => h) (Or.inl ⟨by rfl, ?_⟩) (by assumption) ?_
                    · intro w' hS; go_simp; try with_reducible rfl
                    simp only [Act.put, List.setIfInBounds_toArray, List.set_cons_zero, List.set_cons_succ]
                    refine wpAnyH_take (i := 2) (oi := ⟨some 70, _, _, _, _, _⟩) (v := (.float .f64 N)) rfl (by kernel_rfl) (by kernel_rfl) (by kernel_rfl) (fun _ _ _ h => h) (Or.inl ⟨by rfl, ?_⟩) (by assumption) ?_
                    · intro w' hS; go_simp; try with_reducible rfl
                    simp only [Act.put, List.setIfInBounds_toArray, List.set_cons_zero, List.set_cons_succ]
                    refine wpAnyH_take (i := 5) (oi := ⟨some 73, _, _, _, _, _⟩) (v := (.pointer (some ⟨w.heap.size, 0, none⟩))) rfl (by kernel_rfl) (by kernel_rfl) (by kernel_rfl) (fun _ _ _ h => h) (Or.inl ⟨by rfl, ?_⟩) (by assumption) ?_
                    · intro w' hS; go_simp; try with_reducible rfl
                    simp only [Act.put, List.setIfInBounds_toArray, List.set_cons_zero, List.set_cons_succ]
                    refine wpAnyH_take (i := 6) (oi := ⟨some 74, _, _, _, _, _⟩) (v := (.float .f64 E)) rfl (by kernel_rfl) (by kernel_rfl) (by kernel_rfl) (fun _ _ _ h => h) (Or.inl ⟨by rfl, ?_⟩) (by assumption) ?_
                    · intro w' hS; have h0 : w'.cell? ⟨w.heap.size, 0, none⟩ = some (.float .f64 E) := Blk.cell hS 0; go_simp; try with_reducible rfl
                    simp only [Act.put, List.setIfInBounds_toArray, List.set_cons_zero, List.set_cons_succ]
                    refine wpAnyH_ready (rs := [1]) (by kernel_rfl) (by simp) ?_
                    refine AllReadyH.cons (o := ⟨some 69, _, _, _, _, _⟩) rfl (fun K hK => ?_) AllReadyH.nil
                    rw [if_pos (by rfl)]
                    (try simp only [Act.put, List.setIfInBounds_toArray, List.set_cons_zero, List.set_cons_succ])
                    refine wp_float .mul rfl _ _ _ _ rfl _ _ rfl rfl ?_
                    intro xa mxa hr
                    have Hxa := Lib.hid hr
                    clear hr
                    have B4 : Hid (Below w.heap.size w (w3.drewN mxa)) := Lib.hid (belowN B3.out _)
                    have L4 : Hid (Blk (w3.drewN mxa) w.heap.size 34 [.float .f64 E, .float .f64 D]) := L3
                    have R4 : Hid (Blk (w3.drewN mxa) R 34 [.float .f64 0, .float .f64 0]) := R3
                    clear B3 L3 R3
                    generalize w3.drewN mxa = w4 at *
                    (try simp only [Act.put, List.setIfInBounds_toArray, List.set_cons_zero, List.set_cons_succ])
                    refine hK.out _ _ L4.out (fun hHeld => ?_)
                    clear hK K
                    refine wpAnyH_ready (rs := [3]) (by kernel_rfl) (by simp) ?_
                    refine AllReadyH.cons (o := ⟨some 71, _, _, _, _, _⟩) rfl (fun K hK => ?_) AllReadyH.nil
                    rw [if_pos (by rfl)]
                    (try simp only [Act.put, List.setIfInBounds_toArray, List.set_cons_zero, List.set_cons_succ])
                    refine wp_float .mul rfl _ _ _ _ rfl _ _ rfl rfl ?_
                    intro xb mxb hr
                    have Hxb := Lib.hid hr
                    clear hr
                    have B5 : Hid (Below w.heap.size w (w4.drewN mxb)) := Lib.hid (belowN B4.out _)
                    have L5 : Hid (Blk (w4.drewN mxb) w.heap.size 34 [.float .f64 E, .float .f64 D]) := L4
                    have R5 : Hid (Blk (w4.drewN mxb) R 34 [.float .f64 0, .float .f64 0]) := R4
                    clear B4 L4 R4
                    generalize w4.drewN mxb = w5 at *
                    (try simp only [Act.put, List.setIfInBounds_toArray, List.set_cons_zero, List.set_cons_succ])
                    refine hK.out _ _ L5.out (fun hHeld => ?_)
                    clear hK K
                    refine wpAnyH_ready (rs := [4]) (by kernel_rfl) (by simp) ?_
                    refine AllReadyH.cons (o := ⟨some 72, _, _, _, _, _⟩) rfl (fun K hK => ?_) AllReadyH.nil
                    rw [if_pos (by rfl)]
                    go_simp
                    refine (root_any xb w5).mono ?_
                    rintro e' w' ⟨xd, mxd, rfl, rfl, hr⟩
                    have Hxd := Lib.hid hr
                    clear hr
                    have B6 : Hid (Below w.heap.size w (w5.drewN mxd)) := Lib.hid (belowN B5.out _)
                    have L6 : Hid (Blk (w5.drewN mxd) w.heap.size 34 [.float .f64 E, .float .f64 D]) := L5
                    have R6 : Hid (Blk (w5.drewN mxd) R 34 [.float .f64 0, .float .f64 0]) := R5
                    clear B5 L5 R5
                    generalize w5.drewN mxd = w6 at *
                    dsimp only
                    (try simp only [Act.put, List.setIfInBounds_toArray, List.set_cons_zero, List.set_cons_succ])
                    refine hK.out _ _ L6.out (fun hHeld => ?_)
                    clear hK K
                    refine wpAnyH_ready (rs := [7]) (by kernel_rfl) (by simp) ?_
                    refine AllReadyH.cons (o := ⟨some 75, _, _, _, _, _⟩) rfl (fun K hK => ?_) AllReadyH.nil
                    rw [if_pos (by rfl)]
                    (try simp only [Act.put, List.setIfInBounds_toArray, List.set_cons_zero, List.set_cons_succ])
                    refine wp_float .mul rfl _ _ _ _ rfl _ _ rfl rfl ?_
                    intro xe mxe hr
                    have Hxe := Lib.hid hr
                    clear hr
                    have B7 : Hid (Below w.heap.size w (w6.drewN mxe)) := Lib.hid (belowN B6.out _)
                    have L7 : Hid (Blk (w6.drewN mxe) w.heap.size 34 [.float .f64 E, .float .f64 D]) := L6
                    have R7 : Hid (Blk (w6.drewN mxe) R 34 [.float .f64 0, .float .f64 0]) := R6
                    clear B6 L6 R6
                    generalize w6.drewN mxe = w7 at *
                    (try simp only [Act.put, List.setIfInBounds_toArray, List.set_cons_zero, List.set_cons_succ])
                    refine hK.out _ _ L7.out (fun hHeld => ?_)
                    clear hK K
                    refine wpAnyH_take (i := 8) (oi := ⟨some 15, _, _, _, _, _⟩) (v := (.float .f64 xe)) rfl (by kernel_rfl) (by kernel_rfl) (by kernel_rfl) (fun _ _ _ h => h) (Or.inl ⟨by rfl, ?_⟩) (by assumption) ?_
                    · intro w' hS; go_simp; try with_reducible rfl
                    simp only [Act.put, List.setIfInBounds_toArray, List.set_cons_zero, List.set_cons_succ]
                    refine wpAnyH_done (by kernel_rfl) ?_ _
                    have l0 : w7.cell? ⟨w.heap.size, 0, none⟩ = some (.float .f64 E) := L7.out.cell 0
                    have l1 : w7.cell? ⟨w.heap.size, 1, none⟩ = some (.float .f64 D) := L7.out.cell 1
                    go_wp2_with (first | (have zz := Hye.out; clear zz; refine wpList_float rfl .add rfl _ _ _ _ rfl _ _ rfl rfl ?_; intro yf myf hr _; have Hyf := Lib.hid hr; clear hr) | (have zz := Hyd.out; clear zz; refine wpList_float rfl .mul rfl _ _ _ _ rfl _ _ rfl rfl ?_; intro ye mye hr _; have Hye := Lib.hid hr; clear hr) | (have zz := Hyc.out; clear zz; refine wpList_float rfl .add rfl _ _ _ _ rfl _ _ rfl rfl ?_; intro yd myd hr _; have Hyd := Lib.hid hr; clear hr) | (have zz := Hyb.out; clear zz; refine wpList_float rfl .mul rfl _ _ _ _ rfl _ _ rfl rfl ?_; intro yc myc hr _; have Hyc := Lib.hid hr; clear hr) | (have zz := Hya.out; clear zz; refine wpList_float rfl .sub rfl _ _ _ _ rfl _ _ rfl rfl ?_; intro yb myb hr _; have Hyb := Lib.hid hr; clear hr) | (refine wpList_float rfl .mul rfl _ _ _ _ rfl _ _ rfl rfl ?_; intro ya mya hr _; have Hya := Lib.hid hr; clear hr))
                    clear l0 l1
                    refine (told_any yd yf _).mono ?_
                    rintro e w8 ⟨ea, eb, rfl, hea, heb, bb⟩
                    have HE := Lib.hid hea
                    have HF := Lib.hid heb
                    have B8 := Lib.hid ((belowN B7.out _).trans (bb.mono (belowN B7.out _).size))
                    have R8 := Lib.hid (Blk.below (Blk.drewN R7.out _) bb (Blk.lt (Blk.drewN R7.out _)))
                    clear hea heb bb B7 R7
                    go_wp2_with (refine wpList_store_row rfl 34 _ _ rfl R #[.float .f64 ea, .float .f64 eb] rfl rfl 34 #[.float .f64 0, .float .f64 0] R8.out (by kernel_rfl) rfl (by kernel_rfl) ?_)
                    have hq : Blk (w8.setRow R #[.float .f64 ea, .float .f64 eb]) R 34 [.float .f64 ea, .float .f64 eb] := setRow_heap _ _ _ _ _ _ R8.out
                    have r0 : (w8.setRow R #[.float .f64 ea, .float .f64 eb]).cell? ⟨R, 0, none⟩ = some (.float .f64 ea) := hq.cell 0
                    have r1 : (w8.setRow R #[.float .f64 ea, .float .f64 eb]).cell? ⟨R, 1, none⟩ = some (.float .f64 eb) := hq.cell 1
                    refine bodyPost_ret (v := .tuple #[.agg #[.float .f64 ea, .float .f64 eb], .int .i64 (toldF (fv yd) (fv yf)).2.2]) (by simp [results, Try.results23, go_sem, r0, r1]) rfl ?_
                    exact LossP.mk (T' := toldF (fv yd) (fv yf)) (by unfold advF; rw [HO.out, HG.out, HM.out, HU.out, Hyd.out, Hyf.out, Hxe.out, Hyc.out, Hye.out, Hxd.out, Hxb.out, Hxa.out, Hya.out, Hyb.out, Hrc.out]; rfl) HE.out HF.out (below_setRow B8.out HR.out.1 _) rfl
                · go_wp2_with (refine wpList_store_row rfl 34 _ _ rfl R #[.float .f64 0, .float .f64 0] rfl rfl 34 #[.float .f64 0, .float .f64 0] R2.out (by kernel_rfl) rfl (by kernel_rfl) ?_)
                  have hq : Blk (w2.setRow R #[.float .f64 0, .float .f64 0]) R 34 [.float .f64 0, .float .f64 0] := setRow_heap _ _ _ _ _ _ R2.out
                  have r0 : (w2.setRow R #[.float .f64 0, .float .f64 0]).cell? ⟨R, 0, none⟩ = some (.float .f64 0) := hq.cell 0
                  have r1 : (w2.setRow R #[.float .f64 0, .float .f64 0]).cell? ⟨R, 1, none⟩ = some (.float .f64 0) := hq.cell 1
                  refine bodyPost_ret (v := .tuple #[.agg #[.float .f64 0, .float .f64 0], .int .i64 260]) (by simp [results, Try.results23, go_sem, r0, r1]) rfl ?_
                  exact LossP.mk (T' := (fv 0, fv 0, 260)) (by unfold advF; rw [HO.out, HG.out, HM.out, HU.out]; rfl) rfl rfl (below_setRow B2.out HR.out.1 _) rfl
    · go_wp2_with (refine wpList_store_row rfl 34 _ _ rfl R #[.float .f64 0, .float .f64 0] rfl rfl 34 #[.float .f64 0, .float .f64 0] R0.out (by kernel_rfl) rfl (by kernel_rfl) ?_)
      have hq : Blk (w0.setRow R #[.float .f64 0, .float .f64 0]) R 34 [.float .f64 0, .float .f64 0] := setRow_heap _ _ _ _ _ _ R0.out
      have r0 : (w0.setRow R #[.float .f64 0, .float .f64 0]).cell? ⟨R, 0, none⟩ = some (.float .f64 0) := hq.cell 0
      have r1 : (w0.setRow R #[.float .f64 0, .float .f64 0]).cell? ⟨R, 1, none⟩ = some (.float .f64 0) := hq.cell 1
      refine bodyPost_ret (v := .tuple #[.agg #[.float .f64 0, .float .f64 0], .int .i64 2]) (by simp [results, Try.results23, go_sem, r0, r1]) rfl ?_
      exact LossP.mk (T' := (fv 0, fv 0, 2)) (by unfold advF; rw [HO.out]; rfl) rfl rfl (below_setRow B0.out HR.out.1 _) rfl
  · go_wp2_with (refine wpList_store_row rfl 34 _ _ rfl R #[.float .f64 0, .float .f64 0] rfl rfl 34 #[.float .f64 0, .float .f64 0] R0.out (by kernel_rfl) rfl (by kernel_rfl) ?_)
    have hq : Blk (w0.setRow R #[.float .f64 0, .float .f64 0]) R 34 [.float .f64 0, .float .f64 0] := setRow_heap _ _ _ _ _ _ R0.out
    have r0 : (w0.setRow R #[.float .f64 0, .float .f64 0]).cell? ⟨R, 0, none⟩ = some (.float .f64 0) := hq.cell 0
    have r1 : (w0.setRow R #[.float .f64 0, .float .f64 0]).cell? ⟨R, 1, none⟩ = some (.float .f64 0) := hq.cell 1
    refine bodyPost_ret (v := .tuple #[.agg #[.float .f64 0, .float .f64 0], .int .i64 2]) (by simp [results, Try.results23, go_sem, r0, r1]) rfl ?_
    exact LossP.mk (T' := (fv 0, fv 0, 2)) (by unfold advF; rw [HO.out]; rfl) rfl rfl (below_setRow B0.out HR.out.1 _) rfl
set_option maxRecDepth 100000 in
set_option maxHeartbeats 16000000 in
theorem radv_any (E D : Nat) (n : Int) (N S : Nat) (w : World) : Calls Try.prog 24 #[.agg #[.float .f64 E, .float .f64 D], .int .i64 n, .float .f64 N, .float .f64 S] w (LossP (advF (fv E) (fv D) n (fv N) (fv S)) w) := by
  have b0 := (((Below.refl w.heap.size w).alloc (Nat.le_refl _) (.cells #[.float .f64 E, .float .f64 D] 34)).alloc (by simp) (.cells #[.float .f64 0, .float .f64 0] 34))
  have B0 := Lib.hid b0
  have L0 : Hid (Blk ((w.alloc (.cells #[.float .f64 E, .float .f64 D] 34)).alloc (.cells #[.float .f64 0, .float .f64 0] 34)) w.heap.size 34 [.float .f64 E, .float .f64 D]) := Lib.hid ((Blk.new w 34 [.float .f64 E, .float .f64 D]).alloc _)
  have R0 : Hid (Blk ((w.alloc (.cells #[.float .f64 E, .float .f64 D] 34)).alloc (.cells #[.float .f64 0, .float .f64 0] 34)) (w.heap.size + 1) 34 [.float .f64 0, .float .f64 0]) := Lib.hid (Blk.new_at _ 34 [.float .f64 0, .float .f64 0] (by simp))
  clear b0
  go_enter Try.func24, Try.ntmps24
  go_upto_region 1 with fail
  generalize hR : w.heap.size + 1 = R at R0 ⊢
  have HR : Hid (w.heap.size ≤ R ∧ ¬ w.heap.size = R) := Lib.hid (by omega)
  clear hR
  generalize (w.alloc (.cells #[.float .f64 E, .float .f64 D] 34)).alloc (.cells #[.float .f64 0, .float .f64 0] 34) = w0 at *
  obtain ⟨n1, hn1⟩ : ∃ b, decide (n < 0) = b := ⟨_, rfl⟩
  obtain ⟨n2, hn2⟩ : ∃ b, decide (65536 < n) = b := ⟨_, rfl⟩
  have HO : Hid (outN n = (n1 || n2)) := Lib.hid (by unfold outN; rw [hn1, hn2])
  cases n1
  · cases n2
    · obtain ⟨p1, h1⟩ : ∃ b, (FloatKind.f64.format.order N 0 == some .gt || FloatKind.f64.format.order N 0 == some .eq) = b := ⟨_, rfl⟩
      obtain ⟨p2, h2⟩ : ∃ b, (FloatKind.f64.format.order N 4649368480934526976 == some .lt || FloatKind.f64.format.order N 4649368480934526976 == some .eq) = b := ⟨_, rfl⟩
      obtain ⟨p3, h3⟩ : ∃ b, (FloatKind.f64.format.order S 0 == some .gt || FloatKind.f64.format.order S 0 == some .eq) = b := ⟨_, rfl⟩
      obtain ⟨p4, h4⟩ : ∃ b, (FloatKind.f64.format.order S 4607182418800017408 == some .lt || FloatKind.f64.format.order S 4607182418800017408 == some .eq) = b := ⟨_, rfl⟩
      have HM : Hid (mayF (fv N) (fv S) = (p1 && p2 && p3 && p4)) := Lib.hid (by unfold mayF ge0 le7 le1; simp only [← ford_eq]; rw [h1, h2, h3, h4])
      cases p1
      · have l0 : w0.cell? ⟨w.heap.size, 0, none⟩ = some (.float .f64 E) := L0.out.cell 0
        have l1 : w0.cell? ⟨w.heap.size, 1, none⟩ = some (.float .f64 D) := L0.out.cell 1
        go_wp2_with fail
        clear l0 l1
        refine (rgood_any E D _).mono ?_
        rintro e w1 ⟨rfl, b1⟩
        have B1 := Lib.hid (B0.out.trans (b1.mono B0.out.size))
        have L1 := Lib.hid (L0.out.below b1 (Blk.lt L0.out))
        have R1 := Lib.hid (R0.out.below b1 (Blk.lt R0.out))
        clear B0 L0 R0 b1
        cases hg : (fin (fv E) && fin (fv D))
        · have HG := Lib.hid hg
          clear hg
          go_wp2_with (refine wpList_store_row rfl 34 _ _ rfl R #[.float .f64 0, .float .f64 0] rfl rfl 34 #[.float .f64 0, .float .f64 0] R1.out (by kernel_rfl) rfl (by kernel_rfl) ?_)
          have hq : Blk (w1.setRow R #[.float .f64 0, .float .f64 0]) R 34 [.float .f64 0, .float .f64 0] := setRow_heap _ _ _ _ _ _ R1.out
          have r0 : (w1.setRow R #[.float .f64 0, .float .f64 0]).cell? ⟨R, 0, none⟩ = some (.float .f64 0) := hq.cell 0
          have r1 : (w1.setRow R #[.float .f64 0, .float .f64 0]).cell? ⟨R, 1, none⟩ = some (.float .f64 0) := hq.cell 1
          refine bodyPost_ret (v := .tuple #[.agg #[.float .f64 0, .float .f64 0], .int .i64 260]) (by simp [results, Try.results24, go_sem, r0, r1]) rfl ?_
          exact LossP.mk (T' := (fv 0, fv 0, 260)) (by unfold advF; rw [HO.out, HG.out]; rfl) rfl rfl (below_setRow B1.out HR.out.1 _) rfl
        · have HG := Lib.hid hg
          clear hg
          go_wp2_with (refine wpList_store_row rfl 34 _ _ rfl R #[.float .f64 0, .float .f64 0] rfl rfl 34 #[.float .f64 0, .float .f64 0] R1.out (by kernel_rfl) rfl (by kernel_rfl) ?_)
          have hq : Blk (w1.setRow R #[.float .f64 0, .float .f64 0]) R 34 [.float .f64 0, .float .f64 0] := setRow_heap _ _ _ _ _ _ R1.out
          have r0 : (w1.setRow R #[.float .f64 0, .float .f64 0]).cell? ⟨R, 0, none⟩ = some (.float .f64 0) := hq.cell 0
          have r1 : (w1.setRow R #[.float .f64 0, .float .f64 0]).cell? ⟨R, 1, none⟩ = some (.float .f64 0) := hq.cell 1
          refine bodyPost_ret (v := .tuple #[.agg #[.float .f64 0, .float .f64 0], .int .i64 260]) (by simp [results, Try.results24, go_sem, r0, r1]) rfl ?_
          exact LossP.mk (T' := (fv 0, fv 0, 260)) (by unfold advF; rw [HO.out, HG.out, HM.out]; rfl) rfl rfl (below_setRow B1.out HR.out.1 _) rfl
      · cases p2
        · have l0 : w0.cell? ⟨w.heap.size, 0, none⟩ = some (.float .f64 E) := L0.out.cell 0
          have l1 : w0.cell? ⟨w.heap.size, 1, none⟩ = some (.float .f64 D) := L0.out.cell 1
          go_wp2_with fail
          clear l0 l1
          refine (rgood_any E D _).mono ?_
          rintro e w1 ⟨rfl, b1⟩
          have B1 := Lib.hid (B0.out.trans (b1.mono B0.out.size))
          have L1 := Lib.hid (L0.out.below b1 (Blk.lt L0.out))
          have R1 := Lib.hid (R0.out.below b1 (Blk.lt R0.out))
          clear B0 L0 R0 b1
          cases hg : (fin (fv E) && fin (fv D))
          · have HG := Lib.hid hg
            clear hg
            go_wp2_with (refine wpList_store_row rfl 34 _ _ rfl R #[.float .f64 0, .float .f64 0] rfl rfl 34 #[.float .f64 0, .float .f64 0] R1.out (by kernel_rfl) rfl (by kernel_rfl) ?_)
            have hq : Blk (w1.setRow R #[.float .f64 0, .float .f64 0]) R 34 [.float .f64 0, .float .f64 0] := setRow_heap _ _ _ _ _ _ R1.out
            have r0 : (w1.setRow R #[.float .f64 0, .float .f64 0]).cell? ⟨R, 0, none⟩ = some (.float .f64 0) := hq.cell 0
            have r1 : (w1.setRow R #[.float .f64 0, .float .f64 0]).cell? ⟨R, 1, none⟩ = some (.float .f64 0) := hq.cell 1
            refine bodyPost_ret (v := .tuple #[.agg #[.float .f64 0, .float .f64 0], .int .i64 260]) (by simp [results, Try.results24, go_sem, r0, r1]) rfl ?_
            exact LossP.mk (T' := (fv 0, fv 0, 260)) (by unfold advF; rw [HO.out, HG.out]; rfl) rfl rfl (below_setRow B1.out HR.out.1 _) rfl
          · have HG := Lib.hid hg
            clear hg
            go_wp2_with (refine wpList_store_row rfl 34 _ _ rfl R #[.float .f64 0, .float .f64 0] rfl rfl 34 #[.float .f64 0, .float .f64 0] R1.out (by kernel_rfl) rfl (by kernel_rfl) ?_)
            have hq : Blk (w1.setRow R #[.float .f64 0, .float .f64 0]) R 34 [.float .f64 0, .float .f64 0] := setRow_heap _ _ _ _ _ _ R1.out
            have r0 : (w1.setRow R #[.float .f64 0, .float .f64 0]).cell? ⟨R, 0, none⟩ = some (.float .f64 0) := hq.cell 0
            have r1 : (w1.setRow R #[.float .f64 0, .float .f64 0]).cell? ⟨R, 1, none⟩ = some (.float .f64 0) := hq.cell 1
            refine bodyPost_ret (v := .tuple #[.agg #[.float .f64 0, .float .f64 0], .int .i64 260]) (by simp [results, Try.results24, go_sem, r0, r1]) rfl ?_
            exact LossP.mk (T' := (fv 0, fv 0, 260)) (by unfold advF; rw [HO.out, HG.out, HM.out]; rfl) rfl rfl (below_setRow B1.out HR.out.1 _) rfl
        · cases p3
          · have l0 : w0.cell? ⟨w.heap.size, 0, none⟩ = some (.float .f64 E) := L0.out.cell 0
            have l1 : w0.cell? ⟨w.heap.size, 1, none⟩ = some (.float .f64 D) := L0.out.cell 1
            go_wp2_with fail
            clear l0 l1
            refine (rgood_any E D _).mono ?_
            rintro e w1 ⟨rfl, b1⟩
            have B1 := Lib.hid (B0.out.trans (b1.mono B0.out.size))
            have L1 := Lib.hid (L0.out.below b1 (Blk.lt L0.out))
            have R1 := Lib.hid (R0.out.below b1 (Blk.lt R0.out))
            clear B0 L0 R0 b1
            cases hg : (fin (fv E) && fin (fv D))
            · have HG := Lib.hid hg
              clear hg
              go_wp2_with (refine wpList_store_row rfl 34 _ _ rfl R #[.float .f64 0, .float .f64 0] rfl rfl 34 #[.float .f64 0, .float .f64 0] R1.out (by kernel_rfl) rfl (by kernel_rfl) ?_)
              have hq : Blk (w1.setRow R #[.float .f64 0, .float .f64 0]) R 34 [.float .f64 0, .float .f64 0] := setRow_heap _ _ _ _ _ _ R1.out
              have r0 : (w1.setRow R #[.float .f64 0, .float .f64 0]).cell? ⟨R, 0, none⟩ = some (.float .f64 0) := hq.cell 0
              have r1 : (w1.setRow R #[.float .f64 0, .float .f64 0]).cell? ⟨R, 1, none⟩ = some (.float .f64 0) := hq.cell 1
              refine bodyPost_ret (v := .tuple #[.agg #[.float .f64 0, .float .f64 0], .int .i64 260]) (by simp [results, Try.results24, go_sem, r0, r1]) rfl ?_
              exact LossP.mk (T' := (fv 0, fv 0, 260)) (by unfold advF; rw [HO.out, HG.out]; rfl) rfl rfl (below_setRow B1.out HR.out.1 _) rfl
            · have HG := Lib.hid hg
              clear hg
              go_wp2_with (refine wpList_store_row rfl 34 _ _ rfl R #[.float .f64 0, .float .f64 0] rfl rfl 34 #[.float .f64 0, .float .f64 0] R1.out (by kernel_rfl) rfl (by kernel_rfl) ?_)
              have hq : Blk (w1.setRow R #[.float .f64 0, .float .f64 0]) R 34 [.float .f64 0, .float .f64 0] := setRow_heap _ _ _ _ _ _ R1.out
              have r0 : (w1.setRow R #[.float .f64 0, .float .f64 0]).cell? ⟨R, 0, none⟩ = some (.float .f64 0) := hq.cell 0
              have r1 : (w1.setRow R #[.float .f64 0, .float .f64 0]).cell? ⟨R, 1, none⟩ = some (.float .f64 0) := hq.cell 1
              refine bodyPost_ret (v := .tuple #[.agg #[.float .f64 0, .float .f64 0], .int .i64 260]) (by simp [results, Try.results24, go_sem, r0, r1]) rfl ?_
              exact LossP.mk (T' := (fv 0, fv 0, 260)) (by unfold advF; rw [HO.out, HG.out, HM.out]; rfl) rfl rfl (below_setRow B1.out HR.out.1 _) rfl
          · cases p4
            · have l0 : w0.cell? ⟨w.heap.size, 0, none⟩ = some (.float .f64 E) := L0.out.cell 0
              have l1 : w0.cell? ⟨w.heap.size, 1, none⟩ = some (.float .f64 D) := L0.out.cell 1
              go_wp2_with fail
              clear l0 l1
              refine (rgood_any E D _).mono ?_
              rintro e w1 ⟨rfl, b1⟩
              have B1 := Lib.hid (B0.out.trans (b1.mono B0.out.size))
              have L1 := Lib.hid (L0.out.below b1 (Blk.lt L0.out))
              have R1 := Lib.hid (R0.out.below b1 (Blk.lt R0.out))
              clear B0 L0 R0 b1
              cases hg : (fin (fv E) && fin (fv D))
              · have HG := Lib.hid hg
                clear hg
                go_wp2_with (refine wpList_store_row rfl 34 _ _ rfl R #[.float .f64 0, .float .f64 0] rfl rfl 34 #[.float .f64 0, .float .f64 0] R1.out (by kernel_rfl) rfl (by kernel_rfl) ?_)
                have hq : Blk (w1.setRow R #[.float .f64 0, .float .f64 0]) R 34 [.float .f64 0, .float .f64 0] := setRow_heap _ _ _ _ _ _ R1.out
                have r0 : (w1.setRow R #[.float .f64 0, .float .f64 0]).cell? ⟨R, 0, none⟩ = some (.float .f64 0) := hq.cell 0
                have r1 : (w1.setRow R #[.float .f64 0, .float .f64 0]).cell? ⟨R, 1, none⟩ = some (.float .f64 0) := hq.cell 1
                refine bodyPost_ret (v := .tuple #[.agg #[.float .f64 0, .float .f64 0], .int .i64 260]) (by simp [results, Try.results24, go_sem, r0, r1]) rfl ?_
                exact LossP.mk (T' := (fv 0, fv 0, 260)) (by unfold advF; rw [HO.out, HG.out]; rfl) rfl rfl (below_setRow B1.out HR.out.1 _) rfl
              · have HG := Lib.hid hg
                clear hg
                go_wp2_with (refine wpList_store_row rfl 34 _ _ rfl R #[.float .f64 0, .float .f64 0] rfl rfl 34 #[.float .f64 0, .float .f64 0] R1.out (by kernel_rfl) rfl (by kernel_rfl) ?_)
                have hq : Blk (w1.setRow R #[.float .f64 0, .float .f64 0]) R 34 [.float .f64 0, .float .f64 0] := setRow_heap _ _ _ _ _ _ R1.out
                have r0 : (w1.setRow R #[.float .f64 0, .float .f64 0]).cell? ⟨R, 0, none⟩ = some (.float .f64 0) := hq.cell 0
                have r1 : (w1.setRow R #[.float .f64 0, .float .f64 0]).cell? ⟨R, 1, none⟩ = some (.float .f64 0) := hq.cell 1
                refine bodyPost_ret (v := .tuple #[.agg #[.float .f64 0, .float .f64 0], .int .i64 260]) (by simp [results, Try.results24, go_sem, r0, r1]) rfl ?_
                exact LossP.mk (T' := (fv 0, fv 0, 260)) (by unfold advF; rw [HO.out, HG.out, HM.out]; rfl) rfl rfl (below_setRow B1.out HR.out.1 _) rfl
            · have l0 : w0.cell? ⟨w.heap.size, 0, none⟩ = some (.float .f64 E) := L0.out.cell 0
              have l1 : w0.cell? ⟨w.heap.size, 1, none⟩ = some (.float .f64 D) := L0.out.cell 1
              go_wp2_with fail
              clear l0 l1
              refine (rgood_any E D _).mono ?_
              rintro e w1 ⟨rfl, b1⟩
              have B1 := Lib.hid (B0.out.trans (b1.mono B0.out.size))
              have L1 := Lib.hid (L0.out.below b1 (Blk.lt L0.out))
              have R1 := Lib.hid (R0.out.below b1 (Blk.lt R0.out))
              clear B0 L0 R0 b1
              cases hg : (fin (fv E) && fin (fv D))
              · have HG := Lib.hid hg
                clear hg
                go_wp2_with (refine wpList_store_row rfl 34 _ _ rfl R #[.float .f64 0, .float .f64 0] rfl rfl 34 #[.float .f64 0, .float .f64 0] R1.out (by kernel_rfl) rfl (by kernel_rfl) ?_)
                have hq : Blk (w1.setRow R #[.float .f64 0, .float .f64 0]) R 34 [.float .f64 0, .float .f64 0] := setRow_heap _ _ _ _ _ _ R1.out
                have r0 : (w1.setRow R #[.float .f64 0, .float .f64 0]).cell? ⟨R, 0, none⟩ = some (.float .f64 0) := hq.cell 0
                have r1 : (w1.setRow R #[.float .f64 0, .float .f64 0]).cell? ⟨R, 1, none⟩ = some (.float .f64 0) := hq.cell 1
                refine bodyPost_ret (v := .tuple #[.agg #[.float .f64 0, .float .f64 0], .int .i64 260]) (by simp [results, Try.results24, go_sem, r0, r1]) rfl ?_
                exact LossP.mk (T' := (fv 0, fv 0, 260)) (by unfold advF; rw [HO.out, HG.out]; rfl) rfl rfl (below_setRow B1.out HR.out.1 _) rfl
              · have HG := Lib.hid hg
                clear hg
                have l0 : w1.cell? ⟨w.heap.size, 0, none⟩ = some (.float .f64 E) := L1.out.cell 0
                have l1 : w1.cell? ⟨w.heap.size, 1, none⟩ = some (.float .f64 D) := L1.out.cell 1
                go_wp2_with (first | (refine wpList_float rfl .sub rfl _ _ _ _ rfl _ _ rfl rfl ?_; intro ra mra hr _; have Hra := Lib.hid hr; clear hr))
                refine (exp_of 15 rexp_any ra _).mono ?_
                rintro e w' ⟨rb, mrb, rfl, rfl, hrb⟩
                have Hrb := Lib.hid hrb
                clear hrb
                go_wp2_with fail
                refine (exp_of 15 rexp_any E _).mono ?_
                rintro e w' ⟨rc, mrc, rfl, rfl, hrc⟩
                have Hrc := Lib.hid hrc
                clear hrc
                obtain ⟨u1, hu1⟩ : ∃ b, (FloatKind.f64.format.order rb S == some .gt) = b := ⟨_, rfl⟩
                obtain ⟨u2, hu2⟩ : ∃ b, (exC (fv E) == 0) = b := ⟨_, rfl⟩
                have HU : Hid (badF (fv E) (fv N) (fv S) = (u1 || !u2)) := Lib.hid (by unfold badF; rw [show fv 0 = fv 0 from rfl, ← Hra.out, ← Hrb.out, ← ford_eq, hu1, hu2])
                generalize exC (fv E) = xc at *
                have B2 : Hid (Below w.heap.size w ((w1.drewN (mra + mrb)).drewN mrc)) := Lib.hid (belowN (belowN B1.out _) _)
                have L2 : Hid (Blk ((w1.drewN (mra + mrb)).drewN mrc) w.heap.size 34 [.float .f64 E, .float .f64 D]) := L1
                have R2 : Hid (Blk ((w1.drewN (mra + mrb)).drewN mrc) R 34 [.float .f64 0, .float .f64 0]) := R1
                clear B1 L1 R1 l0 l1
                generalize (w1.drewN (mra + mrb)).drewN mrc = w2 at *
                cases u1
                · cases u2
                  · go_wp2_with (refine wpList_store_row rfl 34 _ _ rfl R #[.float .f64 0, .float .f64 0] rfl rfl 34 #[.float .f64 0, .float .f64 0] R2.out (by kernel_rfl) rfl (by kernel_rfl) ?_)
                    have hq : Blk (w2.setRow R #[.float .f64 0, .float .f64 0]) R 34 [.float .f64 0, .float .f64 0] := setRow_heap _ _ _ _ _ _ R2.out
                    have r0 : (w2.setRow R #[.float .f64 0, .float .f64 0]).cell? ⟨R, 0, none⟩ = some (.float .f64 0) := hq.cell 0
                    have r1 : (w2.setRow R #[.float .f64 0, .float .f64 0]).cell? ⟨R, 1, none⟩ = some (.float .f64 0) := hq.cell 1
                    refine bodyPost_ret (v := .tuple #[.agg #[.float .f64 0, .float .f64 0], .int .i64 260]) (by simp [results, Try.results24, go_sem, r0, r1]) rfl ?_
                    exact LossP.mk (T' := (fv 0, fv 0, 260)) (by unfold advF; rw [HO.out, HG.out, HM.out, HU.out]; rfl) rfl rfl (below_setRow B2.out HR.out.1 _) rfl
                  · go_wp2_with (first | (refine wpList_float rfl .mul rfl _ _ _ _ rfl _ _ rfl rfl ?_; intro xa mxa hr _; have Hxa := Lib.hid hr; clear hr))
                    have B2' : Hid (Below w.heap.size w (w2.drewN mxa)) := Lib.hid (belowN B2.out _)
                    have L2' : Hid (Blk (w2.drewN mxa) w.heap.size 34 [.float .f64 E, .float .f64 D]) := L2
                    have R2' : Hid (Blk (w2.drewN mxa) R 34 [.float .f64 0, .float .f64 0]) := R2
                    clear B2 L2 R2
                    generalize w2.drewN mxa = w2' at *
                    have B2 := B2'
                    have L2 := L2'
                    have R2 := R2'
                    clear B2' L2' R2'
                    refine wp_region_held_drew (S := fun w' => Blk w' w.heap.size 34 [.float .f64 E, .float .f64 D]) (by kernel_rfl) (L2.out) (fun hHeld => ?_)
                    have B3 := Lib.hid B2.out.drew
                    have L3 : Hid (Blk w2'.drew w.heap.size 34 [.float .f64 E, .float .f64 D]) := L2
                    have R3 : Hid (Blk w2'.drew R 34 [.float .f64 0, .float .f64 0]) := R2
                    clear B2 L2 R2
                    generalize w2'.drew = w3 at *
                    refine wpAnyH_take (i := 0) (oi := ⟨some 73, _, _, _, _, _⟩) (v := (.float .f64 xa)) rfl (by kernel_rfl) (by kernel_rfl) (by kernel_rfl) (fun _ _ _ h => h) (Or.inl ⟨by rfl, ?_⟩) (by assumption) ?_
                    · intro w' hS; go_simp; try with_reducible rfl
                    simp only [Act.put, List.setIfInBounds_toArray, List.set_cons_zero, List.set_cons_succ]
                    refine wpAnyH_take (i := 1) (oi := ⟨some 74, _, _, _, _, _⟩) (v := (.float .f64 N)) rfl (by kernel_rfl) (by kernel_rfl) (by kernel_rfl) (fun _ _ _ h => h) (Or.inl ⟨by rfl, ?_⟩) (by assumption) ?_
                    · intro w' hS; go_simp; try with_reducible rfl
                    simp only [Act.put, List.setIfInBounds_toArray, List.set_cons_zero, List.set_cons_succ]
                    refine wpAnyH_take (i := 4) (oi := ⟨some 77, _, _, _, _, _⟩) (v := (.pointer (some ⟨w.heap.size, 0, none⟩))) rfl (by kernel_rfl) (by kernel_rfl) (by kernel_rfl) (fun _ _ _ h => h) (Or.inl ⟨by rfl, ?_⟩) (by assumption) ?_
                    · intro w' hS; go_simp; try with_reducible rfl
                    simp only [Act.put, List.setIfInBounds_toArray, List.set_cons_zero, List.set_cons_succ]
                    refine wpAnyH_take (i := 5) (oi := ⟨some 78, _, _, _, _, _⟩) (v := (.float .f64 E)) rfl (by kernel_rfl) (by kernel_rfl) (by kernel_rfl) (fun _ _ _ h => h) (Or.inl ⟨by rfl, ?_⟩) (by assumption) ?_
                    · intro w' hS; have h0 : w'.cell? ⟨w.heap.size, 0, none⟩ = some (.float .f64 E) := Blk.cell hS 0; go_simp; try with_reducible rfl
                    simp only [Act.put, List.setIfInBounds_toArray, List.set_cons_zero, List.set_cons_succ]
                    refine wpAnyH_ready (rs := [2]) (by kernel_rfl) (by simp) ?_
                    refine AllReadyH.cons (o := ⟨some 75, _, _, _, _, _⟩) rfl (fun K hK => ?_) AllReadyH.nil
                    rw [if_pos (by rfl)]
                    (try simp only [Act.put, List.setIfInBounds_toArray, List.set_cons_zero, List.set_cons_succ])
                    refine wp_float .mul rfl _ _ _ _ rfl _ _ rfl rfl ?_
                    intro xb mxb hr
                    have Hxb := Lib.hid hr
                    clear hr
                    have B4 : Hid (Below w.heap.size w (w3.drewN mxb)) := Lib.hid (belowN B3.out _)
                    have L4 : Hid (Blk (w3.drewN mxb) w.heap.size 34 [.float .f64 E, .float .f64 D]) := L3
                    have R4 : Hid (Blk (w3.drewN mxb) R 34 [.float .f64 0, .float .f64 0]) := R3
                    clear B3 L3 R3
                    generalize w3.drewN mxb = w4 at *
                    (try simp only [Act.put, List.setIfInBounds_toArray, List.set_cons_zero, List.set_cons_succ])
                    refine hK.out _ _ L4.out (fun hHeld => ?_)
                    clear hK K
                    refine wpAnyH_ready (rs := [3]) (by kernel_rfl) (by simp) ?_
                    refine AllReadyH.cons (o := ⟨some 76, _, _, _, _, _⟩) rfl (fun K hK => ?_) AllReadyH.nil
                    rw [if_pos (by rfl)]
                    go_simp
                    refine (rroot_any xb w4).mono ?_
                    rintro e' w' ⟨xd, mxd, rfl, rfl, hr⟩
                    have Hxd := Lib.hid hr
                    clear hr
                    have B5 : Hid (Below w.heap.size w (w4.drewN mxd)) := Lib.hid (belowN B4.out _)
                    have L5 : Hid (Blk (w4.drewN mxd) w.heap.size 34 [.float .f64 E, .float .f64 D]) := L4
                    have R5 : Hid (Blk (w4.drewN mxd) R 34 [.float .f64 0, .float .f64 0]) := R4
                    clear B4 L4 R4
                    generalize w4.drewN mxd = w5 at *
                    dsimp only
                    (try simp only [Act.put, List.setIfInBounds_toArray, List.set_cons_zero, List.set_cons_succ])
                    refine hK.out _ _ L5.out (fun hHeld => ?_)
                    clear hK K
                    refine wpAnyH_ready (rs := [6]) (by kernel_rfl) (by simp) ?_
                    refine AllReadyH.cons (o := ⟨some 79, _, _, _, _, _⟩) rfl (fun K hK => ?_) AllReadyH.nil
                    rw [if_pos (by rfl)]
                    (try simp only [Act.put, List.setIfInBounds_toArray, List.set_cons_zero, List.set_cons_succ])
                    refine wp_float .mul rfl _ _ _ _ rfl _ _ rfl rfl ?_
                    intro xe mxe hr
                    have Hxe := Lib.hid hr
                    clear hr
                    have B6 : Hid (Below w.heap.size w (w5.drewN mxe)) := Lib.hid (belowN B5.out _)
                    have L6 : Hid (Blk (w5.drewN mxe) w.heap.size 34 [.float .f64 E, .float .f64 D]) := L5
                    have R6 : Hid (Blk (w5.drewN mxe) R 34 [.float .f64 0, .float .f64 0]) := R5
                    clear B5 L5 R5
                    generalize w5.drewN mxe = w6 at *
                    (try simp only [Act.put, List.setIfInBounds_toArray, List.set_cons_zero, List.set_cons_succ])
                    refine hK.out _ _ L6.out (fun hHeld => ?_)
                    clear hK K
                    refine wpAnyH_take (i := 7) (oi := ⟨some 17, _, _, _, _, _⟩) (v := (.float .f64 xe)) rfl (by kernel_rfl) (by kernel_rfl) (by kernel_rfl) (fun _ _ _ h => h) (Or.inl ⟨by rfl, ?_⟩) (by assumption) ?_
                    · intro w' hS; go_simp; try with_reducible rfl
                    simp only [Act.put, List.setIfInBounds_toArray, List.set_cons_zero, List.set_cons_succ]
                    refine wpAnyH_done (by kernel_rfl) ?_ _
                    have l0 : w6.cell? ⟨w.heap.size, 0, none⟩ = some (.float .f64 E) := L6.out.cell 0
                    have l1 : w6.cell? ⟨w.heap.size, 1, none⟩ = some (.float .f64 D) := L6.out.cell 1
                    go_wp2_with (first | (have zz := Hyd.out; clear zz; refine wpList_float rfl .add rfl _ _ _ _ rfl _ _ rfl rfl ?_; intro yf myf hr _; have Hyf := Lib.hid hr; clear hr) | (have zz := Hye.out; clear zz; refine wpList_float rfl .add rfl _ _ _ _ rfl _ _ rfl rfl ?_; intro yd myd hr _; have Hyd := Lib.hid hr; clear hr) | (have zz := Hyc.out; clear zz; refine wpList_float rfl .mul rfl _ _ _ _ rfl _ _ rfl rfl ?_; intro ye mye hr _; have Hye := Lib.hid hr; clear hr) | (have zz := Hyb.out; clear zz; refine wpList_float rfl .mul rfl _ _ _ _ rfl _ _ rfl rfl ?_; intro yc myc hr _; have Hyc := Lib.hid hr; clear hr) | (have zz := Hya.out; clear zz; refine wpList_float rfl .sub rfl _ _ _ _ rfl _ _ rfl rfl ?_; intro yb myb hr _; have Hyb := Lib.hid hr; clear hr) | (refine wpList_float rfl .mul rfl _ _ _ _ rfl _ _ rfl rfl ?_; intro ya mya hr _; have Hya := Lib.hid hr; clear hr))
                    clear l0 l1
                    refine (rtold_any yd yf _).mono ?_
                    rintro e w7 ⟨ea, eb, rfl, hea, heb, bb⟩
                    have HE := Lib.hid hea
                    have HF := Lib.hid heb
                    have B7 := Lib.hid ((belowN B6.out _).trans (bb.mono (belowN B6.out _).size))
                    have R7 := Lib.hid (Blk.below (Blk.drewN R6.out _) bb (Blk.lt (Blk.drewN R6.out _)))
                    clear hea heb bb B6 R6
                    go_wp2_with (refine wpList_store_row rfl 34 _ _ rfl R #[.float .f64 ea, .float .f64 eb] rfl rfl 34 #[.float .f64 0, .float .f64 0] R7.out (by kernel_rfl) rfl (by kernel_rfl) ?_)
                    have hq : Blk (w7.setRow R #[.float .f64 ea, .float .f64 eb]) R 34 [.float .f64 ea, .float .f64 eb] := setRow_heap _ _ _ _ _ _ R7.out
                    have r0 : (w7.setRow R #[.float .f64 ea, .float .f64 eb]).cell? ⟨R, 0, none⟩ = some (.float .f64 ea) := hq.cell 0
                    have r1 : (w7.setRow R #[.float .f64 ea, .float .f64 eb]).cell? ⟨R, 1, none⟩ = some (.float .f64 eb) := hq.cell 1
                    refine bodyPost_ret (v := .tuple #[.agg #[.float .f64 ea, .float .f64 eb], .int .i64 (toldF (fv yd) (fv yf)).2.2]) (by simp [results, Try.results24, go_sem, r0, r1]) rfl ?_
                    exact LossP.mk (T' := toldF (fv yd) (fv yf)) (by unfold advF; rw [HO.out, HG.out, HM.out, HU.out, Hyd.out, Hyf.out, Hxe.out, Hyc.out, Hye.out, Hxd.out, Hxb.out, Hxa.out, Hya.out, Hyb.out, Hrc.out]; rfl) HE.out HF.out (below_setRow B7.out HR.out.1 _) rfl
                · go_wp2_with (refine wpList_store_row rfl 34 _ _ rfl R #[.float .f64 0, .float .f64 0] rfl rfl 34 #[.float .f64 0, .float .f64 0] R2.out (by kernel_rfl) rfl (by kernel_rfl) ?_)
                  have hq : Blk (w2.setRow R #[.float .f64 0, .float .f64 0]) R 34 [.float .f64 0, .float .f64 0] := setRow_heap _ _ _ _ _ _ R2.out
                  have r0 : (w2.setRow R #[.float .f64 0, .float .f64 0]).cell? ⟨R, 0, none⟩ = some (.float .f64 0) := hq.cell 0
                  have r1 : (w2.setRow R #[.float .f64 0, .float .f64 0]).cell? ⟨R, 1, none⟩ = some (.float .f64 0) := hq.cell 1
                  refine bodyPost_ret (v := .tuple #[.agg #[.float .f64 0, .float .f64 0], .int .i64 260]) (by simp [results, Try.results24, go_sem, r0, r1]) rfl ?_
                  exact LossP.mk (T' := (fv 0, fv 0, 260)) (by unfold advF; rw [HO.out, HG.out, HM.out, HU.out]; rfl) rfl rfl (below_setRow B2.out HR.out.1 _) rfl
    · go_wp2_with (refine wpList_store_row rfl 34 _ _ rfl R #[.float .f64 0, .float .f64 0] rfl rfl 34 #[.float .f64 0, .float .f64 0] R0.out (by kernel_rfl) rfl (by kernel_rfl) ?_)
      have hq : Blk (w0.setRow R #[.float .f64 0, .float .f64 0]) R 34 [.float .f64 0, .float .f64 0] := setRow_heap _ _ _ _ _ _ R0.out
      have r0 : (w0.setRow R #[.float .f64 0, .float .f64 0]).cell? ⟨R, 0, none⟩ = some (.float .f64 0) := hq.cell 0
      have r1 : (w0.setRow R #[.float .f64 0, .float .f64 0]).cell? ⟨R, 1, none⟩ = some (.float .f64 0) := hq.cell 1
      refine bodyPost_ret (v := .tuple #[.agg #[.float .f64 0, .float .f64 0], .int .i64 2]) (by simp [results, Try.results24, go_sem, r0, r1]) rfl ?_
      exact LossP.mk (T' := (fv 0, fv 0, 2)) (by unfold advF; rw [HO.out]; rfl) rfl rfl (below_setRow B0.out HR.out.1 _) rfl
  · go_wp2_with (refine wpList_store_row rfl 34 _ _ rfl R #[.float .f64 0, .float .f64 0] rfl rfl 34 #[.float .f64 0, .float .f64 0] R0.out (by kernel_rfl) rfl (by kernel_rfl) ?_)
    have hq : Blk (w0.setRow R #[.float .f64 0, .float .f64 0]) R 34 [.float .f64 0, .float .f64 0] := setRow_heap _ _ _ _ _ _ R0.out
    have r0 : (w0.setRow R #[.float .f64 0, .float .f64 0]).cell? ⟨R, 0, none⟩ = some (.float .f64 0) := hq.cell 0
    have r1 : (w0.setRow R #[.float .f64 0, .float .f64 0]).cell? ⟨R, 1, none⟩ = some (.float .f64 0) := hq.cell 1
    refine bodyPost_ret (v := .tuple #[.agg #[.float .f64 0, .float .f64 0], .int .i64 2]) (by simp [results, Try.results24, go_sem, r0, r1]) rfl ?_
    exact LossP.mk (T' := (fv 0, fv 0, 2)) (by unfold advF; rw [HO.out]; rfl) rfl rfl (below_setRow B0.out HR.out.1 _) rfl
end Go.Proofs.Ytcfbaildcocnhaa

/-
  Walk: the law NoiseNeverOver.
-/
import Derived.Test.YtcfbaildcocnhaaAx
import Derived.Test.YtcfbaildcocnhaaLg
import Derived.Test.YtcfbaildcocnhaaPo
set_option linter.unusedVariables false
set_option linter.unusedSimpArgs false
namespace Go.Proofs.Ytcfbaildcocnhaa
open Go.RowKit

theorem feq_self {x : Nat} (h : nn x) : Op.floatEq .f64 x x = true := by
  show (FloatKind.f64.format.order x x == some .eq) = true
  rw [same_eq h]; rfl
set_option maxRecDepth 100000 in
set_option maxHeartbeats 16000000 in
theorem never_law (x0 : Nat) (o0 : Int) (x1 : Nat) (o1 : Int) (S1 : Option Addr) (k1 c1 : Nat) (f1 : Nat → Spn) (w : World)
    (hx0 : (Lit.float .f64 x0).wf = true) (hx1 : (Lit.float .f64 x1).wf = true) (hs1 : RdP w S1 f1 k1) (ho1 : SpnOk f1 k1) (hk1 : k1 ≤ 140737488354000) :
    Calls Try.prog 7 #[.agg #[.float .f64 x0, .int .i64 o0, .float .f64 x1, .int .i64 o1], .slice S1 k1 c1] w fun e w' => e = .returned (.bool true) ∧ Below w.heap.size w w' := by
  have HW0 := Lib.hid hx0
  have HW1 := Lib.hid hx1
  have HS1 := Lib.hid hs1
  have HO1 := Lib.hid ho1
  clear hx0 hx1 hs1 ho1
  have F0 := Lib.hid ((Below.refl w.heap.size w).alloc (Nat.le_refl _) (.cells #[.float .f64 x0, .int .i64 o0, .float .f64 x1, .int .i64 o1] 67))
  have HX : Hid (Blk (w.alloc (.cells #[.float .f64 x0, .int .i64 o0, .float .f64 x1, .int .i64 o1] 67)) w.heap.size 67 [.float .f64 x0, .int .i64 o0, .float .f64 x1, .int .i64 o1]) := Lib.hid (Blk.new w 67 _)
  go_enter Try.func7, Try.ntmps7
  go_wp2_with fail
  refine (awake_any _).mono ?_
  rintro e wa ⟨rfl, hb⟩
  have FA := Lib.hid (F0.out.trans (hb.mono F0.out.size))
  have HXA := Lib.hid (HX.out.below hb (Blk.lt HX.out))
  clear hb F0 HX
  go_upto_region 3 with fail
  generalize hX : w.heap.size = X at HXA ⊢
  have HXE := Lib.hid hX
  clear hX
  go_cut [5] from 18 (fun v5 wx => ∃ l e d, v5 = .pointer (some ⟨l, 0, none⟩) ∧ Blk wx l 34 [.float .f64 e, .float .f64 d] ∧ wa.heap.size ≤ l ∧ Below wa.heap.size wa wx)
  case first =>
    refine wp_region_held_drew (S := fun w' => Below wa.heap.size wa w') (by kernel_rfl) ((Below.refl wa.heap.size wa).drew) (fun hHeld => ?_)
    have V0 : Hid (Below wa.heap.size wa wa.drew) := Lib.hid (Below.refl wa.heap.size wa).drew
    generalize wa.drew = v0 at V0 hHeld ⊢
    refine wpAnyH_take (i := 0) (oi := ⟨some 18, _, _, _, _, _⟩) (v := (.pointer (some ⟨X, 0, none⟩))) rfl (by kernel_rfl) (by kernel_rfl) (by kernel_rfl) (fun _ _ _ h => h) (Or.inl ⟨by rfl, ?_⟩) (by assumption) ?_
    · intro w' hS; go_simp; try with_reducible rfl
    simp only [Act.put, List.setIfInBounds_toArray, List.set_cons_zero, List.set_cons_succ]
    refine wpAnyH_take (i := 1) (oi := ⟨some 19, _, _, _, _, _⟩) (v := (.agg #[.float .f64 x0, .int .i64 o0])) rfl (by kernel_rfl) (by kernel_rfl) (by kernel_rfl) (fun _ _ _ h => h) (Or.inl ⟨by rfl, ?_⟩) (by assumption) ?_
    · intro w' hS; have hq := HXA.out.below hS (Blk.lt HXA.out); have h0 : w'.cell? ⟨X, 0, none⟩ = some (.float .f64 x0) := hq.cell 0; have h1 : w'.cell? ⟨X, 1, none⟩ = some (.int .i64 o0) := hq.cell 1; clear hq; go_simp; try with_reducible rfl
    simp only [Act.put, List.setIfInBounds_toArray, List.set_cons_zero, List.set_cons_succ]
    refine wpAnyH_take (i := 3) (oi := ⟨some 21, _, _, _, _, _⟩) (v := (.pointer (some ⟨X, 2, none⟩))) rfl (by kernel_rfl) (by kernel_rfl) (by kernel_rfl) (fun _ _ _ h => h) (Or.inl ⟨by rfl, ?_⟩) (by assumption) ?_
    · intro w' hS; go_simp; try with_reducible rfl
    simp only [Act.put, List.setIfInBounds_toArray, List.set_cons_zero, List.set_cons_succ]
    refine wpAnyH_take (i := 4) (oi := ⟨some 22, _, _, _, _, _⟩) (v := (.agg #[.float .f64 x1, .int .i64 o1])) rfl (by kernel_rfl) (by kernel_rfl) (by kernel_rfl) (fun _ _ _ h => h) (Or.inl ⟨by rfl, ?_⟩) (by assumption) ?_
    · intro w' hS; have hq := HXA.out.below hS (Blk.lt HXA.out); have h0 : w'.cell? ⟨X, 2, none⟩ = some (.float .f64 x1) := hq.cell 2; have h1 : w'.cell? ⟨X, 3, none⟩ = some (.int .i64 o1) := hq.cell 3; clear hq; go_simp; try with_reducible rfl
    simp only [Act.put, List.setIfInBounds_toArray, List.set_cons_zero, List.set_cons_succ]
    refine wpAnyH_ready (rs := [2, 7]) (by kernel_rfl) (by simp) ?_
    refine AllReadyH.cons (o := ⟨some 20, _, _, _, _, _⟩) rfl (fun K hK => ?_) (AllReadyH.cons (o := ⟨some 5, _, _, _, _, _⟩) rfl (fun K hK => ?_) AllReadyH.nil)
    · rw [if_pos (by rfl)]
      go_simp
      refine (value_any x0 o0 v0 HW0.out).mono ?_
      rintro e' v1 ⟨r1, rfl, -, -, bb⟩
      have V1 := Lib.hid (V0.out.trans (bb.mono V0.out.size))
      clear bb V0
      dsimp only
      (try simp only [Act.put, List.setIfInBounds_toArray, List.set_cons_zero, List.set_cons_succ])
      refine hK.out _ _ V1.out (fun hHeld => ?_)
      clear hK K
      refine wpAnyH_ready (rs := [5, 7]) (by kernel_rfl) (by simp) ?_
      refine AllReadyH.cons (o := ⟨some 23, _, _, _, _, _⟩) rfl (fun K hK => ?_) (AllReadyH.cons (o := ⟨some 5, _, _, _, _, _⟩) rfl (fun K hK => ?_) AllReadyH.nil)
      · rw [if_pos (by rfl)]
        go_simp
        refine (value_any x1 o1 v1 HW1.out).mono ?_
        rintro e' v2 ⟨r2, rfl, -, -, bb⟩
        have V2 := Lib.hid (V1.out.trans (bb.mono V1.out.size))
        clear bb V1
        dsimp only
        (try simp only [Act.put, List.setIfInBounds_toArray, List.set_cons_zero, List.set_cons_succ])
        refine hK.out _ _ V2.out (fun hHeld => ?_)
        clear hK K
        refine wpAnyH_take (i := 6) (oi := ⟨some 24, _, _, _, _, _⟩) (v := (.agg #[.float .f64 r1, .float .f64 r2])) rfl (by kernel_rfl) (by kernel_rfl) (by kernel_rfl) (fun _ _ _ h => h) (Or.inl ⟨by rfl, ?_⟩) (by assumption) ?_
        · intro w' hS; go_simp; try with_reducible rfl
        simp only [Act.put, List.setIfInBounds_toArray, List.set_cons_zero, List.set_cons_succ]
        refine wpAnyH_ready (rs := [7]) (by kernel_rfl) (by simp) ?_
        refine AllReadyH.cons (o := ⟨some 5, _, _, _, _, _⟩) rfl (fun K hK => ?_) AllReadyH.nil
        rw [if_pos (by rfl)]
        go_simp
        have V3 := Lib.hid (V2.out.alloc V2.out.size (.cells #[.float .f64 0, .float .f64 0] 34))
        have L3 : Hid (Blk (v2.alloc (.cells #[.float .f64 0, .float .f64 0] 34)) v2.heap.size 34 [.float .f64 0, .float .f64 0]) := Lib.hid (Blk.new v2 34 _)
        have G : Hid (wa.heap.size ≤ v2.heap.size) := Lib.hid V2.out.size
        generalize v2.heap.size = l at L3 G ⊢
        generalize (v2.alloc (.cells #[.float .f64 0, .float .f64 0] 34)) = v3 at *
        clear V2
        (try simp only [Act.put, List.setIfInBounds_toArray, List.set_cons_zero, List.set_cons_succ])
        refine hK.out _ _ V3.out (fun hHeld => ?_)
        clear hK K
        refine wpAnyH_ready (rs := [8]) (by kernel_rfl) (by simp) ?_
        refine AllReadyH.cons (o := ⟨none, _, _, _, _, _⟩) rfl (fun K hK => ?_) AllReadyH.nil
        rw [if_pos (by rfl)]
        (try simp only [Act.put, List.setIfInBounds_toArray, List.set_cons_zero, List.set_cons_succ])
        refine wp_store_row 34 _ _ rfl l #[.float .f64 r1, .float .f64 r2] rfl rfl 34 #[.float .f64 0, .float .f64 0] L3.out (by kernel_rfl) rfl (by kernel_rfl) ?_
        have V4 := Lib.hid (below_setRow V3.out G.out #[.float .f64 r1, .float .f64 r2])
        have L4 : Hid (Blk (v3.setRow l #[.float .f64 r1, .float .f64 r2]) l 34 [.float .f64 r1, .float .f64 r2]) := Lib.hid (setRow_heap _ _ _ _ _ _ L3.out)
        generalize v3.setRow l #[.float .f64 r1, .float .f64 r2] = v4 at *
        clear V3 L3
        (try simp only [Act.put, List.setIfInBounds_toArray, List.set_cons_zero, List.set_cons_succ])
        refine hK.out _ _ V4.out (fun hHeld => ?_)
        clear hK K
        refine wpAnyH_done (by kernel_rfl) ?_ _
        go_wp2_with fail
        go_meet
        exact ⟨l, r1, r2, rfl, L4.out, G.out, V4.out⟩
      · rw [if_pos (by rfl)]
        go_simp
        have V2 := Lib.hid (V1.out.alloc V1.out.size (.cells #[.float .f64 0, .float .f64 0] 34))
        have L2 : Hid (Blk (v1.alloc (.cells #[.float .f64 0, .float .f64 0] 34)) v1.heap.size 34 [.float .f64 0, .float .f64 0]) := Lib.hid (Blk.new v1 34 _)
        have G : Hid (wa.heap.size ≤ v1.heap.size) := Lib.hid V1.out.size
        generalize v1.heap.size = l at L2 G ⊢
        generalize (v1.alloc (.cells #[.float .f64 0, .float .f64 0] 34)) = v2 at *
        clear V1
        (try simp only [Act.put, List.setIfInBounds_toArray, List.set_cons_zero, List.set_cons_succ])
        refine hK.out _ _ V2.out (fun hHeld => ?_)
        clear hK K
        refine wpAnyH_ready (rs := [5]) (by kernel_rfl) (by simp) ?_
        refine AllReadyH.cons (o := ⟨some 23, _, _, _, _, _⟩) rfl (fun K hK => ?_) AllReadyH.nil
        rw [if_pos (by rfl)]
        go_simp
        refine (value_any x1 o1 v2 HW1.out).mono ?_
        rintro e' v3 ⟨r2, rfl, -, -, bb⟩
        have V3 := Lib.hid (V2.out.trans (bb.mono V2.out.size))
        have L3 := Lib.hid (L2.out.below bb (Blk.lt L2.out))
        clear L2
        clear bb V2
        dsimp only
        (try simp only [Act.put, List.setIfInBounds_toArray, List.set_cons_zero, List.set_cons_succ])
        refine hK.out _ _ V3.out (fun hHeld => ?_)
        clear hK K
        refine wpAnyH_take (i := 6) (oi := ⟨some 24, _, _, _, _, _⟩) (v := (.agg #[.float .f64 r1, .float .f64 r2])) rfl (by kernel_rfl) (by kernel_rfl) (by kernel_rfl) (fun _ _ _ h => h) (Or.inl ⟨by rfl, ?_⟩) (by assumption) ?_
        · intro w' hS; go_simp; try with_reducible rfl
        simp only [Act.put, List.setIfInBounds_toArray, List.set_cons_zero, List.set_cons_succ]
        refine wpAnyH_ready (rs := [8]) (by kernel_rfl) (by simp) ?_
        refine AllReadyH.cons (o := ⟨none, _, _, _, _, _⟩) rfl (fun K hK => ?_) AllReadyH.nil
        rw [if_pos (by rfl)]
        (try simp only [Act.put, List.setIfInBounds_toArray, List.set_cons_zero, List.set_cons_succ])
        refine wp_store_row 34 _ _ rfl l #[.float .f64 r1, .float .f64 r2] rfl rfl 34 #[.float .f64 0, .float .f64 0] L3.out (by kernel_rfl) rfl (by kernel_rfl) ?_
        have V4 := Lib.hid (below_setRow V3.out G.out #[.float .f64 r1, .float .f64 r2])
        have L4 : Hid (Blk (v3.setRow l #[.float .f64 r1, .float .f64 r2]) l 34 [.float .f64 r1, .float .f64 r2]) := Lib.hid (setRow_heap _ _ _ _ _ _ L3.out)
        generalize v3.setRow l #[.float .f64 r1, .float .f64 r2] = v4 at *
        clear V3 L3
        (try simp only [Act.put, List.setIfInBounds_toArray, List.set_cons_zero, List.set_cons_succ])
        refine hK.out _ _ V4.out (fun hHeld => ?_)
        clear hK K
        refine wpAnyH_done (by kernel_rfl) ?_ _
        go_wp2_with fail
        go_meet
        exact ⟨l, r1, r2, rfl, L4.out, G.out, V4.out⟩
    · rw [if_pos (by rfl)]
      go_simp
      have V1 := Lib.hid (V0.out.alloc V0.out.size (.cells #[.float .f64 0, .float .f64 0] 34))
      have L1 : Hid (Blk (v0.alloc (.cells #[.float .f64 0, .float .f64 0] 34)) v0.heap.size 34 [.float .f64 0, .float .f64 0]) := Lib.hid (Blk.new v0 34 _)
      have G : Hid (wa.heap.size ≤ v0.heap.size) := Lib.hid V0.out.size
      generalize v0.heap.size = l at L1 G ⊢
      generalize (v0.alloc (.cells #[.float .f64 0, .float .f64 0] 34)) = v1 at *
      clear V0
      (try simp only [Act.put, List.setIfInBounds_toArray, List.set_cons_zero, List.set_cons_succ])
      refine hK.out _ _ V1.out (fun hHeld => ?_)
      clear hK K
      refine wpAnyH_ready (rs := [2]) (by kernel_rfl) (by simp) ?_
      refine AllReadyH.cons (o := ⟨some 20, _, _, _, _, _⟩) rfl (fun K hK => ?_) AllReadyH.nil
      rw [if_pos (by rfl)]
      go_simp
      refine (value_any x0 o0 v1 HW0.out).mono ?_
      rintro e' v2 ⟨r1, rfl, -, -, bb⟩
      have V2 := Lib.hid (V1.out.trans (bb.mono V1.out.size))
      have L2 := Lib.hid (L1.out.below bb (Blk.lt L1.out))
      clear L1
      clear bb V1
      dsimp only
      (try simp only [Act.put, List.setIfInBounds_toArray, List.set_cons_zero, List.set_cons_succ])
      refine hK.out _ _ V2.out (fun hHeld => ?_)
      clear hK K
      refine wpAnyH_ready (rs := [5]) (by kernel_rfl) (by simp) ?_
      refine AllReadyH.cons (o := ⟨some 23, _, _, _, _, _⟩) rfl (fun K hK => ?_) AllReadyH.nil
      rw [if_pos (by rfl)]
      go_simp
      refine (value_any x1 o1 v2 HW1.out).mono ?_
      rintro e' v3 ⟨r2, rfl, -, -, bb⟩
      have V3 := Lib.hid (V2.out.trans (bb.mono V2.out.size))
      have L3 := Lib.hid (L2.out.below bb (Blk.lt L2.out))
      clear L2
      clear bb V2
      dsimp only
      (try simp only [Act.put, List.setIfInBounds_toArray, List.set_cons_zero, List.set_cons_succ])
      refine hK.out _ _ V3.out (fun hHeld => ?_)
      clear hK K
      refine wpAnyH_take (i := 6) (oi := ⟨some 24, _, _, _, _, _⟩) (v := (.agg #[.float .f64 r1, .float .f64 r2])) rfl (by kernel_rfl) (by kernel_rfl) (by kernel_rfl) (fun _ _ _ h => h) (Or.inl ⟨by rfl, ?_⟩) (by assumption) ?_
      · intro w' hS; go_simp; try with_reducible rfl
      simp only [Act.put, List.setIfInBounds_toArray, List.set_cons_zero, List.set_cons_succ]
      refine wpAnyH_ready (rs := [8]) (by kernel_rfl) (by simp) ?_
      refine AllReadyH.cons (o := ⟨none, _, _, _, _, _⟩) rfl (fun K hK => ?_) AllReadyH.nil
      rw [if_pos (by rfl)]
      (try simp only [Act.put, List.setIfInBounds_toArray, List.set_cons_zero, List.set_cons_succ])
      refine wp_store_row 34 _ _ rfl l #[.float .f64 r1, .float .f64 r2] rfl rfl 34 #[.float .f64 0, .float .f64 0] L3.out (by kernel_rfl) rfl (by kernel_rfl) ?_
      have V4 := Lib.hid (below_setRow V3.out G.out #[.float .f64 r1, .float .f64 r2])
      have L4 : Hid (Blk (v3.setRow l #[.float .f64 r1, .float .f64 r2]) l 34 [.float .f64 r1, .float .f64 r2]) := Lib.hid (setRow_heap _ _ _ _ _ _ L3.out)
      generalize v3.setRow l #[.float .f64 r1, .float .f64 r2] = v4 at *
      clear V3 L3
      (try simp only [Act.put, List.setIfInBounds_toArray, List.set_cons_zero, List.set_cons_succ])
      refine hK.out _ _ V4.out (fun hHeld => ?_)
      clear hK K
      refine wpAnyH_done (by kernel_rfl) ?_ _
      go_wp2_with fail
      go_meet
      exact ⟨l, r1, r2, rfl, L4.out, G.out, V4.out⟩
  case rest =>
    obtain ⟨l, e1, d1, rfl, hcl, hcg, hcb⟩ := hcut
    have LL0 := Lib.hid hcl
    have WA0 := Lib.hid (FA.out.trans (hcb.mono FA.out.size))
    clear hcl hcg hcb FA HXA
    generalize wc = v0 at *
    have l0' : v0.cell? ⟨l, 0, none⟩ = some (.float .f64 e1) := LL0.out.cell 0
    have l1' : v0.cell? ⟨l, 1, none⟩ = some (.float .f64 d1) := LL0.out.cell 1
    go_wp2_with fail
    cases hg : (fin (fv e1) && fin (fv d1))
    · have HG := Lib.hid hg
      clear hg
      refine (newb_bad e1 d1 v0 HG.out).mono ?_
      rintro e v1 ⟨rfl, bb⟩
      have LL1 := Lib.hid (LL0.out.below bb (Blk.lt LL0.out))
      have WA1 := Lib.hid (WA0.out.trans (bb.mono WA0.out.size))
      clear bb
      clear l0' l1'
      have l0' : v1.cell? ⟨l, 0, none⟩ = some (.float .f64 e1) := LL1.out.cell 0
      have l1' : v1.cell? ⟨l, 1, none⟩ = some (.float .f64 d1) := LL1.out.cell 1
      go_wp2_with fail
      have hl := lgood_any e1 d1 v1
      rw [HG.out] at hl
      refine hl.mono ?_
      rintro e v2 ⟨rfl, bb⟩
      have WA2 := Lib.hid (WA1.out.trans (bb.mono WA1.out.size))
      clear bb hl
      go_wp2_with fail
      go_ret
      exact ⟨rfl, HXE.out ▸ WA2.out⟩
    · have HG := Lib.hid hg
      clear hg
      have NM : Hid (nn e1 ∧ nn d1) := Lib.hid (by have h := HG.out; simp only [Bool.and_eq_true] at h; exact ⟨fin_nn h.1, fin_nn h.2⟩)
      refine (newb_good e1 d1 v0 HG.out).mono ?_
      rintro e v1 ⟨p, rfl, OP, BU1, bb⟩
      have PL : Hid (w.heap.size ≤ p) := Lib.hid (Nat.le_trans WA0.out.size OP.out)
      have LL1 := Lib.hid (LL0.out.below bb (Blk.lt LL0.out))
      have WA1 := Lib.hid (WA0.out.trans (bb.mono WA0.out.size))
      clear bb OP
      clear l0' l1'
      have l0' : v1.cell? ⟨l, 0, none⟩ = some (.float .f64 e1) := LL1.out.cell 0
      have l1' : v1.cell? ⟨l, 1, none⟩ = some (.float .f64 d1) := LL1.out.cell 1
      go_wp2_with fail
      have hl := lgood_any e1 d1 v1
      rw [HG.out] at hl
      refine hl.mono ?_
      rintro e v2 ⟨rfl, bb⟩
      have LL2 := Lib.hid (LL1.out.below bb (Blk.lt LL1.out))
      have BU2 : Hid (Bud 96 v2 p e1 d1 0 0) := Lib.hid (Blk.below BU1.out bb (Blk.lt BU1.out))
      have WA2 := Lib.hid (WA1.out.trans (bb.mono WA1.out.size))
      clear bb hl LL1 BU1 WA1 WA0 LL0
      clear l0' l1'
      go_wp2_with fail
      refine (spent_of p e1 d1 0 0 v2 BU2.out).mono ?_
      rintro e v3 ⟨rfl, bb⟩
      have LL3 := Lib.hid (LL2.out.below bb (Blk.lt LL2.out))
      have BU3 : Hid (Bud 96 v3 p e1 d1 0 0) := Lib.hid (Blk.below BU2.out bb (Blk.lt BU2.out))
      have WA3 := Lib.hid (WA2.out.trans (bb.mono WA2.out.size))
      have q0 := eq22 v3 0 0
      rw [show Op.floatEq .f64 0 0 = true from by decide] at q0
      have o2 : FloatKind.f64.format.order 0 0 = some .eq := by decide
      have NS3 : Hid (nn 0 ∧ nn 0 ∧ Under e1 d1 0 0) := Lib.hid ⟨nn_0, nn_0, zero_le NM.out.1, zero_le NM.out.2⟩
      clear bb LL2 BU2 WA2
      go_wp2_with fail
      clear q0 o2
      go_loopw [7, 8] (fun z7 z8 wx => ∃ (k : Nat) (c : Int) (se sd : Nat), z7 = .int .i64 c ∧ z8 = .int .i64 k ∧ Hid (k ≤ k1) ∧ Hid (Below w.heap.size w wx) ∧ Hid (Blk wx l 34 [.float .f64 e1, .float .f64 d1]) ∧ Hid (Bud 96 wx p e1 d1 se sd) ∧ Hid (nn se ∧ nn sd ∧ Under e1 d1 se sd)) (fun _ z8 _ => k1 - (intOf z8).toNat)
      case atStart => exact ⟨0, 0, 0, 0, rfl, rfl, Lib.hid (Nat.zero_le _), WA3, LL3, BU3, NS3⟩
      case round =>
        obtain ⟨k, c0, se, sd, rfl, rfl, HI, WA, LA, BA, NS⟩ := hrel
        clear WA3 LL3 BU3 NS3
        have hi0 : k ≤ 140737488354000 := by have := HI.out; omega
        have m1 : IntKind.i64.wrap ((k : Int) + 1) = ((k + 1 : Nat) : Int) := by rw [IntKind.wrap_i64] <;> omega
        by_cases hi1 : k < k1
        · have d1' : decide ((k : Int) < (k1 : Int)) = true := by simp; omega
          obtain ⟨b, off, hA1, hbl1, a0, a1, a2, a3, a4⟩ := (HS1.out.below WA.out) k hi1
          cases hA1
          have A1 := Lib.hid a1
          have A2 := Lib.hid a2
          have A3 := Lib.hid a3
          have A4 := Lib.hid a4
          have HBL : Hid (b < wr.heap.size) := Lib.hid hbl1
          clear a0 a1 a2 a3 a4 hbl1
          have OK1 := Lib.hid (HO1.out k hi1)
          go_upto_region 12 with fail
          go_cut [9] from 57 (fun v9 wx => ∃ l2 e d, v9 = .pointer (some ⟨l2, 0, none⟩) ∧ Blk wx l2 34 [.float .f64 e, .float .f64 d] ∧ wr.heap.size ≤ l2 ∧ Below wr.heap.size wr wx)
          case first =>
            refine wp_region_held_drew (S := fun w' => Below wr.heap.size wr w') (by kernel_rfl) ((Below.refl wr.heap.size wr).drew) (fun hHeld => ?_)
            have V0 : Hid (Below wr.heap.size wr wr.drew) := Lib.hid (Below.refl wr.heap.size wr).drew
            generalize wr.drew = v0 at V0 hHeld ⊢
            refine wpAnyH_take (i := 0) (oi := ⟨some 57, _, _, _, _, _⟩) (v := (.slice (some ⟨b, off, none⟩) k1 c1)) rfl (by kernel_rfl) (by kernel_rfl) (by kernel_rfl) (fun _ _ _ h => h) (Or.inl ⟨by rfl, ?_⟩) (by assumption) ?_
            · intro w' hS; go_simp; try with_reducible rfl
            simp only [Act.put, List.setIfInBounds_toArray, List.set_cons_zero, List.set_cons_succ]
            refine wpAnyH_take (i := 1) (oi := ⟨some 58, _, _, _, _, _⟩) (v := (.int .i64 k)) rfl (by kernel_rfl) (by kernel_rfl) (by kernel_rfl) (fun _ _ _ h => h) (Or.inl ⟨by rfl, ?_⟩) (by assumption) ?_
            · intro w' hS; go_simp; try with_reducible rfl
            simp only [Act.put, List.setIfInBounds_toArray, List.set_cons_zero, List.set_cons_succ]
            refine wpAnyH_take (i := 2) (oi := ⟨some 59, _, _, _, _, _⟩) (v := (.pointer (some ⟨b, off + k * 5, none⟩))) rfl (by kernel_rfl) (by kernel_rfl) (by kernel_rfl) (fun _ _ _ h => h) (Or.inl ⟨by rfl, ?_⟩) (by assumption) ?_
            · intro w' hS; go_simp; try with_reducible rfl
            simp only [Act.put, List.setIfInBounds_toArray, List.set_cons_zero, List.set_cons_succ]
            refine wpAnyH_take (i := 3) (oi := ⟨some 60, _, _, _, _, _⟩) (v := (.pointer (some ⟨b, off + k * 5 + 1, none⟩))) rfl (by kernel_rfl) (by kernel_rfl) (by kernel_rfl) (fun _ _ _ h => h) (Or.inl ⟨by rfl, ?_⟩) (by assumption) ?_
            · intro w' hS; go_simp; try with_reducible rfl
            simp only [Act.put, List.setIfInBounds_toArray, List.set_cons_zero, List.set_cons_succ]
            refine wpAnyH_take (i := 4) (oi := ⟨some 61, _, _, _, _, _⟩) (v := (.agg #[.float .f64 (f1 k).xb, .int .i64 (f1 k).xo])) rfl (by kernel_rfl) (by kernel_rfl) (by kernel_rfl) (fun _ _ _ h => h) (Or.inl ⟨by rfl, ?_⟩) (by assumption) ?_
            · intro w' hS; have h0 : w'.cell? ⟨b, off + k * 5 + 1, none⟩ = some (.float .f64 (f1 k).xb) := (hS.cell (p := ⟨b, _, none⟩) HBL.out).trans A1.out; have h1 : w'.cell? ⟨b, off + k * 5 + 2, none⟩ = some (.int .i64 (f1 k).xo) := (hS.cell (p := ⟨b, _, none⟩) HBL.out).trans A2.out; go_simp; try with_reducible rfl
            simp only [Act.put, List.setIfInBounds_toArray, List.set_cons_zero, List.set_cons_succ]
            refine wpAnyH_take (i := 6) (oi := ⟨some 63, _, _, _, _, _⟩) (v := (.slice (some ⟨b, off, none⟩) k1 c1)) rfl (by kernel_rfl) (by kernel_rfl) (by kernel_rfl) (fun _ _ _ h => h) (Or.inl ⟨by rfl, ?_⟩) (by assumption) ?_
            · intro w' hS; go_simp; try with_reducible rfl
            simp only [Act.put, List.setIfInBounds_toArray, List.set_cons_zero, List.set_cons_succ]
            refine wpAnyH_take (i := 7) (oi := ⟨some 64, _, _, _, _, _⟩) (v := (.int .i64 k)) rfl (by kernel_rfl) (by kernel_rfl) (by kernel_rfl) (fun _ _ _ h => h) (Or.inl ⟨by rfl, ?_⟩) (by assumption) ?_
            · intro w' hS; go_simp; try with_reducible rfl
            simp only [Act.put, List.setIfInBounds_toArray, List.set_cons_zero, List.set_cons_succ]
            refine wpAnyH_take (i := 8) (oi := ⟨some 65, _, _, _, _, _⟩) (v := (.pointer (some ⟨b, off + k * 5, none⟩))) rfl (by kernel_rfl) (by kernel_rfl) (by kernel_rfl) (fun _ _ _ h => h) (Or.inl ⟨by rfl, ?_⟩) (by assumption) ?_
            · intro w' hS; go_simp; try with_reducible rfl
            simp only [Act.put, List.setIfInBounds_toArray, List.set_cons_zero, List.set_cons_succ]
            refine wpAnyH_take (i := 9) (oi := ⟨some 66, _, _, _, _, _⟩) (v := (.pointer (some ⟨b, off + k * 5 + 3, none⟩))) rfl (by kernel_rfl) (by kernel_rfl) (by kernel_rfl) (fun _ _ _ h => h) (Or.inl ⟨by rfl, ?_⟩) (by assumption) ?_
            · intro w' hS; go_simp; try with_reducible rfl
            simp only [Act.put, List.setIfInBounds_toArray, List.set_cons_zero, List.set_cons_succ]
            refine wpAnyH_take (i := 10) (oi := ⟨some 67, _, _, _, _, _⟩) (v := (.agg #[.float .f64 (f1 k).yb, .int .i64 (f1 k).yo])) rfl (by kernel_rfl) (by kernel_rfl) (by kernel_rfl) (fun _ _ _ h => h) (Or.inl ⟨by rfl, ?_⟩) (by assumption) ?_
            · intro w' hS; have h0 : w'.cell? ⟨b, off + k * 5 + 3, none⟩ = some (.float .f64 (f1 k).yb) := (hS.cell (p := ⟨b, _, none⟩) HBL.out).trans A3.out; have h1 : w'.cell? ⟨b, off + k * 5 + 4, none⟩ = some (.int .i64 (f1 k).yo) := (hS.cell (p := ⟨b, _, none⟩) HBL.out).trans A4.out; go_simp; try with_reducible rfl
            simp only [Act.put, List.setIfInBounds_toArray, List.set_cons_zero, List.set_cons_succ]
            refine wpAnyH_ready (rs := [5, 13]) (by kernel_rfl) (by simp) ?_
            refine AllReadyH.cons (o := ⟨some 62, _, _, _, _, _⟩) rfl (fun K hK => ?_) (AllReadyH.cons (o := ⟨some 9, _, _, _, _, _⟩) rfl (fun K hK => ?_) AllReadyH.nil)
            · rw [if_pos (by rfl)]
              go_simp
              refine (value_any ((f1 k).xb) ((f1 k).xo) v0 OK1.out.1).mono ?_
              rintro e' v1 ⟨r1, rfl, -, -, bb⟩
              have V1 := Lib.hid (V0.out.trans (bb.mono V0.out.size))
              clear bb V0
              dsimp only
              (try simp only [Act.put, List.setIfInBounds_toArray, List.set_cons_zero, List.set_cons_succ])
              refine hK.out _ _ V1.out (fun hHeld => ?_)
              clear hK K
              refine wpAnyH_ready (rs := [11, 13]) (by kernel_rfl) (by simp) ?_
              refine AllReadyH.cons (o := ⟨some 68, _, _, _, _, _⟩) rfl (fun K hK => ?_) (AllReadyH.cons (o := ⟨some 9, _, _, _, _, _⟩) rfl (fun K hK => ?_) AllReadyH.nil)
              · rw [if_pos (by rfl)]
                go_simp
                refine (value_any ((f1 k).yb) ((f1 k).yo) v1 OK1.out.2).mono ?_
                rintro e' v2 ⟨r2, rfl, -, -, bb⟩
                have V2 := Lib.hid (V1.out.trans (bb.mono V1.out.size))
                clear bb V1
                dsimp only
                (try simp only [Act.put, List.setIfInBounds_toArray, List.set_cons_zero, List.set_cons_succ])
                refine hK.out _ _ V2.out (fun hHeld => ?_)
                clear hK K
                refine wpAnyH_take (i := 12) (oi := ⟨some 69, _, _, _, _, _⟩) (v := (.agg #[.float .f64 r1, .float .f64 r2])) rfl (by kernel_rfl) (by kernel_rfl) (by kernel_rfl) (fun _ _ _ h => h) (Or.inl ⟨by rfl, ?_⟩) (by assumption) ?_
                · intro w' hS; go_simp; try with_reducible rfl
                simp only [Act.put, List.setIfInBounds_toArray, List.set_cons_zero, List.set_cons_succ]
                refine wpAnyH_ready (rs := [13]) (by kernel_rfl) (by simp) ?_
                refine AllReadyH.cons (o := ⟨some 9, _, _, _, _, _⟩) rfl (fun K hK => ?_) AllReadyH.nil
                rw [if_pos (by rfl)]
                go_simp
                have V3 := Lib.hid (V2.out.alloc V2.out.size (.cells #[.float .f64 0, .float .f64 0] 34))
                have L3 : Hid (Blk (v2.alloc (.cells #[.float .f64 0, .float .f64 0] 34)) v2.heap.size 34 [.float .f64 0, .float .f64 0]) := Lib.hid (Blk.new v2 34 _)
                have G : Hid (wr.heap.size ≤ v2.heap.size) := Lib.hid V2.out.size
                generalize v2.heap.size = l2 at L3 G ⊢
                generalize (v2.alloc (.cells #[.float .f64 0, .float .f64 0] 34)) = v3 at *
                clear V2
                (try simp only [Act.put, List.setIfInBounds_toArray, List.set_cons_zero, List.set_cons_succ])
                refine hK.out _ _ V3.out (fun hHeld => ?_)
                clear hK K
                refine wpAnyH_ready (rs := [14]) (by kernel_rfl) (by simp) ?_
                refine AllReadyH.cons (o := ⟨none, _, _, _, _, _⟩) rfl (fun K hK => ?_) AllReadyH.nil
                rw [if_pos (by rfl)]
                (try simp only [Act.put, List.setIfInBounds_toArray, List.set_cons_zero, List.set_cons_succ])
                refine wp_store_row 34 _ _ rfl l2 #[.float .f64 r1, .float .f64 r2] rfl rfl 34 #[.float .f64 0, .float .f64 0] L3.out (by kernel_rfl) rfl (by kernel_rfl) ?_
                have V4 := Lib.hid (below_setRow V3.out G.out #[.float .f64 r1, .float .f64 r2])
                have L4 : Hid (Blk (v3.setRow l2 #[.float .f64 r1, .float .f64 r2]) l2 34 [.float .f64 r1, .float .f64 r2]) := Lib.hid (setRow_heap _ _ _ _ _ _ L3.out)
                generalize v3.setRow l2 #[.float .f64 r1, .float .f64 r2] = v4 at *
                clear V3 L3
                (try simp only [Act.put, List.setIfInBounds_toArray, List.set_cons_zero, List.set_cons_succ])
                refine hK.out _ _ V4.out (fun hHeld => ?_)
                clear hK K
                refine wpAnyH_done (by kernel_rfl) ?_ _
                go_wp2_with fail
                go_meet
                exact ⟨l2, r1, r2, rfl, L4.out, G.out, V4.out⟩
              · rw [if_pos (by rfl)]
                go_simp
                have V2 := Lib.hid (V1.out.alloc V1.out.size (.cells #[.float .f64 0, .float .f64 0] 34))
                have L2 : Hid (Blk (v1.alloc (.cells #[.float .f64 0, .float .f64 0] 34)) v1.heap.size 34 [.float .f64 0, .float .f64 0]) := Lib.hid (Blk.new v1 34 _)
                have G : Hid (wr.heap.size ≤ v1.heap.size) := Lib.hid V1.out.size
                generalize v1.heap.size = l2 at L2 G ⊢
                generalize (v1.alloc (.cells #[.float .f64 0, .float .f64 0] 34)) = v2 at *
                clear V1
                (try simp only [Act.put, List.setIfInBounds_toArray, List.set_cons_zero, List.set_cons_succ])
                refine hK.out _ _ V2.out (fun hHeld => ?_)
                clear hK K
                refine wpAnyH_ready (rs := [11]) (by kernel_rfl) (by simp) ?_
                refine AllReadyH.cons (o := ⟨some 68, _, _, _, _, _⟩) rfl (fun K hK => ?_) AllReadyH.nil
                rw [if_pos (by rfl)]
                go_simp
                refine (value_any ((f1 k).yb) ((f1 k).yo) v2 OK1.out.2).mono ?_
                rintro e' v3 ⟨r2, rfl, -, -, bb⟩
                have V3 := Lib.hid (V2.out.trans (bb.mono V2.out.size))
                have L3 := Lib.hid (L2.out.below bb (Blk.lt L2.out))
                clear L2
                clear bb V2
                dsimp only
                (try simp only [Act.put, List.setIfInBounds_toArray, List.set_cons_zero, List.set_cons_succ])
                refine hK.out _ _ V3.out (fun hHeld => ?_)
                clear hK K
                refine wpAnyH_take (i := 12) (oi := ⟨some 69, _, _, _, _, _⟩) (v := (.agg #[.float .f64 r1, .float .f64 r2])) rfl (by kernel_rfl) (by kernel_rfl) (by kernel_rfl) (fun _ _ _ h => h) (Or.inl ⟨by rfl, ?_⟩) (by assumption) ?_
                · intro w' hS; go_simp; try with_reducible rfl
                simp only [Act.put, List.setIfInBounds_toArray, List.set_cons_zero, List.set_cons_succ]
                refine wpAnyH_ready (rs := [14]) (by kernel_rfl) (by simp) ?_
                refine AllReadyH.cons (o := ⟨none, _, _, _, _, _⟩) rfl (fun K hK => ?_) AllReadyH.nil
                rw [if_pos (by rfl)]
                (try simp only [Act.put, List.setIfInBounds_toArray, List.set_cons_zero, List.set_cons_succ])
                refine wp_store_row 34 _ _ rfl l2 #[.float .f64 r1, .float .f64 r2] rfl rfl 34 #[.float .f64 0, .float .f64 0] L3.out (by kernel_rfl) rfl (by kernel_rfl) ?_
                have V4 := Lib.hid (below_setRow V3.out G.out #[.float .f64 r1, .float .f64 r2])
                have L4 : Hid (Blk (v3.setRow l2 #[.float .f64 r1, .float .f64 r2]) l2 34 [.float .f64 r1, .float .f64 r2]) := Lib.hid (setRow_heap _ _ _ _ _ _ L3.out)
                generalize v3.setRow l2 #[.float .f64 r1, .float .f64 r2] = v4 at *
                clear V3 L3
                (try simp only [Act.put, List.setIfInBounds_toArray, List.set_cons_zero, List.set_cons_succ])
                refine hK.out _ _ V4.out (fun hHeld => ?_)
                clear hK K
                refine wpAnyH_done (by kernel_rfl) ?_ _
                go_wp2_with fail
                go_meet
                exact ⟨l2, r1, r2, rfl, L4.out, G.out, V4.out⟩
            · rw [if_pos (by rfl)]
              go_simp
              have V1 := Lib.hid (V0.out.alloc V0.out.size (.cells #[.float .f64 0, .float .f64 0] 34))
              have L1 : Hid (Blk (v0.alloc (.cells #[.float .f64 0, .float .f64 0] 34)) v0.heap.size 34 [.float .f64 0, .float .f64 0]) := Lib.hid (Blk.new v0 34 _)
              have G : Hid (wr.heap.size ≤ v0.heap.size) := Lib.hid V0.out.size
              generalize v0.heap.size = l2 at L1 G ⊢
              generalize (v0.alloc (.cells #[.float .f64 0, .float .f64 0] 34)) = v1 at *
              clear V0
              (try simp only [Act.put, List.setIfInBounds_toArray, List.set_cons_zero, List.set_cons_succ])
              refine hK.out _ _ V1.out (fun hHeld => ?_)
              clear hK K
              refine wpAnyH_ready (rs := [5]) (by kernel_rfl) (by simp) ?_
              refine AllReadyH.cons (o := ⟨some 62, _, _, _, _, _⟩) rfl (fun K hK => ?_) AllReadyH.nil
              rw [if_pos (by rfl)]
              go_simp
              refine (value_any ((f1 k).xb) ((f1 k).xo) v1 OK1.out.1).mono ?_
              rintro e' v2 ⟨r1, rfl, -, -, bb⟩
              have V2 := Lib.hid (V1.out.trans (bb.mono V1.out.size))
              have L2 := Lib.hid (L1.out.below bb (Blk.lt L1.out))
              clear L1
              clear bb V1
              dsimp only
              (try simp only [Act.put, List.setIfInBounds_toArray, List.set_cons_zero, List.set_cons_succ])
              refine hK.out _ _ V2.out (fun hHeld => ?_)
              clear hK K
              refine wpAnyH_ready (rs := [11]) (by kernel_rfl) (by simp) ?_
              refine AllReadyH.cons (o := ⟨some 68, _, _, _, _, _⟩) rfl (fun K hK => ?_) AllReadyH.nil
              rw [if_pos (by rfl)]
              go_simp
              refine (value_any ((f1 k).yb) ((f1 k).yo) v2 OK1.out.2).mono ?_
              rintro e' v3 ⟨r2, rfl, -, -, bb⟩
              have V3 := Lib.hid (V2.out.trans (bb.mono V2.out.size))
              have L3 := Lib.hid (L2.out.below bb (Blk.lt L2.out))
              clear L2
              clear bb V2
              dsimp only
              (try simp only [Act.put, List.setIfInBounds_toArray, List.set_cons_zero, List.set_cons_succ])
              refine hK.out _ _ V3.out (fun hHeld => ?_)
              clear hK K
              refine wpAnyH_take (i := 12) (oi := ⟨some 69, _, _, _, _, _⟩) (v := (.agg #[.float .f64 r1, .float .f64 r2])) rfl (by kernel_rfl) (by kernel_rfl) (by kernel_rfl) (fun _ _ _ h => h) (Or.inl ⟨by rfl, ?_⟩) (by assumption) ?_
              · intro w' hS; go_simp; try with_reducible rfl
              simp only [Act.put, List.setIfInBounds_toArray, List.set_cons_zero, List.set_cons_succ]
              refine wpAnyH_ready (rs := [14]) (by kernel_rfl) (by simp) ?_
              refine AllReadyH.cons (o := ⟨none, _, _, _, _, _⟩) rfl (fun K hK => ?_) AllReadyH.nil
              rw [if_pos (by rfl)]
              (try simp only [Act.put, List.setIfInBounds_toArray, List.set_cons_zero, List.set_cons_succ])
              refine wp_store_row 34 _ _ rfl l2 #[.float .f64 r1, .float .f64 r2] rfl rfl 34 #[.float .f64 0, .float .f64 0] L3.out (by kernel_rfl) rfl (by kernel_rfl) ?_
              have V4 := Lib.hid (below_setRow V3.out G.out #[.float .f64 r1, .float .f64 r2])
              have L4 : Hid (Blk (v3.setRow l2 #[.float .f64 r1, .float .f64 r2]) l2 34 [.float .f64 r1, .float .f64 r2]) := Lib.hid (setRow_heap _ _ _ _ _ _ L3.out)
              generalize v3.setRow l2 #[.float .f64 r1, .float .f64 r2] = v4 at *
              clear V3 L3
              (try simp only [Act.put, List.setIfInBounds_toArray, List.set_cons_zero, List.set_cons_succ])
              refine hK.out _ _ V4.out (fun hHeld => ?_)
              clear hK K
              refine wpAnyH_done (by kernel_rfl) ?_ _
              go_wp2_with fail
              go_meet
              exact ⟨l2, r1, r2, rfl, L4.out, G.out, V4.out⟩
          case rest =>
            obtain ⟨l2, le, ld, rfl, hcl, hcg, hcb⟩ := hcut
            have L2a := Lib.hid hcl
            have LAa := Lib.hid (LA.out.below hcb (Blk.lt LA.out))
            have BAa : Hid (Bud 96 wc p e1 d1 se sd) := Lib.hid (Blk.below BA.out hcb (Blk.lt BA.out))
            have WAa := Lib.hid (WA.out.trans (hcb.mono WA.out.size))
            clear hcl hcg hcb WA LA BA A1 A2 A3 A4 HBL OK1
            generalize wc = u0 at *
            have HSP := Lib.hid (spB_code (me := e1) (md := d1) (se := se) (sd := sd) (le := le) (ld := ld))
            go_wp2_with fail
            refine (spent_of p e1 d1 se sd u0 BAa.out).mono ?_
            rintro e u1 ⟨rfl, bb⟩
            have L2b := Lib.hid (L2a.out.below bb (Blk.lt L2a.out))
            have LAb := Lib.hid (LAa.out.below bb (Blk.lt LAa.out))
            have BAb : Hid (Bud 96 u1 p e1 d1 se sd) := Lib.hid (Blk.below BAa.out bb (Blk.lt BAa.out))
            have WAb := Lib.hid (WAa.out.trans (bb.mono WAa.out.size))
            clear bb L2a LAa BAa WAa
            go_upto_region 14 with (refine wpList_store_row rfl 34 _ _ rfl u1.heap.size #[.float .f64 se, .float .f64 sd] rfl rfl 34 #[.float .f64 0, .float .f64 0] (heap_alloc_new _ _) (by kernel_rfl) rfl (by kernel_rfl) ?_)
            have L3c : Hid (Blk ((u1.alloc (.cells #[.float .f64 0, .float .f64 0] 34)).setRow u1.heap.size #[.float .f64 se, .float .f64 sd]) u1.heap.size 34 [.float .f64 se, .float .f64 sd]) := Lib.hid (setRow_heap _ _ _ _ _ _ (heap_alloc_new _ _))
            have bb : Below u1.heap.size u1 ((u1.alloc (.cells #[.float .f64 0, .float .f64 0] 34)).setRow u1.heap.size #[.float .f64 se, .float .f64 sd]) := below_setRow ((Below.refl _ _).alloc (Nat.le_refl _) _) (Nat.le_refl _) _
            generalize ((u1.alloc (.cells #[.float .f64 0, .float .f64 0] 34)).setRow u1.heap.size #[.float .f64 se, .float .f64 sd]) = u2 at *
            have L2c := Lib.hid (L2b.out.below bb (Blk.lt L2b.out))
            have LAc := Lib.hid (LAb.out.below bb (Blk.lt LAb.out))
            have BAc : Hid (Bud 96 u2 p e1 d1 se sd) := Lib.hid (Blk.below BAb.out bb (Blk.lt BAb.out))
            have WAc := Lib.hid (WAb.out.trans (bb.mono WAb.out.size))
            have LN : Hid (w.heap.size ≤ u1.heap.size) := Lib.hid WAb.out.size
            clear bb L2b LAb BAb WAb
            generalize u1.heap.size = l3 at *
            have l20' : u2.cell? ⟨l2, 0, none⟩ = some (.float .f64 le) := L2c.out.cell 0
            have l21' : u2.cell? ⟨l2, 1, none⟩ = some (.float .f64 ld) := L2c.out.cell 1
            go_wp2_with fail
            have hro := rounds_any p e1 d1 se sd le ld u2 BAc.out NM.out.1 NM.out.2 NS.out.1 NS.out.2.1
            have hsd := fun W hW => spend_any p e1 d1 se sd le ld W hW NM.out.1 NM.out.2 NS.out.1 NS.out.2.1
            have hn2 := spB_nn (le := le) (ld := ld) NM.out.1 NM.out.2 NS.out.1 NS.out.2.1
            have hu2 := spB_under (le := le) (ld := ld) NS.out.2.2
            have hp2 := spB_up (le := le) (ld := ld) NM.out.1 NM.out.2 NS.out.1 NS.out.2.1
            have hps := rnd_pos (me := e1) (md := d1) (se := se) (sd := sd) (le := le) (ld := ld)
            have hnx := rnd_next (me := e1) (md := d1) (se := se) (sd := sd) (le := le) (ld := ld)
            have hrl := rnd_le e1 d1 se sd le ld
            have hrd : rdB e1 d1 se sd le ld = (if (fin (fv le) && fin (fv ld)) = true then ((rnd e1 d1 se sd le ld : Int), 0) else (0, 260)) := rfl
            have hrd2 : rdB e1 d1 (spB e1 d1 se sd le ld).2.1 (spB e1 d1 se sd le ld).2.2 le ld = (if (fin (fv le) && fin (fv ld)) = true then ((rnd e1 d1 (spB e1 d1 se sd le ld).2.1 (spB e1 d1 se sd le ld).2.2 le ld : Int), 0) else (0, 260)) := rfl
            generalize hRD : rdB e1 d1 se sd le ld = RD at hro hrd
            clear hRD
            have hsp := HSP.out
            have HR2 := Lib.hid hrd2
            clear HSP hrd2
            generalize hEQ : spB e1 d1 se sd le ld = SB at *
            clear hEQ
            obtain ⟨cc, sf, sg⟩ := SB
            dsimp only at *
            generalize rnd e1 d1 se sd le ld = rn at *
            generalize hRN : rnd e1 d1 sf sg le ld = rn2 at *
            have HSD := Lib.hid hsd
            have HN2 := Lib.hid hn2
            have HU2 := Lib.hid hu2
            have HNX := Lib.hid hnx
            have hgt1 : (FloatKind.f64.format.order sf e1 == some .gt) = false := hu2.1
            have hgt2 : (FloatKind.f64.format.order sg d1 == some .gt) = false := hu2.2
            have hlt1 : (FloatKind.f64.format.order sf se == some .lt) = false := hp2.1
            have hlt2 : (FloatKind.f64.format.order sg sd == some .lt) = false := hp2.2
            have HCM := Lib.hid (And.intro hgt1 (And.intro hgt2 (And.intro hlt1 hlt2)))
            clear hsd hn2 hu2 hp2 hnx hgt1 hgt2 hlt1 hlt2 hRN
            rcases hsp with ⟨rfl, hfin⟩ | ⟨⟨rfl, hfin⟩ | ⟨rfl, hfin⟩, rfl, rfl⟩
            · have HFI := Lib.hid hfin
              rw [hfin, if_pos rfl] at hrd
              subst hrd
              have hpos : 0 < rn := hps.2 rfl
              obtain ⟨m, rfl⟩ : ∃ m, rn = m + 1 := ⟨rn - 1, by omega⟩
              have hm : m + 1 ≤ 65536 := hrl
              clear hps hrl hpos hfin
              have hN0 : decide (0 < (((m + 1 : Nat) : Nat) : Int)) = true := decide_eq_true (by omega)
              dsimp only at hro
              refine hro.mono ?_
              rintro e u3 ⟨rfl, bb⟩
              have L2d := Lib.hid (L2c.out.below bb (Blk.lt L2c.out))
              have L3d := Lib.hid (L3c.out.below bb (Blk.lt L3c.out))
              have LAd := Lib.hid (LAc.out.below bb (Blk.lt LAc.out))
              have BAd : Hid (Bud 96 u3 p e1 d1 se sd) := Lib.hid (Blk.below BAc.out bb (Blk.lt BAc.out))
              have WAd := Lib.hid (WAc.out.trans (bb.mono WAc.out.size))
              clear bb L2c L3c LAc BAc WAc hro
              clear l20' l21'
              go_upto_region 15 with fail
              refine wp_region_held_drew (S := fun w' => Below u3.heap.size u3 w') (by kernel_rfl) ((Below.refl u3.heap.size u3).drew) (fun hHeld => ?_)
              have V0 : Hid (Below u3.heap.size u3 u3.drew) := Lib.hid (Below.refl u3.heap.size u3).drew
              generalize u3.drew = y0 at V0 hHeld ⊢
              refine wpAnyH_take (i := 0) (oi := ⟨some 78, _, _, _, _, _⟩) (v := (.pointer (some ⟨p, 0, none⟩))) rfl (by kernel_rfl) (by kernel_rfl) (by kernel_rfl) (fun _ _ _ h => h) (Or.inl ⟨by rfl, ?_⟩) (by assumption) ?_
              · intro w' hS; go_simp; try with_reducible rfl
              simp only [Act.put, List.setIfInBounds_toArray, List.set_cons_zero, List.set_cons_succ]
              refine wpAnyH_take (i := 2) (oi := ⟨some 80, _, _, _, _, _⟩) (v := (.agg #[.float .f64 se, .float .f64 sd])) rfl (by kernel_rfl) (by kernel_rfl) (by kernel_rfl) (fun _ _ _ h => h) (Or.inl ⟨by rfl, ?_⟩) (by assumption) ?_
              · intro w' hS; have hq := L3d.out.below hS (Blk.lt L3d.out); have h0 : w'.cell? ⟨l3, 0, none⟩ = some (.float .f64 se) := hq.cell 0; have h1 : w'.cell? ⟨l3, 1, none⟩ = some (.float .f64 sd) := hq.cell 1; clear hq; go_simp; try with_reducible rfl
              simp only [Act.put, List.setIfInBounds_toArray, List.set_cons_zero, List.set_cons_succ]
              refine wpAnyH_ready (rs := [1]) (by kernel_rfl) (by simp) ?_
              refine AllReadyH.cons (o := ⟨some 79, _, _, _, _, _⟩) rfl (fun K hK => ?_) AllReadyH.nil
              rw [if_pos (by rfl)]
              go_simp
              refine (spent_of p e1 d1 se sd y0 (Blk.below BAd.out V0.out (Blk.lt BAd.out))).mono ?_
              rintro e' y1 ⟨rfl, bb⟩
              have V1 := Lib.hid (V0.out.trans (bb.mono V0.out.size))
              clear bb V0
              dsimp only
              (try simp only [Act.put, List.setIfInBounds_toArray, List.set_cons_zero, List.set_cons_succ])
              refine hK.out _ _ V1.out (fun hHeld => ?_)
              clear hK K
              refine wpAnyH_take (i := 3) (oi := ⟨some 81, _, _, _, _, _⟩) (v := (.bool false)) rfl (by kernel_rfl) (by kernel_rfl) (by kernel_rfl) (fun _ _ _ h => h) (Or.inl ⟨by rfl, ?_⟩) (by assumption) ?_
              · intro w' hS; have q1 := eq22 w' se se; have q2 := eq22 w' sd sd; rw [feq_self NS.out.1] at q1; rw [feq_self NS.out.2.1] at q2; have o1 := same_eq NS.out.1; have o2 := same_eq NS.out.2.1; go_simp; try with_reducible rfl
              simp only [Act.put, List.setIfInBounds_toArray, List.set_cons_zero, List.set_cons_succ]
              refine wpAnyH_take (i := 4) (oi := ⟨some 82, _, _, _, _, _⟩) (v := (.bool false)) rfl (by kernel_rfl) (by kernel_rfl) (by kernel_rfl) (fun _ _ _ h => h) (Or.inl ⟨by rfl, ?_⟩) (by assumption) ?_
              · intro w' hS; go_simp; try with_reducible rfl
              simp only [Act.put, List.setIfInBounds_toArray, List.set_cons_zero, List.set_cons_succ]
              refine wpAnyH_take (i := 5) (oi := ⟨some 83, _, _, _, _, _⟩) (v := (.int .i64 0)) rfl (by kernel_rfl) (by kernel_rfl) (by kernel_rfl) (fun _ _ _ h => h) (Or.inl ⟨by rfl, ?_⟩) (by assumption) ?_
              · intro w' hS; go_simp; try with_reducible rfl
              simp only [Act.put, List.setIfInBounds_toArray, List.set_cons_zero, List.set_cons_succ]
              refine wpAnyH_take (i := 6) (oi := ⟨some 84, _, _, _, _, _⟩) (v := (.bool true)) rfl (by kernel_rfl) (by kernel_rfl) (by kernel_rfl) (fun _ _ _ h => h) (Or.inl ⟨by rfl, ?_⟩) (by assumption) ?_
              · intro w' hS; go_simp; try with_reducible rfl
              simp only [Act.put, List.setIfInBounds_toArray, List.set_cons_zero, List.set_cons_succ]
              refine wpAnyH_take (i := 7) (oi := ⟨some 85, _, _, _, _, _⟩) (v := (.agg #[.float .f64 le, .float .f64 ld])) rfl (by kernel_rfl) (by kernel_rfl) (by kernel_rfl) (fun _ _ _ h => h) (Or.inl ⟨by rfl, ?_⟩) (by assumption) ?_
              · intro w' hS; have hq := L2d.out.below hS (Blk.lt L2d.out); have h0 : w'.cell? ⟨l2, 0, none⟩ = some (.float .f64 le) := hq.cell 0; have h1 : w'.cell? ⟨l2, 1, none⟩ = some (.float .f64 ld) := hq.cell 1; clear hq; go_simp; try with_reducible rfl
              simp only [Act.put, List.setIfInBounds_toArray, List.set_cons_zero, List.set_cons_succ]
              refine wpAnyH_ready (rs := [8]) (by kernel_rfl) (by simp) ?_
              refine AllReadyH.cons (o := ⟨some 86, _, _, _, _, _⟩) rfl (fun K hK => ?_) AllReadyH.nil
              rw [if_pos (by rfl)]
              go_simp
              have hlg := lgood_any le ld y1
              rw [HFI.out] at hlg
              refine hlg.mono ?_
              rintro e' y2 ⟨rfl, bb⟩
              have V2 := Lib.hid (V1.out.trans (bb.mono V1.out.size))
              clear bb V1 hlg
              dsimp only
              (try simp only [Act.put, List.setIfInBounds_toArray, List.set_cons_zero, List.set_cons_succ])
              refine hK.out _ _ V2.out (fun hHeld => ?_)
              clear hK K
              refine wpAnyH_take (i := 9) (oi := ⟨some 87, _, _, _, _, _⟩) (v := (.bool false)) rfl (by kernel_rfl) (by kernel_rfl) (by kernel_rfl) (fun _ _ _ h => h) (Or.inl ⟨by rfl, ?_⟩) (by assumption) ?_
              · intro w' hS; go_simp; try with_reducible rfl
              simp only [Act.put, List.setIfInBounds_toArray, List.set_cons_zero, List.set_cons_succ]
              refine wpAnyH_take (i := 10) (oi := ⟨some 88, _, _, _, _, _⟩) (v := (.bool false)) rfl (by kernel_rfl) (by kernel_rfl) (by kernel_rfl) (fun _ _ _ h => h) (Or.inl ⟨by rfl, ?_⟩) (by assumption) ?_
              · intro w' hS; go_simp; try with_reducible rfl
              simp only [Act.put, List.setIfInBounds_toArray, List.set_cons_zero, List.set_cons_succ]
              refine wpAnyH_take (i := 11) (oi := ⟨some 89, _, _, _, _, _⟩) (v := (.bool false)) rfl (by kernel_rfl) (by kernel_rfl) (by kernel_rfl) (fun _ _ _ h => h) (Or.inl ⟨by rfl, ?_⟩) (by assumption) ?_
              · intro w' hS; go_simp; try with_reducible rfl
              simp only [Act.put, List.setIfInBounds_toArray, List.set_cons_zero, List.set_cons_succ]
              refine wpAnyH_take (i := 12) (oi := ⟨some 90, _, _, _, _, _⟩) (v := (.int .i64 0)) rfl (by kernel_rfl) (by kernel_rfl) (by kernel_rfl) (fun _ _ _ h => h) (Or.inl ⟨by rfl, ?_⟩) (by assumption) ?_
              · intro w' hS; go_simp; try with_reducible rfl
              simp only [Act.put, List.setIfInBounds_toArray, List.set_cons_zero, List.set_cons_succ]
              refine wpAnyH_take (i := 13) (oi := ⟨some 91, _, _, _, _, _⟩) (v := (.bool false)) rfl (by kernel_rfl) (by kernel_rfl) (by kernel_rfl) (fun _ _ _ h => h) (Or.inl ⟨by rfl, ?_⟩) (by assumption) ?_
              · intro w' hS; go_simp; try with_reducible rfl
              simp only [Act.put, List.setIfInBounds_toArray, List.set_cons_zero, List.set_cons_succ]
              refine wpAnyH_take (i := 14) (oi := ⟨some 92, _, _, _, _, _⟩) (v := (.bool false)) rfl (by kernel_rfl) (by kernel_rfl) (by kernel_rfl) (fun _ _ _ h => h) (Or.inl ⟨by rfl, ?_⟩) (by assumption) ?_
              · intro w' hS; go_simp; try with_reducible rfl
              simp only [Act.put, List.setIfInBounds_toArray, List.set_cons_zero, List.set_cons_succ]
              refine wpAnyH_take (i := 15) (oi := ⟨some 93, _, _, _, _, _⟩) (v := undef) rfl (by kernel_rfl) (by kernel_rfl) (by kernel_rfl) (fun _ _ _ h => h) (Or.inr ⟨by rfl, by rfl⟩) (by assumption) ?_
              simp only [Act.put, List.setIfInBounds_toArray, List.set_cons_zero, List.set_cons_succ]
              refine wpAnyH_take (i := 16) (oi := ⟨some 94, _, _, _, _, _⟩) (v := undef) rfl (by kernel_rfl) (by kernel_rfl) (by kernel_rfl) (fun _ _ _ h => h) (Or.inr ⟨by rfl, by rfl⟩) (by assumption) ?_
              simp only [Act.put, List.setIfInBounds_toArray, List.set_cons_zero, List.set_cons_succ]
              refine wpAnyH_take (i := 17) (oi := ⟨some 95, _, _, _, _, _⟩) (v := (.bool false)) rfl (by kernel_rfl) (by kernel_rfl) (by kernel_rfl) (fun _ _ _ h => h) (Or.inl ⟨by rfl, ?_⟩) (by assumption) ?_
              · intro w' hS; go_simp; try with_reducible rfl
              simp only [Act.put, List.setIfInBounds_toArray, List.set_cons_zero, List.set_cons_succ]
              refine wpAnyH_take (i := 18) (oi := ⟨some 96, _, _, _, _, _⟩) (v := (.bool false)) rfl (by kernel_rfl) (by kernel_rfl) (by kernel_rfl) (fun _ _ _ h => h) (Or.inl ⟨by rfl, ?_⟩) (by assumption) ?_
              · intro w' hS; go_simp; try with_reducible rfl
              simp only [Act.put, List.setIfInBounds_toArray, List.set_cons_zero, List.set_cons_succ]
              refine wpAnyH_done (by kernel_rfl) ?_ _
              have L2e := Lib.hid (L2d.out.below V2.out (Blk.lt L2d.out))
              have L3e := Lib.hid (L3d.out.below V2.out (Blk.lt L3d.out))
              have LAe := Lib.hid (LAd.out.below V2.out (Blk.lt LAd.out))
              have BAe : Hid (Bud 96 y2 p e1 d1 se sd) := Lib.hid (Blk.below BAd.out V2.out (Blk.lt BAd.out))
              have WAe := Lib.hid (WAd.out.trans (V2.out.mono WAd.out.size))
              clear L2d L3d LAd BAd WAd V2
              have l20' : y2.cell? ⟨l2, 0, none⟩ = some (.float .f64 le) := L2e.out.cell 0
              have l21' : y2.cell? ⟨l2, 1, none⟩ = some (.float .f64 ld) := L2e.out.cell 1
              go_wp2_with fail
              refine (HSD.out y2 BAe.out).mono ?_
              rintro e u4 ⟨rfl, hbu, hf⟩
              have BAf : Hid (Bud 96 u4 p e1 d1 sf sg) := Lib.hid hbu
              have L2f := Lib.hid (L2e.out.fr hf (Blk.ne L2e.out BAe.out (by decide)))
              have L3f := Lib.hid (L3e.out.fr hf (Blk.ne L3e.out BAe.out (by decide)))
              have LAf := Lib.hid (LAe.out.fr hf (Blk.ne LAe.out BAe.out (by decide)))
              have WAf := Lib.hid (WAe.out.trans (hf.below (B := w.heap.size) WAe.out.size (fun j hj => by rw [hj]; exact PL.out)))
              clear hbu hf L2e L3e LAe BAe WAe
              clear l20' l21'
              go_wp2_with fail
              refine (spent_of p e1 d1 sf sg u4 BAf.out).mono ?_
              rintro e u5 ⟨rfl, bb⟩
              have L2g := Lib.hid (L2f.out.below bb (Blk.lt L2f.out))
              have L3g := Lib.hid (L3f.out.below bb (Blk.lt L3f.out))
              have LAg := Lib.hid (LAf.out.below bb (Blk.lt LAf.out))
              have BAg : Hid (Bud 96 u5 p e1 d1 sf sg) := Lib.hid (Blk.below BAf.out bb (Blk.lt BAf.out))
              have WAg := Lib.hid (WAf.out.trans (bb.mono WAf.out.size))
              clear bb L2f L3f LAf BAf WAf
              go_upto_region 19 with (refine wpList_store_row rfl 34 _ _ rfl u5.heap.size #[.float .f64 sf, .float .f64 sg] rfl rfl 34 #[.float .f64 0, .float .f64 0] (heap_alloc_new _ _) (by kernel_rfl) rfl (by kernel_rfl) ?_)
              have L4h : Hid (Blk ((u5.alloc (.cells #[.float .f64 0, .float .f64 0] 34)).setRow u5.heap.size #[.float .f64 sf, .float .f64 sg]) u5.heap.size 34 [.float .f64 sf, .float .f64 sg]) := Lib.hid (setRow_heap _ _ _ _ _ _ (heap_alloc_new _ _))
              have bb : Below u5.heap.size u5 ((u5.alloc (.cells #[.float .f64 0, .float .f64 0] 34)).setRow u5.heap.size #[.float .f64 sf, .float .f64 sg]) := below_setRow ((Below.refl _ _).alloc (Nat.le_refl _) _) (Nat.le_refl _) _
              generalize ((u5.alloc (.cells #[.float .f64 0, .float .f64 0] 34)).setRow u5.heap.size #[.float .f64 sf, .float .f64 sg]) = u6 at *
              have L2h := Lib.hid (L2g.out.below bb (Blk.lt L2g.out))
              have L3h := Lib.hid (L3g.out.below bb (Blk.lt L3g.out))
              have LAh := Lib.hid (LAg.out.below bb (Blk.lt LAg.out))
              have BAh : Hid (Bud 96 u6 p e1 d1 sf sg) := Lib.hid (Blk.below BAg.out bb (Blk.lt BAg.out))
              have WAh := Lib.hid (WAg.out.trans (bb.mono WAg.out.size))
              clear bb L2g L3g LAg BAg WAg
              generalize u5.heap.size = l4 at *
              have l40' : u6.cell? ⟨l4, 0, none⟩ = some (.float .f64 sf) := L4h.out.cell 0
              have l41' : u6.cell? ⟨l4, 1, none⟩ = some (.float .f64 sg) := L4h.out.cell 1
              have l0' : u6.cell? ⟨l, 0, none⟩ = some (.float .f64 e1) := LAh.out.cell 0
              have l1' : u6.cell? ⟨l, 1, none⟩ = some (.float .f64 d1) := LAh.out.cell 1
              have l30' : u6.cell? ⟨l3, 0, none⟩ = some (.float .f64 se) := L3h.out.cell 0
              have l31' : u6.cell? ⟨l3, 1, none⟩ = some (.float .f64 sd) := L3h.out.cell 1
              have hgt1 := HCM.out.1
              have hgt2 := HCM.out.2.1
              have hlt1 := HCM.out.2.2.1
              have hlt2 := HCM.out.2.2.2
              go_upto_region 21 with fail
              clear hgt1 hgt2 hlt1 hlt2
              have NSn : Hid (nn sf ∧ nn sg ∧ Under e1 d1 sf sg) := Lib.hid ⟨HN2.out.1, HN2.out.2, HU2.out⟩
              clear l40' l41' l0' l1' l30' l31'
              have l20' : u6.cell? ⟨l2, 0, none⟩ = some (.float .f64 le) := L2h.out.cell 0
              have l21' : u6.cell? ⟨l2, 1, none⟩ = some (.float .f64 ld) := L2h.out.cell 1
              go_wp2_with fail
              have hro := rounds_any p e1 d1 sf sg le ld u6 BAh.out NM.out.1 NM.out.2 NSn.out.1 NSn.out.2.1
              have hr2 := HR2.out
              rw [HFI.out, if_pos rfl] at hr2
              rw [hr2] at hro
              dsimp only at hro
              refine hro.mono ?_
              rintro e u7 ⟨rfl, bb⟩
              have LAi := Lib.hid (LAh.out.below bb (Blk.lt LAh.out))
              have BAi : Hid (Bud 96 u7 p e1 d1 sf sg) := Lib.hid (Blk.below BAh.out bb (Blk.lt BAh.out))
              have WAi := Lib.hid (WAh.out.trans (bb.mono WAh.out.size))
              clear bb hro hr2 LAh BAh WAh
              clear l20' l21'
              have m2 : IntKind.i64.wrap (((m + 1 : Nat) : Int) - 1) = (m : Int) := by rw [IntKind.wrap_i64] <;> omega
              have m3 : IntKind.i64.wrap ((m : Int) + 1 - 1) = (m : Int) := by rw [IntKind.wrap_i64] <;> omega
              by_cases hlt : m + 1 < 65536
              · have hmm : rn2 = m := by have := HNX.out trivial hlt; omega
                subst hmm
                have hdd : decide (((rn2 : Nat) : Int) = (rn2 : Int)) = true := by simp
                go_wp2_with fail
                go_roundw
                case rel => exact ⟨k + 1, 0, sf, sg, rfl, by go_num, Lib.hid (by omega), WAi, LAi, BAi, NSn⟩
                case measure => simp [intOf]; omega
              · have hdd : decide (m + 1 < 65536) = false := by simp; omega
                have hdd2 : decide (((m + 1 : Nat) : Int) < 65536) = false := by simp; omega
                have hdd3 : decide ((m : Int) + 1 < 65536) = false := by simp; omega
                by_cases hmm : rn2 = m
                · subst hmm
                  go_wp2_with fail
                  go_roundw
                  case rel => exact ⟨k + 1, 0, sf, sg, rfl, by go_num, Lib.hid (by omega), WAi, LAi, BAi, NSn⟩
                  case measure => simp [intOf]; omega
                · have hne : ((rn2 : Int) != (m : Int)) = true := by simp; omega
                  go_wp2_with fail
                  go_roundw
                  case rel => exact ⟨k + 1, 0, sf, sg, rfl, by go_num, Lib.hid (by omega), WAi, LAi, BAi, NSn⟩
                  case measure => simp [intOf]; omega
            · have HFI := Lib.hid hfin
              rw [hfin, if_neg (by simp)] at hrd
              subst hrd
              clear hps hrl hfin
              dsimp only at hro
              refine hro.mono ?_
              rintro e u3 ⟨rfl, bb⟩
              have L2d := Lib.hid (L2c.out.below bb (Blk.lt L2c.out))
              have L3d := Lib.hid (L3c.out.below bb (Blk.lt L3c.out))
              have LAd := Lib.hid (LAc.out.below bb (Blk.lt LAc.out))
              have BAd : Hid (Bud 96 u3 p e1 d1 sf sg) := Lib.hid (Blk.below BAc.out bb (Blk.lt BAc.out))
              have WAd := Lib.hid (WAc.out.trans (bb.mono WAc.out.size))
              clear bb L2c L3c LAc BAc WAc hro
              clear l20' l21'
              go_upto_region 15 with fail
              refine wp_region_held_drew (S := fun w' => Below u3.heap.size u3 w') (by kernel_rfl) ((Below.refl u3.heap.size u3).drew) (fun hHeld => ?_)
              have V0 : Hid (Below u3.heap.size u3 u3.drew) := Lib.hid (Below.refl u3.heap.size u3).drew
              generalize u3.drew = y0 at V0 hHeld ⊢
              refine wpAnyH_take (i := 0) (oi := ⟨some 78, _, _, _, _, _⟩) (v := (.pointer (some ⟨p, 0, none⟩))) rfl (by kernel_rfl) (by kernel_rfl) (by kernel_rfl) (fun _ _ _ h => h) (Or.inl ⟨by rfl, ?_⟩) (by assumption) ?_
              · intro w' hS; go_simp; try with_reducible rfl
              simp only [Act.put, List.setIfInBounds_toArray, List.set_cons_zero, List.set_cons_succ]
              refine wpAnyH_take (i := 2) (oi := ⟨some 80, _, _, _, _, _⟩) (v := (.agg #[.float .f64 sf, .float .f64 sg])) rfl (by kernel_rfl) (by kernel_rfl) (by kernel_rfl) (fun _ _ _ h => h) (Or.inl ⟨by rfl, ?_⟩) (by assumption) ?_
              · intro w' hS; have hq := L3d.out.below hS (Blk.lt L3d.out); have h0 : w'.cell? ⟨l3, 0, none⟩ = some (.float .f64 sf) := hq.cell 0; have h1 : w'.cell? ⟨l3, 1, none⟩ = some (.float .f64 sg) := hq.cell 1; clear hq; go_simp; try with_reducible rfl
              simp only [Act.put, List.setIfInBounds_toArray, List.set_cons_zero, List.set_cons_succ]
              refine wpAnyH_ready (rs := [1]) (by kernel_rfl) (by simp) ?_
              refine AllReadyH.cons (o := ⟨some 79, _, _, _, _, _⟩) rfl (fun K hK => ?_) AllReadyH.nil
              rw [if_pos (by rfl)]
              go_simp
              refine (spent_of p e1 d1 sf sg y0 (Blk.below BAd.out V0.out (Blk.lt BAd.out))).mono ?_
              rintro e' y1 ⟨rfl, bb⟩
              have V1 := Lib.hid (V0.out.trans (bb.mono V0.out.size))
              clear bb V0
              dsimp only
              (try simp only [Act.put, List.setIfInBounds_toArray, List.set_cons_zero, List.set_cons_succ])
              refine hK.out _ _ V1.out (fun hHeld => ?_)
              clear hK K
              refine wpAnyH_take (i := 3) (oi := ⟨some 81, _, _, _, _, _⟩) (v := (.bool false)) rfl (by kernel_rfl) (by kernel_rfl) (by kernel_rfl) (fun _ _ _ h => h) (Or.inl ⟨by rfl, ?_⟩) (by assumption) ?_
              · intro w' hS; have q1 := eq22 w' sf sf; have q2 := eq22 w' sg sg; rw [feq_self NS.out.1] at q1; rw [feq_self NS.out.2.1] at q2; have o1 := same_eq NS.out.1; have o2 := same_eq NS.out.2.1; go_simp; try with_reducible rfl
              simp only [Act.put, List.setIfInBounds_toArray, List.set_cons_zero, List.set_cons_succ]
              refine wpAnyH_take (i := 4) (oi := ⟨some 82, _, _, _, _, _⟩) (v := (.bool false)) rfl (by kernel_rfl) (by kernel_rfl) (by kernel_rfl) (fun _ _ _ h => h) (Or.inl ⟨by rfl, ?_⟩) (by assumption) ?_
              · intro w' hS; go_simp; try with_reducible rfl
              simp only [Act.put, List.setIfInBounds_toArray, List.set_cons_zero, List.set_cons_succ]
              refine wpAnyH_take (i := 5) (oi := ⟨some 83, _, _, _, _, _⟩) (v := (.int .i64 260)) rfl (by kernel_rfl) (by kernel_rfl) (by kernel_rfl) (fun _ _ _ h => h) (Or.inl ⟨by rfl, ?_⟩) (by assumption) ?_
              · intro w' hS; go_simp; try with_reducible rfl
              simp only [Act.put, List.setIfInBounds_toArray, List.set_cons_zero, List.set_cons_succ]
              refine wpAnyH_take (i := 6) (oi := ⟨some 84, _, _, _, _, _⟩) (v := (.bool false)) rfl (by kernel_rfl) (by kernel_rfl) (by kernel_rfl) (fun _ _ _ h => h) (Or.inl ⟨by rfl, ?_⟩) (by assumption) ?_
              · intro w' hS; go_simp; try with_reducible rfl
              simp only [Act.put, List.setIfInBounds_toArray, List.set_cons_zero, List.set_cons_succ]
              refine wpAnyH_take (i := 7) (oi := ⟨some 85, _, _, _, _, _⟩) (v := (.agg #[.float .f64 le, .float .f64 ld])) rfl (by kernel_rfl) (by kernel_rfl) (by kernel_rfl) (fun _ _ _ h => h) (Or.inl ⟨by rfl, ?_⟩) (by assumption) ?_
              · intro w' hS; have hq := L2d.out.below hS (Blk.lt L2d.out); have h0 : w'.cell? ⟨l2, 0, none⟩ = some (.float .f64 le) := hq.cell 0; have h1 : w'.cell? ⟨l2, 1, none⟩ = some (.float .f64 ld) := hq.cell 1; clear hq; go_simp; try with_reducible rfl
              simp only [Act.put, List.setIfInBounds_toArray, List.set_cons_zero, List.set_cons_succ]
              refine wpAnyH_ready (rs := [8]) (by kernel_rfl) (by simp) ?_
              refine AllReadyH.cons (o := ⟨some 86, _, _, _, _, _⟩) rfl (fun K hK => ?_) AllReadyH.nil
              rw [if_pos (by rfl)]
              go_simp
              have hlg := lgood_any le ld y1
              rw [HFI.out] at hlg
              refine hlg.mono ?_
              rintro e' y2 ⟨rfl, bb⟩
              have V2 := Lib.hid (V1.out.trans (bb.mono V1.out.size))
              clear bb V1 hlg
              dsimp only
              (try simp only [Act.put, List.setIfInBounds_toArray, List.set_cons_zero, List.set_cons_succ])
              refine hK.out _ _ V2.out (fun hHeld => ?_)
              clear hK K
              refine wpAnyH_take (i := 9) (oi := ⟨some 87, _, _, _, _, _⟩) (v := (.bool false)) rfl (by kernel_rfl) (by kernel_rfl) (by kernel_rfl) (fun _ _ _ h => h) (Or.inl ⟨by rfl, ?_⟩) (by assumption) ?_
              · intro w' hS; go_simp; try with_reducible rfl
              simp only [Act.put, List.setIfInBounds_toArray, List.set_cons_zero, List.set_cons_succ]
              refine wpAnyH_take (i := 10) (oi := ⟨some 88, _, _, _, _, _⟩) (v := (.bool false)) rfl (by kernel_rfl) (by kernel_rfl) (by kernel_rfl) (fun _ _ _ h => h) (Or.inl ⟨by rfl, ?_⟩) (by assumption) ?_
              · intro w' hS; go_simp; try with_reducible rfl
              simp only [Act.put, List.setIfInBounds_toArray, List.set_cons_zero, List.set_cons_succ]
              refine wpAnyH_take (i := 11) (oi := ⟨some 89, _, _, _, _, _⟩) (v := (.bool false)) rfl (by kernel_rfl) (by kernel_rfl) (by kernel_rfl) (fun _ _ _ h => h) (Or.inl ⟨by rfl, ?_⟩) (by assumption) ?_
              · intro w' hS; go_simp; try with_reducible rfl
              simp only [Act.put, List.setIfInBounds_toArray, List.set_cons_zero, List.set_cons_succ]
              refine wpAnyH_take (i := 12) (oi := ⟨some 90, _, _, _, _, _⟩) (v := (.int .i64 260)) rfl (by kernel_rfl) (by kernel_rfl) (by kernel_rfl) (fun _ _ _ h => h) (Or.inl ⟨by rfl, ?_⟩) (by assumption) ?_
              · intro w' hS; go_simp; try with_reducible rfl
              simp only [Act.put, List.setIfInBounds_toArray, List.set_cons_zero, List.set_cons_succ]
              refine wpAnyH_take (i := 13) (oi := ⟨some 91, _, _, _, _, _⟩) (v := (.bool true)) rfl (by kernel_rfl) (by kernel_rfl) (by kernel_rfl) (fun _ _ _ h => h) (Or.inl ⟨by rfl, ?_⟩) (by assumption) ?_
              · intro w' hS; go_simp; try with_reducible rfl
              simp only [Act.put, List.setIfInBounds_toArray, List.set_cons_zero, List.set_cons_succ]
              refine wpAnyH_take (i := 14) (oi := ⟨some 92, _, _, _, _, _⟩) (v := (.bool true)) rfl (by kernel_rfl) (by kernel_rfl) (by kernel_rfl) (fun _ _ _ h => h) (Or.inl ⟨by rfl, ?_⟩) (by assumption) ?_
              · intro w' hS; go_simp; try with_reducible rfl
              simp only [Act.put, List.setIfInBounds_toArray, List.set_cons_zero, List.set_cons_succ]
              refine wpAnyH_take (i := 15) (oi := ⟨some 93, _, _, _, _, _⟩) (v := (.int .i64 0)) rfl (by kernel_rfl) (by kernel_rfl) (by kernel_rfl) (fun _ _ _ h => h) (Or.inl ⟨by rfl, ?_⟩) (by assumption) ?_
              · intro w' hS; go_simp; try with_reducible rfl
              simp only [Act.put, List.setIfInBounds_toArray, List.set_cons_zero, List.set_cons_succ]
              refine wpAnyH_take (i := 16) (oi := ⟨some 94, _, _, _, _, _⟩) (v := (.bool false)) rfl (by kernel_rfl) (by kernel_rfl) (by kernel_rfl) (fun _ _ _ h => h) (Or.inl ⟨by rfl, ?_⟩) (by assumption) ?_
              · intro w' hS; go_simp; try with_reducible rfl
              simp only [Act.put, List.setIfInBounds_toArray, List.set_cons_zero, List.set_cons_succ]
              refine wpAnyH_take (i := 17) (oi := ⟨some 95, _, _, _, _, _⟩) (v := (.bool false)) rfl (by kernel_rfl) (by kernel_rfl) (by kernel_rfl) (fun _ _ _ h => h) (Or.inl ⟨by rfl, ?_⟩) (by assumption) ?_
              · intro w' hS; go_simp; try with_reducible rfl
              simp only [Act.put, List.setIfInBounds_toArray, List.set_cons_zero, List.set_cons_succ]
              refine wpAnyH_take (i := 18) (oi := ⟨some 96, _, _, _, _, _⟩) (v := (.bool false)) rfl (by kernel_rfl) (by kernel_rfl) (by kernel_rfl) (fun _ _ _ h => h) (Or.inl ⟨by rfl, ?_⟩) (by assumption) ?_
              · intro w' hS; go_simp; try with_reducible rfl
              simp only [Act.put, List.setIfInBounds_toArray, List.set_cons_zero, List.set_cons_succ]
              refine wpAnyH_done (by kernel_rfl) ?_ _
              have L2e := Lib.hid (L2d.out.below V2.out (Blk.lt L2d.out))
              have L3e := Lib.hid (L3d.out.below V2.out (Blk.lt L3d.out))
              have LAe := Lib.hid (LAd.out.below V2.out (Blk.lt LAd.out))
              have BAe : Hid (Bud 96 y2 p e1 d1 sf sg) := Lib.hid (Blk.below BAd.out V2.out (Blk.lt BAd.out))
              have WAe := Lib.hid (WAd.out.trans (V2.out.mono WAd.out.size))
              clear L2d L3d LAd BAd WAd V2
              have l20' : y2.cell? ⟨l2, 0, none⟩ = some (.float .f64 le) := L2e.out.cell 0
              have l21' : y2.cell? ⟨l2, 1, none⟩ = some (.float .f64 ld) := L2e.out.cell 1
              go_wp2_with fail
              refine (HSD.out y2 BAe.out).mono ?_
              rintro e u4 ⟨rfl, hbu, hf⟩
              have BAf : Hid (Bud 96 u4 p e1 d1 sf sg) := Lib.hid hbu
              have L2f := Lib.hid (L2e.out.fr hf (Blk.ne L2e.out BAe.out (by decide)))
              have L3f := Lib.hid (L3e.out.fr hf (Blk.ne L3e.out BAe.out (by decide)))
              have LAf := Lib.hid (LAe.out.fr hf (Blk.ne LAe.out BAe.out (by decide)))
              have WAf := Lib.hid (WAe.out.trans (hf.below (B := w.heap.size) WAe.out.size (fun j hj => by rw [hj]; exact PL.out)))
              clear hbu hf L2e L3e LAe BAe WAe
              clear l20' l21'
              go_wp2_with fail
              refine (spent_of p e1 d1 sf sg u4 BAf.out).mono ?_
              rintro e u5 ⟨rfl, bb⟩
              have L2g := Lib.hid (L2f.out.below bb (Blk.lt L2f.out))
              have L3g := Lib.hid (L3f.out.below bb (Blk.lt L3f.out))
              have LAg := Lib.hid (LAf.out.below bb (Blk.lt LAf.out))
              have BAg : Hid (Bud 96 u5 p e1 d1 sf sg) := Lib.hid (Blk.below BAf.out bb (Blk.lt BAf.out))
              have WAg := Lib.hid (WAf.out.trans (bb.mono WAf.out.size))
              clear bb L2f L3f LAf BAf WAf
              go_upto_region 19 with (refine wpList_store_row rfl 34 _ _ rfl u5.heap.size #[.float .f64 sf, .float .f64 sg] rfl rfl 34 #[.float .f64 0, .float .f64 0] (heap_alloc_new _ _) (by kernel_rfl) rfl (by kernel_rfl) ?_)
              have L4h : Hid (Blk ((u5.alloc (.cells #[.float .f64 0, .float .f64 0] 34)).setRow u5.heap.size #[.float .f64 sf, .float .f64 sg]) u5.heap.size 34 [.float .f64 sf, .float .f64 sg]) := Lib.hid (setRow_heap _ _ _ _ _ _ (heap_alloc_new _ _))
              have bb : Below u5.heap.size u5 ((u5.alloc (.cells #[.float .f64 0, .float .f64 0] 34)).setRow u5.heap.size #[.float .f64 sf, .float .f64 sg]) := below_setRow ((Below.refl _ _).alloc (Nat.le_refl _) _) (Nat.le_refl _) _
              generalize ((u5.alloc (.cells #[.float .f64 0, .float .f64 0] 34)).setRow u5.heap.size #[.float .f64 sf, .float .f64 sg]) = u6 at *
              have L2h := Lib.hid (L2g.out.below bb (Blk.lt L2g.out))
              have L3h := Lib.hid (L3g.out.below bb (Blk.lt L3g.out))
              have LAh := Lib.hid (LAg.out.below bb (Blk.lt LAg.out))
              have BAh : Hid (Bud 96 u6 p e1 d1 sf sg) := Lib.hid (Blk.below BAg.out bb (Blk.lt BAg.out))
              have WAh := Lib.hid (WAg.out.trans (bb.mono WAg.out.size))
              clear bb L2g L3g LAg BAg WAg
              generalize u5.heap.size = l4 at *
              have l40' : u6.cell? ⟨l4, 0, none⟩ = some (.float .f64 sf) := L4h.out.cell 0
              have l41' : u6.cell? ⟨l4, 1, none⟩ = some (.float .f64 sg) := L4h.out.cell 1
              have l0' : u6.cell? ⟨l, 0, none⟩ = some (.float .f64 e1) := LAh.out.cell 0
              have l1' : u6.cell? ⟨l, 1, none⟩ = some (.float .f64 d1) := LAh.out.cell 1
              have l30' : u6.cell? ⟨l3, 0, none⟩ = some (.float .f64 sf) := L3h.out.cell 0
              have l31' : u6.cell? ⟨l3, 1, none⟩ = some (.float .f64 sg) := L3h.out.cell 1
              have hgt1 := HCM.out.1
              have hgt2 := HCM.out.2.1
              have hlt1 := HCM.out.2.2.1
              have hlt2 := HCM.out.2.2.2
              go_upto_region 21 with fail
              clear hgt1 hgt2 hlt1 hlt2
              have q1 := eq22 u6 sf sf
              have q2 := eq22 u6 sg sg
              rw [feq_self NS.out.1] at q1
              rw [feq_self NS.out.2.1] at q2
              have o1 := same_eq NS.out.1
              have o2 := same_eq NS.out.2.1
              go_wp2_with fail
              go_roundw
              case rel => exact ⟨k + 1, 260, sf, sg, rfl, by go_num, Lib.hid (by omega), WAh, LAh, BAh, NS⟩
              case measure => simp [intOf]; omega
            · have HFI := Lib.hid hfin
              rw [hfin, if_pos rfl] at hrd
              subst hrd
              have hz : rn = 0 := by have := hps.1; omega
              subst hz
              clear hps hrl hfin
              dsimp only at hro
              refine hro.mono ?_
              rintro e u3 ⟨rfl, bb⟩
              have L2d := Lib.hid (L2c.out.below bb (Blk.lt L2c.out))
              have L3d := Lib.hid (L3c.out.below bb (Blk.lt L3c.out))
              have LAd := Lib.hid (LAc.out.below bb (Blk.lt LAc.out))
              have BAd : Hid (Bud 96 u3 p e1 d1 sf sg) := Lib.hid (Blk.below BAc.out bb (Blk.lt BAc.out))
              have WAd := Lib.hid (WAc.out.trans (bb.mono WAc.out.size))
              clear bb L2c L3c LAc BAc WAc hro
              clear l20' l21'
              go_upto_region 15 with fail
              refine wp_region_held_drew (S := fun w' => Below u3.heap.size u3 w') (by kernel_rfl) ((Below.refl u3.heap.size u3).drew) (fun hHeld => ?_)
              have V0 : Hid (Below u3.heap.size u3 u3.drew) := Lib.hid (Below.refl u3.heap.size u3).drew
              generalize u3.drew = y0 at V0 hHeld ⊢
              refine wpAnyH_take (i := 0) (oi := ⟨some 78, _, _, _, _, _⟩) (v := (.pointer (some ⟨p, 0, none⟩))) rfl (by kernel_rfl) (by kernel_rfl) (by kernel_rfl) (fun _ _ _ h => h) (Or.inl ⟨by rfl, ?_⟩) (by assumption) ?_
              · intro w' hS; go_simp; try with_reducible rfl
              simp only [Act.put, List.setIfInBounds_toArray, List.set_cons_zero, List.set_cons_succ]
              refine wpAnyH_take (i := 2) (oi := ⟨some 80, _, _, _, _, _⟩) (v := (.agg #[.float .f64 sf, .float .f64 sg])) rfl (by kernel_rfl) (by kernel_rfl) (by kernel_rfl) (fun _ _ _ h => h) (Or.inl ⟨by rfl, ?_⟩) (by assumption) ?_
              · intro w' hS; have hq := L3d.out.below hS (Blk.lt L3d.out); have h0 : w'.cell? ⟨l3, 0, none⟩ = some (.float .f64 sf) := hq.cell 0; have h1 : w'.cell? ⟨l3, 1, none⟩ = some (.float .f64 sg) := hq.cell 1; clear hq; go_simp; try with_reducible rfl
              simp only [Act.put, List.setIfInBounds_toArray, List.set_cons_zero, List.set_cons_succ]
              refine wpAnyH_ready (rs := [1]) (by kernel_rfl) (by simp) ?_
              refine AllReadyH.cons (o := ⟨some 79, _, _, _, _, _⟩) rfl (fun K hK => ?_) AllReadyH.nil
              rw [if_pos (by rfl)]
              go_simp
              refine (spent_of p e1 d1 sf sg y0 (Blk.below BAd.out V0.out (Blk.lt BAd.out))).mono ?_
              rintro e' y1 ⟨rfl, bb⟩
              have V1 := Lib.hid (V0.out.trans (bb.mono V0.out.size))
              clear bb V0
              dsimp only
              (try simp only [Act.put, List.setIfInBounds_toArray, List.set_cons_zero, List.set_cons_succ])
              refine hK.out _ _ V1.out (fun hHeld => ?_)
              clear hK K
              refine wpAnyH_take (i := 3) (oi := ⟨some 81, _, _, _, _, _⟩) (v := (.bool false)) rfl (by kernel_rfl) (by kernel_rfl) (by kernel_rfl) (fun _ _ _ h => h) (Or.inl ⟨by rfl, ?_⟩) (by assumption) ?_
              · intro w' hS; have q1 := eq22 w' sf sf; have q2 := eq22 w' sg sg; rw [feq_self NS.out.1] at q1; rw [feq_self NS.out.2.1] at q2; have o1 := same_eq NS.out.1; have o2 := same_eq NS.out.2.1; go_simp; try with_reducible rfl
              simp only [Act.put, List.setIfInBounds_toArray, List.set_cons_zero, List.set_cons_succ]
              refine wpAnyH_take (i := 4) (oi := ⟨some 82, _, _, _, _, _⟩) (v := (.bool false)) rfl (by kernel_rfl) (by kernel_rfl) (by kernel_rfl) (fun _ _ _ h => h) (Or.inl ⟨by rfl, ?_⟩) (by assumption) ?_
              · intro w' hS; go_simp; try with_reducible rfl
              simp only [Act.put, List.setIfInBounds_toArray, List.set_cons_zero, List.set_cons_succ]
              refine wpAnyH_take (i := 5) (oi := ⟨some 83, _, _, _, _, _⟩) (v := (.int .i64 0)) rfl (by kernel_rfl) (by kernel_rfl) (by kernel_rfl) (fun _ _ _ h => h) (Or.inl ⟨by rfl, ?_⟩) (by assumption) ?_
              · intro w' hS; go_simp; try with_reducible rfl
              simp only [Act.put, List.setIfInBounds_toArray, List.set_cons_zero, List.set_cons_succ]
              refine wpAnyH_take (i := 6) (oi := ⟨some 84, _, _, _, _, _⟩) (v := (.bool true)) rfl (by kernel_rfl) (by kernel_rfl) (by kernel_rfl) (fun _ _ _ h => h) (Or.inl ⟨by rfl, ?_⟩) (by assumption) ?_
              · intro w' hS; go_simp; try with_reducible rfl
              simp only [Act.put, List.setIfInBounds_toArray, List.set_cons_zero, List.set_cons_succ]
              refine wpAnyH_take (i := 7) (oi := ⟨some 85, _, _, _, _, _⟩) (v := (.agg #[.float .f64 le, .float .f64 ld])) rfl (by kernel_rfl) (by kernel_rfl) (by kernel_rfl) (fun _ _ _ h => h) (Or.inl ⟨by rfl, ?_⟩) (by assumption) ?_
              · intro w' hS; have hq := L2d.out.below hS (Blk.lt L2d.out); have h0 : w'.cell? ⟨l2, 0, none⟩ = some (.float .f64 le) := hq.cell 0; have h1 : w'.cell? ⟨l2, 1, none⟩ = some (.float .f64 ld) := hq.cell 1; clear hq; go_simp; try with_reducible rfl
              simp only [Act.put, List.setIfInBounds_toArray, List.set_cons_zero, List.set_cons_succ]
              refine wpAnyH_ready (rs := [8]) (by kernel_rfl) (by simp) ?_
              refine AllReadyH.cons (o := ⟨some 86, _, _, _, _, _⟩) rfl (fun K hK => ?_) AllReadyH.nil
              rw [if_pos (by rfl)]
              go_simp
              have hlg := lgood_any le ld y1
              rw [HFI.out] at hlg
              refine hlg.mono ?_
              rintro e' y2 ⟨rfl, bb⟩
              have V2 := Lib.hid (V1.out.trans (bb.mono V1.out.size))
              clear bb V1 hlg
              dsimp only
              (try simp only [Act.put, List.setIfInBounds_toArray, List.set_cons_zero, List.set_cons_succ])
              refine hK.out _ _ V2.out (fun hHeld => ?_)
              clear hK K
              refine wpAnyH_take (i := 9) (oi := ⟨some 87, _, _, _, _, _⟩) (v := (.bool false)) rfl (by kernel_rfl) (by kernel_rfl) (by kernel_rfl) (fun _ _ _ h => h) (Or.inl ⟨by rfl, ?_⟩) (by assumption) ?_
              · intro w' hS; go_simp; try with_reducible rfl
              simp only [Act.put, List.setIfInBounds_toArray, List.set_cons_zero, List.set_cons_succ]
              refine wpAnyH_take (i := 10) (oi := ⟨some 88, _, _, _, _, _⟩) (v := (.bool false)) rfl (by kernel_rfl) (by kernel_rfl) (by kernel_rfl) (fun _ _ _ h => h) (Or.inl ⟨by rfl, ?_⟩) (by assumption) ?_
              · intro w' hS; go_simp; try with_reducible rfl
              simp only [Act.put, List.setIfInBounds_toArray, List.set_cons_zero, List.set_cons_succ]
              refine wpAnyH_take (i := 11) (oi := ⟨some 89, _, _, _, _, _⟩) (v := (.bool false)) rfl (by kernel_rfl) (by kernel_rfl) (by kernel_rfl) (fun _ _ _ h => h) (Or.inl ⟨by rfl, ?_⟩) (by assumption) ?_
              · intro w' hS; go_simp; try with_reducible rfl
              simp only [Act.put, List.setIfInBounds_toArray, List.set_cons_zero, List.set_cons_succ]
              refine wpAnyH_take (i := 12) (oi := ⟨some 90, _, _, _, _, _⟩) (v := (.int .i64 0)) rfl (by kernel_rfl) (by kernel_rfl) (by kernel_rfl) (fun _ _ _ h => h) (Or.inl ⟨by rfl, ?_⟩) (by assumption) ?_
              · intro w' hS; go_simp; try with_reducible rfl
              simp only [Act.put, List.setIfInBounds_toArray, List.set_cons_zero, List.set_cons_succ]
              refine wpAnyH_take (i := 13) (oi := ⟨some 91, _, _, _, _, _⟩) (v := (.bool false)) rfl (by kernel_rfl) (by kernel_rfl) (by kernel_rfl) (fun _ _ _ h => h) (Or.inl ⟨by rfl, ?_⟩) (by assumption) ?_
              · intro w' hS; go_simp; try with_reducible rfl
              simp only [Act.put, List.setIfInBounds_toArray, List.set_cons_zero, List.set_cons_succ]
              refine wpAnyH_take (i := 14) (oi := ⟨some 92, _, _, _, _, _⟩) (v := (.bool false)) rfl (by kernel_rfl) (by kernel_rfl) (by kernel_rfl) (fun _ _ _ h => h) (Or.inl ⟨by rfl, ?_⟩) (by assumption) ?_
              · intro w' hS; go_simp; try with_reducible rfl
              simp only [Act.put, List.setIfInBounds_toArray, List.set_cons_zero, List.set_cons_succ]
              refine wpAnyH_take (i := 15) (oi := ⟨some 93, _, _, _, _, _⟩) (v := undef) rfl (by kernel_rfl) (by kernel_rfl) (by kernel_rfl) (fun _ _ _ h => h) (Or.inr ⟨by rfl, by rfl⟩) (by assumption) ?_
              simp only [Act.put, List.setIfInBounds_toArray, List.set_cons_zero, List.set_cons_succ]
              refine wpAnyH_take (i := 16) (oi := ⟨some 94, _, _, _, _, _⟩) (v := undef) rfl (by kernel_rfl) (by kernel_rfl) (by kernel_rfl) (fun _ _ _ h => h) (Or.inr ⟨by rfl, by rfl⟩) (by assumption) ?_
              simp only [Act.put, List.setIfInBounds_toArray, List.set_cons_zero, List.set_cons_succ]
              refine wpAnyH_take (i := 17) (oi := ⟨some 95, _, _, _, _, _⟩) (v := (.bool false)) rfl (by kernel_rfl) (by kernel_rfl) (by kernel_rfl) (fun _ _ _ h => h) (Or.inl ⟨by rfl, ?_⟩) (by assumption) ?_
              · intro w' hS; go_simp; try with_reducible rfl
              simp only [Act.put, List.setIfInBounds_toArray, List.set_cons_zero, List.set_cons_succ]
              refine wpAnyH_take (i := 18) (oi := ⟨some 96, _, _, _, _, _⟩) (v := (.bool false)) rfl (by kernel_rfl) (by kernel_rfl) (by kernel_rfl) (fun _ _ _ h => h) (Or.inl ⟨by rfl, ?_⟩) (by assumption) ?_
              · intro w' hS; go_simp; try with_reducible rfl
              simp only [Act.put, List.setIfInBounds_toArray, List.set_cons_zero, List.set_cons_succ]
              refine wpAnyH_done (by kernel_rfl) ?_ _
              have L2e := Lib.hid (L2d.out.below V2.out (Blk.lt L2d.out))
              have L3e := Lib.hid (L3d.out.below V2.out (Blk.lt L3d.out))
              have LAe := Lib.hid (LAd.out.below V2.out (Blk.lt LAd.out))
              have BAe : Hid (Bud 96 y2 p e1 d1 sf sg) := Lib.hid (Blk.below BAd.out V2.out (Blk.lt BAd.out))
              have WAe := Lib.hid (WAd.out.trans (V2.out.mono WAd.out.size))
              clear L2d L3d LAd BAd WAd V2
              have l20' : y2.cell? ⟨l2, 0, none⟩ = some (.float .f64 le) := L2e.out.cell 0
              have l21' : y2.cell? ⟨l2, 1, none⟩ = some (.float .f64 ld) := L2e.out.cell 1
              go_wp2_with fail
              refine (HSD.out y2 BAe.out).mono ?_
              rintro e u4 ⟨rfl, hbu, hf⟩
              have BAf : Hid (Bud 96 u4 p e1 d1 sf sg) := Lib.hid hbu
              have L2f := Lib.hid (L2e.out.fr hf (Blk.ne L2e.out BAe.out (by decide)))
              have L3f := Lib.hid (L3e.out.fr hf (Blk.ne L3e.out BAe.out (by decide)))
              have LAf := Lib.hid (LAe.out.fr hf (Blk.ne LAe.out BAe.out (by decide)))
              have WAf := Lib.hid (WAe.out.trans (hf.below (B := w.heap.size) WAe.out.size (fun j hj => by rw [hj]; exact PL.out)))
              clear hbu hf L2e L3e LAe BAe WAe
              clear l20' l21'
              go_wp2_with fail
              refine (spent_of p e1 d1 sf sg u4 BAf.out).mono ?_
              rintro e u5 ⟨rfl, bb⟩
              have L2g := Lib.hid (L2f.out.below bb (Blk.lt L2f.out))
              have L3g := Lib.hid (L3f.out.below bb (Blk.lt L3f.out))
              have LAg := Lib.hid (LAf.out.below bb (Blk.lt LAf.out))
              have BAg : Hid (Bud 96 u5 p e1 d1 sf sg) := Lib.hid (Blk.below BAf.out bb (Blk.lt BAf.out))
              have WAg := Lib.hid (WAf.out.trans (bb.mono WAf.out.size))
              clear bb L2f L3f LAf BAf WAf
              go_upto_region 19 with (refine wpList_store_row rfl 34 _ _ rfl u5.heap.size #[.float .f64 sf, .float .f64 sg] rfl rfl 34 #[.float .f64 0, .float .f64 0] (heap_alloc_new _ _) (by kernel_rfl) rfl (by kernel_rfl) ?_)
              have L4h : Hid (Blk ((u5.alloc (.cells #[.float .f64 0, .float .f64 0] 34)).setRow u5.heap.size #[.float .f64 sf, .float .f64 sg]) u5.heap.size 34 [.float .f64 sf, .float .f64 sg]) := Lib.hid (setRow_heap _ _ _ _ _ _ (heap_alloc_new _ _))
              have bb : Below u5.heap.size u5 ((u5.alloc (.cells #[.float .f64 0, .float .f64 0] 34)).setRow u5.heap.size #[.float .f64 sf, .float .f64 sg]) := below_setRow ((Below.refl _ _).alloc (Nat.le_refl _) _) (Nat.le_refl _) _
              generalize ((u5.alloc (.cells #[.float .f64 0, .float .f64 0] 34)).setRow u5.heap.size #[.float .f64 sf, .float .f64 sg]) = u6 at *
              have L2h := Lib.hid (L2g.out.below bb (Blk.lt L2g.out))
              have L3h := Lib.hid (L3g.out.below bb (Blk.lt L3g.out))
              have LAh := Lib.hid (LAg.out.below bb (Blk.lt LAg.out))
              have BAh : Hid (Bud 96 u6 p e1 d1 sf sg) := Lib.hid (Blk.below BAg.out bb (Blk.lt BAg.out))
              have WAh := Lib.hid (WAg.out.trans (bb.mono WAg.out.size))
              clear bb L2g L3g LAg BAg WAg
              generalize u5.heap.size = l4 at *
              have l40' : u6.cell? ⟨l4, 0, none⟩ = some (.float .f64 sf) := L4h.out.cell 0
              have l41' : u6.cell? ⟨l4, 1, none⟩ = some (.float .f64 sg) := L4h.out.cell 1
              have l0' : u6.cell? ⟨l, 0, none⟩ = some (.float .f64 e1) := LAh.out.cell 0
              have l1' : u6.cell? ⟨l, 1, none⟩ = some (.float .f64 d1) := LAh.out.cell 1
              have l30' : u6.cell? ⟨l3, 0, none⟩ = some (.float .f64 sf) := L3h.out.cell 0
              have l31' : u6.cell? ⟨l3, 1, none⟩ = some (.float .f64 sg) := L3h.out.cell 1
              have hgt1 := HCM.out.1
              have hgt2 := HCM.out.2.1
              have hlt1 := HCM.out.2.2.1
              have hlt2 := HCM.out.2.2.2
              go_upto_region 21 with fail
              clear hgt1 hgt2 hlt1 hlt2
              have q1 := eq22 u6 sf sf
              have q2 := eq22 u6 sg sg
              rw [feq_self NS.out.1] at q1
              rw [feq_self NS.out.2.1] at q2
              have o1 := same_eq NS.out.1
              have o2 := same_eq NS.out.2.1
              go_wp2_with fail
              go_roundw
              case rel => exact ⟨k + 1, 261, sf, sg, rfl, by go_num, Lib.hid (by omega), WAh, LAh, BAh, NS⟩
              case measure => simp [intOf]; omega
        · have d1' : decide ((k : Int) < (k1 : Int)) = false := by simp; omega
          go_wp2_with fail
          go_ret
          exact ⟨rfl, HXE.out ▸ WA.out⟩
end Go.Proofs.Ytcfbaildcocnhaa

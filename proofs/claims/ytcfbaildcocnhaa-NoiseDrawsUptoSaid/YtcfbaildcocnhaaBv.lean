/-
  Walks: sameLoss, spent: a call on both budgets.
-/
import Derived.Test.YtcfbaildcocnhaaBt
import Derived.Deep.DeepCutAuto
set_option linter.unusedVariables false
set_option linter.unusedSimpArgs false
namespace Go.Proofs.Ytcfbaildcocnhaa
open Go.RowKit

theorem sameLoss_any (E D E' D' : Nat) (w : World) (h1 : fv E = fv E') (h2 : fv D = fv D') :
    Calls Try.prog 22 #[.agg #[.float .f64 E, .float .f64 D], .agg #[.float .f64 E', .float .f64 D']] w fun e w' => e = .returned (.bool true) ∧ Below w.heap.size w w' := by
  have H := Lib.hid (And.intro h1 h2)
  clear h1 h2
  have hb : Below w.heap.size w ((w.alloc (.cells #[.float .f64 E, .float .f64 D] 34)).alloc (.cells #[.float .f64 E', .float .f64 D'] 34)) := ((Below.refl _ _).alloc (Nat.le_refl _) _).alloc (by simp) _
  have HW := Lib.hid hb
  clear hb
  go_enter Try.func22, Try.ntmps22
  go_wp2_with fail
  refine (same_any E E' _ H.out.1).mono ?_
  rintro e w1 ⟨rfl, rfl⟩
  go_wp2_with fail
  refine (same_any D D' _ H.out.2).mono ?_
  rintro e w1 ⟨rfl, rfl⟩
  go_wp2_with fail
  go_ret
  exact ⟨rfl, HW.out⟩
theorem fr_false {w w' : World} (h : Below w.heap.size w w') (S : Nat → Prop) : Fr S w w' := Fr.of_below h S

set_option maxRecDepth 100000 in
set_option maxHeartbeats 8000000 in
theorem spent_law (p q me md se sd : Nat) (ask : Bool) (xb : Nat) (xo : Int) (yb : Nat) (yo : Int) (w : World) (hP : Bud 96 w p me md se sd) (hQ : Bud 98 w q me md se sd) (h1 : nn me) (h2 : nn md) (h3 : nn se) (h4 : nn sd) (hx : (Lit.float .f64 xb).wf = true) (hy : (Lit.float .f64 yb).wf = true) :
    Calls Try.prog 19 #[.pointer (some ⟨p, 0, none⟩), .pointer (some ⟨q, 0, none⟩), .agg #[.bool ask, .float .f64 xb, .int .i64 xo, .float .f64 yb, .int .i64 yo]] w fun e w' => e = .returned (.bool true) ∧ ∃ se' sd', nn se' ∧ nn sd' ∧ Bud 96 w' p me md se' sd' ∧ Bud 98 w' q me md se' sd' ∧ Fr (fun j => j = p ∨ j = q) w w' := by
  have HP := Lib.hid hP
  have HQ := Lib.hid hQ
  have HN := Lib.hid (And.intro h1 (And.intro h2 (And.intro h3 h4)))
  have HXW := Lib.hid hx
  have HYW := Lib.hid hy
  have HPQ : Hid (p < w.heap.size ∧ q < w.heap.size ∧ ¬ p = q) := Lib.hid ⟨Blk.lt hP, Blk.lt hQ, Blk.ne hP hQ (by decide)⟩
  clear hP hQ h1 h2 h3 h4 hx hy
  have F0 := Lib.hid ((Below.refl w.heap.size w).alloc (Nat.le_refl _) (.cells #[.bool ask, .float .f64 xb, .int .i64 xo, .float .f64 yb, .int .i64 yo] 43))
  have HX : Hid (Blk (w.alloc (.cells #[.bool ask, .float .f64 xb, .int .i64 xo, .float .f64 yb, .int .i64 yo] 43)) w.heap.size 43 [.bool ask, .float .f64 xb, .int .i64 xo, .float .f64 yb, .int .i64 yo]) := Lib.hid (Blk.new w 43 _)
  have HP0 : Hid (Bud 96 (w.alloc (.cells #[.bool ask, .float .f64 xb, .int .i64 xo, .float .f64 yb, .int .i64 yo] 43)) p me md se sd) := Lib.hid (Blk.alloc HP.out _)
  have HQ0 : Hid (Bud 98 (w.alloc (.cells #[.bool ask, .float .f64 xb, .int .i64 xo, .float .f64 yb, .int .i64 yo] 43)) q me md se sd) := Lib.hid (Blk.alloc HQ.out _)
  have HD : Hid (p < (w.alloc (.cells #[.bool ask, .float .f64 xb, .int .i64 xo, .float .f64 yb, .int .i64 yo] 43)).heap.size ∧ q < (w.alloc (.cells #[.bool ask, .float .f64 xb, .int .i64 xo, .float .f64 yb, .int .i64 yo] 43)).heap.size ∧ w.heap.size < (w.alloc (.cells #[.bool ask, .float .f64 xb, .int .i64 xo, .float .f64 yb, .int .i64 yo] 43)).heap.size) := Lib.hid ⟨Blk.lt HP0.out, Blk.lt HQ0.out, Blk.lt HX.out⟩
  go_enter Try.func19, Try.ntmps19
  go_upto_region 1 with fail
  generalize hX : w.heap.size = X at HX HD HPQ ⊢
  have HXE := Lib.hid hX
  clear hX
  generalize (w.alloc (.cells #[.bool ask, .float .f64 xb, .int .i64 xo, .float .f64 yb, .int .i64 yo] 43)) = w0 at *
  go_cut [7] from 12 (fun v7 wx => ∃ l e d, v7 = .pointer (some ⟨l, 0, none⟩) ∧ Blk wx l 34 [.float .f64 e, .float .f64 d] ∧ w0.heap.size ≤ l ∧ Below w0.heap.size w0 wx)
  case first =>
    refine wp_region_held_drew (S := fun w' => Below w0.heap.size w0 w') (by kernel_rfl) ((Below.refl w0.heap.size w0).drew) (fun hHeld => ?_)
    have V0 : Hid (Below w0.heap.size w0 w0.drew) := Lib.hid (Below.refl w0.heap.size w0).drew
    generalize w0.drew = v0 at V0 hHeld ⊢
    refine wpAnyH_take (i := 0) (oi := ⟨some 12, _, _, _, _, _⟩) (v := (.pointer (some ⟨X, 1, none⟩))) rfl (by kernel_rfl) (by kernel_rfl) (by kernel_rfl) (fun _ _ _ h => h) (Or.inl ⟨by rfl, ?_⟩) (by assumption) ?_
    · intro w' hS; go_simp; try with_reducible rfl
    simp only [Act.put, List.setIfInBounds_toArray, List.set_cons_zero, List.set_cons_succ]
    refine wpAnyH_take (i := 1) (oi := ⟨some 13, _, _, _, _, _⟩) (v := (.agg #[.float .f64 xb, .int .i64 xo])) rfl (by kernel_rfl) (by kernel_rfl) (by kernel_rfl) (fun _ _ _ h => h) (Or.inl ⟨by rfl, ?_⟩) (by assumption) ?_
    · intro w' hS; have hq := HX.out.below hS (Blk.lt HX.out); have h0 : w'.cell? ⟨X, 1, none⟩ = some (.float .f64 xb) := hq.cell 1; have h1 : w'.cell? ⟨X, 2, none⟩ = some (.int .i64 xo) := hq.cell 2; clear hq; go_simp; try with_reducible rfl
    simp only [Act.put, List.setIfInBounds_toArray, List.set_cons_zero, List.set_cons_succ]
    refine wpAnyH_take (i := 3) (oi := ⟨some 15, _, _, _, _, _⟩) (v := (.pointer (some ⟨X, 3, none⟩))) rfl (by kernel_rfl) (by kernel_rfl) (by kernel_rfl) (fun _ _ _ h => h) (Or.inl ⟨by rfl, ?_⟩) (by assumption) ?_
    · intro w' hS; go_simp; try with_reducible rfl
    simp only [Act.put, List.setIfInBounds_toArray, List.set_cons_zero, List.set_cons_succ]
    refine wpAnyH_take (i := 4) (oi := ⟨some 16, _, _, _, _, _⟩) (v := (.agg #[.float .f64 yb, .int .i64 yo])) rfl (by kernel_rfl) (by kernel_rfl) (by kernel_rfl) (fun _ _ _ h => h) (Or.inl ⟨by rfl, ?_⟩) (by assumption) ?_
    · intro w' hS; have hq := HX.out.below hS (Blk.lt HX.out); have h0 : w'.cell? ⟨X, 3, none⟩ = some (.float .f64 yb) := hq.cell 3; have h1 : w'.cell? ⟨X, 4, none⟩ = some (.int .i64 yo) := hq.cell 4; clear hq; go_simp; try with_reducible rfl
    simp only [Act.put, List.setIfInBounds_toArray, List.set_cons_zero, List.set_cons_succ]
    refine wpAnyH_ready (rs := [2, 7]) (by kernel_rfl) (by simp) ?_
    refine AllReadyH.cons (o := ⟨some 14, _, _, _, _, _⟩) rfl (fun K hK => ?_) (AllReadyH.cons (o := ⟨some 7, _, _, _, _, _⟩) rfl (fun K hK => ?_) AllReadyH.nil)
    · rw [if_pos (by rfl)]
      go_simp
      refine (value_any xb xo v0 HXW.out).mono ?_
      rintro e' v1 ⟨r1, rfl, -, -, bb⟩
      have V1 := Lib.hid (V0.out.trans (bb.mono V0.out.size))
      clear bb V0
      dsimp only
      (try simp only [Act.put, List.setIfInBounds_toArray, List.set_cons_zero, List.set_cons_succ])
      refine hK.out _ _ V1.out (fun hHeld => ?_)
      clear hK K
      refine wpAnyH_ready (rs := [5, 7]) (by kernel_rfl) (by simp) ?_
      refine AllReadyH.cons (o := ⟨some 17, _, _, _, _, _⟩) rfl (fun K hK => ?_) (AllReadyH.cons (o := ⟨some 7, _, _, _, _, _⟩) rfl (fun K hK => ?_) AllReadyH.nil)
      · rw [if_pos (by rfl)]
        go_simp
        refine (value_any yb yo v1 HYW.out).mono ?_
        rintro e' v2 ⟨r2, rfl, -, -, bb⟩
        have V2 := Lib.hid (V1.out.trans (bb.mono V1.out.size))
        clear bb V1
        dsimp only
        (try simp only [Act.put, List.setIfInBounds_toArray, List.set_cons_zero, List.set_cons_succ])
        refine hK.out _ _ V2.out (fun hHeld => ?_)
        clear hK K
        refine wpAnyH_take (i := 6) (oi := ⟨some 18, _, _, _, _, _⟩) (v := (.agg #[.float .f64 r1, .float .f64 r2])) rfl (by kernel_rfl) (by kernel_rfl) (by kernel_rfl) (fun _ _ _ h => h) (Or.inl ⟨by rfl, ?_⟩) (by assumption) ?_
        · intro w' hS; go_simp; try with_reducible rfl
        simp only [Act.put, List.setIfInBounds_toArray, List.set_cons_zero, List.set_cons_succ]
        refine wpAnyH_ready (rs := [7]) (by kernel_rfl) (by simp) ?_
        refine AllReadyH.cons (o := ⟨some 7, _, _, _, _, _⟩) rfl (fun K hK => ?_) AllReadyH.nil
        rw [if_pos (by rfl)]
        go_simp
        have V3 := Lib.hid (V2.out.alloc V2.out.size (.cells #[.float .f64 0, .float .f64 0] 34))
        have L3 : Hid (Blk (v2.alloc (.cells #[.float .f64 0, .float .f64 0] 34)) v2.heap.size 34 [.float .f64 0, .float .f64 0]) := Lib.hid (Blk.new v2 34 _)
        have G : Hid (w0.heap.size ≤ v2.heap.size) := Lib.hid V2.out.size
        generalize v2.heap.size = l at L3 G ⊢
        generalize (v2.alloc (.cells #[.float .f64 0, .float .f64 0] 34)) = v3 at *
        clear V2
        (try simp only [Act.put, List.setIfInBounds_toArray, List.set_cons_zero, List.set_cons_succ])
        refine hK.out _ _ V3.out (fun hHeld => ?_)
        clear hK K
        refine wpAnyH_ready (rs := [8]) (by kernel_rfl) (by simp) ?_
        refine AllReadyH.cons (o := ⟨none, _, _, _, _, _⟩) rfl (fun K hK => ?_) AllReadyH.nil
        rw [if_pos (by rfl)]
        (try simp only [Act.put, List.setIfInBounds_toArray, List.set_cons_zero, List.set_cons_succ])
        refine wp_store_row 34 _ _ rfl l #[.float .f64 r1, .float .f64 r2] rfl rfl 34 #[.float .f64 0, .float .f64 0] L3.out (by kernel_rfl) rfl (by kernel_rfl) ?_
        have V4 := Lib.hid (below_setRow V3.out G.out #[.float .f64 r1, .float .f64 r2])
        have L4 : Hid (Blk (v3.setRow l #[.float .f64 r1, .float .f64 r2]) l 34 [.float .f64 r1, .float .f64 r2]) := Lib.hid (setRow_heap _ _ _ _ _ _ L3.out)
        generalize v3.setRow l #[.float .f64 r1, .float .f64 r2] = v4 at *
        clear V3 L3
        (try simp only [Act.put, List.setIfInBounds_toArray, List.set_cons_zero, List.set_cons_succ])
        refine hK.out _ _ V4.out (fun hHeld => ?_)
        clear hK K
        refine wpAnyH_done (by kernel_rfl) ?_ _
        go_wp2_with fail
        go_meet
        exact ⟨l, r1, r2, rfl, L4.out, G.out, V4.out⟩
      · rw [if_pos (by rfl)]
        go_simp
        have V2 := Lib.hid (V1.out.alloc V1.out.size (.cells #[.float .f64 0, .float .f64 0] 34))
        have L2 : Hid (Blk (v1.alloc (.cells #[.float .f64 0, .float .f64 0] 34)) v1.heap.size 34 [.float .f64 0, .float .f64 0]) := Lib.hid (Blk.new v1 34 _)
        have G : Hid (w0.heap.size ≤ v1.heap.size) := Lib.hid V1.out.size
        generalize v1.heap.size = l at L2 G ⊢
        generalize (v1.alloc (.cells #[.float .f64 0, .float .f64 0] 34)) = v2 at *
        clear V1
        (try simp only [Act.put, List.setIfInBounds_toArray, List.set_cons_zero, List.set_cons_succ])
        refine hK.out _ _ V2.out (fun hHeld => ?_)
        clear hK K
        refine wpAnyH_ready (rs := [5]) (by kernel_rfl) (by simp) ?_
        refine AllReadyH.cons (o := ⟨some 17, _, _, _, _, _⟩) rfl (fun K hK => ?_) AllReadyH.nil
        rw [if_pos (by rfl)]
        go_simp
        refine (value_any yb yo v2 HYW.out).mono ?_
        rintro e' v3 ⟨r2, rfl, -, -, bb⟩
        have V3 := Lib.hid (V2.out.trans (bb.mono V2.out.size))
        have L3 := Lib.hid (L2.out.below bb (Blk.lt L2.out))
        clear L2
        clear bb V2
        dsimp only
        (try simp only [Act.put, List.setIfInBounds_toArray, List.set_cons_zero, List.set_cons_succ])
        refine hK.out _ _ V3.out (fun hHeld => ?_)
        clear hK K
        refine wpAnyH_take (i := 6) (oi := ⟨some 18, _, _, _, _, _⟩) (v := (.agg #[.float .f64 r1, .float .f64 r2])) rfl (by kernel_rfl) (by kernel_rfl) (by kernel_rfl) (fun _ _ _ h => h) (Or.inl ⟨by rfl, ?_⟩) (by assumption) ?_
        · intro w' hS; go_simp; try with_reducible rfl
        simp only [Act.put, List.setIfInBounds_toArray, List.set_cons_zero, List.set_cons_succ]
        refine wpAnyH_ready (rs := [8]) (by kernel_rfl) (by simp) ?_
        refine AllReadyH.cons (o := ⟨none, _, _, _, _, _⟩) rfl (fun K hK => ?_) AllReadyH.nil
        rw [if_pos (by rfl)]
        (try simp only [Act.put, List.setIfInBounds_toArray, List.set_cons_zero, List.set_cons_succ])
        refine wp_store_row 34 _ _ rfl l #[.float .f64 r1, .float .f64 r2] rfl rfl 34 #[.float .f64 0, .float .f64 0] L3.out (by kernel_rfl) rfl (by kernel_rfl) ?_
        have V4 := Lib.hid (below_setRow V3.out G.out #[.float .f64 r1, .float .f64 r2])
        have L4 : Hid (Blk (v3.setRow l #[.float .f64 r1, .float .f64 r2]) l 34 [.float .f64 r1, .float .f64 r2]) := Lib.hid (setRow_heap _ _ _ _ _ _ L3.out)
        generalize v3.setRow l #[.float .f64 r1, .float .f64 r2] = v4 at *
        clear V3 L3
        (try simp only [Act.put, List.setIfInBounds_toArray, List.set_cons_zero, List.set_cons_succ])
        refine hK.out _ _ V4.out (fun hHeld => ?_)
        clear hK K
        refine wpAnyH_done (by kernel_rfl) ?_ _
        go_wp2_with fail
        go_meet
        exact ⟨l, r1, r2, rfl, L4.out, G.out, V4.out⟩
    · rw [if_pos (by rfl)]
      go_simp
      have V1 := Lib.hid (V0.out.alloc V0.out.size (.cells #[.float .f64 0, .float .f64 0] 34))
      have L1 : Hid (Blk (v0.alloc (.cells #[.float .f64 0, .float .f64 0] 34)) v0.heap.size 34 [.float .f64 0, .float .f64 0]) := Lib.hid (Blk.new v0 34 _)
      have G : Hid (w0.heap.size ≤ v0.heap.size) := Lib.hid V0.out.size
      generalize v0.heap.size = l at L1 G ⊢
      generalize (v0.alloc (.cells #[.float .f64 0, .float .f64 0] 34)) = v1 at *
      clear V0
      (try simp only [Act.put, List.setIfInBounds_toArray, List.set_cons_zero, List.set_cons_succ])
      refine hK.out _ _ V1.out (fun hHeld => ?_)
      clear hK K
      refine wpAnyH_ready (rs := [2]) (by kernel_rfl) (by simp) ?_
      refine AllReadyH.cons (o := ⟨some 14, _, _, _, _, _⟩) rfl (fun K hK => ?_) AllReadyH.nil
      rw [if_pos (by rfl)]
      go_simp
      refine (value_any xb xo v1 HXW.out).mono ?_
      rintro e' v2 ⟨r1, rfl, -, -, bb⟩
      have V2 := Lib.hid (V1.out.trans (bb.mono V1.out.size))
      have L2 := Lib.hid (L1.out.below bb (Blk.lt L1.out))
      clear L1
      clear bb V1
      dsimp only
      (try simp only [Act.put, List.setIfInBounds_toArray, List.set_cons_zero, List.set_cons_succ])
      refine hK.out _ _ V2.out (fun hHeld => ?_)
      clear hK K
      refine wpAnyH_ready (rs := [5]) (by kernel_rfl) (by simp) ?_
      refine AllReadyH.cons (o := ⟨some 17, _, _, _, _, _⟩) rfl (fun K hK => ?_) AllReadyH.nil
      rw [if_pos (by rfl)]
      go_simp
      refine (value_any yb yo v2 HYW.out).mono ?_
      rintro e' v3 ⟨r2, rfl, -, -, bb⟩
      have V3 := Lib.hid (V2.out.trans (bb.mono V2.out.size))
      have L3 := Lib.hid (L2.out.below bb (Blk.lt L2.out))
      clear L2
      clear bb V2
      dsimp only
      (try simp only [Act.put, List.setIfInBounds_toArray, List.set_cons_zero, List.set_cons_succ])
      refine hK.out _ _ V3.out (fun hHeld => ?_)
      clear hK K
      refine wpAnyH_take (i := 6) (oi := ⟨some 18, _, _, _, _, _⟩) (v := (.agg #[.float .f64 r1, .float .f64 r2])) rfl (by kernel_rfl) (by kernel_rfl) (by kernel_rfl) (fun _ _ _ h => h) (Or.inl ⟨by rfl, ?_⟩) (by assumption) ?_
      · intro w' hS; go_simp; try with_reducible rfl
      simp only [Act.put, List.setIfInBounds_toArray, List.set_cons_zero, List.set_cons_succ]
      refine wpAnyH_ready (rs := [8]) (by kernel_rfl) (by simp) ?_
      refine AllReadyH.cons (o := ⟨none, _, _, _, _, _⟩) rfl (fun K hK => ?_) AllReadyH.nil
      rw [if_pos (by rfl)]
      (try simp only [Act.put, List.setIfInBounds_toArray, List.set_cons_zero, List.set_cons_succ])
      refine wp_store_row 34 _ _ rfl l #[.float .f64 r1, .float .f64 r2] rfl rfl 34 #[.float .f64 0, .float .f64 0] L3.out (by kernel_rfl) rfl (by kernel_rfl) ?_
      have V4 := Lib.hid (below_setRow V3.out G.out #[.float .f64 r1, .float .f64 r2])
      have L4 : Hid (Blk (v3.setRow l #[.float .f64 r1, .float .f64 r2]) l 34 [.float .f64 r1, .float .f64 r2]) := Lib.hid (setRow_heap _ _ _ _ _ _ L3.out)
      generalize v3.setRow l #[.float .f64 r1, .float .f64 r2] = v4 at *
      clear V3 L3
      (try simp only [Act.put, List.setIfInBounds_toArray, List.set_cons_zero, List.set_cons_succ])
      refine hK.out _ _ V4.out (fun hHeld => ?_)
      clear hK K
      refine wpAnyH_done (by kernel_rfl) ?_ _
      go_wp2_with fail
      go_meet
      exact ⟨l, r1, r2, rfl, L4.out, G.out, V4.out⟩
  case rest =>
    obtain ⟨l, e, d, rfl, hcl, hcg, hcb⟩ := hcut
    have LL := Lib.hid hcl
    have LG := Lib.hid hcg
    have LB := Lib.hid hcb
    clear hcl hcg hcb
    generalize wc = w1 at *
    have HP1 : Hid (Bud 96 w1 p me md se sd) := Lib.hid (Blk.below HP0.out LB.out HD.out.1)
    have HQ1 : Hid (Bud 98 w1 q me md se sd) := Lib.hid (Blk.below HQ0.out LB.out HD.out.2.1)
    have F1 : Hid (Below w.heap.size w w1) := Lib.hid (F0.out.trans (LB.out.mono F0.out.size))
    have HL1 := LL
    have HLD : Hid (¬ l = p ∧ ¬ l = q) := Lib.hid ⟨by have := HD.out; have := LG.out; omega, by have := HD.out; have := LG.out; omega⟩
    have ca : w1.cell? ⟨X, 0, none⟩ = some (.bool ask) := (HX.out.below LB.out HD.out.2.2).cell 0
    have l0 : w1.cell? ⟨l, 0, none⟩ = some (.float .f64 e) := HL1.out.cell 0
    have l1 : w1.cell? ⟨l, 1, none⟩ = some (.float .f64 d) := HL1.out.cell 1
    clear LL LG F0 HX HP0 HQ0 HP HQ
    cases ask
    · go_wp2_with fail
      clear ca l0 l1
      refine wp_region_held_drew (S := fun w' => Blk w' l 34 [.float .f64 e, .float .f64 d]) (by kernel_rfl) (HL1.out) (fun hHeld => ?_)
      have HP2 : Hid (Bud 96 w1.drew p me md se sd) := HP1
      have HQ2 : Hid (Bud 98 w1.drew q me md se sd) := HQ1
      have HL2 : Hid (Blk w1.drew l 34 [.float .f64 e, .float .f64 d]) := HL1
      have F2 : Hid (Fr (fun j => j = p ∨ j = q) w w1.drew) := Lib.hid (Fr.of_below F1.out _).drew
      clear F1 HP1 HQ1 HL1 LB
      generalize w1.drew = w2 at *
      refine wpAnyH_take (i := 0) (oi := ⟨some 50, _, _, _, _, _⟩) (v := (.pointer (some ⟨p, 0, none⟩))) rfl (by kernel_rfl) (by kernel_rfl) (by kernel_rfl) (fun _ _ _ h => h) (Or.inl ⟨by rfl, ?_⟩) (by assumption) ?_
      · intro w' hS; go_simp; try with_reducible rfl
      simp only [Act.put, List.setIfInBounds_toArray, List.set_cons_zero, List.set_cons_succ]
      refine wpAnyH_take (i := 1) (oi := ⟨some 51, _, _, _, _, _⟩) (v := (.agg #[.float .f64 e, .float .f64 d])) rfl (by kernel_rfl) (by kernel_rfl) (by kernel_rfl) (fun _ _ _ h => h) (Or.inl ⟨by rfl, ?_⟩) (by assumption) ?_
      · intro w' hS; have h0 : w'.cell? ⟨l, 0, none⟩ = some (.float .f64 e) := Blk.cell hS 0; have h1 : w'.cell? ⟨l, 1, none⟩ = some (.float .f64 d) := Blk.cell hS 1; go_simp; try with_reducible rfl
      simp only [Act.put, List.setIfInBounds_toArray, List.set_cons_zero, List.set_cons_succ]
      refine wpAnyH_take (i := 3) (oi := ⟨some 53, _, _, _, _, _⟩) (v := (.pointer (some ⟨q, 0, none⟩))) rfl (by kernel_rfl) (by kernel_rfl) (by kernel_rfl) (fun _ _ _ h => h) (Or.inl ⟨by rfl, ?_⟩) (by assumption) ?_
      · intro w' hS; go_simp; try with_reducible rfl
      simp only [Act.put, List.setIfInBounds_toArray, List.set_cons_zero, List.set_cons_succ]
      refine wpAnyH_take (i := 4) (oi := ⟨some 54, _, _, _, _, _⟩) (v := (.agg #[.float .f64 e, .float .f64 d])) rfl (by kernel_rfl) (by kernel_rfl) (by kernel_rfl) (fun _ _ _ h => h) (Or.inl ⟨by rfl, ?_⟩) (by assumption) ?_
      · intro w' hS; have h0 : w'.cell? ⟨l, 0, none⟩ = some (.float .f64 e) := Blk.cell hS 0; have h1 : w'.cell? ⟨l, 1, none⟩ = some (.float .f64 d) := Blk.cell hS 1; go_simp; try with_reducible rfl
      simp only [Act.put, List.setIfInBounds_toArray, List.set_cons_zero, List.set_cons_succ]
      refine wpAnyH_ready (rs := [2]) (by kernel_rfl) (by simp) ?_
      refine AllReadyH.cons (o := ⟨some 52, _, _, _, _, _⟩) rfl (fun K hK => ?_) AllReadyH.nil
      rw [if_pos (by rfl)]
      go_simp
      refine (spend_any p me md se sd e d w2 HP2.out HN.out.1 HN.out.2.1 HN.out.2.2.1 HN.out.2.2.2).mono ?_
      rintro e' w3 ⟨rfl, hb3, hf3⟩
      have HP3 := Lib.hid hb3
      have HQ3 : Hid (Bud 98 w3 q me md se sd) := Lib.hid (Blk.fr HQ2.out hf3 (by have := HPQ.out; omega))
      have HL3 := Lib.hid (HL2.out.fr hf3 HLD.out.1)
      have F3 := Lib.hid (F2.out.trans (hf3.mono (fun k hk => .inl hk)))
      clear hb3 hf3 HP2 HQ2 HL2 F2
      dsimp only
      (try simp only [Act.put, List.setIfInBounds_toArray, List.set_cons_zero, List.set_cons_succ])
      refine hK.out _ _ HL3.out (fun hHeld => ?_)
      clear hK K
      refine wpAnyH_ready (rs := [5]) (by kernel_rfl) (by simp) ?_
      refine AllReadyH.cons (o := ⟨some 55, _, _, _, _, _⟩) rfl (fun K hK => ?_) AllReadyH.nil
      rw [if_pos (by rfl)]
      go_simp
      refine (rspend_any q me md se sd e d w3 HQ3.out HN.out.1 HN.out.2.1 HN.out.2.2.1 HN.out.2.2.2).mono ?_
      rintro e' w4 ⟨rfl, hb4, hf4⟩
      have HQ4 := Lib.hid hb4
      have HP4 : Hid (Bud 96 w4 p me md (spB me md se sd e d).2.1 (spB me md se sd e d).2.2) := Lib.hid (Blk.fr HP3.out hf4 (by have := HPQ.out; omega))
      have HL4 := Lib.hid (HL3.out.fr hf4 HLD.out.2)
      have F4 := Lib.hid (F3.out.trans (hf4.mono (fun k hk => .inr hk)))
      have NN := Lib.hid (spB_nn (le := e) (ld := d) HN.out.1 HN.out.2.1 HN.out.2.2.1 HN.out.2.2.2)
      clear hb4 hf4 HP3 HQ3 HL3 F3
      dsimp only
      (try simp only [Act.put, List.setIfInBounds_toArray, List.set_cons_zero, List.set_cons_succ])
      refine hK.out _ _ HL4.out (fun hHeld => ?_)
      clear hK K
      generalize (spB me md se sd e d).1 = cc at *
      generalize (spB me md se sd e d).2.1 = se2 at *
      generalize (spB me md se sd e d).2.2 = sd2 at *
      refine wpAnyH_take (i := 6) (oi := ⟨some 56, _, _, _, _, _⟩) (v := (.bool true)) rfl (by kernel_rfl) (by kernel_rfl) (by kernel_rfl) (fun _ _ _ h => h) (Or.inl ⟨by rfl, ?_⟩) (by assumption) ?_
      · intro w' hS; go_simp; try with_reducible rfl
      simp only [Act.put, List.setIfInBounds_toArray, List.set_cons_zero, List.set_cons_succ]
      refine wpAnyH_take (i := 7) (oi := ⟨some 57, _, _, _, _, _⟩) (v := (.bool true)) rfl (by kernel_rfl) (by kernel_rfl) (by kernel_rfl) (fun _ _ _ h => h) (Or.inl ⟨by rfl, ?_⟩) (by assumption) ?_
      · intro w' hS; go_simp; try with_reducible rfl
      simp only [Act.put, List.setIfInBounds_toArray, List.set_cons_zero, List.set_cons_succ]
      refine wpAnyH_take (i := 8) (oi := ⟨some 58, _, _, _, _, _⟩) (v := (.pointer (some ⟨p, 0, none⟩))) rfl (by kernel_rfl) (by kernel_rfl) (by kernel_rfl) (fun _ _ _ h => h) (Or.inl ⟨by rfl, ?_⟩) (by assumption) ?_
      · intro w' hS; go_simp; try with_reducible rfl
      simp only [Act.put, List.setIfInBounds_toArray, List.set_cons_zero, List.set_cons_succ]
      refine wpAnyH_take (i := 10) (oi := ⟨some 60, _, _, _, _, _⟩) (v := (.pointer (some ⟨q, 0, none⟩))) rfl (by kernel_rfl) (by kernel_rfl) (by kernel_rfl) (fun _ _ _ h => h) (Or.inl ⟨by rfl, ?_⟩) (by assumption) ?_
      · intro w' hS; go_simp; try with_reducible rfl
      simp only [Act.put, List.setIfInBounds_toArray, List.set_cons_zero, List.set_cons_succ]
      refine wpAnyH_take (i := 11) (oi := ⟨some 61, _, _, _, _, _⟩) (v := (.pointer (some ⟨q, 0, none⟩))) rfl (by kernel_rfl) (by kernel_rfl) (by kernel_rfl) (fun _ _ _ h => h) (Or.inl ⟨by rfl, ?_⟩) (by assumption) ?_
      · intro w' hS; go_simp; try with_reducible rfl
      simp only [Act.put, List.setIfInBounds_toArray, List.set_cons_zero, List.set_cons_succ]
      refine wpAnyH_take (i := 12) (oi := ⟨some 62, _, _, _, _, _⟩) (v := (.pointer (some ⟨q, 2, none⟩))) rfl (by kernel_rfl) (by kernel_rfl) (by kernel_rfl) (fun _ _ _ h => h) (Or.inl ⟨by rfl, ?_⟩) (by assumption) ?_
      · intro w' hS; go_simp; try with_reducible rfl
      simp only [Act.put, List.setIfInBounds_toArray, List.set_cons_zero, List.set_cons_succ]
      refine wpAnyH_ready (rs := [9, 13]) (by kernel_rfl) (by simp) ?_
      refine AllReadyH.cons (o := ⟨some 59, _, _, _, _, _⟩) rfl (fun K hK => ?_) (AllReadyH.cons (o := ⟨some 63, _, _, _, _, _⟩) rfl (fun K hK => ?_) AllReadyH.nil)
      · rw [if_pos (by rfl)]
        go_simp
        refine (spent_of p me md se2 sd2 w4 HP4.out).mono ?_
        rintro e' w5 ⟨rfl, bb⟩
        have HP5 : Hid (Bud 96 w5 p me md se2 sd2) := Lib.hid (Blk.below HP4.out bb (Blk.lt HP4.out))
        have HQ5 : Hid (Bud 98 w5 q me md se2 sd2) := Lib.hid (Blk.below HQ4.out bb (Blk.lt HQ4.out))
        have HL5 := Lib.hid (HL4.out.below bb (Blk.lt HL4.out))
        have F5 := Lib.hid (F4.out.trans (Fr.of_below bb _))
        clear bb HP4 HQ4 HL4 F4
        dsimp only
        (try simp only [Act.put, List.setIfInBounds_toArray, List.set_cons_zero, List.set_cons_succ])
        refine hK.out _ _ HL5.out (fun hHeld => ?_)
        clear hK K
        refine wpAnyH_ready (rs := [13]) (by kernel_rfl) (by simp) ?_
        refine AllReadyH.cons (o := ⟨some 63, _, _, _, _, _⟩) rfl (fun K hK => ?_) AllReadyH.nil
        rw [if_pos (by rfl)]
        have h2 : w5.cell? ⟨q, 2, none⟩ = some (.float .f64 se2) := Blk.cell HQ5.out 2
        have h3 : w5.cell? ⟨q, 3, none⟩ = some (.float .f64 sd2) := Blk.cell HQ5.out 3
        go_simp
        clear h2 h3
        (try simp only [Act.put, List.setIfInBounds_toArray, List.set_cons_zero, List.set_cons_succ])
        refine hK.out _ _ HL5.out (fun hHeld => ?_)
        clear hK K
        refine wpAnyH_ready (rs := [14]) (by kernel_rfl) (by simp) ?_
        refine AllReadyH.cons (o := ⟨some 64, _, _, _, _, _⟩) rfl (fun K hK => ?_) AllReadyH.nil
        rw [if_pos (by rfl)]
        go_simp
        refine (sameLoss_any se2 sd2 se2 sd2 w5 rfl rfl).mono ?_
        rintro e' w6 ⟨rfl, bb⟩
        have HP6 : Hid (Bud 96 w6 p me md se2 sd2) := Lib.hid (Blk.below HP5.out bb (Blk.lt HP5.out))
        have HQ6 : Hid (Bud 98 w6 q me md se2 sd2) := Lib.hid (Blk.below HQ5.out bb (Blk.lt HQ5.out))
        have HL6 := Lib.hid (HL5.out.below bb (Blk.lt HL5.out))
        have F6 := Lib.hid (F5.out.trans (Fr.of_below bb _))
        clear bb HP5 HQ5 HL5 F5
        dsimp only
        (try simp only [Act.put, List.setIfInBounds_toArray, List.set_cons_zero, List.set_cons_succ])
        refine hK.out _ _ HL6.out (fun hHeld => ?_)
        clear hK K
        refine wpAnyH_take (i := 15) (oi := ⟨some 65, _, _, _, _, _⟩) (v := (.bool true)) rfl (by kernel_rfl) (by kernel_rfl) (by kernel_rfl) (fun _ _ _ h => h) (Or.inl ⟨by rfl, ?_⟩) (by assumption) ?_
        · intro w' hS; go_simp; try with_reducible rfl
        simp only [Act.put, List.setIfInBounds_toArray, List.set_cons_zero, List.set_cons_succ]
        refine wpAnyH_take (i := 16) (oi := ⟨some 6, _, _, _, _, _⟩) (v := (.bool true)) rfl (by kernel_rfl) (by kernel_rfl) (by kernel_rfl) (fun _ _ _ h => h) (Or.inl ⟨by rfl, ?_⟩) (by assumption) ?_
        · intro w' hS; go_simp; try with_reducible rfl
        simp only [Act.put, List.setIfInBounds_toArray, List.set_cons_zero, List.set_cons_succ]
        refine wpAnyH_done (by kernel_rfl) ?_ _
        go_wp2_with fail
        go_ret
        exact ⟨rfl, se2, sd2, NN.out.1, NN.out.2, HP6.out, HQ6.out, F6.out⟩
      · rw [if_pos (by rfl)]
        have h2 : w4.cell? ⟨q, 2, none⟩ = some (.float .f64 se2) := Blk.cell HQ4.out 2
        have h3 : w4.cell? ⟨q, 3, none⟩ = some (.float .f64 sd2) := Blk.cell HQ4.out 3
        go_simp
        clear h2 h3
        (try simp only [Act.put, List.setIfInBounds_toArray, List.set_cons_zero, List.set_cons_succ])
        refine hK.out _ _ HL4.out (fun hHeld => ?_)
        clear hK K
        refine wpAnyH_ready (rs := [9]) (by kernel_rfl) (by simp) ?_
        refine AllReadyH.cons (o := ⟨some 59, _, _, _, _, _⟩) rfl (fun K hK => ?_) AllReadyH.nil
        rw [if_pos (by rfl)]
        go_simp
        refine (spent_of p me md se2 sd2 w4 HP4.out).mono ?_
        rintro e' w5 ⟨rfl, bb⟩
        have HP5 : Hid (Bud 96 w5 p me md se2 sd2) := Lib.hid (Blk.below HP4.out bb (Blk.lt HP4.out))
        have HQ5 : Hid (Bud 98 w5 q me md se2 sd2) := Lib.hid (Blk.below HQ4.out bb (Blk.lt HQ4.out))
        have HL5 := Lib.hid (HL4.out.below bb (Blk.lt HL4.out))
        have F5 := Lib.hid (F4.out.trans (Fr.of_below bb _))
        clear bb HP4 HQ4 HL4 F4
        dsimp only
        (try simp only [Act.put, List.setIfInBounds_toArray, List.set_cons_zero, List.set_cons_succ])
        refine hK.out _ _ HL5.out (fun hHeld => ?_)
        clear hK K
        refine wpAnyH_ready (rs := [14]) (by kernel_rfl) (by simp) ?_
        refine AllReadyH.cons (o := ⟨some 64, _, _, _, _, _⟩) rfl (fun K hK => ?_) AllReadyH.nil
        rw [if_pos (by rfl)]
        go_simp
        refine (sameLoss_any se2 sd2 se2 sd2 w5 rfl rfl).mono ?_
        rintro e' w6 ⟨rfl, bb⟩
        have HP6 : Hid (Bud 96 w6 p me md se2 sd2) := Lib.hid (Blk.below HP5.out bb (Blk.lt HP5.out))
        have HQ6 : Hid (Bud 98 w6 q me md se2 sd2) := Lib.hid (Blk.below HQ5.out bb (Blk.lt HQ5.out))
        have HL6 := Lib.hid (HL5.out.below bb (Blk.lt HL5.out))
        have F6 := Lib.hid (F5.out.trans (Fr.of_below bb _))
        clear bb HP5 HQ5 HL5 F5
        dsimp only
        (try simp only [Act.put, List.setIfInBounds_toArray, List.set_cons_zero, List.set_cons_succ])
        refine hK.out _ _ HL6.out (fun hHeld => ?_)
        clear hK K
        refine wpAnyH_take (i := 15) (oi := ⟨some 65, _, _, _, _, _⟩) (v := (.bool true)) rfl (by kernel_rfl) (by kernel_rfl) (by kernel_rfl) (fun _ _ _ h => h) (Or.inl ⟨by rfl, ?_⟩) (by assumption) ?_
        · intro w' hS; go_simp; try with_reducible rfl
        simp only [Act.put, List.setIfInBounds_toArray, List.set_cons_zero, List.set_cons_succ]
        refine wpAnyH_take (i := 16) (oi := ⟨some 6, _, _, _, _, _⟩) (v := (.bool true)) rfl (by kernel_rfl) (by kernel_rfl) (by kernel_rfl) (fun _ _ _ h => h) (Or.inl ⟨by rfl, ?_⟩) (by assumption) ?_
        · intro w' hS; go_simp; try with_reducible rfl
        simp only [Act.put, List.setIfInBounds_toArray, List.set_cons_zero, List.set_cons_succ]
        refine wpAnyH_done (by kernel_rfl) ?_ _
        go_wp2_with fail
        go_ret
        exact ⟨rfl, se2, sd2, NN.out.1, NN.out.2, HP6.out, HQ6.out, F6.out⟩
    · go_wp2_with fail
      have hr1 := rounds_any p me md se sd e d w1 HP1.out HN.out.1 HN.out.2.1 HN.out.2.2.1 HN.out.2.2.2
      have HR1 := Lib.hid hr1
      clear hr1
      refine HR1.out.mono ?_
      rintro e' w2 ⟨rfl, b2⟩
      have HP2 : Hid (Bud 96 w2 p me md se sd) := Lib.hid (Blk.below HP1.out b2 (Blk.lt HP1.out))
      have HQ2 : Hid (Bud 98 w2 q me md se sd) := Lib.hid (Blk.below HQ1.out b2 (Blk.lt HQ1.out))
      have HL2 := Lib.hid (HL1.out.below b2 (Blk.lt HL1.out))
      have F2 : Hid (Below X w w2) := Lib.hid (HXE.out ▸ F1.out.trans (b2.mono F1.out.size))
      clear b2 HP1 HQ1 HL1 F1 LB HR1 l0 l1 ca
      have l0 : w2.cell? ⟨l, 0, none⟩ = some (.float .f64 e) := HL2.out.cell 0
      have l1 : w2.cell? ⟨l, 1, none⟩ = some (.float .f64 d) := HL2.out.cell 1
      go_wp2_with fail
      have HR2 := Lib.hid (rrounds_any q me md se sd e d w2 HQ2.out HN.out.1 HN.out.2.1 HN.out.2.2.1 HN.out.2.2.2)
      refine HR2.out.mono ?_
      rintro e' w3 ⟨rfl, b3⟩
      have HP3 : Hid (Bud 96 w3 p me md se sd) := Lib.hid (Blk.below HP2.out b3 (Blk.lt HP2.out))
      have HQ3 : Hid (Bud 98 w3 q me md se sd) := Lib.hid (Blk.below HQ2.out b3 (Blk.lt HQ2.out))
      have F3 : Hid (Fr (fun j => j = p ∨ j = q) w w3) := Lib.hid ((Fr.of_below (HXE.out.symm ▸ F2.out) _).trans (Fr.of_below b3 _))
      clear b3 HP2 HQ2 HL2 F2 HR2 l0 l1
      generalize (rdB me md se sd e d).1 = n1 at *
      generalize (rdB me md se sd e d).2 = n2 at *
      go_wp2_with fail
      refine wp_region_held_drew (S := fun w' => Bud 98 w' q me md se sd) (by kernel_rfl) (HQ3.out) (fun hHeld => ?_)
      have HP4 : Hid (Bud 96 w3.drew p me md se sd) := HP3
      have HQ4 : Hid (Bud 98 w3.drew q me md se sd) := HQ3
      have F4 : Hid (Fr (fun j => j = p ∨ j = q) w w3.drew) := Lib.hid F3.out.drew
      clear F3 HP3 HQ3
      generalize w3.drew = w4 at *
      refine wpAnyH_take (i := 0) (oi := ⟨some 33, _, _, _, _, _⟩) (v := (.int .i64 n1)) rfl (by kernel_rfl) (by kernel_rfl) (by kernel_rfl) (fun _ _ _ h => h) (Or.inl ⟨by rfl, ?_⟩) (by assumption) ?_
      · intro w' hS; go_simp; try with_reducible rfl
      simp only [Act.put, List.setIfInBounds_toArray, List.set_cons_zero, List.set_cons_succ]
      refine wpAnyH_take (i := 1) (oi := ⟨some 34, _, _, _, _, _⟩) (v := (.int .i64 n1)) rfl (by kernel_rfl) (by kernel_rfl) (by kernel_rfl) (fun _ _ _ h => h) (Or.inl ⟨by rfl, ?_⟩) (by assumption) ?_
      · intro w' hS; go_simp; try with_reducible rfl
      simp only [Act.put, List.setIfInBounds_toArray, List.set_cons_zero, List.set_cons_succ]
      refine wpAnyH_take (i := 2) (oi := ⟨some 35, _, _, _, _, _⟩) (v := (.bool true)) rfl (by kernel_rfl) (by kernel_rfl) (by kernel_rfl) (fun _ _ _ h => h) (Or.inl ⟨by rfl, ?_⟩) (by assumption) ?_
      · intro w' hS; go_simp; try with_reducible rfl
      simp only [Act.put, List.setIfInBounds_toArray, List.set_cons_zero, List.set_cons_succ]
      refine wpAnyH_take (i := 3) (oi := ⟨some 36, _, _, _, _, _⟩) (v := (.bool true)) rfl (by kernel_rfl) (by kernel_rfl) (by kernel_rfl) (fun _ _ _ h => h) (Or.inl ⟨by rfl, ?_⟩) (by assumption) ?_
      · intro w' hS; go_simp; try with_reducible rfl
      simp only [Act.put, List.setIfInBounds_toArray, List.set_cons_zero, List.set_cons_succ]
      refine wpAnyH_take (i := 4) (oi := ⟨some 37, _, _, _, _, _⟩) (v := (.int .i64 n2)) rfl (by kernel_rfl) (by kernel_rfl) (by kernel_rfl) (fun _ _ _ h => h) (Or.inl ⟨by rfl, ?_⟩) (by assumption) ?_
      · intro w' hS; go_simp; try with_reducible rfl
      simp only [Act.put, List.setIfInBounds_toArray, List.set_cons_zero, List.set_cons_succ]
      refine wpAnyH_take (i := 5) (oi := ⟨some 38, _, _, _, _, _⟩) (v := (.int .i64 n2)) rfl (by kernel_rfl) (by kernel_rfl) (by kernel_rfl) (fun _ _ _ h => h) (Or.inl ⟨by rfl, ?_⟩) (by assumption) ?_
      · intro w' hS; go_simp; try with_reducible rfl
      simp only [Act.put, List.setIfInBounds_toArray, List.set_cons_zero, List.set_cons_succ]
      refine wpAnyH_take (i := 6) (oi := ⟨some 39, _, _, _, _, _⟩) (v := (.bool true)) rfl (by kernel_rfl) (by kernel_rfl) (by kernel_rfl) (fun _ _ _ h => h) (Or.inl ⟨by rfl, ?_⟩) (by assumption) ?_
      · intro w' hS; go_simp; try with_reducible rfl
      simp only [Act.put, List.setIfInBounds_toArray, List.set_cons_zero, List.set_cons_succ]
      refine wpAnyH_take (i := 7) (oi := ⟨some 40, _, _, _, _, _⟩) (v := (.bool true)) rfl (by kernel_rfl) (by kernel_rfl) (by kernel_rfl) (fun _ _ _ h => h) (Or.inl ⟨by rfl, ?_⟩) (by assumption) ?_
      · intro w' hS; go_simp; try with_reducible rfl
      simp only [Act.put, List.setIfInBounds_toArray, List.set_cons_zero, List.set_cons_succ]
      refine wpAnyH_take (i := 8) (oi := ⟨some 41, _, _, _, _, _⟩) (v := (.bool true)) rfl (by kernel_rfl) (by kernel_rfl) (by kernel_rfl) (fun _ _ _ h => h) (Or.inl ⟨by rfl, ?_⟩) (by assumption) ?_
      · intro w' hS; go_simp; try with_reducible rfl
      simp only [Act.put, List.setIfInBounds_toArray, List.set_cons_zero, List.set_cons_succ]
      refine wpAnyH_take (i := 9) (oi := ⟨some 42, _, _, _, _, _⟩) (v := (.pointer (some ⟨p, 0, none⟩))) rfl (by kernel_rfl) (by kernel_rfl) (by kernel_rfl) (fun _ _ _ h => h) (Or.inl ⟨by rfl, ?_⟩) (by assumption) ?_
      · intro w' hS; go_simp; try with_reducible rfl
      simp only [Act.put, List.setIfInBounds_toArray, List.set_cons_zero, List.set_cons_succ]
      refine wpAnyH_take (i := 11) (oi := ⟨some 44, _, _, _, _, _⟩) (v := (.pointer (some ⟨q, 0, none⟩))) rfl (by kernel_rfl) (by kernel_rfl) (by kernel_rfl) (fun _ _ _ h => h) (Or.inl ⟨by rfl, ?_⟩) (by assumption) ?_
      · intro w' hS; go_simp; try with_reducible rfl
      simp only [Act.put, List.setIfInBounds_toArray, List.set_cons_zero, List.set_cons_succ]
      refine wpAnyH_take (i := 12) (oi := ⟨some 45, _, _, _, _, _⟩) (v := (.pointer (some ⟨q, 0, none⟩))) rfl (by kernel_rfl) (by kernel_rfl) (by kernel_rfl) (fun _ _ _ h => h) (Or.inl ⟨by rfl, ?_⟩) (by assumption) ?_
      · intro w' hS; go_simp; try with_reducible rfl
      simp only [Act.put, List.setIfInBounds_toArray, List.set_cons_zero, List.set_cons_succ]
      refine wpAnyH_take (i := 13) (oi := ⟨some 46, _, _, _, _, _⟩) (v := (.pointer (some ⟨q, 2, none⟩))) rfl (by kernel_rfl) (by kernel_rfl) (by kernel_rfl) (fun _ _ _ h => h) (Or.inl ⟨by rfl, ?_⟩) (by assumption) ?_
      · intro w' hS; go_simp; try with_reducible rfl
      simp only [Act.put, List.setIfInBounds_toArray, List.set_cons_zero, List.set_cons_succ]
      refine wpAnyH_take (i := 14) (oi := ⟨some 47, _, _, _, _, _⟩) (v := (.agg #[.float .f64 se, .float .f64 sd])) rfl (by kernel_rfl) (by kernel_rfl) (by kernel_rfl) (fun _ _ _ h => h) (Or.inl ⟨by rfl, ?_⟩) (by assumption) ?_
      · intro w' hS; have h0 : w'.cell? ⟨q, 2, none⟩ = some (.float .f64 se) := Blk.cell hS 2; have h1 : w'.cell? ⟨q, 3, none⟩ = some (.float .f64 sd) := Blk.cell hS 3; go_simp; try with_reducible rfl
      simp only [Act.put, List.setIfInBounds_toArray, List.set_cons_zero, List.set_cons_succ]
      refine wpAnyH_ready (rs := [10]) (by kernel_rfl) (by simp) ?_
      refine AllReadyH.cons (o := ⟨some 43, _, _, _, _, _⟩) rfl (fun K hK => ?_) AllReadyH.nil
      rw [if_pos (by rfl)]
      go_simp
      refine (spent_of p me md se sd w4 HP4.out).mono ?_
      rintro e' w5 ⟨rfl, bb⟩
      have HP5 : Hid (Bud 96 w5 p me md se sd) := Lib.hid (Blk.below HP4.out bb (Blk.lt HP4.out))
      have HQ5 : Hid (Bud 98 w5 q me md se sd) := Lib.hid (Blk.below HQ4.out bb (Blk.lt HQ4.out))
      have F5 := Lib.hid (F4.out.trans (Fr.of_below bb _))
      clear bb HP4 HQ4 F4
      dsimp only
      (try simp only [Act.put, List.setIfInBounds_toArray, List.set_cons_zero, List.set_cons_succ])
      refine hK.out _ _ HQ5.out (fun hHeld => ?_)
      clear hK K
      refine wpAnyH_ready (rs := [15]) (by kernel_rfl) (by simp) ?_
      refine AllReadyH.cons (o := ⟨some 48, _, _, _, _, _⟩) rfl (fun K hK => ?_) AllReadyH.nil
      rw [if_pos (by rfl)]
      go_simp
      refine (sameLoss_any se sd se sd w5 rfl rfl).mono ?_
      rintro e' w6 ⟨rfl, bb⟩
      have HP6 : Hid (Bud 96 w6 p me md se sd) := Lib.hid (Blk.below HP5.out bb (Blk.lt HP5.out))
      have HQ6 : Hid (Bud 98 w6 q me md se sd) := Lib.hid (Blk.below HQ5.out bb (Blk.lt HQ5.out))
      have F6 := Lib.hid (F5.out.trans (Fr.of_below bb _))
      clear bb HP5 HQ5 F5
      dsimp only
      (try simp only [Act.put, List.setIfInBounds_toArray, List.set_cons_zero, List.set_cons_succ])
      refine hK.out _ _ HQ6.out (fun hHeld => ?_)
      clear hK K
      refine wpAnyH_take (i := 16) (oi := ⟨some 49, _, _, _, _, _⟩) (v := (.bool true)) rfl (by kernel_rfl) (by kernel_rfl) (by kernel_rfl) (fun _ _ _ h => h) (Or.inl ⟨by rfl, ?_⟩) (by assumption) ?_
      · intro w' hS; go_simp; try with_reducible rfl
      simp only [Act.put, List.setIfInBounds_toArray, List.set_cons_zero, List.set_cons_succ]
      refine wpAnyH_take (i := 17) (oi := ⟨some 6, _, _, _, _, _⟩) (v := (.bool true)) rfl (by kernel_rfl) (by kernel_rfl) (by kernel_rfl) (fun _ _ _ h => h) (Or.inl ⟨by rfl, ?_⟩) (by assumption) ?_
      · intro w' hS; go_simp; try with_reducible rfl
      simp only [Act.put, List.setIfInBounds_toArray, List.set_cons_zero, List.set_cons_succ]
      refine wpAnyH_done (by kernel_rfl) ?_ _
      go_wp2_with fail
      go_ret
      exact ⟨rfl, se, sd, HN.out.2.2.1, HN.out.2.2.2, HP6.out, HQ6.out, F6.out⟩
end Go.Proofs.Ytcfbaildcocnhaa

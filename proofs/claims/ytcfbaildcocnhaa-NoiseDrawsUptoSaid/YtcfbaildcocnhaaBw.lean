/-
  Walk: the law NoiseBudgets.
-/
import Derived.Test.YtcfbaildcocnhaaBv
set_option linter.unusedVariables false
set_option linter.unusedSimpArgs false
namespace Go.Proofs.Ytcfbaildcocnhaa
open Go.RowKit

/-- A spending as its cells tell it. -/
structure Spn where
  ask : Bool
  xb : Nat
  xo : Int
  yb : Nat
  yo : Int
/-- A row of spendings. -/
def RdP (w : World) (A : Option Addr) (ss : Nat → Spn) (m : Nat) : Prop := ∀ i, i < m → ∃ b off, A = some ⟨b, off, none⟩ ∧ b < w.heap.size ∧
  w.cell? ⟨b, off + i * 5, none⟩ = some (.bool (ss i).ask) ∧ w.cell? ⟨b, off + i * 5 + 1, none⟩ = some (.float .f64 (ss i).xb) ∧ w.cell? ⟨b, off + i * 5 + 2, none⟩ = some (.int .i64 (ss i).xo) ∧
  w.cell? ⟨b, off + i * 5 + 3, none⟩ = some (.float .f64 (ss i).yb) ∧ w.cell? ⟨b, off + i * 5 + 4, none⟩ = some (.int .i64 (ss i).yo)
def SpnOk (ss : Nat → Spn) (m : Nat) : Prop := ∀ i, i < m → (Lit.float .f64 (ss i).xb).wf = true ∧ (Lit.float .f64 (ss i).yb).wf = true
theorem RdP.below {w w' : World} {A : Option Addr} {ss : Nat → Spn} {m : Nat} (h : RdP w A ss m) (hb : Below w.heap.size w w') : RdP w' A ss m := fun i hi => by
  obtain ⟨b, off, hA, hlt, h0, h1, h2, h3, h4⟩ := h i hi
  exact ⟨b, off, hA, Nat.lt_of_lt_of_le hlt hb.size, (hb.cell (p := ⟨b, _, none⟩) hlt).trans h0, (hb.cell (p := ⟨b, _, none⟩) hlt).trans h1, (hb.cell (p := ⟨b, _, none⟩) hlt).trans h2, (hb.cell (p := ⟨b, _, none⟩) hlt).trans h3, (hb.cell (p := ⟨b, _, none⟩) hlt).trans h4⟩
/-- Two budgets of which as much is spent. -/
def PS (w : World) (p q me md : Nat) : Prop := ∃ se sd, nn se ∧ nn sd ∧ Bud 96 w p me md se sd ∧ Bud 98 w q me md se sd
theorem PS.fr {S : Nat → Prop} {w w' : World} {p q me md : Nat} (h : PS w p q me md) (hf : Fr S w w') (h1 : ¬ S p) (h2 : ¬ S q) : PS w' p q me md := by
  obtain ⟨se, sd, n1, n2, b1, b2⟩ := h
  exact ⟨se, sd, n1, n2, Blk.fr b1 hf h1, Blk.fr b2 hf h2⟩
theorem spent_ps (p q me md : Nat) (x : Spn) (w : World) (h : PS w p q me md) (h1 : nn me) (h2 : nn md) (hx : (Lit.float .f64 x.xb).wf = true) (hy : (Lit.float .f64 x.yb).wf = true) :
    Calls Try.prog 19 #[.pointer (some ⟨p, 0, none⟩), .pointer (some ⟨q, 0, none⟩), .agg #[.bool x.ask, .float .f64 x.xb, .int .i64 x.xo, .float .f64 x.yb, .int .i64 x.yo]] w fun e w' => e = .returned (.bool true) ∧ PS w' p q me md ∧ Fr (fun j => j = p ∨ j = q) w w' := by
  obtain ⟨se, sd, n1, n2, b1, b2⟩ := h
  refine (spent_law p q me md se sd x.ask x.xb x.xo x.yb x.yo w b1 b2 h1 h2 n1 n2 hx hy).mono ?_
  rintro e w' ⟨rfl, se', sd', m1, m2, c1, c2, hf⟩
  exact ⟨rfl, ⟨se', sd', m1, m2, c1, c2⟩, hf⟩
theorem newb_good (E D : Nat) (w : World) (hg : (fin (fv E) && fin (fv D)) = true) : Calls Try.prog 17 #[.agg #[.float .f64 E, .float .f64 D]] w fun e w' => ∃ p, e = .returned (.tuple #[.pointer (some ⟨p, 0, none⟩), .int .i64 0]) ∧ Hid (w.heap.size ≤ p) ∧ Hid (Bud 96 w' p E D 0 0) ∧ Below w.heap.size w w' := by
  refine (newb_any E D w).mono ?_
  rintro e w' ⟨hb, ⟨-, p, rfl, h1, h2⟩ | ⟨h, -⟩⟩
  · exact ⟨p, rfl, Lib.hid h1, Lib.hid h2, hb⟩
  · rw [hg] at h; cases h
theorem newb_bad (E D : Nat) (w : World) (hg : (fin (fv E) && fin (fv D)) = false) : Calls Try.prog 17 #[.agg #[.float .f64 E, .float .f64 D]] w fun e w' => e = .returned (.tuple #[.pointer none, .int .i64 260]) ∧ Below w.heap.size w w' := by
  refine (newb_any E D w).mono ?_
  rintro e w' ⟨hb, ⟨h, -⟩ | ⟨-, rfl⟩⟩
  · rw [hg] at h; cases h
  · exact ⟨rfl, hb⟩
theorem rnewb_good (E D : Nat) (w : World) (hg : (fin (fv E) && fin (fv D)) = true) : Calls Try.prog 18 #[.agg #[.float .f64 E, .float .f64 D]] w fun e w' => ∃ p, e = .returned (.tuple #[.pointer (some ⟨p, 0, none⟩), .int .i64 0]) ∧ Hid (w.heap.size ≤ p) ∧ Hid (Bud 98 w' p E D 0 0) ∧ Below w.heap.size w w' := by
  refine (rnewb_any E D w).mono ?_
  rintro e w' ⟨hb, ⟨-, p, rfl, h1, h2⟩ | ⟨h, -⟩⟩
  · exact ⟨p, rfl, Lib.hid h1, Lib.hid h2, hb⟩
  · rw [hg] at h; cases h
theorem rnewb_bad (E D : Nat) (w : World) (hg : (fin (fv E) && fin (fv D)) = false) : Calls Try.prog 18 #[.agg #[.float .f64 E, .float .f64 D]] w fun e w' => e = .returned (.tuple #[.pointer none, .int .i64 260]) ∧ Below w.heap.size w w' := by
  refine (rnewb_any E D w).mono ?_
  rintro e w' ⟨hb, ⟨h, -⟩ | ⟨-, rfl⟩⟩
  · rw [hg] at h; cases h
  · exact ⟨rfl, hb⟩
theorem nn_0 : nn 0 := ⟨false, 0, -1074, by decide, by simp⟩

set_option maxRecDepth 100000 in
set_option maxHeartbeats 16000000 in
theorem budgets_law (x0 : Nat) (o0 : Int) (x1 : Nat) (o1 : Int) (x2 : Nat) (o2 : Int) (x3 : Nat) (o3 : Int) (S1 : Option Addr) (k1 c1 : Nat) (f1 : Nat → Spn) (S2 : Option Addr) (k2 c2 : Nat) (f2 : Nat → Spn) (w : World)
    (hx0 : (Lit.float .f64 x0).wf = true) (hx1 : (Lit.float .f64 x1).wf = true) (hx2 : (Lit.float .f64 x2).wf = true) (hx3 : (Lit.float .f64 x3).wf = true) (hs1 : RdP w S1 f1 k1) (hs2 : RdP w S2 f2 k2) (ho1 : SpnOk f1 k1) (ho2 : SpnOk f2 k2)
    (hk1 : k1 ≤ 140737488354000) (hk2 : k2 ≤ 140737488354000) :
    Calls Try.prog 4 #[.agg #[.float .f64 x0, .int .i64 o0, .float .f64 x1, .int .i64 o1, .float .f64 x2, .int .i64 o2, .float .f64 x3, .int .i64 o3], .slice S1 k1 c1, .slice S2 k2 c2] w fun e w' => e = .returned (.bool true) ∧ Below w.heap.size w w' := by
  have HW0 := Lib.hid hx0
  have HW1 := Lib.hid hx1
  have HW2 := Lib.hid hx2
  have HW3 := Lib.hid hx3
  have HS1 := Lib.hid hs1
  have HS2 := Lib.hid hs2
  have HO1 := Lib.hid ho1
  have HO2 := Lib.hid ho2
  clear hx0 hx1 hx2 hx3 hs1 hs2 ho1 ho2
  have F0 := Lib.hid ((Below.refl w.heap.size w).alloc (Nat.le_refl _) (.cells #[.float .f64 x0, .int .i64 o0, .float .f64 x1, .int .i64 o1, .float .f64 x2, .int .i64 o2, .float .f64 x3, .int .i64 o3] 31))
  have HX : Hid (Blk (w.alloc (.cells #[.float .f64 x0, .int .i64 o0, .float .f64 x1, .int .i64 o1, .float .f64 x2, .int .i64 o2, .float .f64 x3, .int .i64 o3] 31)) w.heap.size 31 [.float .f64 x0, .int .i64 o0, .float .f64 x1, .int .i64 o1, .float .f64 x2, .int .i64 o2, .float .f64 x3, .int .i64 o3]) := Lib.hid (Blk.new w 31 _)
  go_enter Try.func4, Try.ntmps4
  go_upto_region 1 with fail
  generalize hX : w.heap.size = X at HX ⊢
  have HXE := Lib.hid hX
  clear hX
  generalize (w.alloc (.cells #[.float .f64 x0, .int .i64 o0, .float .f64 x1, .int .i64 o1, .float .f64 x2, .int .i64 o2, .float .f64 x3, .int .i64 o3] 31)) = w0 at *
  go_cut [7] from 18 (fun v7 wx => ∃ l e d, v7 = .pointer (some ⟨l, 0, none⟩) ∧ Blk wx l 34 [.float .f64 e, .float .f64 d] ∧ w0.heap.size ≤ l ∧ Below w0.heap.size w0 wx)
  case first =>
    refine wp_region_held_drew (S := fun w' => Below w0.heap.size w0 w') (by kernel_rfl) ((Below.refl w0.heap.size w0).drew) (fun hHeld => ?_)
    have V0 : Hid (Below w0.heap.size w0 w0.drew) := Lib.hid (Below.refl w0.heap.size w0).drew
    generalize w0.drew = v0 at V0 hHeld ⊢
    refine wpAnyH_take (i := 0) (oi := ⟨some 18, _, _, _, _, _⟩) (v := (.pointer (some ⟨X, 0, none⟩))) rfl (by kernel_rfl) (by kernel_rfl) (by kernel_rfl) (fun _ _ _ h => h) (Or.inl ⟨by rfl, ?_⟩) (by assumption) ?_
    · intro w' hS; go_simp; try with_reducible rfl
    simp only [Act.put, List.setIfInBounds_toArray, List.set_cons_zero, List.set_cons_succ]
    refine wpAnyH_take (i := 1) (oi := ⟨some 19, _, _, _, _, _⟩) (v := (.agg #[.float .f64 x0, .int .i64 o0])) rfl (by kernel_rfl) (by kernel_rfl) (by kernel_rfl) (fun _ _ _ h => h) (Or.inl ⟨by rfl, ?_⟩) (by assumption) ?_
    · intro w' hS; have hq := HX.out.below hS (Blk.lt HX.out); have h0 : w'.cell? ⟨X, 0, none⟩ = some (.float .f64 x0) := hq.cell 0; have h1 : w'.cell? ⟨X, 1, none⟩ = some (.int .i64 o0) := hq.cell 1; clear hq; go_simp; try with_reducible rfl
    simp only [Act.put, List.setIfInBounds_toArray, List.set_cons_zero, List.set_cons_succ]
    refine wpAnyH_take (i := 3) (oi := ⟨some 21, _, _, _, _, _⟩) (v := (.pointer (some ⟨X, 2, none⟩))) rfl (by kernel_rfl) (by kernel_rfl) (by kernel_rfl) (fun _ _ _ h => h) (Or.inl ⟨by rfl, ?_⟩) (by assumption) ?_
    · intro w' hS; go_simp; try with_reducible rfl
    simp only [Act.put, List.setIfInBounds_toArray, List.set_cons_zero, List.set_cons_succ]
    refine wpAnyH_take (i := 4) (oi := ⟨some 22, _, _, _, _, _⟩) (v := (.agg #[.float .f64 x1, .int .i64 o1])) rfl (by kernel_rfl) (by kernel_rfl) (by kernel_rfl) (fun _ _ _ h => h) (Or.inl ⟨by rfl, ?_⟩) (by assumption) ?_
    · intro w' hS; have hq := HX.out.below hS (Blk.lt HX.out); have h0 : w'.cell? ⟨X, 2, none⟩ = some (.float .f64 x1) := hq.cell 2; have h1 : w'.cell? ⟨X, 3, none⟩ = some (.int .i64 o1) := hq.cell 3; clear hq; go_simp; try with_reducible rfl
    simp only [Act.put, List.setIfInBounds_toArray, List.set_cons_zero, List.set_cons_succ]
    refine wpAnyH_ready (rs := [2, 7]) (by kernel_rfl) (by simp) ?_
    refine AllReadyH.cons (o := ⟨some 20, _, _, _, _, _⟩) rfl (fun K hK => ?_) (AllReadyH.cons (o := ⟨some 7, _, _, _, _, _⟩) rfl (fun K hK => ?_) AllReadyH.nil)
    · rw [if_pos (by rfl)]
      go_simp
      refine (value_any x0 o0 v0 HW0.out).mono ?_
      rintro e' v1 ⟨r1, rfl, -, -, bb⟩
      have V1 := Lib.hid (V0.out.trans (bb.mono V0.out.size))
      clear bb V0
      dsimp only
      (try simp only [Act.put, List.setIfInBounds_toArray, List.set_cons_zero, List.set_cons_succ])
      refine hK.out _ _ V1.out (fun hHeld => ?_)
      clear hK K
      refine wpAnyH_ready (rs := [5, 7]) (by kernel_rfl) (by simp) ?_
      refine AllReadyH.cons (o := ⟨some 23, _, _, _, _, _⟩) rfl (fun K hK => ?_) (AllReadyH.cons (o := ⟨some 7, _, _, _, _, _⟩) rfl (fun K hK => ?_) AllReadyH.nil)
      · rw [if_pos (by rfl)]
        go_simp
        refine (value_any x1 o1 v1 HW1.out).mono ?_
        rintro e' v2 ⟨r2, rfl, -, -, bb⟩
        have V2 := Lib.hid (V1.out.trans (bb.mono V1.out.size))
        clear bb V1
        dsimp only
        (try simp only [Act.put, List.setIfInBounds_toArray, List.set_cons_zero, List.set_cons_succ])
        refine hK.out _ _ V2.out (fun hHeld => ?_)
        clear hK K
        refine wpAnyH_take (i := 6) (oi := ⟨some 24, _, _, _, _, _⟩) (v := (.agg #[.float .f64 r1, .float .f64 r2])) rfl (by kernel_rfl) (by kernel_rfl) (by kernel_rfl) (fun _ _ _ h => h) (Or.inl ⟨by rfl, ?_⟩) (by assumption) ?_
        · intro w' hS; go_simp; try with_reducible rfl
        simp only [Act.put, List.setIfInBounds_toArray, List.set_cons_zero, List.set_cons_succ]
        refine wpAnyH_ready (rs := [7]) (by kernel_rfl) (by simp) ?_
        refine AllReadyH.cons (o := ⟨some 7, _, _, _, _, _⟩) rfl (fun K hK => ?_) AllReadyH.nil
        rw [if_pos (by rfl)]
        go_simp
        have V3 := Lib.hid (V2.out.alloc V2.out.size (.cells #[.float .f64 0, .float .f64 0] 34))
        have L3 : Hid (Blk (v2.alloc (.cells #[.float .f64 0, .float .f64 0] 34)) v2.heap.size 34 [.float .f64 0, .float .f64 0]) := Lib.hid (Blk.new v2 34 _)
        have G : Hid (w0.heap.size ≤ v2.heap.size) := Lib.hid V2.out.size
        generalize v2.heap.size = l at L3 G ⊢
        generalize (v2.alloc (.cells #[.float .f64 0, .float .f64 0] 34)) = v3 at *
        clear V2
        (try simp only [Act.put, List.setIfInBounds_toArray, List.set_cons_zero, List.set_cons_succ])
        refine hK.out _ _ V3.out (fun hHeld => ?_)
        clear hK K
        refine wpAnyH_ready (rs := [8]) (by kernel_rfl) (by simp) ?_
        refine AllReadyH.cons (o := ⟨none, _, _, _, _, _⟩) rfl (fun K hK => ?_) AllReadyH.nil
        rw [if_pos (by rfl)]
        (try simp only [Act.put, List.setIfInBounds_toArray, List.set_cons_zero, List.set_cons_succ])
        refine wp_store_row 34 _ _ rfl l #[.float .f64 r1, .float .f64 r2] rfl rfl 34 #[.float .f64 0, .float .f64 0] L3.out (by kernel_rfl) rfl (by kernel_rfl) ?_
        have V4 := Lib.hid (below_setRow V3.out G.out #[.float .f64 r1, .float .f64 r2])
        have L4 : Hid (Blk (v3.setRow l #[.float .f64 r1, .float .f64 r2]) l 34 [.float .f64 r1, .float .f64 r2]) := Lib.hid (setRow_heap _ _ _ _ _ _ L3.out)
        generalize v3.setRow l #[.float .f64 r1, .float .f64 r2] = v4 at *
        clear V3 L3
        (try simp only [Act.put, List.setIfInBounds_toArray, List.set_cons_zero, List.set_cons_succ])
        refine hK.out _ _ V4.out (fun hHeld => ?_)
        clear hK K
        refine wpAnyH_done (by kernel_rfl) ?_ _
        go_wp2_with fail
        go_meet
        exact ⟨l, r1, r2, rfl, L4.out, G.out, V4.out⟩
      · rw [if_pos (by rfl)]
        go_simp
        have V2 := Lib.hid (V1.out.alloc V1.out.size (.cells #[.float .f64 0, .float .f64 0] 34))
        have L2 : Hid (Blk (v1.alloc (.cells #[.float .f64 0, .float .f64 0] 34)) v1.heap.size 34 [.float .f64 0, .float .f64 0]) := Lib.hid (Blk.new v1 34 _)
        have G : Hid (w0.heap.size ≤ v1.heap.size) := Lib.hid V1.out.size
        generalize v1.heap.size = l at L2 G ⊢
        generalize (v1.alloc (.cells #[.float .f64 0, .float .f64 0] 34)) = v2 at *
        clear V1
        (try simp only [Act.put, List.setIfInBounds_toArray, List.set_cons_zero, List.set_cons_succ])
        refine hK.out _ _ V2.out (fun hHeld => ?_)
        clear hK K
        refine wpAnyH_ready (rs := [5]) (by kernel_rfl) (by simp) ?_
        refine AllReadyH.cons (o := ⟨some 23, _, _, _, _, _⟩) rfl (fun K hK => ?_) AllReadyH.nil
        rw [if_pos (by rfl)]
        go_simp
        refine (value_any x1 o1 v2 HW1.out).mono ?_
        rintro e' v3 ⟨r2, rfl, -, -, bb⟩
        have V3 := Lib.hid (V2.out.trans (bb.mono V2.out.size))
        have L3 := Lib.hid (L2.out.below bb (Blk.lt L2.out))
        clear L2
        clear bb V2
        dsimp only
        (try simp only [Act.put, List.setIfInBounds_toArray, List.set_cons_zero, List.set_cons_succ])
        refine hK.out _ _ V3.out (fun hHeld => ?_)
        clear hK K
        refine wpAnyH_take (i := 6) (oi := ⟨some 24, _, _, _, _, _⟩) (v := (.agg #[.float .f64 r1, .float .f64 r2])) rfl (by kernel_rfl) (by kernel_rfl) (by kernel_rfl) (fun _ _ _ h => h) (Or.inl ⟨by rfl, ?_⟩) (by assumption) ?_
        · intro w' hS; go_simp; try with_reducible rfl
        simp only [Act.put, List.setIfInBounds_toArray, List.set_cons_zero, List.set_cons_succ]
        refine wpAnyH_ready (rs := [8]) (by kernel_rfl) (by simp) ?_
        refine AllReadyH.cons (o := ⟨none, _, _, _, _, _⟩) rfl (fun K hK => ?_) AllReadyH.nil
        rw [if_pos (by rfl)]
        (try simp only [Act.put, List.setIfInBounds_toArray, List.set_cons_zero, List.set_cons_succ])
        refine wp_store_row 34 _ _ rfl l #[.float .f64 r1, .float .f64 r2] rfl rfl 34 #[.float .f64 0, .float .f64 0] L3.out (by kernel_rfl) rfl (by kernel_rfl) ?_
        have V4 := Lib.hid (below_setRow V3.out G.out #[.float .f64 r1, .float .f64 r2])
        have L4 : Hid (Blk (v3.setRow l #[.float .f64 r1, .float .f64 r2]) l 34 [.float .f64 r1, .float .f64 r2]) := Lib.hid (setRow_heap _ _ _ _ _ _ L3.out)
        generalize v3.setRow l #[.float .f64 r1, .float .f64 r2] = v4 at *
        clear V3 L3
        (try simp only [Act.put, List.setIfInBounds_toArray, List.set_cons_zero, List.set_cons_succ])
        refine hK.out _ _ V4.out (fun hHeld => ?_)
        clear hK K
        refine wpAnyH_done (by kernel_rfl) ?_ _
        go_wp2_with fail
        go_meet
        exact ⟨l, r1, r2, rfl, L4.out, G.out, V4.out⟩
    · rw [if_pos (by rfl)]
      go_simp
      have V1 := Lib.hid (V0.out.alloc V0.out.size (.cells #[.float .f64 0, .float .f64 0] 34))
      have L1 : Hid (Blk (v0.alloc (.cells #[.float .f64 0, .float .f64 0] 34)) v0.heap.size 34 [.float .f64 0, .float .f64 0]) := Lib.hid (Blk.new v0 34 _)
      have G : Hid (w0.heap.size ≤ v0.heap.size) := Lib.hid V0.out.size
      generalize v0.heap.size = l at L1 G ⊢
      generalize (v0.alloc (.cells #[.float .f64 0, .float .f64 0] 34)) = v1 at *
      clear V0
      (try simp only [Act.put, List.setIfInBounds_toArray, List.set_cons_zero, List.set_cons_succ])
      refine hK.out _ _ V1.out (fun hHeld => ?_)
      clear hK K
      refine wpAnyH_ready (rs := [2]) (by kernel_rfl) (by simp) ?_
      refine AllReadyH.cons (o := ⟨some 20, _, _, _, _, _⟩) rfl (fun K hK => ?_) AllReadyH.nil
      rw [if_pos (by rfl)]
      go_simp
      refine (value_any x0 o0 v1 HW0.out).mono ?_
      rintro e' v2 ⟨r1, rfl, -, -, bb⟩
      have V2 := Lib.hid (V1.out.trans (bb.mono V1.out.size))
      have L2 := Lib.hid (L1.out.below bb (Blk.lt L1.out))
      clear L1
      clear bb V1
      dsimp only
      (try simp only [Act.put, List.setIfInBounds_toArray, List.set_cons_zero, List.set_cons_succ])
      refine hK.out _ _ V2.out (fun hHeld => ?_)
      clear hK K
      refine wpAnyH_ready (rs := [5]) (by kernel_rfl) (by simp) ?_
      refine AllReadyH.cons (o := ⟨some 23, _, _, _, _, _⟩) rfl (fun K hK => ?_) AllReadyH.nil
      rw [if_pos (by rfl)]
      go_simp
      refine (value_any x1 o1 v2 HW1.out).mono ?_
      rintro e' v3 ⟨r2, rfl, -, -, bb⟩
      have V3 := Lib.hid (V2.out.trans (bb.mono V2.out.size))
      have L3 := Lib.hid (L2.out.below bb (Blk.lt L2.out))
      clear L2
      clear bb V2
      dsimp only
      (try simp only [Act.put, List.setIfInBounds_toArray, List.set_cons_zero, List.set_cons_succ])
      refine hK.out _ _ V3.out (fun hHeld => ?_)
      clear hK K
      refine wpAnyH_take (i := 6) (oi := ⟨some 24, _, _, _, _, _⟩) (v := (.agg #[.float .f64 r1, .float .f64 r2])) rfl (by kernel_rfl) (by kernel_rfl) (by kernel_rfl) (fun _ _ _ h => h) (Or.inl ⟨by rfl, ?_⟩) (by assumption) ?_
      · intro w' hS; go_simp; try with_reducible rfl
      simp only [Act.put, List.setIfInBounds_toArray, List.set_cons_zero, List.set_cons_succ]
      refine wpAnyH_ready (rs := [8]) (by kernel_rfl) (by simp) ?_
      refine AllReadyH.cons (o := ⟨none, _, _, _, _, _⟩) rfl (fun K hK => ?_) AllReadyH.nil
      rw [if_pos (by rfl)]
      (try simp only [Act.put, List.setIfInBounds_toArray, List.set_cons_zero, List.set_cons_succ])
      refine wp_store_row 34 _ _ rfl l #[.float .f64 r1, .float .f64 r2] rfl rfl 34 #[.float .f64 0, .float .f64 0] L3.out (by kernel_rfl) rfl (by kernel_rfl) ?_
      have V4 := Lib.hid (below_setRow V3.out G.out #[.float .f64 r1, .float .f64 r2])
      have L4 : Hid (Blk (v3.setRow l #[.float .f64 r1, .float .f64 r2]) l 34 [.float .f64 r1, .float .f64 r2]) := Lib.hid (setRow_heap _ _ _ _ _ _ L3.out)
      generalize v3.setRow l #[.float .f64 r1, .float .f64 r2] = v4 at *
      clear V3 L3
      (try simp only [Act.put, List.setIfInBounds_toArray, List.set_cons_zero, List.set_cons_succ])
      refine hK.out _ _ V4.out (fun hHeld => ?_)
      clear hK K
      refine wpAnyH_done (by kernel_rfl) ?_ _
      go_wp2_with fail
      go_meet
      exact ⟨l, r1, r2, rfl, L4.out, G.out, V4.out⟩
  case rest =>
    obtain ⟨l, e1, d1, rfl, hcl, hcg, hcb⟩ := hcut
    have LL := Lib.hid hcl
    have LB := Lib.hid hcb
    clear hcl hcg hcb
    generalize wc = w1 at *
    have F1 : Hid (Below w.heap.size w w1) := Lib.hid (F0.out.trans (LB.out.mono F0.out.size))
    have HX1 := Lib.hid (HX.out.below LB.out (Blk.lt HX.out))
    clear F0 HX LB
    go_upto_region 2 with fail
    go_cut [8] from 18 (fun v8 wx => ∃ l2 e d, v8 = .pointer (some ⟨l2, 0, none⟩) ∧ Blk wx l2 34 [.float .f64 e, .float .f64 d] ∧ w1.heap.size ≤ l2 ∧ Below w1.heap.size w1 wx)
    case first =>
      refine wp_region_held_drew (S := fun w' => Below w1.heap.size w1 w') (by kernel_rfl) ((Below.refl w1.heap.size w1).drew) (fun hHeld => ?_)
      have V0 : Hid (Below w1.heap.size w1 w1.drew) := Lib.hid (Below.refl w1.heap.size w1).drew
      generalize w1.drew = v0 at V0 hHeld ⊢
      refine wpAnyH_take (i := 0) (oi := ⟨some 25, _, _, _, _, _⟩) (v := (.pointer (some ⟨X, 4, none⟩))) rfl (by kernel_rfl) (by kernel_rfl) (by kernel_rfl) (fun _ _ _ h => h) (Or.inl ⟨by rfl, ?_⟩) (by assumption) ?_
      · intro w' hS; go_simp; try with_reducible rfl
      simp only [Act.put, List.setIfInBounds_toArray, List.set_cons_zero, List.set_cons_succ]
      refine wpAnyH_take (i := 1) (oi := ⟨some 26, _, _, _, _, _⟩) (v := (.agg #[.float .f64 x2, .int .i64 o2])) rfl (by kernel_rfl) (by kernel_rfl) (by kernel_rfl) (fun _ _ _ h => h) (Or.inl ⟨by rfl, ?_⟩) (by assumption) ?_
      · intro w' hS; have hq := HX1.out.below hS (Blk.lt HX1.out); have h0 : w'.cell? ⟨X, 4, none⟩ = some (.float .f64 x2) := hq.cell 4; have h1 : w'.cell? ⟨X, 5, none⟩ = some (.int .i64 o2) := hq.cell 5; clear hq; go_simp; try with_reducible rfl
      simp only [Act.put, List.setIfInBounds_toArray, List.set_cons_zero, List.set_cons_succ]
      refine wpAnyH_take (i := 3) (oi := ⟨some 28, _, _, _, _, _⟩) (v := (.pointer (some ⟨X, 6, none⟩))) rfl (by kernel_rfl) (by kernel_rfl) (by kernel_rfl) (fun _ _ _ h => h) (Or.inl ⟨by rfl, ?_⟩) (by assumption) ?_
      · intro w' hS; go_simp; try with_reducible rfl
      simp only [Act.put, List.setIfInBounds_toArray, List.set_cons_zero, List.set_cons_succ]
      refine wpAnyH_take (i := 4) (oi := ⟨some 29, _, _, _, _, _⟩) (v := (.agg #[.float .f64 x3, .int .i64 o3])) rfl (by kernel_rfl) (by kernel_rfl) (by kernel_rfl) (fun _ _ _ h => h) (Or.inl ⟨by rfl, ?_⟩) (by assumption) ?_
      · intro w' hS; have hq := HX1.out.below hS (Blk.lt HX1.out); have h0 : w'.cell? ⟨X, 6, none⟩ = some (.float .f64 x3) := hq.cell 6; have h1 : w'.cell? ⟨X, 7, none⟩ = some (.int .i64 o3) := hq.cell 7; clear hq; go_simp; try with_reducible rfl
      simp only [Act.put, List.setIfInBounds_toArray, List.set_cons_zero, List.set_cons_succ]
      refine wpAnyH_ready (rs := [2, 7]) (by kernel_rfl) (by simp) ?_
      refine AllReadyH.cons (o := ⟨some 27, _, _, _, _, _⟩) rfl (fun K hK => ?_) (AllReadyH.cons (o := ⟨some 8, _, _, _, _, _⟩) rfl (fun K hK => ?_) AllReadyH.nil)
      · rw [if_pos (by rfl)]
        go_simp
        refine (value_any x2 o2 v0 HW2.out).mono ?_
        rintro e' v1 ⟨r1, rfl, -, -, bb⟩
        have V1 := Lib.hid (V0.out.trans (bb.mono V0.out.size))
        clear bb V0
        dsimp only
        (try simp only [Act.put, List.setIfInBounds_toArray, List.set_cons_zero, List.set_cons_succ])
        refine hK.out _ _ V1.out (fun hHeld => ?_)
        clear hK K
        refine wpAnyH_ready (rs := [5, 7]) (by kernel_rfl) (by simp) ?_
        refine AllReadyH.cons (o := ⟨some 30, _, _, _, _, _⟩) rfl (fun K hK => ?_) (AllReadyH.cons (o := ⟨some 8, _, _, _, _, _⟩) rfl (fun K hK => ?_) AllReadyH.nil)
        · rw [if_pos (by rfl)]
          go_simp
          refine (value_any x3 o3 v1 HW3.out).mono ?_
          rintro e' v2 ⟨r2, rfl, -, -, bb⟩
          have V2 := Lib.hid (V1.out.trans (bb.mono V1.out.size))
          clear bb V1
          dsimp only
          (try simp only [Act.put, List.setIfInBounds_toArray, List.set_cons_zero, List.set_cons_succ])
          refine hK.out _ _ V2.out (fun hHeld => ?_)
          clear hK K
          refine wpAnyH_take (i := 6) (oi := ⟨some 31, _, _, _, _, _⟩) (v := (.agg #[.float .f64 r1, .float .f64 r2])) rfl (by kernel_rfl) (by kernel_rfl) (by kernel_rfl) (fun _ _ _ h => h) (Or.inl ⟨by rfl, ?_⟩) (by assumption) ?_
          · intro w' hS; go_simp; try with_reducible rfl
          simp only [Act.put, List.setIfInBounds_toArray, List.set_cons_zero, List.set_cons_succ]
          refine wpAnyH_ready (rs := [7]) (by kernel_rfl) (by simp) ?_
          refine AllReadyH.cons (o := ⟨some 8, _, _, _, _, _⟩) rfl (fun K hK => ?_) AllReadyH.nil
          rw [if_pos (by rfl)]
          go_simp
          have V3 := Lib.hid (V2.out.alloc V2.out.size (.cells #[.float .f64 0, .float .f64 0] 34))
          have L3 : Hid (Blk (v2.alloc (.cells #[.float .f64 0, .float .f64 0] 34)) v2.heap.size 34 [.float .f64 0, .float .f64 0]) := Lib.hid (Blk.new v2 34 _)
          have G : Hid (w1.heap.size ≤ v2.heap.size) := Lib.hid V2.out.size
          generalize v2.heap.size = l' at L3 G ⊢
          generalize (v2.alloc (.cells #[.float .f64 0, .float .f64 0] 34)) = v3 at *
          clear V2
          (try simp only [Act.put, List.setIfInBounds_toArray, List.set_cons_zero, List.set_cons_succ])
          refine hK.out _ _ V3.out (fun hHeld => ?_)
          clear hK K
          refine wpAnyH_ready (rs := [8]) (by kernel_rfl) (by simp) ?_
          refine AllReadyH.cons (o := ⟨none, _, _, _, _, _⟩) rfl (fun K hK => ?_) AllReadyH.nil
          rw [if_pos (by rfl)]
          (try simp only [Act.put, List.setIfInBounds_toArray, List.set_cons_zero, List.set_cons_succ])
          refine wp_store_row 34 _ _ rfl l' #[.float .f64 r1, .float .f64 r2] rfl rfl 34 #[.float .f64 0, .float .f64 0] L3.out (by kernel_rfl) rfl (by kernel_rfl) ?_
          have V4 := Lib.hid (below_setRow V3.out G.out #[.float .f64 r1, .float .f64 r2])
          have L4 : Hid (Blk (v3.setRow l' #[.float .f64 r1, .float .f64 r2]) l' 34 [.float .f64 r1, .float .f64 r2]) := Lib.hid (setRow_heap _ _ _ _ _ _ L3.out)
          generalize v3.setRow l' #[.float .f64 r1, .float .f64 r2] = v4 at *
          clear V3 L3
          (try simp only [Act.put, List.setIfInBounds_toArray, List.set_cons_zero, List.set_cons_succ])
          refine hK.out _ _ V4.out (fun hHeld => ?_)
          clear hK K
          refine wpAnyH_done (by kernel_rfl) ?_ _
          go_wp2_with fail
          go_meet
          exact ⟨l', r1, r2, rfl, L4.out, G.out, V4.out⟩
        · rw [if_pos (by rfl)]
          go_simp
          have V2 := Lib.hid (V1.out.alloc V1.out.size (.cells #[.float .f64 0, .float .f64 0] 34))
          have L2 : Hid (Blk (v1.alloc (.cells #[.float .f64 0, .float .f64 0] 34)) v1.heap.size 34 [.float .f64 0, .float .f64 0]) := Lib.hid (Blk.new v1 34 _)
          have G : Hid (w1.heap.size ≤ v1.heap.size) := Lib.hid V1.out.size
          generalize v1.heap.size = l' at L2 G ⊢
          generalize (v1.alloc (.cells #[.float .f64 0, .float .f64 0] 34)) = v2 at *
          clear V1
          (try simp only [Act.put, List.setIfInBounds_toArray, List.set_cons_zero, List.set_cons_succ])
          refine hK.out _ _ V2.out (fun hHeld => ?_)
          clear hK K
          refine wpAnyH_ready (rs := [5]) (by kernel_rfl) (by simp) ?_
          refine AllReadyH.cons (o := ⟨some 30, _, _, _, _, _⟩) rfl (fun K hK => ?_) AllReadyH.nil
          rw [if_pos (by rfl)]
          go_simp
          refine (value_any x3 o3 v2 HW3.out).mono ?_
          rintro e' v3 ⟨r2, rfl, -, -, bb⟩
          have V3 := Lib.hid (V2.out.trans (bb.mono V2.out.size))
          have L3 := Lib.hid (L2.out.below bb (Blk.lt L2.out))
          clear L2
          clear bb V2
          dsimp only
          (try simp only [Act.put, List.setIfInBounds_toArray, List.set_cons_zero, List.set_cons_succ])
          refine hK.out _ _ V3.out (fun hHeld => ?_)
          clear hK K
          refine wpAnyH_take (i := 6) (oi := ⟨some 31, _, _, _, _, _⟩) (v := (.agg #[.float .f64 r1, .float .f64 r2])) rfl (by kernel_rfl) (by kernel_rfl) (by kernel_rfl) (fun _ _ _ h => h) (Or.inl ⟨by rfl, ?_⟩) (by assumption) ?_
          · intro w' hS; go_simp; try with_reducible rfl
          simp only [Act.put, List.setIfInBounds_toArray, List.set_cons_zero, List.set_cons_succ]
          refine wpAnyH_ready (rs := [8]) (by kernel_rfl) (by simp) ?_
          refine AllReadyH.cons (o := ⟨none, _, _, _, _, _⟩) rfl (fun K hK => ?_) AllReadyH.nil
          rw [if_pos (by rfl)]
          (try simp only [Act.put, List.setIfInBounds_toArray, List.set_cons_zero, List.set_cons_succ])
          refine wp_store_row 34 _ _ rfl l' #[.float .f64 r1, .float .f64 r2] rfl rfl 34 #[.float .f64 0, .float .f64 0] L3.out (by kernel_rfl) rfl (by kernel_rfl) ?_
          have V4 := Lib.hid (below_setRow V3.out G.out #[.float .f64 r1, .float .f64 r2])
          have L4 : Hid (Blk (v3.setRow l' #[.float .f64 r1, .float .f64 r2]) l' 34 [.float .f64 r1, .float .f64 r2]) := Lib.hid (setRow_heap _ _ _ _ _ _ L3.out)
          generalize v3.setRow l' #[.float .f64 r1, .float .f64 r2] = v4 at *
          clear V3 L3
          (try simp only [Act.put, List.setIfInBounds_toArray, List.set_cons_zero, List.set_cons_succ])
          refine hK.out _ _ V4.out (fun hHeld => ?_)
          clear hK K
          refine wpAnyH_done (by kernel_rfl) ?_ _
          go_wp2_with fail
          go_meet
          exact ⟨l', r1, r2, rfl, L4.out, G.out, V4.out⟩
      · rw [if_pos (by rfl)]
        go_simp
        have V1 := Lib.hid (V0.out.alloc V0.out.size (.cells #[.float .f64 0, .float .f64 0] 34))
        have L1 : Hid (Blk (v0.alloc (.cells #[.float .f64 0, .float .f64 0] 34)) v0.heap.size 34 [.float .f64 0, .float .f64 0]) := Lib.hid (Blk.new v0 34 _)
        have G : Hid (w1.heap.size ≤ v0.heap.size) := Lib.hid V0.out.size
        generalize v0.heap.size = l' at L1 G ⊢
        generalize (v0.alloc (.cells #[.float .f64 0, .float .f64 0] 34)) = v1 at *
        clear V0
        (try simp only [Act.put, List.setIfInBounds_toArray, List.set_cons_zero, List.set_cons_succ])
        refine hK.out _ _ V1.out (fun hHeld => ?_)
        clear hK K
        refine wpAnyH_ready (rs := [2]) (by kernel_rfl) (by simp) ?_
        refine AllReadyH.cons (o := ⟨some 27, _, _, _, _, _⟩) rfl (fun K hK => ?_) AllReadyH.nil
        rw [if_pos (by rfl)]
        go_simp
        refine (value_any x2 o2 v1 HW2.out).mono ?_
        rintro e' v2 ⟨r1, rfl, -, -, bb⟩
        have V2 := Lib.hid (V1.out.trans (bb.mono V1.out.size))
        have L2 := Lib.hid (L1.out.below bb (Blk.lt L1.out))
        clear L1
        clear bb V1
        dsimp only
        (try simp only [Act.put, List.setIfInBounds_toArray, List.set_cons_zero, List.set_cons_succ])
        refine hK.out _ _ V2.out (fun hHeld => ?_)
        clear hK K
        refine wpAnyH_ready (rs := [5]) (by kernel_rfl) (by simp) ?_
        refine AllReadyH.cons (o := ⟨some 30, _, _, _, _, _⟩) rfl (fun K hK => ?_) AllReadyH.nil
        rw [if_pos (by rfl)]
        go_simp
        refine (value_any x3 o3 v2 HW3.out).mono ?_
        rintro e' v3 ⟨r2, rfl, -, -, bb⟩
        have V3 := Lib.hid (V2.out.trans (bb.mono V2.out.size))
        have L3 := Lib.hid (L2.out.below bb (Blk.lt L2.out))
        clear L2
        clear bb V2
        dsimp only
        (try simp only [Act.put, List.setIfInBounds_toArray, List.set_cons_zero, List.set_cons_succ])
        refine hK.out _ _ V3.out (fun hHeld => ?_)
        clear hK K
        refine wpAnyH_take (i := 6) (oi := ⟨some 31, _, _, _, _, _⟩) (v := (.agg #[.float .f64 r1, .float .f64 r2])) rfl (by kernel_rfl) (by kernel_rfl) (by kernel_rfl) (fun _ _ _ h => h) (Or.inl ⟨by rfl, ?_⟩) (by assumption) ?_
        · intro w' hS; go_simp; try with_reducible rfl
        simp only [Act.put, List.setIfInBounds_toArray, List.set_cons_zero, List.set_cons_succ]
        refine wpAnyH_ready (rs := [8]) (by kernel_rfl) (by simp) ?_
        refine AllReadyH.cons (o := ⟨none, _, _, _, _, _⟩) rfl (fun K hK => ?_) AllReadyH.nil
        rw [if_pos (by rfl)]
        (try simp only [Act.put, List.setIfInBounds_toArray, List.set_cons_zero, List.set_cons_succ])
        refine wp_store_row 34 _ _ rfl l' #[.float .f64 r1, .float .f64 r2] rfl rfl 34 #[.float .f64 0, .float .f64 0] L3.out (by kernel_rfl) rfl (by kernel_rfl) ?_
        have V4 := Lib.hid (below_setRow V3.out G.out #[.float .f64 r1, .float .f64 r2])
        have L4 : Hid (Blk (v3.setRow l' #[.float .f64 r1, .float .f64 r2]) l' 34 [.float .f64 r1, .float .f64 r2]) := Lib.hid (setRow_heap _ _ _ _ _ _ L3.out)
        generalize v3.setRow l' #[.float .f64 r1, .float .f64 r2] = v4 at *
        clear V3 L3
        (try simp only [Act.put, List.setIfInBounds_toArray, List.set_cons_zero, List.set_cons_succ])
        refine hK.out _ _ V4.out (fun hHeld => ?_)
        clear hK K
        refine wpAnyH_done (by kernel_rfl) ?_ _
        go_wp2_with fail
        go_meet
        exact ⟨l', r1, r2, rfl, L4.out, G.out, V4.out⟩
    case rest =>
      obtain ⟨l2, e2, d2, rfl, hcl, hcg, hcb⟩ := hcut
      have MM0 := Lib.hid hcl
      have LL0 := Lib.hid (LL.out.below hcb (Blk.lt LL.out))
      have B0 : Hid (Below w.heap.size w wc) := Lib.hid (F1.out.trans (hcb.mono F1.out.size))
      clear hcl hcg hcb F1 HX1 LL HW0 HW1 HW2 HW3
      generalize wc = v0 at *
      cases hg1 : (fin (fv e1) && fin (fv d1))
      · cases hg2 : (fin (fv e2) && fin (fv d2))
        · have HG1 := Lib.hid hg1
          have HG2 := Lib.hid hg2
          clear hg1 hg2
          have l0 : v0.cell? ⟨l, 0, none⟩ = some (.float .f64 e1) := LL0.out.cell 0
          have l1 : v0.cell? ⟨l, 1, none⟩ = some (.float .f64 d1) := LL0.out.cell 1
          have m0 : v0.cell? ⟨l2, 0, none⟩ = some (.float .f64 e2) := MM0.out.cell 0
          have m1 : v0.cell? ⟨l2, 1, none⟩ = some (.float .f64 d2) := MM0.out.cell 1
          go_wp2_with fail
          refine (newb_bad e1 d1 v0 HG1.out).mono ?_
          rintro e v1 ⟨rfl, bb⟩
          have Z0 : Hid (v0.heap.size ≤ v1.heap.size) := Lib.hid bb.size
          have LL1 := Lib.hid (LL0.out.below bb (Blk.lt LL0.out))
          have MM1 := Lib.hid (MM0.out.below bb (Blk.lt MM0.out))
          have B1 := Lib.hid (B0.out.trans (bb.mono B0.out.size))
          clear bb LL0 MM0 l0 l1 m0 m1
          have l0 : v1.cell? ⟨l, 0, none⟩ = some (.float .f64 e1) := LL1.out.cell 0
          have l1 : v1.cell? ⟨l, 1, none⟩ = some (.float .f64 d1) := LL1.out.cell 1
          have m0 : v1.cell? ⟨l2, 0, none⟩ = some (.float .f64 e2) := MM1.out.cell 0
          have m1 : v1.cell? ⟨l2, 1, none⟩ = some (.float .f64 d2) := MM1.out.cell 1
          go_wp2_with fail
          refine (rnewb_bad e1 d1 v1 HG1.out).mono ?_
          rintro e v2 ⟨rfl, bb⟩
          have Z1 : Hid (v1.heap.size ≤ v2.heap.size) := Lib.hid bb.size
          have LL2 := Lib.hid (LL1.out.below bb (Blk.lt LL1.out))
          have MM2 := Lib.hid (MM1.out.below bb (Blk.lt MM1.out))
          have B2 := Lib.hid (B1.out.trans (bb.mono B1.out.size))
          clear bb LL1 MM1 l0 l1 m0 m1
          have l0 : v2.cell? ⟨l, 0, none⟩ = some (.float .f64 e1) := LL2.out.cell 0
          have l1 : v2.cell? ⟨l, 1, none⟩ = some (.float .f64 d1) := LL2.out.cell 1
          have m0 : v2.cell? ⟨l2, 0, none⟩ = some (.float .f64 e2) := MM2.out.cell 0
          have m1 : v2.cell? ⟨l2, 1, none⟩ = some (.float .f64 d2) := MM2.out.cell 1
          go_wp2_with fail
          refine (newb_bad e2 d2 v2 HG2.out).mono ?_
          rintro e v3 ⟨rfl, bb⟩
          have Z2 : Hid (v2.heap.size ≤ v3.heap.size) := Lib.hid bb.size
          have LL3 := Lib.hid (LL2.out.below bb (Blk.lt LL2.out))
          have MM3 := Lib.hid (MM2.out.below bb (Blk.lt MM2.out))
          have B3 := Lib.hid (B2.out.trans (bb.mono B2.out.size))
          clear bb LL2 MM2 l0 l1 m0 m1
          have l0 : v3.cell? ⟨l, 0, none⟩ = some (.float .f64 e1) := LL3.out.cell 0
          have l1 : v3.cell? ⟨l, 1, none⟩ = some (.float .f64 d1) := LL3.out.cell 1
          have m0 : v3.cell? ⟨l2, 0, none⟩ = some (.float .f64 e2) := MM3.out.cell 0
          have m1 : v3.cell? ⟨l2, 1, none⟩ = some (.float .f64 d2) := MM3.out.cell 1
          go_wp2_with fail
          refine (rnewb_bad e2 d2 v3 HG2.out).mono ?_
          rintro e v4 ⟨rfl, bb⟩
          have Z3 : Hid (v3.heap.size ≤ v4.heap.size) := Lib.hid bb.size
          have LL4 := Lib.hid (LL3.out.below bb (Blk.lt LL3.out))
          have MM4 := Lib.hid (MM3.out.below bb (Blk.lt MM3.out))
          have B4 := Lib.hid (B3.out.trans (bb.mono B3.out.size))
          clear bb LL3 MM3 l0 l1 m0 m1
          have ORD : Hid (w.heap.size ≤ v0.heap.size) := Lib.hid (by have z := B0.out.size; have z0 := Z0.out; have z1 := Z1.out; have z2 := Z2.out; have z3 := Z3.out; omega)
          clear LL4 MM4 B1 B2 B3 Z0 Z1 Z2 Z3
          have WA := B4
          clear B4 B0
          go_wp2_with fail
          go_loopw [17] (fun z wx => ∃ k : Nat, z = .int .i64 k ∧ Hid (k ≤ k1 ∨ k ≤ k2) ∧ Hid (Below w.heap.size w wx)) (fun z _ => k1 + k2 - (intOf z).toNat)
          case atStart => exact ⟨0, rfl, Lib.hid (.inl (Nat.zero_le _)), WA⟩
          case round =>
            clear WA
            obtain ⟨i, rfl, HI, WA⟩ := hrel
            have hi0 : i ≤ 140737488354000 := by have := HI.out; omega
            have m1 : IntKind.i64.wrap ((i : Int) + 1) = ((i + 1 : Nat) : Int) := by rw [IntKind.wrap_i64] <;> omega
            by_cases hi1 : i < k1
            · by_cases hi2 : i < k2
              · have d1' : decide ((i : Int) < (k1 : Int)) = true := by simp; omega
                have d2' : decide ((i : Int) < (k2 : Int)) = true := by simp; omega
                go_wp2_with fail
                go_roundw
                case rel => exact ⟨i + 1, by go_num, Lib.hid (by omega), WA⟩
                case measure => simp [intOf]; omega
              · have d1' : decide ((i : Int) < (k1 : Int)) = true := by simp; omega
                have d2' : decide ((i : Int) < (k2 : Int)) = false := by simp; omega
                go_wp2_with fail
                go_roundw
                case rel => exact ⟨i + 1, by go_num, Lib.hid (by omega), WA⟩
                case measure => simp [intOf]; omega
            · by_cases hi2 : i < k2
              · have d1' : decide ((i : Int) < (k1 : Int)) = false := by simp; omega
                have d2' : decide ((i : Int) < (k2 : Int)) = true := by simp; omega
                go_wp2_with fail
                go_roundw
                case rel => exact ⟨i + 1, by go_num, Lib.hid (by omega), WA⟩
                case measure => simp [intOf]; omega
              · have d1' : decide ((i : Int) < (k1 : Int)) = false := by simp; omega
                have d2' : decide ((i : Int) < (k2 : Int)) = false := by simp; omega
                go_wp2_with fail
                go_ret
                exact ⟨rfl, HXE.out ▸ WA.out⟩
        · have HG1 := Lib.hid hg1
          have HG2 := Lib.hid hg2
          clear hg1 hg2
          have l0 : v0.cell? ⟨l, 0, none⟩ = some (.float .f64 e1) := LL0.out.cell 0
          have l1 : v0.cell? ⟨l, 1, none⟩ = some (.float .f64 d1) := LL0.out.cell 1
          have m0 : v0.cell? ⟨l2, 0, none⟩ = some (.float .f64 e2) := MM0.out.cell 0
          have m1 : v0.cell? ⟨l2, 1, none⟩ = some (.float .f64 d2) := MM0.out.cell 1
          go_wp2_with fail
          refine (newb_bad e1 d1 v0 HG1.out).mono ?_
          rintro e v1 ⟨rfl, bb⟩
          have Z0 : Hid (v0.heap.size ≤ v1.heap.size) := Lib.hid bb.size
          have LL1 := Lib.hid (LL0.out.below bb (Blk.lt LL0.out))
          have MM1 := Lib.hid (MM0.out.below bb (Blk.lt MM0.out))
          have B1 := Lib.hid (B0.out.trans (bb.mono B0.out.size))
          clear bb LL0 MM0 l0 l1 m0 m1
          have l0 : v1.cell? ⟨l, 0, none⟩ = some (.float .f64 e1) := LL1.out.cell 0
          have l1 : v1.cell? ⟨l, 1, none⟩ = some (.float .f64 d1) := LL1.out.cell 1
          have m0 : v1.cell? ⟨l2, 0, none⟩ = some (.float .f64 e2) := MM1.out.cell 0
          have m1 : v1.cell? ⟨l2, 1, none⟩ = some (.float .f64 d2) := MM1.out.cell 1
          go_wp2_with fail
          refine (rnewb_bad e1 d1 v1 HG1.out).mono ?_
          rintro e v2 ⟨rfl, bb⟩
          have Z1 : Hid (v1.heap.size ≤ v2.heap.size) := Lib.hid bb.size
          have LL2 := Lib.hid (LL1.out.below bb (Blk.lt LL1.out))
          have MM2 := Lib.hid (MM1.out.below bb (Blk.lt MM1.out))
          have B2 := Lib.hid (B1.out.trans (bb.mono B1.out.size))
          clear bb LL1 MM1 l0 l1 m0 m1
          have l0 : v2.cell? ⟨l, 0, none⟩ = some (.float .f64 e1) := LL2.out.cell 0
          have l1 : v2.cell? ⟨l, 1, none⟩ = some (.float .f64 d1) := LL2.out.cell 1
          have m0 : v2.cell? ⟨l2, 0, none⟩ = some (.float .f64 e2) := MM2.out.cell 0
          have m1 : v2.cell? ⟨l2, 1, none⟩ = some (.float .f64 d2) := MM2.out.cell 1
          go_wp2_with fail
          refine (newb_good e2 d2 v2 HG2.out).mono ?_
          rintro e v3 ⟨p2, rfl, Op2, Bp23, bb⟩
          have Lp2 : Hid (v2.heap.size ≤ p2 ∧ p2 < v3.heap.size) := Lib.hid ⟨Op2.out, Blk.lt Bp23.out⟩
          clear Op2
          have Z2 : Hid (v2.heap.size ≤ v3.heap.size) := Lib.hid bb.size
          have LL3 := Lib.hid (LL2.out.below bb (Blk.lt LL2.out))
          have MM3 := Lib.hid (MM2.out.below bb (Blk.lt MM2.out))
          have B3 := Lib.hid (B2.out.trans (bb.mono B2.out.size))
          clear bb LL2 MM2 l0 l1 m0 m1
          have l0 : v3.cell? ⟨l, 0, none⟩ = some (.float .f64 e1) := LL3.out.cell 0
          have l1 : v3.cell? ⟨l, 1, none⟩ = some (.float .f64 d1) := LL3.out.cell 1
          have m0 : v3.cell? ⟨l2, 0, none⟩ = some (.float .f64 e2) := MM3.out.cell 0
          have m1 : v3.cell? ⟨l2, 1, none⟩ = some (.float .f64 d2) := MM3.out.cell 1
          go_wp2_with fail
          refine (rnewb_good e2 d2 v3 HG2.out).mono ?_
          rintro e v4 ⟨q2, rfl, Oq2, Bq24, bb⟩
          have Lq2 : Hid (v3.heap.size ≤ q2 ∧ q2 < v4.heap.size) := Lib.hid ⟨Oq2.out, Blk.lt Bq24.out⟩
          clear Oq2
          have Z3 : Hid (v3.heap.size ≤ v4.heap.size) := Lib.hid bb.size
          have Bp24 : Hid (Bud 96 v4 p2 e2 d2 0 0) := Lib.hid (Blk.below Bp23.out bb (Blk.lt Bp23.out))
          clear Bp23
          have LL4 := Lib.hid (LL3.out.below bb (Blk.lt LL3.out))
          have MM4 := Lib.hid (MM3.out.below bb (Blk.lt MM3.out))
          have B4 := Lib.hid (B3.out.trans (bb.mono B3.out.size))
          clear bb LL3 MM3 l0 l1 m0 m1
          have ORD : Hid (w.heap.size ≤ v0.heap.size ∧ v0.heap.size ≤ p2 ∧ p2 < q2) := Lib.hid (by have z := B0.out.size; have z0 := Z0.out; have z1 := Z1.out; have z2 := Z2.out; have z3 := Z3.out; have a3 := Lp2.out; have a4 := Lq2.out; omega)
          have NE2 : Hid (nn e2 ∧ nn d2) := Lib.hid (by have h := HG2.out; simp only [Bool.and_eq_true] at h; exact ⟨fin_nn h.1, fin_nn h.2⟩)
          have PB : Hid (PS v4 p2 q2 e2 d2) := Lib.hid ⟨0, 0, nn_0, nn_0, Bp24.out, Bq24.out⟩
          clear Bp24 Bq24
          clear LL4 MM4 B1 B2 B3 Z0 Z1 Z2 Z3
          have WA := B4
          clear B4 B0
          go_wp2_with fail
          go_loopw [17] (fun z wx => ∃ k : Nat, z = .int .i64 k ∧ Hid (k ≤ k1 ∨ k ≤ k2) ∧ Hid (Below w.heap.size w wx) ∧ Hid (PS wx p2 q2 e2 d2)) (fun z _ => k1 + k2 - (intOf z).toNat)
          case atStart => exact ⟨0, rfl, Lib.hid (.inl (Nat.zero_le _)), WA, PB⟩
          case round =>
            clear WA PB
            obtain ⟨i, rfl, HI, WA, PB⟩ := hrel
            have hi0 : i ≤ 140737488354000 := by have := HI.out; omega
            have m1 : IntKind.i64.wrap ((i : Int) + 1) = ((i + 1 : Nat) : Int) := by rw [IntKind.wrap_i64] <;> omega
            by_cases hi1 : i < k1
            · by_cases hi2 : i < k2
              · have d1' : decide ((i : Int) < (k1 : Int)) = true := by simp; omega
                have d2' : decide ((i : Int) < (k2 : Int)) = true := by simp; omega
                obtain ⟨b2, off2, hA2, hbl2, b0', b1', b2', b3', b4'⟩ := (HS2.out.below WA.out) i hi2
                cases hA2
                go_wp2_with fail
                refine (spent_ps p2 q2 e2 d2 (f2 i) wr PB.out NE2.out.1 NE2.out.2 (HO2.out i hi2).1 (HO2.out i hi2).2).mono ?_
                rintro e wz ⟨rfl, hps, hf⟩
                have PBx := Lib.hid hps
                have WAx := Lib.hid (WA.out.trans (hf.below (B := w.heap.size) WA.out.size (fun j hj => by have := ORD.out; omega)))
                clear hf hps WA PB
                have PB := PBx
                have WA := WAx
                clear PBx WAx
                clear b0' b1' b2' b3' b4' hbl2
                go_wp2_with fail
                go_roundw
                case rel => exact ⟨i + 1, by go_num, Lib.hid (by omega), WA, PB⟩
                case measure => simp [intOf]; omega
              · have d1' : decide ((i : Int) < (k1 : Int)) = true := by simp; omega
                have d2' : decide ((i : Int) < (k2 : Int)) = false := by simp; omega
                go_wp2_with fail
                go_roundw
                case rel => exact ⟨i + 1, by go_num, Lib.hid (by omega), WA, PB⟩
                case measure => simp [intOf]; omega
            · by_cases hi2 : i < k2
              · have d1' : decide ((i : Int) < (k1 : Int)) = false := by simp; omega
                have d2' : decide ((i : Int) < (k2 : Int)) = true := by simp; omega
                obtain ⟨b2, off2, hA2, hbl2, b0', b1', b2', b3', b4'⟩ := (HS2.out.below WA.out) i hi2
                cases hA2
                go_wp2_with fail
                refine (spent_ps p2 q2 e2 d2 (f2 i) wr PB.out NE2.out.1 NE2.out.2 (HO2.out i hi2).1 (HO2.out i hi2).2).mono ?_
                rintro e wz ⟨rfl, hps, hf⟩
                have PBx := Lib.hid hps
                have WAx := Lib.hid (WA.out.trans (hf.below (B := w.heap.size) WA.out.size (fun j hj => by have := ORD.out; omega)))
                clear hf hps WA PB
                have PB := PBx
                have WA := WAx
                clear PBx WAx
                clear b0' b1' b2' b3' b4' hbl2
                go_wp2_with fail
                go_roundw
                case rel => exact ⟨i + 1, by go_num, Lib.hid (by omega), WA, PB⟩
                case measure => simp [intOf]; omega
              · have d1' : decide ((i : Int) < (k1 : Int)) = false := by simp; omega
                have d2' : decide ((i : Int) < (k2 : Int)) = false := by simp; omega
                go_wp2_with fail
                go_ret
                exact ⟨rfl, HXE.out ▸ WA.out⟩
      · cases hg2 : (fin (fv e2) && fin (fv d2))
        · have HG1 := Lib.hid hg1
          have HG2 := Lib.hid hg2
          clear hg1 hg2
          have l0 : v0.cell? ⟨l, 0, none⟩ = some (.float .f64 e1) := LL0.out.cell 0
          have l1 : v0.cell? ⟨l, 1, none⟩ = some (.float .f64 d1) := LL0.out.cell 1
          have m0 : v0.cell? ⟨l2, 0, none⟩ = some (.float .f64 e2) := MM0.out.cell 0
          have m1 : v0.cell? ⟨l2, 1, none⟩ = some (.float .f64 d2) := MM0.out.cell 1
          go_wp2_with fail
          refine (newb_good e1 d1 v0 HG1.out).mono ?_
          rintro e v1 ⟨p1, rfl, Op1, Bp11, bb⟩
          have Lp1 : Hid (v0.heap.size ≤ p1 ∧ p1 < v1.heap.size) := Lib.hid ⟨Op1.out, Blk.lt Bp11.out⟩
          clear Op1
          have Z0 : Hid (v0.heap.size ≤ v1.heap.size) := Lib.hid bb.size
          have LL1 := Lib.hid (LL0.out.below bb (Blk.lt LL0.out))
          have MM1 := Lib.hid (MM0.out.below bb (Blk.lt MM0.out))
          have B1 := Lib.hid (B0.out.trans (bb.mono B0.out.size))
          clear bb LL0 MM0 l0 l1 m0 m1
          have l0 : v1.cell? ⟨l, 0, none⟩ = some (.float .f64 e1) := LL1.out.cell 0
          have l1 : v1.cell? ⟨l, 1, none⟩ = some (.float .f64 d1) := LL1.out.cell 1
          have m0 : v1.cell? ⟨l2, 0, none⟩ = some (.float .f64 e2) := MM1.out.cell 0
          have m1 : v1.cell? ⟨l2, 1, none⟩ = some (.float .f64 d2) := MM1.out.cell 1
          go_wp2_with fail
          refine (rnewb_good e1 d1 v1 HG1.out).mono ?_
          rintro e v2 ⟨q1, rfl, Oq1, Bq12, bb⟩
          have Lq1 : Hid (v1.heap.size ≤ q1 ∧ q1 < v2.heap.size) := Lib.hid ⟨Oq1.out, Blk.lt Bq12.out⟩
          clear Oq1
          have Z1 : Hid (v1.heap.size ≤ v2.heap.size) := Lib.hid bb.size
          have Bp12 : Hid (Bud 96 v2 p1 e1 d1 0 0) := Lib.hid (Blk.below Bp11.out bb (Blk.lt Bp11.out))
          clear Bp11
          have LL2 := Lib.hid (LL1.out.below bb (Blk.lt LL1.out))
          have MM2 := Lib.hid (MM1.out.below bb (Blk.lt MM1.out))
          have B2 := Lib.hid (B1.out.trans (bb.mono B1.out.size))
          clear bb LL1 MM1 l0 l1 m0 m1
          have l0 : v2.cell? ⟨l, 0, none⟩ = some (.float .f64 e1) := LL2.out.cell 0
          have l1 : v2.cell? ⟨l, 1, none⟩ = some (.float .f64 d1) := LL2.out.cell 1
          have m0 : v2.cell? ⟨l2, 0, none⟩ = some (.float .f64 e2) := MM2.out.cell 0
          have m1 : v2.cell? ⟨l2, 1, none⟩ = some (.float .f64 d2) := MM2.out.cell 1
          go_wp2_with fail
          refine (newb_bad e2 d2 v2 HG2.out).mono ?_
          rintro e v3 ⟨rfl, bb⟩
          have Z2 : Hid (v2.heap.size ≤ v3.heap.size) := Lib.hid bb.size
          have Bp13 : Hid (Bud 96 v3 p1 e1 d1 0 0) := Lib.hid (Blk.below Bp12.out bb (Blk.lt Bp12.out))
          clear Bp12
          have Bq13 : Hid (Bud 98 v3 q1 e1 d1 0 0) := Lib.hid (Blk.below Bq12.out bb (Blk.lt Bq12.out))
          clear Bq12
          have LL3 := Lib.hid (LL2.out.below bb (Blk.lt LL2.out))
          have MM3 := Lib.hid (MM2.out.below bb (Blk.lt MM2.out))
          have B3 := Lib.hid (B2.out.trans (bb.mono B2.out.size))
          clear bb LL2 MM2 l0 l1 m0 m1
          have l0 : v3.cell? ⟨l, 0, none⟩ = some (.float .f64 e1) := LL3.out.cell 0
          have l1 : v3.cell? ⟨l, 1, none⟩ = some (.float .f64 d1) := LL3.out.cell 1
          have m0 : v3.cell? ⟨l2, 0, none⟩ = some (.float .f64 e2) := MM3.out.cell 0
          have m1 : v3.cell? ⟨l2, 1, none⟩ = some (.float .f64 d2) := MM3.out.cell 1
          go_wp2_with fail
          refine (rnewb_bad e2 d2 v3 HG2.out).mono ?_
          rintro e v4 ⟨rfl, bb⟩
          have Z3 : Hid (v3.heap.size ≤ v4.heap.size) := Lib.hid bb.size
          have Bp14 : Hid (Bud 96 v4 p1 e1 d1 0 0) := Lib.hid (Blk.below Bp13.out bb (Blk.lt Bp13.out))
          clear Bp13
          have Bq14 : Hid (Bud 98 v4 q1 e1 d1 0 0) := Lib.hid (Blk.below Bq13.out bb (Blk.lt Bq13.out))
          clear Bq13
          have LL4 := Lib.hid (LL3.out.below bb (Blk.lt LL3.out))
          have MM4 := Lib.hid (MM3.out.below bb (Blk.lt MM3.out))
          have B4 := Lib.hid (B3.out.trans (bb.mono B3.out.size))
          clear bb LL3 MM3 l0 l1 m0 m1
          have ORD : Hid (w.heap.size ≤ v0.heap.size ∧ v0.heap.size ≤ p1 ∧ p1 < q1) := Lib.hid (by have z := B0.out.size; have z0 := Z0.out; have z1 := Z1.out; have z2 := Z2.out; have z3 := Z3.out; have a1 := Lp1.out; have a2 := Lq1.out; omega)
          have NE1 : Hid (nn e1 ∧ nn d1) := Lib.hid (by have h := HG1.out; simp only [Bool.and_eq_true] at h; exact ⟨fin_nn h.1, fin_nn h.2⟩)
          have PA : Hid (PS v4 p1 q1 e1 d1) := Lib.hid ⟨0, 0, nn_0, nn_0, Bp14.out, Bq14.out⟩
          clear Bp14 Bq14
          clear LL4 MM4 B1 B2 B3 Z0 Z1 Z2 Z3
          have WA := B4
          clear B4 B0
          go_wp2_with fail
          go_loopw [17] (fun z wx => ∃ k : Nat, z = .int .i64 k ∧ Hid (k ≤ k1 ∨ k ≤ k2) ∧ Hid (Below w.heap.size w wx) ∧ Hid (PS wx p1 q1 e1 d1)) (fun z _ => k1 + k2 - (intOf z).toNat)
          case atStart => exact ⟨0, rfl, Lib.hid (.inl (Nat.zero_le _)), WA, PA⟩
          case round =>
            clear WA PA
            obtain ⟨i, rfl, HI, WA, PA⟩ := hrel
            have hi0 : i ≤ 140737488354000 := by have := HI.out; omega
            have m1 : IntKind.i64.wrap ((i : Int) + 1) = ((i + 1 : Nat) : Int) := by rw [IntKind.wrap_i64] <;> omega
            by_cases hi1 : i < k1
            · by_cases hi2 : i < k2
              · have d1' : decide ((i : Int) < (k1 : Int)) = true := by simp; omega
                have d2' : decide ((i : Int) < (k2 : Int)) = true := by simp; omega
                obtain ⟨b1, off1, hA1, hbl1, a0, a1, a2, a3, a4⟩ := (HS1.out.below WA.out) i hi1
                cases hA1
                go_wp2_with fail
                refine (spent_ps p1 q1 e1 d1 (f1 i) wr PA.out NE1.out.1 NE1.out.2 (HO1.out i hi1).1 (HO1.out i hi1).2).mono ?_
                rintro e wy ⟨rfl, hps, hf⟩
                have PAx := Lib.hid hps
                have WAx := Lib.hid (WA.out.trans (hf.below (B := w.heap.size) WA.out.size (fun j hj => by have := ORD.out; omega)))
                clear hf hps WA PA
                have PA := PAx
                have WA := WAx
                clear PAx WAx
                clear a0 a1 a2 a3 a4 hbl1
                go_wp2_with fail
                go_roundw
                case rel => exact ⟨i + 1, by go_num, Lib.hid (by omega), WA, PA⟩
                case measure => simp [intOf]; omega
              · have d1' : decide ((i : Int) < (k1 : Int)) = true := by simp; omega
                have d2' : decide ((i : Int) < (k2 : Int)) = false := by simp; omega
                obtain ⟨b1, off1, hA1, hbl1, a0, a1, a2, a3, a4⟩ := (HS1.out.below WA.out) i hi1
                cases hA1
                go_wp2_with fail
                refine (spent_ps p1 q1 e1 d1 (f1 i) wr PA.out NE1.out.1 NE1.out.2 (HO1.out i hi1).1 (HO1.out i hi1).2).mono ?_
                rintro e wy ⟨rfl, hps, hf⟩
                have PAx := Lib.hid hps
                have WAx := Lib.hid (WA.out.trans (hf.below (B := w.heap.size) WA.out.size (fun j hj => by have := ORD.out; omega)))
                clear hf hps WA PA
                have PA := PAx
                have WA := WAx
                clear PAx WAx
                clear a0 a1 a2 a3 a4 hbl1
                go_wp2_with fail
                go_roundw
                case rel => exact ⟨i + 1, by go_num, Lib.hid (by omega), WA, PA⟩
                case measure => simp [intOf]; omega
            · by_cases hi2 : i < k2
              · have d1' : decide ((i : Int) < (k1 : Int)) = false := by simp; omega
                have d2' : decide ((i : Int) < (k2 : Int)) = true := by simp; omega
                go_wp2_with fail
                go_roundw
                case rel => exact ⟨i + 1, by go_num, Lib.hid (by omega), WA, PA⟩
                case measure => simp [intOf]; omega
              · have d1' : decide ((i : Int) < (k1 : Int)) = false := by simp; omega
                have d2' : decide ((i : Int) < (k2 : Int)) = false := by simp; omega
                go_wp2_with fail
                go_ret
                exact ⟨rfl, HXE.out ▸ WA.out⟩
        · have HG1 := Lib.hid hg1
          have HG2 := Lib.hid hg2
          clear hg1 hg2
          have l0 : v0.cell? ⟨l, 0, none⟩ = some (.float .f64 e1) := LL0.out.cell 0
          have l1 : v0.cell? ⟨l, 1, none⟩ = some (.float .f64 d1) := LL0.out.cell 1
          have m0 : v0.cell? ⟨l2, 0, none⟩ = some (.float .f64 e2) := MM0.out.cell 0
          have m1 : v0.cell? ⟨l2, 1, none⟩ = some (.float .f64 d2) := MM0.out.cell 1
          go_wp2_with fail
          refine (newb_good e1 d1 v0 HG1.out).mono ?_
          rintro e v1 ⟨p1, rfl, Op1, Bp11, bb⟩
          have Lp1 : Hid (v0.heap.size ≤ p1 ∧ p1 < v1.heap.size) := Lib.hid ⟨Op1.out, Blk.lt Bp11.out⟩
          clear Op1
          have Z0 : Hid (v0.heap.size ≤ v1.heap.size) := Lib.hid bb.size
          have LL1 := Lib.hid (LL0.out.below bb (Blk.lt LL0.out))
          have MM1 := Lib.hid (MM0.out.below bb (Blk.lt MM0.out))
          have B1 := Lib.hid (B0.out.trans (bb.mono B0.out.size))
          clear bb LL0 MM0 l0 l1 m0 m1
          have l0 : v1.cell? ⟨l, 0, none⟩ = some (.float .f64 e1) := LL1.out.cell 0
          have l1 : v1.cell? ⟨l, 1, none⟩ = some (.float .f64 d1) := LL1.out.cell 1
          have m0 : v1.cell? ⟨l2, 0, none⟩ = some (.float .f64 e2) := MM1.out.cell 0
          have m1 : v1.cell? ⟨l2, 1, none⟩ = some (.float .f64 d2) := MM1.out.cell 1
          go_wp2_with fail
          refine (rnewb_good e1 d1 v1 HG1.out).mono ?_
          rintro e v2 ⟨q1, rfl, Oq1, Bq12, bb⟩
          have Lq1 : Hid (v1.heap.size ≤ q1 ∧ q1 < v2.heap.size) := Lib.hid ⟨Oq1.out, Blk.lt Bq12.out⟩
          clear Oq1
          have Z1 : Hid (v1.heap.size ≤ v2.heap.size) := Lib.hid bb.size
          have Bp12 : Hid (Bud 96 v2 p1 e1 d1 0 0) := Lib.hid (Blk.below Bp11.out bb (Blk.lt Bp11.out))
          clear Bp11
          have LL2 := Lib.hid (LL1.out.below bb (Blk.lt LL1.out))
          have MM2 := Lib.hid (MM1.out.below bb (Blk.lt MM1.out))
          have B2 := Lib.hid (B1.out.trans (bb.mono B1.out.size))
          clear bb LL1 MM1 l0 l1 m0 m1
          have l0 : v2.cell? ⟨l, 0, none⟩ = some (.float .f64 e1) := LL2.out.cell 0
          have l1 : v2.cell? ⟨l, 1, none⟩ = some (.float .f64 d1) := LL2.out.cell 1
          have m0 : v2.cell? ⟨l2, 0, none⟩ = some (.float .f64 e2) := MM2.out.cell 0
          have m1 : v2.cell? ⟨l2, 1, none⟩ = some (.float .f64 d2) := MM2.out.cell 1
          go_wp2_with fail
          refine (newb_good e2 d2 v2 HG2.out).mono ?_
          rintro e v3 ⟨p2, rfl, Op2, Bp23, bb⟩
          have Lp2 : Hid (v2.heap.size ≤ p2 ∧ p2 < v3.heap.size) := Lib.hid ⟨Op2.out, Blk.lt Bp23.out⟩
          clear Op2
          have Z2 : Hid (v2.heap.size ≤ v3.heap.size) := Lib.hid bb.size
          have Bp13 : Hid (Bud 96 v3 p1 e1 d1 0 0) := Lib.hid (Blk.below Bp12.out bb (Blk.lt Bp12.out))
          clear Bp12
          have Bq13 : Hid (Bud 98 v3 q1 e1 d1 0 0) := Lib.hid (Blk.below Bq12.out bb (Blk.lt Bq12.out))
          clear Bq12
          have LL3 := Lib.hid (LL2.out.below bb (Blk.lt LL2.out))
          have MM3 := Lib.hid (MM2.out.below bb (Blk.lt MM2.out))
          have B3 := Lib.hid (B2.out.trans (bb.mono B2.out.size))
          clear bb LL2 MM2 l0 l1 m0 m1
          have l0 : v3.cell? ⟨l, 0, none⟩ = some (.float .f64 e1) := LL3.out.cell 0
          have l1 : v3.cell? ⟨l, 1, none⟩ = some (.float .f64 d1) := LL3.out.cell 1
          have m0 : v3.cell? ⟨l2, 0, none⟩ = some (.float .f64 e2) := MM3.out.cell 0
          have m1 : v3.cell? ⟨l2, 1, none⟩ = some (.float .f64 d2) := MM3.out.cell 1
          go_wp2_with fail
          refine (rnewb_good e2 d2 v3 HG2.out).mono ?_
          rintro e v4 ⟨q2, rfl, Oq2, Bq24, bb⟩
          have Lq2 : Hid (v3.heap.size ≤ q2 ∧ q2 < v4.heap.size) := Lib.hid ⟨Oq2.out, Blk.lt Bq24.out⟩
          clear Oq2
          have Z3 : Hid (v3.heap.size ≤ v4.heap.size) := Lib.hid bb.size
          have Bp14 : Hid (Bud 96 v4 p1 e1 d1 0 0) := Lib.hid (Blk.below Bp13.out bb (Blk.lt Bp13.out))
          clear Bp13
          have Bq14 : Hid (Bud 98 v4 q1 e1 d1 0 0) := Lib.hid (Blk.below Bq13.out bb (Blk.lt Bq13.out))
          clear Bq13
          have Bp24 : Hid (Bud 96 v4 p2 e2 d2 0 0) := Lib.hid (Blk.below Bp23.out bb (Blk.lt Bp23.out))
          clear Bp23
          have LL4 := Lib.hid (LL3.out.below bb (Blk.lt LL3.out))
          have MM4 := Lib.hid (MM3.out.below bb (Blk.lt MM3.out))
          have B4 := Lib.hid (B3.out.trans (bb.mono B3.out.size))
          clear bb LL3 MM3 l0 l1 m0 m1
          have ORD : Hid (w.heap.size ≤ v0.heap.size ∧ v0.heap.size ≤ p1 ∧ p1 < q1 ∧ v0.heap.size ≤ p2 ∧ p2 < q2 ∧ q1 < p2) := Lib.hid (by have z := B0.out.size; have z0 := Z0.out; have z1 := Z1.out; have z2 := Z2.out; have z3 := Z3.out; have a1 := Lp1.out; have a2 := Lq1.out; have a3 := Lp2.out; have a4 := Lq2.out; omega)
          have NE1 : Hid (nn e1 ∧ nn d1) := Lib.hid (by have h := HG1.out; simp only [Bool.and_eq_true] at h; exact ⟨fin_nn h.1, fin_nn h.2⟩)
          have PA : Hid (PS v4 p1 q1 e1 d1) := Lib.hid ⟨0, 0, nn_0, nn_0, Bp14.out, Bq14.out⟩
          clear Bp14 Bq14
          have NE2 : Hid (nn e2 ∧ nn d2) := Lib.hid (by have h := HG2.out; simp only [Bool.and_eq_true] at h; exact ⟨fin_nn h.1, fin_nn h.2⟩)
          have PB : Hid (PS v4 p2 q2 e2 d2) := Lib.hid ⟨0, 0, nn_0, nn_0, Bp24.out, Bq24.out⟩
          clear Bp24 Bq24
          clear LL4 MM4 B1 B2 B3 Z0 Z1 Z2 Z3
          have WA := B4
          clear B4 B0
          go_wp2_with fail
          go_loopw [17] (fun z wx => ∃ k : Nat, z = .int .i64 k ∧ Hid (k ≤ k1 ∨ k ≤ k2) ∧ Hid (Below w.heap.size w wx) ∧ Hid (PS wx p1 q1 e1 d1) ∧ Hid (PS wx p2 q2 e2 d2)) (fun z _ => k1 + k2 - (intOf z).toNat)
          case atStart => exact ⟨0, rfl, Lib.hid (.inl (Nat.zero_le _)), WA, PA, PB⟩
          case round =>
            clear WA PA PB
            obtain ⟨i, rfl, HI, WA, PA, PB⟩ := hrel
            have hi0 : i ≤ 140737488354000 := by have := HI.out; omega
            have m1 : IntKind.i64.wrap ((i : Int) + 1) = ((i + 1 : Nat) : Int) := by rw [IntKind.wrap_i64] <;> omega
            by_cases hi1 : i < k1
            · by_cases hi2 : i < k2
              · have d1' : decide ((i : Int) < (k1 : Int)) = true := by simp; omega
                have d2' : decide ((i : Int) < (k2 : Int)) = true := by simp; omega
                obtain ⟨b1, off1, hA1, hbl1, a0, a1, a2, a3, a4⟩ := (HS1.out.below WA.out) i hi1
                cases hA1
                obtain ⟨b2, off2, hA2, hbl2, b0', b1', b2', b3', b4'⟩ := (HS2.out.below WA.out) i hi2
                cases hA2
                go_wp2_with fail
                refine (spent_ps p1 q1 e1 d1 (f1 i) wr PA.out NE1.out.1 NE1.out.2 (HO1.out i hi1).1 (HO1.out i hi1).2).mono ?_
                rintro e wy ⟨rfl, hps, hf⟩
                have PAx := Lib.hid hps
                have PBx := Lib.hid (PB.out.fr hf (by have := ORD.out; omega) (by have := ORD.out; omega))
                have WAx := Lib.hid (WA.out.trans (hf.below (B := w.heap.size) WA.out.size (fun j hj => by have := ORD.out; omega)))
                clear hf hps WA PA PB
                have PA := PAx
                have WA := WAx
                clear PAx WAx
                have PB := PBx
                clear PBx
                clear a0 a1 a2 a3 a4 hbl1
                clear b0' b1' b2' b3' b4' hbl2
                obtain ⟨b3, off3, hA2, hbl2, b0', b1', b2', b3', b4'⟩ := (HS2.out.below WA.out) i hi2
                cases hA2
                go_wp2_with fail
                refine (spent_ps p2 q2 e2 d2 (f2 i) wy PB.out NE2.out.1 NE2.out.2 (HO2.out i hi2).1 (HO2.out i hi2).2).mono ?_
                rintro e wz ⟨rfl, hps, hf⟩
                have PBx := Lib.hid hps
                have PAx := Lib.hid (PA.out.fr hf (by have := ORD.out; omega) (by have := ORD.out; omega))
                have WAx := Lib.hid (WA.out.trans (hf.below (B := w.heap.size) WA.out.size (fun j hj => by have := ORD.out; omega)))
                clear hf hps WA PB PA
                have PB := PBx
                have WA := WAx
                clear PBx WAx
                have PA := PAx
                clear PAx
                clear b0' b1' b2' b3' b4' hbl2
                go_wp2_with fail
                go_roundw
                case rel => exact ⟨i + 1, by go_num, Lib.hid (by omega), WA, PA, PB⟩
                case measure => simp [intOf]; omega
              · have d1' : decide ((i : Int) < (k1 : Int)) = true := by simp; omega
                have d2' : decide ((i : Int) < (k2 : Int)) = false := by simp; omega
                obtain ⟨b1, off1, hA1, hbl1, a0, a1, a2, a3, a4⟩ := (HS1.out.below WA.out) i hi1
                cases hA1
                go_wp2_with fail
                refine (spent_ps p1 q1 e1 d1 (f1 i) wr PA.out NE1.out.1 NE1.out.2 (HO1.out i hi1).1 (HO1.out i hi1).2).mono ?_
                rintro e wy ⟨rfl, hps, hf⟩
                have PAx := Lib.hid hps
                have PBx := Lib.hid (PB.out.fr hf (by have := ORD.out; omega) (by have := ORD.out; omega))
                have WAx := Lib.hid (WA.out.trans (hf.below (B := w.heap.size) WA.out.size (fun j hj => by have := ORD.out; omega)))
                clear hf hps WA PA PB
                have PA := PAx
                have WA := WAx
                clear PAx WAx
                have PB := PBx
                clear PBx
                clear a0 a1 a2 a3 a4 hbl1
                go_wp2_with fail
                go_roundw
                case rel => exact ⟨i + 1, by go_num, Lib.hid (by omega), WA, PA, PB⟩
                case measure => simp [intOf]; omega
            · by_cases hi2 : i < k2
              · have d1' : decide ((i : Int) < (k1 : Int)) = false := by simp; omega
                have d2' : decide ((i : Int) < (k2 : Int)) = true := by simp; omega
                obtain ⟨b2, off2, hA2, hbl2, b0', b1', b2', b3', b4'⟩ := (HS2.out.below WA.out) i hi2
                cases hA2
                go_wp2_with fail
                refine (spent_ps p2 q2 e2 d2 (f2 i) wr PB.out NE2.out.1 NE2.out.2 (HO2.out i hi2).1 (HO2.out i hi2).2).mono ?_
                rintro e wz ⟨rfl, hps, hf⟩
                have PBx := Lib.hid hps
                have PAx := Lib.hid (PA.out.fr hf (by have := ORD.out; omega) (by have := ORD.out; omega))
                have WAx := Lib.hid (WA.out.trans (hf.below (B := w.heap.size) WA.out.size (fun j hj => by have := ORD.out; omega)))
                clear hf hps WA PB PA
                have PB := PBx
                have WA := WAx
                clear PBx WAx
                have PA := PAx
                clear PAx
                clear b0' b1' b2' b3' b4' hbl2
                go_wp2_with fail
                go_roundw
                case rel => exact ⟨i + 1, by go_num, Lib.hid (by omega), WA, PA, PB⟩
                case measure => simp [intOf]; omega
              · have d1' : decide ((i : Int) < (k1 : Int)) = false := by simp; omega
                have d2' : decide ((i : Int) < (k2 : Int)) = false := by simp; omega
                go_wp2_with fail
                go_ret
                exact ⟨rfl, HXE.out ▸ WA.out⟩
end Go.Proofs.Ytcfbaildcocnhaa

/-
  Walk: the law NoiseGrows.
-/
import Derived.Test.YtcfbaildcocnhaaNv
import Derived.Test.YtcfbaildcocnhaaGt
import Derived.Test.YtcfbaildcocnhaaLr
set_option linter.unusedVariables false
set_option linter.unusedSimpArgs false
namespace Go.Proofs.Ytcfbaildcocnhaa
open Go.RowKit

theorem geB_alike {x y z : Nat} (h : fv y = fv z) : geB x y = geB x z := by
  unfold geB
  rw [ford_eq, ford_eq, h]
/-- What Advanced told. -/
def AdvT (ta tb : Nat) (c : Int) (rn : Int) (S : Nat) : Prop := (ta = 0 ∧ tb = 0 ∧ (c = 2 ∨ c = 260)) ∨ (c = 0 ∧ (fin (fv ta) && fin (fv tb)) = true ∧ 0 ≤ rn ∧ geB tb S = true)
theorem adv_told {T : LF} {ta tb S : Nat} {rn : Int} (h : (∃ c, T = (fv 0, fv 0, c) ∧ (c = 2 ∨ c = 260)) ∨ (∃ e d, T = (e, d, 0) ∧ (fin e && fin d) = true ∧ 0 ≤ rn ∧ ∀ q, fv q = d → geB q S = true)) (ha : fv ta = T.1) (hb : fv tb = T.2.1) : AdvT ta tb T.2.2 rn S := by
  rcases h with ⟨c, rfl, hc⟩ | ⟨e, d, rfl, hf, hn, hg⟩
  · exact .inl ⟨fv_inj ha (by decide), fv_inj hb (by decide), hc⟩
  · refine .inr ⟨rfl, ?_, hn, hg _ hb⟩
    rw [ha, hb]; exact hf
set_option maxRecDepth 100000 in
set_option maxHeartbeats 16000000 in
theorem grows_law (xe : Nat) (oe : Int) (xd : Nat) (od : Int) (xn : Nat) (on : Int) (xs : Nat) (os : Int) (rn : Int) (w : World)
    (hx0 : (Lit.float .f64 xe).wf = true) (hx1 : (Lit.float .f64 xd).wf = true) (hx2 : (Lit.float .f64 xn).wf = true) (hx3 : (Lit.float .f64 xs).wf = true) :
    Calls Try.prog 11 #[.agg #[.float .f64 xe, .int .i64 oe, .float .f64 xd, .int .i64 od, .float .f64 xn, .int .i64 on, .float .f64 xs, .int .i64 os, .int .i64 rn]] w fun e w' => e = .returned (.bool true) ∧ Below w.heap.size w w' := by
  have HW0 := Lib.hid hx0
  have HW1 := Lib.hid hx1
  have HW2 := Lib.hid hx2
  have HW3 := Lib.hid hx3
  clear hx0 hx1 hx2 hx3
  have F0 := Lib.hid ((Below.refl w.heap.size w).alloc (Nat.le_refl _) (.cells #[.float .f64 xe, .int .i64 oe, .float .f64 xd, .int .i64 od, .float .f64 xn, .int .i64 on, .float .f64 xs, .int .i64 os, .int .i64 rn] 46))
  have HX : Hid (Blk (w.alloc (.cells #[.float .f64 xe, .int .i64 oe, .float .f64 xd, .int .i64 od, .float .f64 xn, .int .i64 on, .float .f64 xs, .int .i64 os, .int .i64 rn] 46)) w.heap.size 46 [.float .f64 xe, .int .i64 oe, .float .f64 xd, .int .i64 od, .float .f64 xn, .int .i64 on, .float .f64 xs, .int .i64 os, .int .i64 rn]) := Lib.hid (Blk.new w 46 _)
  go_enter Try.func11, Try.ntmps11
  go_wp2_with fail
  refine (awake_any _).mono ?_
  rintro e wa ⟨rfl, hb⟩
  have FA := Lib.hid (F0.out.trans (hb.mono F0.out.size))
  have XA := Lib.hid (HX.out.below hb (Blk.lt HX.out))
  clear hb F0 HX
  go_upto_region 3 with fail
  generalize hX : w.heap.size = X at XA ⊢
  have HXE := Lib.hid hX
  clear hX
  have x0 : wa.cell? ⟨X, 0, none⟩ = some (.float .f64 xe) := XA.out.cell 0
  have x1 : wa.cell? ⟨X, 1, none⟩ = some (.int .i64 oe) := XA.out.cell 1
  go_wp2_with fail
  clear x0 x1
  refine (value_any xe oe wa HW0.out).mono ?_
  rintro e wb ⟨v, rfl, -, hwv, bb⟩
  have VW := Lib.hid hwv
  have XB := Lib.hid (XA.out.below bb (Blk.lt XA.out))
  have FB := Lib.hid (FA.out.trans (bb.mono FA.out.size))
  clear bb XA FA hwv
  go_wp2_with fail
  refine (exp_any v wb).mono ?_
  rintro e wc0 ⟨r, cc, m, rfl, rfl, hok⟩
  have XC : Hid (Blk (wb.drewN m) X 46 [.float .f64 xe, .int .i64 oe, .float .f64 xd, .int .i64 od, .float .f64 xn, .int .i64 on, .float .f64 xs, .int .i64 os, .int .i64 rn]) := XB
  have FC : Hid (Below w.heap.size w (wb.drewN m)) := Lib.hid (belowN FB.out m)
  clear XB FB
  generalize wb.drewN m = w1 at *
  have HEX := Lib.hid hok.2
  clear hok
  obtain ⟨A, hA⟩ : ∃ A, (FloatKind.f64.format.order v 13872740517789302784 == some .gt || FloatKind.f64.format.order v 13872740517789302784 == some .eq) = A := ⟨_, rfl⟩
  obtain ⟨B, hB⟩ : ∃ B, (FloatKind.f64.format.order v 4649368480934526976 == some .lt || FloatKind.f64.format.order v 4649368480934526976 == some .eq) = B := ⟨_, rfl⟩
  have hin : inE (fv v) = (A && B) := by unfold inE; rw [← ford_eq, ← ford_eq, hA, hB]
  have HIN := Lib.hid hin
  clear hin
  have key : (inE (fv v) = true ∧ A = true ∧ B = true ∧ cc = 0 ∧ fv r = expF (fv v)) ∨ (inE (fv v) = false ∧ (A && B) = false ∧ cc = 260 ∧ r = 0) := by
    have h := HIN.out
    rcases HEX.out with ⟨h1, h2, h3⟩ | ⟨h1, h2, h3⟩
    · rw [h1] at h; cases A <;> cases B <;> simp at h; exact .inl ⟨h1, rfl, rfl, h2, h3⟩
    · rw [h1] at h; exact .inr ⟨h1, h.symm, h2, h3⟩
  have KEY := Lib.hid key
  clear key
  go_upto_region 5 with fail
  go_cut [6] from 15 (fun v6 wx => v6 = .bool (A && B) ∧ wx = w1)
  case first =>
    clear KEY HEX HIN
    cases A
    · go_wp2_with fail
      go_meet
      exact ⟨rfl, rfl⟩
    · go_wp2_with fail
      go_meet
      exact ⟨rfl, rfl⟩
  case rest =>
  obtain ⟨rfl, rfl⟩ := hcut
  go_upto_if 32 with fail
  go_cut [4, 5, 6] from 15 (fun v4 v5 v6 wx => wx = wc)
  case first =>
    rcases KEY.out with ⟨h1, rfl, rfl, rfl, h5⟩ | ⟨h1, h2, rfl, rfl⟩
    · have hg := exp_grows h1 h5
      clear h1 h5 KEY HEX HIN
      cases h0 : ge0 (fv v)
      · have hb := hg.2 h0
        have hz : (FloatKind.f64.format.order v 0 == some .gt || FloatKind.f64.format.order v 0 == some .eq) = false := by rw [ge0_eq]; exact h0
        have hb1 : (FloatKind.f64.format.order r 0 == some .gt || FloatKind.f64.format.order r 0 == some .eq) = true := hb.1
        have hb2 : (FloatKind.f64.format.order r 4607182418800017408 == some .lt || FloatKind.f64.format.order r 4607182418800017408 == some .eq) = true := hb.2
        obtain ⟨L, hL⟩ : ∃ L, (FloatKind.f64.format.order v 0 == some .lt) = L := ⟨_, rfl⟩
        clear hg hb h0
        cases L
        · go_wp2_with fail
          go_meet
          rfl
        · go_wp2_with fail
          go_meet
          rfl
      · have hb := hg.1 h0
        have hz : (FloatKind.f64.format.order v 0 == some .gt || FloatKind.f64.format.order v 0 == some .eq) = true := by rw [ge0_eq]; exact h0
        have hl : (FloatKind.f64.format.order v 0 == some .lt) = false := lt_ge h0
        have hb1 : (FloatKind.f64.format.order r 4607182418800017408 == some .gt || FloatKind.f64.format.order r 4607182418800017408 == some .eq) = true := hb
        clear hg hb h0
        go_wp2_with fail
        go_meet
        rfl
    · clear KEY HEX HIN
      have o2 : FloatKind.f64.format.order 0 0 = some .eq := by decide
      clear hA hB
      cases A
      · cases B
        · go_wp2_with fail
          go_meet
          rfl
        · go_wp2_with fail
          go_meet
          rfl
      · cases B
        · go_wp2_with fail
          go_meet
          rfl
        · cases h2
  case rest =>
    subst hcut
    clear hA hB HIN HEX KEY
    have x2 : wc.cell? ⟨X, 2, none⟩ = some (.float .f64 xd) := XC.out.cell 2
    have x3 : wc.cell? ⟨X, 3, none⟩ = some (.int .i64 od) := XC.out.cell 3
    go_wp2_with fail
    clear x2 x3
    refine (value_any xd od wc HW1.out).mono ?_
    rintro e wd ⟨d, rfl, -, hwd, bb⟩
    have DW := Lib.hid hwd
    have XD := Lib.hid (XC.out.below bb (Blk.lt XC.out))
    have FD := Lib.hid (FC.out.trans (bb.mono FC.out.size))
    clear bb XC FC hwd
    go_upto_region 12 with (refine wpList_store_row rfl 34 _ _ rfl wd.heap.size #[.float .f64 v, .float .f64 d] rfl rfl 34 #[.float .f64 0, .float .f64 0] (heap_alloc_new _ _) (by kernel_rfl) rfl (by kernel_rfl) ?_)
    have L1 : Hid (Blk ((wd.alloc (.cells #[.float .f64 0, .float .f64 0] 34)).setRow wd.heap.size #[.float .f64 v, .float .f64 d]) wd.heap.size 34 [.float .f64 v, .float .f64 d]) := Lib.hid (setRow_heap _ _ _ _ _ _ (heap_alloc_new _ _))
    have bb : Below wd.heap.size wd ((wd.alloc (.cells #[.float .f64 0, .float .f64 0] 34)).setRow wd.heap.size #[.float .f64 v, .float .f64 d]) := below_setRow ((Below.refl _ _).alloc (Nat.le_refl _) _) (Nat.le_refl _) _
    have X1 := Lib.hid (XD.out.below bb (Blk.lt XD.out))
    have B1 := Lib.hid (FD.out.trans (bb.mono FD.out.size))
    clear bb XD FD
    generalize (wd.alloc (.cells #[.float .f64 0, .float .f64 0] 34)).setRow wd.heap.size #[.float .f64 v, .float .f64 d] = w1 at *
    generalize wd.heap.size = l at *
    cases hg : (fin (fv v) && fin (fv d))
    · have HG := Lib.hid hg
      clear hg
      have l0 : w1.cell? ⟨l, 0, none⟩ = some (.float .f64 v) := L1.out.cell 0
      have l1 : w1.cell? ⟨l, 1, none⟩ = some (.float .f64 d) := L1.out.cell 1
      have x8 : w1.cell? ⟨X, 8, none⟩ = some (.int .i64 rn) := X1.out.cell 8
      go_wp2_with fail
      clear l0 l1 x8
      obtain ⟨c1, hT, hc, hc2⟩ := simple_bad HG.out 1
      have hcc := simple_any v d 1 w1
      rw [hT] at hcc
      refine hcc.mono ?_
      rintro e' w2 ⟨a, b, rfl, ha, hb, bb⟩
      obtain rfl : a = 0 := fv_inj ha (by decide)
      obtain rfl : b = 0 := fv_inj hb (by decide)
      clear ha hb hT hcc
      obtain rfl : c1 = 260 := hc2 (by decide)
      clear hc hc2
      dsimp only
      have L2 := Lib.hid (L1.out.below bb (Blk.lt L1.out))
      have X2 := Lib.hid (X1.out.below bb (Blk.lt X1.out))
      have B2 := Lib.hid (B1.out.trans (bb.mono B1.out.size))
      clear bb B1 L1 X1
      go_upto_region 13 with (refine wpList_store_row rfl 34 _ _ rfl w2.heap.size #[.float .f64 0, .float .f64 0] rfl rfl 34 #[.float .f64 0, .float .f64 0] (heap_alloc_new _ _) (by kernel_rfl) rfl (by kernel_rfl) ?_)
      have P3 : Hid (Blk ((w2.alloc (.cells #[.float .f64 0, .float .f64 0] 34)).setRow w2.heap.size #[.float .f64 0, .float .f64 0]) w2.heap.size 34 [.float .f64 0, .float .f64 0]) := Lib.hid (setRow_heap _ _ _ _ _ _ (heap_alloc_new _ _))
      have bb : Below w2.heap.size w2 ((w2.alloc (.cells #[.float .f64 0, .float .f64 0] 34)).setRow w2.heap.size #[.float .f64 0, .float .f64 0]) := below_setRow ((Below.refl _ _).alloc (Nat.le_refl _) _) (Nat.le_refl _) _
      have L3 := Lib.hid (L2.out.below bb (Blk.lt L2.out))
      have X3 := Lib.hid (X2.out.below bb (Blk.lt X2.out))
      have B3 := Lib.hid (B2.out.trans (bb.mono B2.out.size))
      clear bb B2 L2 X2
      generalize (w2.alloc (.cells #[.float .f64 0, .float .f64 0] 34)).setRow w2.heap.size #[.float .f64 0, .float .f64 0] = w3 at *
      generalize w2.heap.size = pa at *
      have l0 : w3.cell? ⟨l, 0, none⟩ = some (.float .f64 v) := L3.out.cell 0
      have l1 : w3.cell? ⟨l, 1, none⟩ = some (.float .f64 d) := L3.out.cell 1
      have x8 : w3.cell? ⟨X, 8, none⟩ = some (.int .i64 rn) := X3.out.cell 8
      go_wp2_with fail
      clear l0 l1 x8
      obtain ⟨c2, hT, hc, hc2⟩ := simple_bad HG.out 0
      have hcc := simple_any v d 0 w3
      rw [hT] at hcc
      refine hcc.mono ?_
      rintro e' w4 ⟨a, b, rfl, ha, hb, bb⟩
      obtain rfl : a = 0 := fv_inj ha (by decide)
      obtain rfl : b = 0 := fv_inj hb (by decide)
      clear ha hb hT hcc
      obtain rfl : c2 = 260 := hc2 (by decide)
      clear hc hc2
      dsimp only
      have L4 := Lib.hid (L3.out.below bb (Blk.lt L3.out))
      have X4 := Lib.hid (X3.out.below bb (Blk.lt X3.out))
      have P4 := Lib.hid (P3.out.below bb (Blk.lt P3.out))
      have B4 := Lib.hid (B3.out.trans (bb.mono B3.out.size))
      clear bb B3 L3 X3 P3
      go_upto_region 14 with (refine wpList_store_row rfl 34 _ _ rfl w4.heap.size #[.float .f64 0, .float .f64 0] rfl rfl 34 #[.float .f64 0, .float .f64 0] (heap_alloc_new _ _) (by kernel_rfl) rfl (by kernel_rfl) ?_)
      have Q5 : Hid (Blk ((w4.alloc (.cells #[.float .f64 0, .float .f64 0] 34)).setRow w4.heap.size #[.float .f64 0, .float .f64 0]) w4.heap.size 34 [.float .f64 0, .float .f64 0]) := Lib.hid (setRow_heap _ _ _ _ _ _ (heap_alloc_new _ _))
      have bb : Below w4.heap.size w4 ((w4.alloc (.cells #[.float .f64 0, .float .f64 0] 34)).setRow w4.heap.size #[.float .f64 0, .float .f64 0]) := below_setRow ((Below.refl _ _).alloc (Nat.le_refl _) _) (Nat.le_refl _) _
      have L5 := Lib.hid (L4.out.below bb (Blk.lt L4.out))
      have X5 := Lib.hid (X4.out.below bb (Blk.lt X4.out))
      have P5 := Lib.hid (P4.out.below bb (Blk.lt P4.out))
      have B5 := Lib.hid (B4.out.trans (bb.mono B4.out.size))
      clear bb B4 L4 X4 P4
      generalize (w4.alloc (.cells #[.float .f64 0, .float .f64 0] 34)).setRow w4.heap.size #[.float .f64 0, .float .f64 0] = w5 at *
      generalize w4.heap.size = pb at *
      have l0 : w5.cell? ⟨l, 0, none⟩ = some (.float .f64 v) := L5.out.cell 0
      have l1 : w5.cell? ⟨l, 1, none⟩ = some (.float .f64 d) := L5.out.cell 1
      have x8 : w5.cell? ⟨X, 8, none⟩ = some (.int .i64 rn) := X5.out.cell 8
      go_wp2_with fail
      clear l0 l1 x8
      obtain ⟨c3, hT, hc, hc2⟩ := simple_bad HG.out rn
      have hcc := simple_any v d rn w5
      rw [hT] at hcc
      refine hcc.mono ?_
      rintro e' w6 ⟨a, b, rfl, ha, hb, bb⟩
      obtain rfl : a = 0 := fv_inj ha (by decide)
      obtain rfl : b = 0 := fv_inj hb (by decide)
      clear ha hb hT hcc
      have hc3 : (c3 == 0) = false := by rcases hc with rfl | rfl <;> rfl
      have HC3 := Lib.hid hc3
      clear hc hc2 hc3
      dsimp only
      have L6 := Lib.hid (L5.out.below bb (Blk.lt L5.out))
      have X6 := Lib.hid (X5.out.below bb (Blk.lt X5.out))
      have P6 := Lib.hid (P5.out.below bb (Blk.lt P5.out))
      have Q6 := Lib.hid (Q5.out.below bb (Blk.lt Q5.out))
      have B6 := Lib.hid (B5.out.trans (bb.mono B5.out.size))
      clear bb B5 L5 X5 P5 Q5
      go_upto_region 15 with (refine wpList_store_row rfl 34 _ _ rfl w6.heap.size #[.float .f64 0, .float .f64 0] rfl rfl 34 #[.float .f64 0, .float .f64 0] (heap_alloc_new _ _) (by kernel_rfl) rfl (by kernel_rfl) ?_)
      have R7 : Hid (Blk ((w6.alloc (.cells #[.float .f64 0, .float .f64 0] 34)).setRow w6.heap.size #[.float .f64 0, .float .f64 0]) w6.heap.size 34 [.float .f64 0, .float .f64 0]) := Lib.hid (setRow_heap _ _ _ _ _ _ (heap_alloc_new _ _))
      have bb : Below w6.heap.size w6 ((w6.alloc (.cells #[.float .f64 0, .float .f64 0] 34)).setRow w6.heap.size #[.float .f64 0, .float .f64 0]) := below_setRow ((Below.refl _ _).alloc (Nat.le_refl _) _) (Nat.le_refl _) _
      have L7 := Lib.hid (L6.out.below bb (Blk.lt L6.out))
      have X7 := Lib.hid (X6.out.below bb (Blk.lt X6.out))
      have P7 := Lib.hid (P6.out.below bb (Blk.lt P6.out))
      have Q7 := Lib.hid (Q6.out.below bb (Blk.lt Q6.out))
      have B7 := Lib.hid (B6.out.trans (bb.mono B6.out.size))
      clear bb B6 L6 X6 P6 Q6
      generalize (w6.alloc (.cells #[.float .f64 0, .float .f64 0] 34)).setRow w6.heap.size #[.float .f64 0, .float .f64 0] = w7 at *
      generalize w6.heap.size = pc at *
      have l0 : w7.cell? ⟨l, 0, none⟩ = some (.float .f64 v) := L7.out.cell 0
      have l1 : w7.cell? ⟨l, 1, none⟩ = some (.float .f64 d) := L7.out.cell 1
      have x8 : w7.cell? ⟨X, 8, none⟩ = some (.int .i64 rn) := X7.out.cell 8
      go_wp2_with fail
      clear l0 l1 x8
      have hl := lgood_any v d w7
      rw [HG.out] at hl
      refine hl.mono ?_
      rintro e' w8 ⟨rfl, bb⟩
      clear hl
      have L8 := Lib.hid (L7.out.below bb (Blk.lt L7.out))
      have X8 := Lib.hid (X7.out.below bb (Blk.lt X7.out))
      have P8 := Lib.hid (P7.out.below bb (Blk.lt P7.out))
      have Q8 := Lib.hid (Q7.out.below bb (Blk.lt Q7.out))
      have R8 := Lib.hid (R7.out.below bb (Blk.lt R7.out))
      have B8 := Lib.hid (B7.out.trans (bb.mono B7.out.size))
      clear bb B7 L7 X7 P7 Q7 R7
      have p0 : w8.cell? ⟨pa, 0, none⟩ = some (.float .f64 0) := P8.out.cell 0
      have p1 : w8.cell? ⟨pa, 1, none⟩ = some (.float .f64 0) := P8.out.cell 1
      have r0 : w8.cell? ⟨pc, 0, none⟩ = some (.float .f64 0) := R8.out.cell 0
      have r1 : w8.cell? ⟨pc, 1, none⟩ = some (.float .f64 0) := R8.out.cell 1
      have q0 := eq22 w8 0 0
      rw [show Op.floatEq .f64 0 0 = true from by decide] at q0
      have o2 : FloatKind.f64.format.order 0 0 = some .eq := by decide
      have hc3 := HC3.out
      have hc3' : (c3 != 0) = true := by rw [bne, hc3]; rfl
      go_wp2_with fail
      go_ret
      exact ⟨rfl, HXE.out ▸ B8.out⟩
    · have HG := Lib.hid hg
      clear hg
      have NV : Hid (nn v ∧ nn d) := Lib.hid (by have h := HG.out; simp only [Bool.and_eq_true] at h; exact ⟨fin_nn h.1, fin_nn h.2⟩)
      have FS : Hid (fv v = some v ∧ fv d = some d) := Lib.hid (by have h := HG.out; simp only [Bool.and_eq_true] at h; exact ⟨fin_some h.1, fin_some h.2⟩)
      have l0 : w1.cell? ⟨l, 0, none⟩ = some (.float .f64 v) := L1.out.cell 0
      have l1 : w1.cell? ⟨l, 1, none⟩ = some (.float .f64 d) := L1.out.cell 1
      have x8 : w1.cell? ⟨X, 8, none⟩ = some (.int .i64 rn) := X1.out.cell 8
      go_wp2_with fail
      clear l0 l1 x8
      have hcc := simple_any v d 1 w1
      rw [simple_one VW.out DW.out HG.out] at hcc
      refine hcc.mono ?_
      rintro e' w2 ⟨a, b, rfl, ha, hb, bb⟩
      have ea : a = v := fv_inj ha FS.out.1
      have eb : b = d := fv_inj hb FS.out.2
      clear ha hb hcc
      subst a b
      dsimp only
      have L2 := Lib.hid (L1.out.below bb (Blk.lt L1.out))
      have X2 := Lib.hid (X1.out.below bb (Blk.lt X1.out))
      have B2 := Lib.hid (B1.out.trans (bb.mono B1.out.size))
      clear bb B1 L1 X1
      go_upto_region 13 with (refine wpList_store_row rfl 34 _ _ rfl w2.heap.size #[.float .f64 v, .float .f64 d] rfl rfl 34 #[.float .f64 0, .float .f64 0] (heap_alloc_new _ _) (by kernel_rfl) rfl (by kernel_rfl) ?_)
      have P3 : Hid (Blk ((w2.alloc (.cells #[.float .f64 0, .float .f64 0] 34)).setRow w2.heap.size #[.float .f64 v, .float .f64 d]) w2.heap.size 34 [.float .f64 v, .float .f64 d]) := Lib.hid (setRow_heap _ _ _ _ _ _ (heap_alloc_new _ _))
      have bb : Below w2.heap.size w2 ((w2.alloc (.cells #[.float .f64 0, .float .f64 0] 34)).setRow w2.heap.size #[.float .f64 v, .float .f64 d]) := below_setRow ((Below.refl _ _).alloc (Nat.le_refl _) _) (Nat.le_refl _) _
      have L3 := Lib.hid (L2.out.below bb (Blk.lt L2.out))
      have X3 := Lib.hid (X2.out.below bb (Blk.lt X2.out))
      have B3 := Lib.hid (B2.out.trans (bb.mono B2.out.size))
      clear bb B2 L2 X2
      generalize (w2.alloc (.cells #[.float .f64 0, .float .f64 0] 34)).setRow w2.heap.size #[.float .f64 v, .float .f64 d] = w3 at *
      generalize w2.heap.size = pa at *
      have l0 : w3.cell? ⟨l, 0, none⟩ = some (.float .f64 v) := L3.out.cell 0
      have l1 : w3.cell? ⟨l, 1, none⟩ = some (.float .f64 d) := L3.out.cell 1
      have x8 : w3.cell? ⟨X, 8, none⟩ = some (.int .i64 rn) := X3.out.cell 8
      go_wp2_with fail
      clear l0 l1 x8
      obtain ⟨a0, b0, hT, hz1, hz2⟩ := simple_zero HG.out
      have hcc := simple_any v d 0 w3
      rw [hT] at hcc
      refine hcc.mono ?_
      rintro e' w4 ⟨za, zb, rfl, ha, hb, bb⟩
      have ZE := Lib.hid (And.intro (zero_or ha hz1) (zero_or hb hz2))
      clear ha hb hcc hT hz1 hz2
      dsimp only
      have L4 := Lib.hid (L3.out.below bb (Blk.lt L3.out))
      have X4 := Lib.hid (X3.out.below bb (Blk.lt X3.out))
      have P4 := Lib.hid (P3.out.below bb (Blk.lt P3.out))
      have B4 := Lib.hid (B3.out.trans (bb.mono B3.out.size))
      clear bb B3 L3 X3 P3
      go_upto_region 14 with (refine wpList_store_row rfl 34 _ _ rfl w4.heap.size #[.float .f64 za, .float .f64 zb] rfl rfl 34 #[.float .f64 0, .float .f64 0] (heap_alloc_new _ _) (by kernel_rfl) rfl (by kernel_rfl) ?_)
      have Q5 : Hid (Blk ((w4.alloc (.cells #[.float .f64 0, .float .f64 0] 34)).setRow w4.heap.size #[.float .f64 za, .float .f64 zb]) w4.heap.size 34 [.float .f64 za, .float .f64 zb]) := Lib.hid (setRow_heap _ _ _ _ _ _ (heap_alloc_new _ _))
      have bb : Below w4.heap.size w4 ((w4.alloc (.cells #[.float .f64 0, .float .f64 0] 34)).setRow w4.heap.size #[.float .f64 za, .float .f64 zb]) := below_setRow ((Below.refl _ _).alloc (Nat.le_refl _) _) (Nat.le_refl _) _
      have L5 := Lib.hid (L4.out.below bb (Blk.lt L4.out))
      have X5 := Lib.hid (X4.out.below bb (Blk.lt X4.out))
      have P5 := Lib.hid (P4.out.below bb (Blk.lt P4.out))
      have B5 := Lib.hid (B4.out.trans (bb.mono B4.out.size))
      clear bb B4 L4 X4 P4
      generalize (w4.alloc (.cells #[.float .f64 0, .float .f64 0] 34)).setRow w4.heap.size #[.float .f64 za, .float .f64 zb] = w5 at *
      generalize w4.heap.size = pb at *
      have l0 : w5.cell? ⟨l, 0, none⟩ = some (.float .f64 v) := L5.out.cell 0
      have l1 : w5.cell? ⟨l, 1, none⟩ = some (.float .f64 d) := L5.out.cell 1
      have x8 : w5.cell? ⟨X, 8, none⟩ = some (.int .i64 rn) := X5.out.cell 8
      go_wp2_with fail
      clear l0 l1 x8
      have hsc := simple_code (fv v) (fv d) rn
      refine (simple_any v d rn w5).mono ?_
      rintro e' w6 ⟨sa, sb, rfl, ha, hb, bb⟩
      rw [← ha, ← hb] at hsc
      have SC := Lib.hid hsc
      clear ha hb hsc
      generalize (simpleF (fv v) (fv d) rn).2.2 = c3 at *
      have L6 := Lib.hid (L5.out.below bb (Blk.lt L5.out))
      have X6 := Lib.hid (X5.out.below bb (Blk.lt X5.out))
      have P6 := Lib.hid (P5.out.below bb (Blk.lt P5.out))
      have Q6 := Lib.hid (Q5.out.below bb (Blk.lt Q5.out))
      have B6 := Lib.hid (B5.out.trans (bb.mono B5.out.size))
      clear bb B5 L5 X5 P5 Q5
      go_upto_region 15 with (refine wpList_store_row rfl 34 _ _ rfl w6.heap.size #[.float .f64 sa, .float .f64 sb] rfl rfl 34 #[.float .f64 0, .float .f64 0] (heap_alloc_new _ _) (by kernel_rfl) rfl (by kernel_rfl) ?_)
      have R7 : Hid (Blk ((w6.alloc (.cells #[.float .f64 0, .float .f64 0] 34)).setRow w6.heap.size #[.float .f64 sa, .float .f64 sb]) w6.heap.size 34 [.float .f64 sa, .float .f64 sb]) := Lib.hid (setRow_heap _ _ _ _ _ _ (heap_alloc_new _ _))
      have bb : Below w6.heap.size w6 ((w6.alloc (.cells #[.float .f64 0, .float .f64 0] 34)).setRow w6.heap.size #[.float .f64 sa, .float .f64 sb]) := below_setRow ((Below.refl _ _).alloc (Nat.le_refl _) _) (Nat.le_refl _) _
      have L7 := Lib.hid (L6.out.below bb (Blk.lt L6.out))
      have X7 := Lib.hid (X6.out.below bb (Blk.lt X6.out))
      have P7 := Lib.hid (P6.out.below bb (Blk.lt P6.out))
      have Q7 := Lib.hid (Q6.out.below bb (Blk.lt Q6.out))
      have B7 := Lib.hid (B6.out.trans (bb.mono B6.out.size))
      clear bb B6 L6 X6 P6 Q6
      generalize (w6.alloc (.cells #[.float .f64 0, .float .f64 0] 34)).setRow w6.heap.size #[.float .f64 sa, .float .f64 sb] = w7 at *
      generalize w6.heap.size = pc at *
      have l0 : w7.cell? ⟨l, 0, none⟩ = some (.float .f64 v) := L7.out.cell 0
      have l1 : w7.cell? ⟨l, 1, none⟩ = some (.float .f64 d) := L7.out.cell 1
      have x8 : w7.cell? ⟨X, 8, none⟩ = some (.int .i64 rn) := X7.out.cell 8
      go_wp2_with fail
      clear l0 l1 x8
      have hl := lgood_any v d w7
      rw [HG.out] at hl
      refine hl.mono ?_
      rintro e' w8 ⟨rfl, bb⟩
      clear hl
      have L8 := Lib.hid (L7.out.below bb (Blk.lt L7.out))
      have X8 := Lib.hid (X7.out.below bb (Blk.lt X7.out))
      have P8 := Lib.hid (P7.out.below bb (Blk.lt P7.out))
      have Q8 := Lib.hid (Q7.out.below bb (Blk.lt Q7.out))
      have R8 := Lib.hid (R7.out.below bb (Blk.lt R7.out))
      have B8 := Lib.hid (B7.out.trans (bb.mono B7.out.size))
      clear bb B7 L7 X7 P7 Q7 R7
      have l0 : w8.cell? ⟨l, 0, none⟩ = some (.float .f64 v) := L8.out.cell 0
      have l1 : w8.cell? ⟨l, 1, none⟩ = some (.float .f64 d) := L8.out.cell 1
      have x8 : w8.cell? ⟨X, 8, none⟩ = some (.int .i64 rn) := X8.out.cell 8
      have pa0 : w8.cell? ⟨pa, 0, none⟩ = some (.float .f64 v) := P8.out.cell 0
      have pa1 : w8.cell? ⟨pa, 1, none⟩ = some (.float .f64 d) := P8.out.cell 1
      have pb0 : w8.cell? ⟨pb, 0, none⟩ = some (.float .f64 za) := Q8.out.cell 0
      have pb1 : w8.cell? ⟨pb, 1, none⟩ = some (.float .f64 zb) := Q8.out.cell 1
      have pc0 : w8.cell? ⟨pc, 0, none⟩ = some (.float .f64 sa) := R8.out.cell 0
      have pc1 : w8.cell? ⟨pc, 1, none⟩ = some (.float .f64 sb) := R8.out.cell 1
      have q1 := eq22 w8 v v
      have q2 := eq22 w8 d d
      rw [feq_self NV.out.1] at q1
      rw [feq_self NV.out.2] at q2
      have o1 := same_eq NV.out.1
      have o2 := same_eq NV.out.2
      have z1 := ZE.out.1
      have z2 := ZE.out.2
      go_upto_region 17 with fail
      by_cases hc : c3 = 0
      · subst hc
        go_wp2_with fail
        have hl := lgood_any sa sb w8
        rw [SC.out] at hl
        refine hl.mono ?_
        rintro e' w9 ⟨rfl, bb⟩
        clear hl
        clear l0 l1 x8 pa0 pa1 pb0 pb1 pc0 pc1 q1 q2 o1 o2 z1 z2
        have L9 := Lib.hid (L8.out.below bb (Blk.lt L8.out))
        have X9 := Lib.hid (X8.out.below bb (Blk.lt X8.out))
        have P9 := Lib.hid (P8.out.below bb (Blk.lt P8.out))
        have Q9 := Lib.hid (Q8.out.below bb (Blk.lt Q8.out))
        have R9 := Lib.hid (R8.out.below bb (Blk.lt R8.out))
        have B9 := Lib.hid (B8.out.trans (bb.mono B8.out.size))
        clear bb B8 L8 X8 P8 Q8 R8
        go_upto_region 19 with fail
        go_cut [13, 14] from 15 (fun v13 v14 wx => ∃ pd ta tb c4 r2, v13 = .pointer (some ⟨pd, 0, none⟩) ∧ v14 = .int .i64 c4 ∧ Blk wx pd 34 [.float .f64 ta, .float .f64 tb] ∧ fv r2 = valF xs os ∧ AdvT ta tb c4 rn r2 ∧ Below w9.heap.size w9 wx)
        case first =>
          refine wp_region_held_drew (S := fun w' => Below w9.heap.size w9 w') (by kernel_rfl) ((Below.refl w9.heap.size w9).drew) (fun hHeld => ?_)
          have V0 : Hid (Below w9.heap.size w9 w9.drew) := Lib.hid (Below.refl w9.heap.size w9).drew
          generalize w9.drew = v0 at V0 hHeld ⊢
          refine wpAnyH_take (i := 0) (oi := ⟨some 139, _, _, _, _, _⟩) (v := (.agg #[.float .f64 v, .float .f64 d])) rfl (by kernel_rfl) (by kernel_rfl) (by kernel_rfl) (fun _ _ _ h => h) (Or.inl ⟨by rfl, ?_⟩) (by assumption) ?_
          · intro w' hS; have hq := L9.out.below hS (Blk.lt L9.out); have h0 : w'.cell? ⟨l, 0, none⟩ = some (.float .f64 v) := hq.cell 0; have h1 : w'.cell? ⟨l, 1, none⟩ = some (.float .f64 d) := hq.cell 1; clear hq; go_simp; try with_reducible rfl
          simp only [Act.put, List.setIfInBounds_toArray, List.set_cons_zero, List.set_cons_succ]
          refine wpAnyH_take (i := 1) (oi := ⟨some 140, _, _, _, _, _⟩) (v := (.pointer (some ⟨X, 8, none⟩))) rfl (by kernel_rfl) (by kernel_rfl) (by kernel_rfl) (fun _ _ _ h => h) (Or.inl ⟨by rfl, ?_⟩) (by assumption) ?_
          · intro w' hS; go_simp; try with_reducible rfl
          simp only [Act.put, List.setIfInBounds_toArray, List.set_cons_zero, List.set_cons_succ]
          refine wpAnyH_take (i := 2) (oi := ⟨some 141, _, _, _, _, _⟩) (v := (.int .i64 rn)) rfl (by kernel_rfl) (by kernel_rfl) (by kernel_rfl) (fun _ _ _ h => h) (Or.inl ⟨by rfl, ?_⟩) (by assumption) ?_
          · intro w' hS; have hq := X9.out.below hS (Blk.lt X9.out); have h0 : w'.cell? ⟨X, 8, none⟩ = some (.int .i64 rn) := hq.cell 8; clear hq; go_simp; try with_reducible rfl
          simp only [Act.put, List.setIfInBounds_toArray, List.set_cons_zero, List.set_cons_succ]
          refine wpAnyH_take (i := 3) (oi := ⟨some 142, _, _, _, _, _⟩) (v := (.pointer (some ⟨X, 4, none⟩))) rfl (by kernel_rfl) (by kernel_rfl) (by kernel_rfl) (fun _ _ _ h => h) (Or.inl ⟨by rfl, ?_⟩) (by assumption) ?_
          · intro w' hS; go_simp; try with_reducible rfl
          simp only [Act.put, List.setIfInBounds_toArray, List.set_cons_zero, List.set_cons_succ]
          refine wpAnyH_take (i := 4) (oi := ⟨some 143, _, _, _, _, _⟩) (v := (.agg #[.float .f64 xn, .int .i64 on])) rfl (by kernel_rfl) (by kernel_rfl) (by kernel_rfl) (fun _ _ _ h => h) (Or.inl ⟨by rfl, ?_⟩) (by assumption) ?_
          · intro w' hS; have hq := X9.out.below hS (Blk.lt X9.out); have h0 : w'.cell? ⟨X, 4, none⟩ = some (.float .f64 xn) := hq.cell 4; have h1 : w'.cell? ⟨X, 5, none⟩ = some (.int .i64 on) := hq.cell 5; clear hq; go_simp; try with_reducible rfl
          simp only [Act.put, List.setIfInBounds_toArray, List.set_cons_zero, List.set_cons_succ]
          refine wpAnyH_take (i := 6) (oi := ⟨some 145, _, _, _, _, _⟩) (v := (.pointer (some ⟨X, 6, none⟩))) rfl (by kernel_rfl) (by kernel_rfl) (by kernel_rfl) (fun _ _ _ h => h) (Or.inl ⟨by rfl, ?_⟩) (by assumption) ?_
          · intro w' hS; go_simp; try with_reducible rfl
          simp only [Act.put, List.setIfInBounds_toArray, List.set_cons_zero, List.set_cons_succ]
          refine wpAnyH_take (i := 7) (oi := ⟨some 146, _, _, _, _, _⟩) (v := (.agg #[.float .f64 xs, .int .i64 os])) rfl (by kernel_rfl) (by kernel_rfl) (by kernel_rfl) (fun _ _ _ h => h) (Or.inl ⟨by rfl, ?_⟩) (by assumption) ?_
          · intro w' hS; have hq := X9.out.below hS (Blk.lt X9.out); have h0 : w'.cell? ⟨X, 6, none⟩ = some (.float .f64 xs) := hq.cell 6; have h1 : w'.cell? ⟨X, 7, none⟩ = some (.int .i64 os) := hq.cell 7; clear hq; go_simp; try with_reducible rfl
          simp only [Act.put, List.setIfInBounds_toArray, List.set_cons_zero, List.set_cons_succ]
          refine wpAnyH_ready (rs := [5, 13]) (by kernel_rfl) (by simp) ?_
          refine AllReadyH.cons (o := ⟨some 144, _, _, _, _, _⟩) rfl (fun K hK => ?_) (AllReadyH.cons (o := ⟨some 13, _, _, _, _, _⟩) rfl (fun K hK => ?_) AllReadyH.nil)
          · rw [if_pos (by rfl)]
            go_simp
            refine (value_any xn on v0 HW2.out).mono ?_
            rintro e' v1 ⟨r1, rfl, hv, -, bb⟩
            have Hr1 := Lib.hid hv
            clear hv
            have V1 := Lib.hid (V0.out.trans (bb.mono V0.out.size))
            clear bb V0
            dsimp only
            (try simp only [Act.put, List.setIfInBounds_toArray, List.set_cons_zero, List.set_cons_succ])
            refine hK.out _ _ V1.out (fun hHeld => ?_)
            clear hK K
            refine wpAnyH_ready (rs := [8, 13]) (by kernel_rfl) (by simp) ?_
            refine AllReadyH.cons (o := ⟨some 147, _, _, _, _, _⟩) rfl (fun K hK => ?_) (AllReadyH.cons (o := ⟨some 13, _, _, _, _, _⟩) rfl (fun K hK => ?_) AllReadyH.nil)
            · rw [if_pos (by rfl)]
              go_simp
              refine (value_any xs os v1 HW3.out).mono ?_
              rintro e' v2 ⟨r2, rfl, hv, -, bb⟩
              have Hr2 := Lib.hid hv
              clear hv
              have V2 := Lib.hid (V1.out.trans (bb.mono V1.out.size))
              clear bb V1
              dsimp only
              (try simp only [Act.put, List.setIfInBounds_toArray, List.set_cons_zero, List.set_cons_succ])
              refine hK.out _ _ V2.out (fun hHeld => ?_)
              clear hK K
              refine wpAnyH_ready (rs := [9, 13]) (by kernel_rfl) (by simp) ?_
              refine AllReadyH.cons (o := ⟨some 148, _, _, _, _, _⟩) rfl (fun K hK => ?_) (AllReadyH.cons (o := ⟨some 13, _, _, _, _, _⟩) rfl (fun K hK => ?_) AllReadyH.nil)
              · rw [if_pos (by rfl)]
                go_simp
                have hac := adv_cases v d rn (fv r1) r2 HG.out
                refine (adv_any v d rn r1 r2 v2).mono ?_
                rintro e' v3 ⟨ta, tb, rfl, ha, hb, bb⟩
                obtain ⟨T, hT⟩ : ∃ T, T = advF (fv v) (fv d) rn (fv r1) (fv r2) := ⟨_, rfl⟩
                rw [← hT] at ha hb hac ⊢
                clear hT
                have TA := Lib.hid (adv_told hac ha hb)
                clear ha hb hac
                generalize T.2.2 = c4 at *
                clear T
                have V3 := Lib.hid (V2.out.trans (bb.mono V2.out.size))
                clear bb V2
                dsimp only
                (try simp only [Act.put, List.setIfInBounds_toArray, List.set_cons_zero, List.set_cons_succ])
                refine hK.out _ _ V3.out (fun hHeld => ?_)
                clear hK K
                refine wpAnyH_take (i := 10) (oi := ⟨some 138, _, _, _, _, _⟩) (v := (.tuple #[.agg #[.float .f64 ta, .float .f64 tb], .int .i64 c4])) rfl (by kernel_rfl) (by kernel_rfl) (by kernel_rfl) (fun _ _ _ h => h) (Or.inl ⟨by rfl, ?_⟩) (by assumption) ?_
                · intro w' hS; go_simp; try with_reducible rfl
                simp only [Act.put, List.setIfInBounds_toArray, List.set_cons_zero, List.set_cons_succ]
                refine wpAnyH_take (i := 11) (oi := ⟨some 149, _, _, _, _, _⟩) (v := (.agg #[.float .f64 ta, .float .f64 tb])) rfl (by kernel_rfl) (by kernel_rfl) (by kernel_rfl) (fun _ _ _ h => h) (Or.inl ⟨by rfl, ?_⟩) (by assumption) ?_
                · intro w' hS; go_simp; try with_reducible rfl
                simp only [Act.put, List.setIfInBounds_toArray, List.set_cons_zero, List.set_cons_succ]
                refine wpAnyH_take (i := 12) (oi := ⟨some 150, _, _, _, _, _⟩) (v := (.int .i64 c4)) rfl (by kernel_rfl) (by kernel_rfl) (by kernel_rfl) (fun _ _ _ h => h) (Or.inl ⟨by rfl, ?_⟩) (by assumption) ?_
                · intro w' hS; go_simp; try with_reducible rfl
                simp only [Act.put, List.setIfInBounds_toArray, List.set_cons_zero, List.set_cons_succ]
                refine wpAnyH_ready (rs := [13]) (by kernel_rfl) (by simp) ?_
                refine AllReadyH.cons (o := ⟨some 13, _, _, _, _, _⟩) rfl (fun K hK => ?_) AllReadyH.nil
                rw [if_pos (by rfl)]
                go_simp
                have V4 := Lib.hid (V3.out.alloc V3.out.size (.cells #[.float .f64 0, .float .f64 0] 34))
                have M4 : Hid (Blk (v3.alloc (.cells #[.float .f64 0, .float .f64 0] 34)) v3.heap.size 34 [.float .f64 0, .float .f64 0]) := Lib.hid (Blk.new v3 34 _)
                have G : Hid (w9.heap.size ≤ v3.heap.size) := Lib.hid V3.out.size
                generalize v3.heap.size = pd at M4 G ⊢
                generalize (v3.alloc (.cells #[.float .f64 0, .float .f64 0] 34)) = v4 at *
                clear V3
                (try simp only [Act.put, List.setIfInBounds_toArray, List.set_cons_zero, List.set_cons_succ])
                refine hK.out _ _ V4.out (fun hHeld => ?_)
                clear hK K
                refine wpAnyH_ready (rs := [14]) (by kernel_rfl) (by simp) ?_
                refine AllReadyH.cons (o := ⟨none, _, _, _, _, _⟩) rfl (fun K hK => ?_) AllReadyH.nil
                rw [if_pos (by rfl)]
                (try simp only [Act.put, List.setIfInBounds_toArray, List.set_cons_zero, List.set_cons_succ])
                refine wp_store_row 34 _ _ rfl pd #[.float .f64 ta, .float .f64 tb] rfl rfl 34 #[.float .f64 0, .float .f64 0] M4.out (by kernel_rfl) rfl (by kernel_rfl) ?_
                have V5 := Lib.hid (below_setRow V4.out G.out #[.float .f64 ta, .float .f64 tb])
                have M5 : Hid (Blk (v4.setRow pd #[.float .f64 ta, .float .f64 tb]) pd 34 [.float .f64 ta, .float .f64 tb]) := Lib.hid (setRow_heap _ _ _ _ _ _ M4.out)
                generalize v4.setRow pd #[.float .f64 ta, .float .f64 tb] = v5 at *
                clear V4 M4
                (try simp only [Act.put, List.setIfInBounds_toArray, List.set_cons_zero, List.set_cons_succ])
                refine hK.out _ _ V5.out (fun hHeld => ?_)
                clear hK K
                refine wpAnyH_take (i := 15) (oi := ⟨some 14, _, _, _, _, _⟩) (v := (.int .i64 c4)) rfl (by kernel_rfl) (by kernel_rfl) (by kernel_rfl) (fun _ _ _ h => h) (Or.inl ⟨by rfl, ?_⟩) (by assumption) ?_
                · intro w' hS; go_simp; try with_reducible rfl
                simp only [Act.put, List.setIfInBounds_toArray, List.set_cons_zero, List.set_cons_succ]
                refine wpAnyH_done (by kernel_rfl) ?_ _
                go_wp2_with fail
                go_meet
                exact ⟨pd, ta, tb, c4, r2, rfl, rfl, M5.out, Hr2.out, TA.out, V5.out⟩
              · rw [if_pos (by rfl)]
                go_simp
                have V3 := Lib.hid (V2.out.alloc V2.out.size (.cells #[.float .f64 0, .float .f64 0] 34))
                have M3 : Hid (Blk (v2.alloc (.cells #[.float .f64 0, .float .f64 0] 34)) v2.heap.size 34 [.float .f64 0, .float .f64 0]) := Lib.hid (Blk.new v2 34 _)
                have G : Hid (w9.heap.size ≤ v2.heap.size) := Lib.hid V2.out.size
                generalize v2.heap.size = pd at M3 G ⊢
                generalize (v2.alloc (.cells #[.float .f64 0, .float .f64 0] 34)) = v3 at *
                clear V2
                (try simp only [Act.put, List.setIfInBounds_toArray, List.set_cons_zero, List.set_cons_succ])
                refine hK.out _ _ V3.out (fun hHeld => ?_)
                clear hK K
                refine wpAnyH_ready (rs := [9]) (by kernel_rfl) (by simp) ?_
                refine AllReadyH.cons (o := ⟨some 148, _, _, _, _, _⟩) rfl (fun K hK => ?_) AllReadyH.nil
                rw [if_pos (by rfl)]
                go_simp
                have hac := adv_cases v d rn (fv r1) r2 HG.out
                refine (adv_any v d rn r1 r2 v3).mono ?_
                rintro e' v4 ⟨ta, tb, rfl, ha, hb, bb⟩
                obtain ⟨T, hT⟩ : ∃ T, T = advF (fv v) (fv d) rn (fv r1) (fv r2) := ⟨_, rfl⟩
                rw [← hT] at ha hb hac ⊢
                clear hT
                have TA := Lib.hid (adv_told hac ha hb)
                clear ha hb hac
                generalize T.2.2 = c4 at *
                clear T
                have V4 := Lib.hid (V3.out.trans (bb.mono V3.out.size))
                have M4 := Lib.hid (M3.out.below bb (Blk.lt M3.out))
                clear M3
                clear bb V3
                dsimp only
                (try simp only [Act.put, List.setIfInBounds_toArray, List.set_cons_zero, List.set_cons_succ])
                refine hK.out _ _ V4.out (fun hHeld => ?_)
                clear hK K
                refine wpAnyH_take (i := 10) (oi := ⟨some 138, _, _, _, _, _⟩) (v := (.tuple #[.agg #[.float .f64 ta, .float .f64 tb], .int .i64 c4])) rfl (by kernel_rfl) (by kernel_rfl) (by kernel_rfl) (fun _ _ _ h => h) (Or.inl ⟨by rfl, ?_⟩) (by assumption) ?_
                · intro w' hS; go_simp; try with_reducible rfl
                simp only [Act.put, List.setIfInBounds_toArray, List.set_cons_zero, List.set_cons_succ]
                refine wpAnyH_take (i := 11) (oi := ⟨some 149, _, _, _, _, _⟩) (v := (.agg #[.float .f64 ta, .float .f64 tb])) rfl (by kernel_rfl) (by kernel_rfl) (by kernel_rfl) (fun _ _ _ h => h) (Or.inl ⟨by rfl, ?_⟩) (by assumption) ?_
                · intro w' hS; go_simp; try with_reducible rfl
                simp only [Act.put, List.setIfInBounds_toArray, List.set_cons_zero, List.set_cons_succ]
                refine wpAnyH_take (i := 12) (oi := ⟨some 150, _, _, _, _, _⟩) (v := (.int .i64 c4)) rfl (by kernel_rfl) (by kernel_rfl) (by kernel_rfl) (fun _ _ _ h => h) (Or.inl ⟨by rfl, ?_⟩) (by assumption) ?_
                · intro w' hS; go_simp; try with_reducible rfl
                simp only [Act.put, List.setIfInBounds_toArray, List.set_cons_zero, List.set_cons_succ]
                refine wpAnyH_ready (rs := [14]) (by kernel_rfl) (by simp) ?_
                refine AllReadyH.cons (o := ⟨none, _, _, _, _, _⟩) rfl (fun K hK => ?_) AllReadyH.nil
                rw [if_pos (by rfl)]
                (try simp only [Act.put, List.setIfInBounds_toArray, List.set_cons_zero, List.set_cons_succ])
                refine wp_store_row 34 _ _ rfl pd #[.float .f64 ta, .float .f64 tb] rfl rfl 34 #[.float .f64 0, .float .f64 0] M4.out (by kernel_rfl) rfl (by kernel_rfl) ?_
                have V5 := Lib.hid (below_setRow V4.out G.out #[.float .f64 ta, .float .f64 tb])
                have M5 : Hid (Blk (v4.setRow pd #[.float .f64 ta, .float .f64 tb]) pd 34 [.float .f64 ta, .float .f64 tb]) := Lib.hid (setRow_heap _ _ _ _ _ _ M4.out)
                generalize v4.setRow pd #[.float .f64 ta, .float .f64 tb] = v5 at *
                clear V4 M4
                (try simp only [Act.put, List.setIfInBounds_toArray, List.set_cons_zero, List.set_cons_succ])
                refine hK.out _ _ V5.out (fun hHeld => ?_)
                clear hK K
                refine wpAnyH_take (i := 15) (oi := ⟨some 14, _, _, _, _, _⟩) (v := (.int .i64 c4)) rfl (by kernel_rfl) (by kernel_rfl) (by kernel_rfl) (fun _ _ _ h => h) (Or.inl ⟨by rfl, ?_⟩) (by assumption) ?_
                · intro w' hS; go_simp; try with_reducible rfl
                simp only [Act.put, List.setIfInBounds_toArray, List.set_cons_zero, List.set_cons_succ]
                refine wpAnyH_done (by kernel_rfl) ?_ _
                go_wp2_with fail
                go_meet
                exact ⟨pd, ta, tb, c4, r2, rfl, rfl, M5.out, Hr2.out, TA.out, V5.out⟩
            · rw [if_pos (by rfl)]
              go_simp
              have V2 := Lib.hid (V1.out.alloc V1.out.size (.cells #[.float .f64 0, .float .f64 0] 34))
              have M2 : Hid (Blk (v1.alloc (.cells #[.float .f64 0, .float .f64 0] 34)) v1.heap.size 34 [.float .f64 0, .float .f64 0]) := Lib.hid (Blk.new v1 34 _)
              have G : Hid (w9.heap.size ≤ v1.heap.size) := Lib.hid V1.out.size
              generalize v1.heap.size = pd at M2 G ⊢
              generalize (v1.alloc (.cells #[.float .f64 0, .float .f64 0] 34)) = v2 at *
              clear V1
              (try simp only [Act.put, List.setIfInBounds_toArray, List.set_cons_zero, List.set_cons_succ])
              refine hK.out _ _ V2.out (fun hHeld => ?_)
              clear hK K
              refine wpAnyH_ready (rs := [8]) (by kernel_rfl) (by simp) ?_
              refine AllReadyH.cons (o := ⟨some 147, _, _, _, _, _⟩) rfl (fun K hK => ?_) AllReadyH.nil
              rw [if_pos (by rfl)]
              go_simp
              refine (value_any xs os v2 HW3.out).mono ?_
              rintro e' v3 ⟨r2, rfl, hv, -, bb⟩
              have Hr2 := Lib.hid hv
              clear hv
              have V3 := Lib.hid (V2.out.trans (bb.mono V2.out.size))
              have M3 := Lib.hid (M2.out.below bb (Blk.lt M2.out))
              clear M2
              clear bb V2
              dsimp only
              (try simp only [Act.put, List.setIfInBounds_toArray, List.set_cons_zero, List.set_cons_succ])
              refine hK.out _ _ V3.out (fun hHeld => ?_)
              clear hK K
              refine wpAnyH_ready (rs := [9]) (by kernel_rfl) (by simp) ?_
              refine AllReadyH.cons (o := ⟨some 148, _, _, _, _, _⟩) rfl (fun K hK => ?_) AllReadyH.nil
              rw [if_pos (by rfl)]
              go_simp
              have hac := adv_cases v d rn (fv r1) r2 HG.out
              refine (adv_any v d rn r1 r2 v3).mono ?_
              rintro e' v4 ⟨ta, tb, rfl, ha, hb, bb⟩
              obtain ⟨T, hT⟩ : ∃ T, T = advF (fv v) (fv d) rn (fv r1) (fv r2) := ⟨_, rfl⟩
              rw [← hT] at ha hb hac ⊢
              clear hT
              have TA := Lib.hid (adv_told hac ha hb)
              clear ha hb hac
              generalize T.2.2 = c4 at *
              clear T
              have V4 := Lib.hid (V3.out.trans (bb.mono V3.out.size))
              have M4 := Lib.hid (M3.out.below bb (Blk.lt M3.out))
              clear M3
              clear bb V3
              dsimp only
              (try simp only [Act.put, List.setIfInBounds_toArray, List.set_cons_zero, List.set_cons_succ])
              refine hK.out _ _ V4.out (fun hHeld => ?_)
              clear hK K
              refine wpAnyH_take (i := 10) (oi := ⟨some 138, _, _, _, _, _⟩) (v := (.tuple #[.agg #[.float .f64 ta, .float .f64 tb], .int .i64 c4])) rfl (by kernel_rfl) (by kernel_rfl) (by kernel_rfl) (fun _ _ _ h => h) (Or.inl ⟨by rfl, ?_⟩) (by assumption) ?_
              · intro w' hS; go_simp; try with_reducible rfl
              simp only [Act.put, List.setIfInBounds_toArray, List.set_cons_zero, List.set_cons_succ]
              refine wpAnyH_take (i := 11) (oi := ⟨some 149, _, _, _, _, _⟩) (v := (.agg #[.float .f64 ta, .float .f64 tb])) rfl (by kernel_rfl) (by kernel_rfl) (by kernel_rfl) (fun _ _ _ h => h) (Or.inl ⟨by rfl, ?_⟩) (by assumption) ?_
              · intro w' hS; go_simp; try with_reducible rfl
              simp only [Act.put, List.setIfInBounds_toArray, List.set_cons_zero, List.set_cons_succ]
              refine wpAnyH_take (i := 12) (oi := ⟨some 150, _, _, _, _, _⟩) (v := (.int .i64 c4)) rfl (by kernel_rfl) (by kernel_rfl) (by kernel_rfl) (fun _ _ _ h => h) (Or.inl ⟨by rfl, ?_⟩) (by assumption) ?_
              · intro w' hS; go_simp; try with_reducible rfl
              simp only [Act.put, List.setIfInBounds_toArray, List.set_cons_zero, List.set_cons_succ]
              refine wpAnyH_ready (rs := [14]) (by kernel_rfl) (by simp) ?_
              refine AllReadyH.cons (o := ⟨none, _, _, _, _, _⟩) rfl (fun K hK => ?_) AllReadyH.nil
              rw [if_pos (by rfl)]
              (try simp only [Act.put, List.setIfInBounds_toArray, List.set_cons_zero, List.set_cons_succ])
              refine wp_store_row 34 _ _ rfl pd #[.float .f64 ta, .float .f64 tb] rfl rfl 34 #[.float .f64 0, .float .f64 0] M4.out (by kernel_rfl) rfl (by kernel_rfl) ?_
              have V5 := Lib.hid (below_setRow V4.out G.out #[.float .f64 ta, .float .f64 tb])
              have M5 : Hid (Blk (v4.setRow pd #[.float .f64 ta, .float .f64 tb]) pd 34 [.float .f64 ta, .float .f64 tb]) := Lib.hid (setRow_heap _ _ _ _ _ _ M4.out)
              generalize v4.setRow pd #[.float .f64 ta, .float .f64 tb] = v5 at *
              clear V4 M4
              (try simp only [Act.put, List.setIfInBounds_toArray, List.set_cons_zero, List.set_cons_succ])
              refine hK.out _ _ V5.out (fun hHeld => ?_)
              clear hK K
              refine wpAnyH_take (i := 15) (oi := ⟨some 14, _, _, _, _, _⟩) (v := (.int .i64 c4)) rfl (by kernel_rfl) (by kernel_rfl) (by kernel_rfl) (fun _ _ _ h => h) (Or.inl ⟨by rfl, ?_⟩) (by assumption) ?_
              · intro w' hS; go_simp; try with_reducible rfl
              simp only [Act.put, List.setIfInBounds_toArray, List.set_cons_zero, List.set_cons_succ]
              refine wpAnyH_done (by kernel_rfl) ?_ _
              go_wp2_with fail
              go_meet
              exact ⟨pd, ta, tb, c4, r2, rfl, rfl, M5.out, Hr2.out, TA.out, V5.out⟩
          · rw [if_pos (by rfl)]
            go_simp
            have V1 := Lib.hid (V0.out.alloc V0.out.size (.cells #[.float .f64 0, .float .f64 0] 34))
            have M1 : Hid (Blk (v0.alloc (.cells #[.float .f64 0, .float .f64 0] 34)) v0.heap.size 34 [.float .f64 0, .float .f64 0]) := Lib.hid (Blk.new v0 34 _)
            have G : Hid (w9.heap.size ≤ v0.heap.size) := Lib.hid V0.out.size
            generalize v0.heap.size = pd at M1 G ⊢
            generalize (v0.alloc (.cells #[.float .f64 0, .float .f64 0] 34)) = v1 at *
            clear V0
            (try simp only [Act.put, List.setIfInBounds_toArray, List.set_cons_zero, List.set_cons_succ])
            refine hK.out _ _ V1.out (fun hHeld => ?_)
            clear hK K
            refine wpAnyH_ready (rs := [5]) (by kernel_rfl) (by simp) ?_
            refine AllReadyH.cons (o := ⟨some 144, _, _, _, _, _⟩) rfl (fun K hK => ?_) AllReadyH.nil
            rw [if_pos (by rfl)]
            go_simp
            refine (value_any xn on v1 HW2.out).mono ?_
            rintro e' v2 ⟨r1, rfl, hv, -, bb⟩
            have Hr1 := Lib.hid hv
            clear hv
            have V2 := Lib.hid (V1.out.trans (bb.mono V1.out.size))
            have M2 := Lib.hid (M1.out.below bb (Blk.lt M1.out))
            clear M1
            clear bb V1
            dsimp only
            (try simp only [Act.put, List.setIfInBounds_toArray, List.set_cons_zero, List.set_cons_succ])
            refine hK.out _ _ V2.out (fun hHeld => ?_)
            clear hK K
            refine wpAnyH_ready (rs := [8]) (by kernel_rfl) (by simp) ?_
            refine AllReadyH.cons (o := ⟨some 147, _, _, _, _, _⟩) rfl (fun K hK => ?_) AllReadyH.nil
            rw [if_pos (by rfl)]
            go_simp
            refine (value_any xs os v2 HW3.out).mono ?_
            rintro e' v3 ⟨r2, rfl, hv, -, bb⟩
            have Hr2 := Lib.hid hv
            clear hv
            have V3 := Lib.hid (V2.out.trans (bb.mono V2.out.size))
            have M3 := Lib.hid (M2.out.below bb (Blk.lt M2.out))
            clear M2
            clear bb V2
            dsimp only
            (try simp only [Act.put, List.setIfInBounds_toArray, List.set_cons_zero, List.set_cons_succ])
            refine hK.out _ _ V3.out (fun hHeld => ?_)
            clear hK K
            refine wpAnyH_ready (rs := [9]) (by kernel_rfl) (by simp) ?_
            refine AllReadyH.cons (o := ⟨some 148, _, _, _, _, _⟩) rfl (fun K hK => ?_) AllReadyH.nil
            rw [if_pos (by rfl)]
            go_simp
            have hac := adv_cases v d rn (fv r1) r2 HG.out
            refine (adv_any v d rn r1 r2 v3).mono ?_
            rintro e' v4 ⟨ta, tb, rfl, ha, hb, bb⟩
            obtain ⟨T, hT⟩ : ∃ T, T = advF (fv v) (fv d) rn (fv r1) (fv r2) := ⟨_, rfl⟩
            rw [← hT] at ha hb hac ⊢
            clear hT
            have TA := Lib.hid (adv_told hac ha hb)
            clear ha hb hac
            generalize T.2.2 = c4 at *
            clear T
            have V4 := Lib.hid (V3.out.trans (bb.mono V3.out.size))
            have M4 := Lib.hid (M3.out.below bb (Blk.lt M3.out))
            clear M3
            clear bb V3
            dsimp only
            (try simp only [Act.put, List.setIfInBounds_toArray, List.set_cons_zero, List.set_cons_succ])
            refine hK.out _ _ V4.out (fun hHeld => ?_)
            clear hK K
            refine wpAnyH_take (i := 10) (oi := ⟨some 138, _, _, _, _, _⟩) (v := (.tuple #[.agg #[.float .f64 ta, .float .f64 tb], .int .i64 c4])) rfl (by kernel_rfl) (by kernel_rfl) (by kernel_rfl) (fun _ _ _ h => h) (Or.inl ⟨by rfl, ?_⟩) (by assumption) ?_
            · intro w' hS; go_simp; try with_reducible rfl
            simp only [Act.put, List.setIfInBounds_toArray, List.set_cons_zero, List.set_cons_succ]
            refine wpAnyH_take (i := 11) (oi := ⟨some 149, _, _, _, _, _⟩) (v := (.agg #[.float .f64 ta, .float .f64 tb])) rfl (by kernel_rfl) (by kernel_rfl) (by kernel_rfl) (fun _ _ _ h => h) (Or.inl ⟨by rfl, ?_⟩) (by assumption) ?_
            · intro w' hS; go_simp; try with_reducible rfl
            simp only [Act.put, List.setIfInBounds_toArray, List.set_cons_zero, List.set_cons_succ]
            refine wpAnyH_take (i := 12) (oi := ⟨some 150, _, _, _, _, _⟩) (v := (.int .i64 c4)) rfl (by kernel_rfl) (by kernel_rfl) (by kernel_rfl) (fun _ _ _ h => h) (Or.inl ⟨by rfl, ?_⟩) (by assumption) ?_
            · intro w' hS; go_simp; try with_reducible rfl
            simp only [Act.put, List.setIfInBounds_toArray, List.set_cons_zero, List.set_cons_succ]
            refine wpAnyH_ready (rs := [14]) (by kernel_rfl) (by simp) ?_
            refine AllReadyH.cons (o := ⟨none, _, _, _, _, _⟩) rfl (fun K hK => ?_) AllReadyH.nil
            rw [if_pos (by rfl)]
            (try simp only [Act.put, List.setIfInBounds_toArray, List.set_cons_zero, List.set_cons_succ])
            refine wp_store_row 34 _ _ rfl pd #[.float .f64 ta, .float .f64 tb] rfl rfl 34 #[.float .f64 0, .float .f64 0] M4.out (by kernel_rfl) rfl (by kernel_rfl) ?_
            have V5 := Lib.hid (below_setRow V4.out G.out #[.float .f64 ta, .float .f64 tb])
            have M5 : Hid (Blk (v4.setRow pd #[.float .f64 ta, .float .f64 tb]) pd 34 [.float .f64 ta, .float .f64 tb]) := Lib.hid (setRow_heap _ _ _ _ _ _ M4.out)
            generalize v4.setRow pd #[.float .f64 ta, .float .f64 tb] = v5 at *
            clear V4 M4
            (try simp only [Act.put, List.setIfInBounds_toArray, List.set_cons_zero, List.set_cons_succ])
            refine hK.out _ _ V5.out (fun hHeld => ?_)
            clear hK K
            refine wpAnyH_take (i := 15) (oi := ⟨some 14, _, _, _, _, _⟩) (v := (.int .i64 c4)) rfl (by kernel_rfl) (by kernel_rfl) (by kernel_rfl) (fun _ _ _ h => h) (Or.inl ⟨by rfl, ?_⟩) (by assumption) ?_
            · intro w' hS; go_simp; try with_reducible rfl
            simp only [Act.put, List.setIfInBounds_toArray, List.set_cons_zero, List.set_cons_succ]
            refine wpAnyH_done (by kernel_rfl) ?_ _
            go_wp2_with fail
            go_meet
            exact ⟨pd, ta, tb, c4, r2, rfl, rfl, M5.out, Hr2.out, TA.out, V5.out⟩
        case rest =>
          obtain ⟨pd, ta, tb, c4, r2, rfl, rfl, hbl, hr2, hta, bb⟩ := hcut
          have M10 := Lib.hid hbl
          have HR2 := Lib.hid hr2
          have X10 := Lib.hid (X9.out.below bb (Blk.lt X9.out))
          have B10 : Hid (Below w.heap.size w wc) := Lib.hid (B9.out.trans (bb.mono B9.out.size))
          clear hbl hr2 bb X9 B9
          generalize wc = w10 at *
          have d0 : w10.cell? ⟨pd, 0, none⟩ = some (.float .f64 ta) := M10.out.cell 0
          have d1 : w10.cell? ⟨pd, 1, none⟩ = some (.float .f64 tb) := M10.out.cell 1
          rcases hta with ⟨rfl, rfl, hc4⟩ | ⟨rfl, hfin, hn, hge⟩
          · have hc4' : (c4 == 0) = false := by rcases hc4 with rfl | rfl <;> rfl
            have hc5 : (c4 != 0) = true := by rw [bne, hc4']; rfl
            have q0 := eq22 w10 0 0
            rw [show Op.floatEq .f64 0 0 = true from by decide] at q0
            have o2 : FloatKind.f64.format.order 0 0 = some .eq := by decide
            clear hc4
            go_wp2_with fail
            go_ret
            exact ⟨rfl, HXE.out ▸ B10.out⟩
          · have HFI := Lib.hid hfin
            have HGE := Lib.hid hge
            have HNN := Lib.hid hn
            clear hfin hge hn
            go_upto_region 22 with fail
            clear d0 d1
            refine wp_region_held_drew (S := fun w' => Below w10.heap.size w10 w') (by kernel_rfl) ((Below.refl w10.heap.size w10).drew) (fun hHeld => ?_)
            have V0 : Hid (Below w10.heap.size w10 w10.drew) := Lib.hid (Below.refl w10.heap.size w10).drew
            generalize w10.drew = v0 at V0 hHeld ⊢
            refine wpAnyH_take (i := 0) (oi := ⟨some 156, _, _, _, _, _⟩) (v := (.agg #[.float .f64 ta, .float .f64 tb])) rfl (by kernel_rfl) (by kernel_rfl) (by kernel_rfl) (fun _ _ _ h => h) (Or.inl ⟨by rfl, ?_⟩) (by assumption) ?_
            · intro w' hS; have hq := M10.out.below hS (Blk.lt M10.out); have h0 : w'.cell? ⟨pd, 0, none⟩ = some (.float .f64 ta) := hq.cell 0; have h1 : w'.cell? ⟨pd, 1, none⟩ = some (.float .f64 tb) := hq.cell 1; clear hq; go_simp; try with_reducible rfl
            simp only [Act.put, List.setIfInBounds_toArray, List.set_cons_zero, List.set_cons_succ]
            refine wpAnyH_ready (rs := [1]) (by kernel_rfl) (by simp) ?_
            refine AllReadyH.cons (o := ⟨some 157, _, _, _, _, _⟩) rfl (fun K hK => ?_) AllReadyH.nil
            rw [if_pos (by rfl)]
            go_simp
            have hlg := lgood_any ta tb v0
            rw [HFI.out] at hlg
            refine hlg.mono ?_
            rintro e' v1 ⟨rfl, bb⟩
            have V1 := Lib.hid (V0.out.trans (bb.mono V0.out.size))
            clear bb V0 hlg
            dsimp only
            (try simp only [Act.put, List.setIfInBounds_toArray, List.set_cons_zero, List.set_cons_succ])
            refine hK.out _ _ V1.out (fun hHeld => ?_)
            clear hK K
            refine wpAnyH_take (i := 2) (oi := ⟨some 158, _, _, _, _, _⟩) (v := (.bool true)) rfl (by kernel_rfl) (by kernel_rfl) (by kernel_rfl) (fun _ _ _ h => h) (Or.inl ⟨by rfl, ?_⟩) (by assumption) ?_
            · intro w' hS; go_simp; try with_reducible rfl
            simp only [Act.put, List.setIfInBounds_toArray, List.set_cons_zero, List.set_cons_succ]
            refine wpAnyH_take (i := 3) (oi := ⟨some 159, _, _, _, _, _⟩) (v := (.pointer (some ⟨pd, 1, none⟩))) rfl (by kernel_rfl) (by kernel_rfl) (by kernel_rfl) (fun _ _ _ h => h) (Or.inl ⟨by rfl, ?_⟩) (by assumption) ?_
            · intro w' hS; go_simp; try with_reducible rfl
            simp only [Act.put, List.setIfInBounds_toArray, List.set_cons_zero, List.set_cons_succ]
            refine wpAnyH_take (i := 4) (oi := ⟨some 160, _, _, _, _, _⟩) (v := (.float .f64 tb)) rfl (by kernel_rfl) (by kernel_rfl) (by kernel_rfl) (fun _ _ _ h => h) (Or.inl ⟨by rfl, ?_⟩) (by assumption) ?_
            · intro w' hS; have hq := M10.out.below hS (Blk.lt M10.out); have h1 : w'.cell? ⟨pd, 1, none⟩ = some (.float .f64 tb) := hq.cell 1; clear hq; go_simp; try with_reducible rfl
            simp only [Act.put, List.setIfInBounds_toArray, List.set_cons_zero, List.set_cons_succ]
            refine wpAnyH_take (i := 5) (oi := ⟨some 161, _, _, _, _, _⟩) (v := (.pointer (some ⟨X, 6, none⟩))) rfl (by kernel_rfl) (by kernel_rfl) (by kernel_rfl) (fun _ _ _ h => h) (Or.inl ⟨by rfl, ?_⟩) (by assumption) ?_
            · intro w' hS; go_simp; try with_reducible rfl
            simp only [Act.put, List.setIfInBounds_toArray, List.set_cons_zero, List.set_cons_succ]
            refine wpAnyH_take (i := 6) (oi := ⟨some 162, _, _, _, _, _⟩) (v := (.agg #[.float .f64 xs, .int .i64 os])) rfl (by kernel_rfl) (by kernel_rfl) (by kernel_rfl) (fun _ _ _ h => h) (Or.inl ⟨by rfl, ?_⟩) (by assumption) ?_
            · intro w' hS; have hq := X10.out.below hS (Blk.lt X10.out); have h0 : w'.cell? ⟨X, 6, none⟩ = some (.float .f64 xs) := hq.cell 6; have h1 : w'.cell? ⟨X, 7, none⟩ = some (.int .i64 os) := hq.cell 7; clear hq; go_simp; try with_reducible rfl
            simp only [Act.put, List.setIfInBounds_toArray, List.set_cons_zero, List.set_cons_succ]
            refine wpAnyH_ready (rs := [7]) (by kernel_rfl) (by simp) ?_
            refine AllReadyH.cons (o := ⟨some 163, _, _, _, _, _⟩) rfl (fun K hK => ?_) AllReadyH.nil
            rw [if_pos (by rfl)]
            go_simp
            refine (value_any xs os v1 HW3.out).mono ?_
            rintro e' v2 ⟨r3, rfl, hv, -, bb⟩
            have hg3 : geB tb r3 = true := (geB_alike (hv.trans HR2.out.symm)).trans (HGE.out)
            have HG3 : Hid ((FloatKind.f64.format.order tb r3 == some .gt || FloatKind.f64.format.order tb r3 == some .eq) = true) := Lib.hid hg3
            have V2 := Lib.hid (V1.out.trans (bb.mono V1.out.size))
            clear bb V1 hv hg3
            dsimp only
            (try simp only [Act.put, List.setIfInBounds_toArray, List.set_cons_zero, List.set_cons_succ])
            refine hK.out _ _ V2.out (fun hHeld => ?_)
            clear hK K
            refine wpAnyH_take (i := 8) (oi := ⟨some 164, _, _, _, _, _⟩) (v := (.bool true)) rfl (by kernel_rfl) (by kernel_rfl) (by kernel_rfl) (fun _ _ _ h => h) (Or.inl ⟨by rfl, ?_⟩) (by assumption) ?_
            · intro w' hS; have hgg := HG3.out; go_simp; try with_reducible rfl
            simp only [Act.put, List.setIfInBounds_toArray, List.set_cons_zero, List.set_cons_succ]
            refine wpAnyH_take (i := 9) (oi := ⟨some 165, _, _, _, _, _⟩) (v := (.bool true)) rfl (by kernel_rfl) (by kernel_rfl) (by kernel_rfl) (fun _ _ _ h => h) (Or.inl ⟨by rfl, ?_⟩) (by assumption) ?_
            · intro w' hS; go_simp; try with_reducible rfl
            simp only [Act.put, List.setIfInBounds_toArray, List.set_cons_zero, List.set_cons_succ]
            refine wpAnyH_take (i := 10) (oi := ⟨some 166, _, _, _, _, _⟩) (v := (.bool true)) rfl (by kernel_rfl) (by kernel_rfl) (by kernel_rfl) (fun _ _ _ h => h) (Or.inl ⟨by rfl, ?_⟩) (by assumption) ?_
            · intro w' hS; go_simp; try with_reducible rfl
            simp only [Act.put, List.setIfInBounds_toArray, List.set_cons_zero, List.set_cons_succ]
            refine wpAnyH_take (i := 11) (oi := ⟨some 167, _, _, _, _, _⟩) (v := (.pointer (some ⟨X, 8, none⟩))) rfl (by kernel_rfl) (by kernel_rfl) (by kernel_rfl) (fun _ _ _ h => h) (Or.inl ⟨by rfl, ?_⟩) (by assumption) ?_
            · intro w' hS; go_simp; try with_reducible rfl
            simp only [Act.put, List.setIfInBounds_toArray, List.set_cons_zero, List.set_cons_succ]
            refine wpAnyH_take (i := 12) (oi := ⟨some 168, _, _, _, _, _⟩) (v := (.int .i64 rn)) rfl (by kernel_rfl) (by kernel_rfl) (by kernel_rfl) (fun _ _ _ h => h) (Or.inl ⟨by rfl, ?_⟩) (by assumption) ?_
            · intro w' hS; have hq := X10.out.below hS (Blk.lt X10.out); have h0 : w'.cell? ⟨X, 8, none⟩ = some (.int .i64 rn) := hq.cell 8; clear hq; go_simp; try with_reducible rfl
            simp only [Act.put, List.setIfInBounds_toArray, List.set_cons_zero, List.set_cons_succ]
            refine wpAnyH_take (i := 13) (oi := ⟨some 169, _, _, _, _, _⟩) (v := (.bool true)) rfl (by kernel_rfl) (by kernel_rfl) (by kernel_rfl) (fun _ _ _ h => h) (Or.inl ⟨by rfl, ?_⟩) (by assumption) ?_
            · intro w' hS; have hn0 : decide (0 ≤ rn) = true := decide_eq_true HNN.out; have hn1 : decide (rn < 0) = false := decide_eq_false (by have := HNN.out; omega); go_simp; try with_reducible rfl
            simp only [Act.put, List.setIfInBounds_toArray, List.set_cons_zero, List.set_cons_succ]
            refine wpAnyH_take (i := 14) (oi := ⟨some 170, _, _, _, _, _⟩) (v := (.bool true)) rfl (by kernel_rfl) (by kernel_rfl) (by kernel_rfl) (fun _ _ _ h => h) (Or.inl ⟨by rfl, ?_⟩) (by assumption) ?_
            · intro w' hS; go_simp; try with_reducible rfl
            simp only [Act.put, List.setIfInBounds_toArray, List.set_cons_zero, List.set_cons_succ]
            refine wpAnyH_take (i := 15) (oi := ⟨some 2, _, _, _, _, _⟩) (v := (.bool true)) rfl (by kernel_rfl) (by kernel_rfl) (by kernel_rfl) (fun _ _ _ h => h) (Or.inl ⟨by rfl, ?_⟩) (by assumption) ?_
            · intro w' hS; go_simp; try with_reducible rfl
            simp only [Act.put, List.setIfInBounds_toArray, List.set_cons_zero, List.set_cons_succ]
            refine wpAnyH_done (by kernel_rfl) ?_ _
            have BZ := Lib.hid (B10.out.trans (V2.out.mono B10.out.size))
            go_wp2_with fail
            go_ret
            exact ⟨rfl, HXE.out ▸ BZ.out⟩
      · have hc1 : (c3 == 0) = false := by simpa using hc
        have hc2 : decide (c3 = 0) = false := by simpa using hc
        go_upto_region 19 with fail
        clear l0 l1 x8 pa0 pa1 pb0 pb1 pc0 pc1 q1 q2 o1 o2 z1 z2
        clear hc1 hc2
        go_upto_region 19 with fail
        go_cut [13, 14] from 15 (fun v13 v14 wx => ∃ pd ta tb c4 r2, v13 = .pointer (some ⟨pd, 0, none⟩) ∧ v14 = .int .i64 c4 ∧ Blk wx pd 34 [.float .f64 ta, .float .f64 tb] ∧ fv r2 = valF xs os ∧ AdvT ta tb c4 rn r2 ∧ Below w8.heap.size w8 wx)
        case first =>
          refine wp_region_held_drew (S := fun w' => Below w8.heap.size w8 w') (by kernel_rfl) ((Below.refl w8.heap.size w8).drew) (fun hHeld => ?_)
          have V0 : Hid (Below w8.heap.size w8 w8.drew) := Lib.hid (Below.refl w8.heap.size w8).drew
          generalize w8.drew = v0 at V0 hHeld ⊢
          refine wpAnyH_take (i := 0) (oi := ⟨some 139, _, _, _, _, _⟩) (v := (.agg #[.float .f64 v, .float .f64 d])) rfl (by kernel_rfl) (by kernel_rfl) (by kernel_rfl) (fun _ _ _ h => h) (Or.inl ⟨by rfl, ?_⟩) (by assumption) ?_
          · intro w' hS; have hq := L8.out.below hS (Blk.lt L8.out); have h0 : w'.cell? ⟨l, 0, none⟩ = some (.float .f64 v) := hq.cell 0; have h1 : w'.cell? ⟨l, 1, none⟩ = some (.float .f64 d) := hq.cell 1; clear hq; go_simp; try with_reducible rfl
          simp only [Act.put, List.setIfInBounds_toArray, List.set_cons_zero, List.set_cons_succ]
          refine wpAnyH_take (i := 1) (oi := ⟨some 140, _, _, _, _, _⟩) (v := (.pointer (some ⟨X, 8, none⟩))) rfl (by kernel_rfl) (by kernel_rfl) (by kernel_rfl) (fun _ _ _ h => h) (Or.inl ⟨by rfl, ?_⟩) (by assumption) ?_
          · intro w' hS; go_simp; try with_reducible rfl
          simp only [Act.put, List.setIfInBounds_toArray, List.set_cons_zero, List.set_cons_succ]
          refine wpAnyH_take (i := 2) (oi := ⟨some 141, _, _, _, _, _⟩) (v := (.int .i64 rn)) rfl (by kernel_rfl) (by kernel_rfl) (by kernel_rfl) (fun _ _ _ h => h) (Or.inl ⟨by rfl, ?_⟩) (by assumption) ?_
          · intro w' hS; have hq := X8.out.below hS (Blk.lt X8.out); have h0 : w'.cell? ⟨X, 8, none⟩ = some (.int .i64 rn) := hq.cell 8; clear hq; go_simp; try with_reducible rfl
          simp only [Act.put, List.setIfInBounds_toArray, List.set_cons_zero, List.set_cons_succ]
          refine wpAnyH_take (i := 3) (oi := ⟨some 142, _, _, _, _, _⟩) (v := (.pointer (some ⟨X, 4, none⟩))) rfl (by kernel_rfl) (by kernel_rfl) (by kernel_rfl) (fun _ _ _ h => h) (Or.inl ⟨by rfl, ?_⟩) (by assumption) ?_
          · intro w' hS; go_simp; try with_reducible rfl
          simp only [Act.put, List.setIfInBounds_toArray, List.set_cons_zero, List.set_cons_succ]
          refine wpAnyH_take (i := 4) (oi := ⟨some 143, _, _, _, _, _⟩) (v := (.agg #[.float .f64 xn, .int .i64 on])) rfl (by kernel_rfl) (by kernel_rfl) (by kernel_rfl) (fun _ _ _ h => h) (Or.inl ⟨by rfl, ?_⟩) (by assumption) ?_
          · intro w' hS; have hq := X8.out.below hS (Blk.lt X8.out); have h0 : w'.cell? ⟨X, 4, none⟩ = some (.float .f64 xn) := hq.cell 4; have h1 : w'.cell? ⟨X, 5, none⟩ = some (.int .i64 on) := hq.cell 5; clear hq; go_simp; try with_reducible rfl
          simp only [Act.put, List.setIfInBounds_toArray, List.set_cons_zero, List.set_cons_succ]
          refine wpAnyH_take (i := 6) (oi := ⟨some 145, _, _, _, _, _⟩) (v := (.pointer (some ⟨X, 6, none⟩))) rfl (by kernel_rfl) (by kernel_rfl) (by kernel_rfl) (fun _ _ _ h => h) (Or.inl ⟨by rfl, ?_⟩) (by assumption) ?_
          · intro w' hS; go_simp; try with_reducible rfl
          simp only [Act.put, List.setIfInBounds_toArray, List.set_cons_zero, List.set_cons_succ]
          refine wpAnyH_take (i := 7) (oi := ⟨some 146, _, _, _, _, _⟩) (v := (.agg #[.float .f64 xs, .int .i64 os])) rfl (by kernel_rfl) (by kernel_rfl) (by kernel_rfl) (fun _ _ _ h => h) (Or.inl ⟨by rfl, ?_⟩) (by assumption) ?_
          · intro w' hS; have hq := X8.out.below hS (Blk.lt X8.out); have h0 : w'.cell? ⟨X, 6, none⟩ = some (.float .f64 xs) := hq.cell 6; have h1 : w'.cell? ⟨X, 7, none⟩ = some (.int .i64 os) := hq.cell 7; clear hq; go_simp; try with_reducible rfl
          simp only [Act.put, List.setIfInBounds_toArray, List.set_cons_zero, List.set_cons_succ]
          refine wpAnyH_ready (rs := [5, 13]) (by kernel_rfl) (by simp) ?_
          refine AllReadyH.cons (o := ⟨some 144, _, _, _, _, _⟩) rfl (fun K hK => ?_) (AllReadyH.cons (o := ⟨some 13, _, _, _, _, _⟩) rfl (fun K hK => ?_) AllReadyH.nil)
          · rw [if_pos (by rfl)]
            go_simp
            refine (value_any xn on v0 HW2.out).mono ?_
            rintro e' v1 ⟨r1, rfl, hv, -, bb⟩
            have Hr1 := Lib.hid hv
            clear hv
            have V1 := Lib.hid (V0.out.trans (bb.mono V0.out.size))
            clear bb V0
            dsimp only
            (try simp only [Act.put, List.setIfInBounds_toArray, List.set_cons_zero, List.set_cons_succ])
            refine hK.out _ _ V1.out (fun hHeld => ?_)
            clear hK K
            refine wpAnyH_ready (rs := [8, 13]) (by kernel_rfl) (by simp) ?_
            refine AllReadyH.cons (o := ⟨some 147, _, _, _, _, _⟩) rfl (fun K hK => ?_) (AllReadyH.cons (o := ⟨some 13, _, _, _, _, _⟩) rfl (fun K hK => ?_) AllReadyH.nil)
            · rw [if_pos (by rfl)]
              go_simp
              refine (value_any xs os v1 HW3.out).mono ?_
              rintro e' v2 ⟨r2, rfl, hv, -, bb⟩
              have Hr2 := Lib.hid hv
              clear hv
              have V2 := Lib.hid (V1.out.trans (bb.mono V1.out.size))
              clear bb V1
              dsimp only
              (try simp only [Act.put, List.setIfInBounds_toArray, List.set_cons_zero, List.set_cons_succ])
              refine hK.out _ _ V2.out (fun hHeld => ?_)
              clear hK K
              refine wpAnyH_ready (rs := [9, 13]) (by kernel_rfl) (by simp) ?_
              refine AllReadyH.cons (o := ⟨some 148, _, _, _, _, _⟩) rfl (fun K hK => ?_) (AllReadyH.cons (o := ⟨some 13, _, _, _, _, _⟩) rfl (fun K hK => ?_) AllReadyH.nil)
              · rw [if_pos (by rfl)]
                go_simp
                have hac := adv_cases v d rn (fv r1) r2 HG.out
                refine (adv_any v d rn r1 r2 v2).mono ?_
                rintro e' v3 ⟨ta, tb, rfl, ha, hb, bb⟩
                obtain ⟨T, hT⟩ : ∃ T, T = advF (fv v) (fv d) rn (fv r1) (fv r2) := ⟨_, rfl⟩
                rw [← hT] at ha hb hac ⊢
                clear hT
                have TA := Lib.hid (adv_told hac ha hb)
                clear ha hb hac
                generalize T.2.2 = c4 at *
                clear T
                have V3 := Lib.hid (V2.out.trans (bb.mono V2.out.size))
                clear bb V2
                dsimp only
                (try simp only [Act.put, List.setIfInBounds_toArray, List.set_cons_zero, List.set_cons_succ])
                refine hK.out _ _ V3.out (fun hHeld => ?_)
                clear hK K
                refine wpAnyH_take (i := 10) (oi := ⟨some 138, _, _, _, _, _⟩) (v := (.tuple #[.agg #[.float .f64 ta, .float .f64 tb], .int .i64 c4])) rfl (by kernel_rfl) (by kernel_rfl) (by kernel_rfl) (fun _ _ _ h => h) (Or.inl ⟨by rfl, ?_⟩) (by assumption) ?_
                · intro w' hS; go_simp; try with_reducible rfl
                simp only [Act.put, List.setIfInBounds_toArray, List.set_cons_zero, List.set_cons_succ]
                refine wpAnyH_take (i := 11) (oi := ⟨some 149, _, _, _, _, _⟩) (v := (.agg #[.float .f64 ta, .float .f64 tb])) rfl (by kernel_rfl) (by kernel_rfl) (by kernel_rfl) (fun _ _ _ h => h) (Or.inl ⟨by rfl, ?_⟩) (by assumption) ?_
                · intro w' hS; go_simp; try with_reducible rfl
                simp only [Act.put, List.setIfInBounds_toArray, List.set_cons_zero, List.set_cons_succ]
                refine wpAnyH_take (i := 12) (oi := ⟨some 150, _, _, _, _, _⟩) (v := (.int .i64 c4)) rfl (by kernel_rfl) (by kernel_rfl) (by kernel_rfl) (fun _ _ _ h => h) (Or.inl ⟨by rfl, ?_⟩) (by assumption) ?_
                · intro w' hS; go_simp; try with_reducible rfl
                simp only [Act.put, List.setIfInBounds_toArray, List.set_cons_zero, List.set_cons_succ]
                refine wpAnyH_ready (rs := [13]) (by kernel_rfl) (by simp) ?_
                refine AllReadyH.cons (o := ⟨some 13, _, _, _, _, _⟩) rfl (fun K hK => ?_) AllReadyH.nil
                rw [if_pos (by rfl)]
                go_simp
                have V4 := Lib.hid (V3.out.alloc V3.out.size (.cells #[.float .f64 0, .float .f64 0] 34))
                have M4 : Hid (Blk (v3.alloc (.cells #[.float .f64 0, .float .f64 0] 34)) v3.heap.size 34 [.float .f64 0, .float .f64 0]) := Lib.hid (Blk.new v3 34 _)
                have G : Hid (w8.heap.size ≤ v3.heap.size) := Lib.hid V3.out.size
                generalize v3.heap.size = pd at M4 G ⊢
                generalize (v3.alloc (.cells #[.float .f64 0, .float .f64 0] 34)) = v4 at *
                clear V3
                (try simp only [Act.put, List.setIfInBounds_toArray, List.set_cons_zero, List.set_cons_succ])
                refine hK.out _ _ V4.out (fun hHeld => ?_)
                clear hK K
                refine wpAnyH_ready (rs := [14]) (by kernel_rfl) (by simp) ?_
                refine AllReadyH.cons (o := ⟨none, _, _, _, _, _⟩) rfl (fun K hK => ?_) AllReadyH.nil
                rw [if_pos (by rfl)]
                (try simp only [Act.put, List.setIfInBounds_toArray, List.set_cons_zero, List.set_cons_succ])
                refine wp_store_row 34 _ _ rfl pd #[.float .f64 ta, .float .f64 tb] rfl rfl 34 #[.float .f64 0, .float .f64 0] M4.out (by kernel_rfl) rfl (by kernel_rfl) ?_
                have V5 := Lib.hid (below_setRow V4.out G.out #[.float .f64 ta, .float .f64 tb])
                have M5 : Hid (Blk (v4.setRow pd #[.float .f64 ta, .float .f64 tb]) pd 34 [.float .f64 ta, .float .f64 tb]) := Lib.hid (setRow_heap _ _ _ _ _ _ M4.out)
                generalize v4.setRow pd #[.float .f64 ta, .float .f64 tb] = v5 at *
                clear V4 M4
                (try simp only [Act.put, List.setIfInBounds_toArray, List.set_cons_zero, List.set_cons_succ])
                refine hK.out _ _ V5.out (fun hHeld => ?_)
                clear hK K
                refine wpAnyH_take (i := 15) (oi := ⟨some 14, _, _, _, _, _⟩) (v := (.int .i64 c4)) rfl (by kernel_rfl) (by kernel_rfl) (by kernel_rfl) (fun _ _ _ h => h) (Or.inl ⟨by rfl, ?_⟩) (by assumption) ?_
                · intro w' hS; go_simp; try with_reducible rfl
                simp only [Act.put, List.setIfInBounds_toArray, List.set_cons_zero, List.set_cons_succ]
                refine wpAnyH_done (by kernel_rfl) ?_ _
                go_wp2_with fail
                go_meet
                exact ⟨pd, ta, tb, c4, r2, rfl, rfl, M5.out, Hr2.out, TA.out, V5.out⟩
              · rw [if_pos (by rfl)]
                go_simp
                have V3 := Lib.hid (V2.out.alloc V2.out.size (.cells #[.float .f64 0, .float .f64 0] 34))
                have M3 : Hid (Blk (v2.alloc (.cells #[.float .f64 0, .float .f64 0] 34)) v2.heap.size 34 [.float .f64 0, .float .f64 0]) := Lib.hid (Blk.new v2 34 _)
                have G : Hid (w8.heap.size ≤ v2.heap.size) := Lib.hid V2.out.size
                generalize v2.heap.size = pd at M3 G ⊢
                generalize (v2.alloc (.cells #[.float .f64 0, .float .f64 0] 34)) = v3 at *
                clear V2
                (try simp only [Act.put, List.setIfInBounds_toArray, List.set_cons_zero, List.set_cons_succ])
                refine hK.out _ _ V3.out (fun hHeld => ?_)
                clear hK K
                refine wpAnyH_ready (rs := [9]) (by kernel_rfl) (by simp) ?_
                refine AllReadyH.cons (o := ⟨some 148, _, _, _, _, _⟩) rfl (fun K hK => ?_) AllReadyH.nil
                rw [if_pos (by rfl)]
                go_simp
                have hac := adv_cases v d rn (fv r1) r2 HG.out
                refine (adv_any v d rn r1 r2 v3).mono ?_
                rintro e' v4 ⟨ta, tb, rfl, ha, hb, bb⟩
                obtain ⟨T, hT⟩ : ∃ T, T = advF (fv v) (fv d) rn (fv r1) (fv r2) := ⟨_, rfl⟩
                rw [← hT] at ha hb hac ⊢
                clear hT
                have TA := Lib.hid (adv_told hac ha hb)
                clear ha hb hac
                generalize T.2.2 = c4 at *
                clear T
                have V4 := Lib.hid (V3.out.trans (bb.mono V3.out.size))
                have M4 := Lib.hid (M3.out.below bb (Blk.lt M3.out))
                clear M3
                clear bb V3
                dsimp only
                (try simp only [Act.put, List.setIfInBounds_toArray, List.set_cons_zero, List.set_cons_succ])
                refine hK.out _ _ V4.out (fun hHeld => ?_)
                clear hK K
                refine wpAnyH_take (i := 10) (oi := ⟨some 138, _, _, _, _, _⟩) (v := (.tuple #[.agg #[.float .f64 ta, .float .f64 tb], .int .i64 c4])) rfl (by kernel_rfl) (by kernel_rfl) (by kernel_rfl) (fun _ _ _ h => h) (Or.inl ⟨by rfl, ?_⟩) (by assumption) ?_
                · intro w' hS; go_simp; try with_reducible rfl
                simp only [Act.put, List.setIfInBounds_toArray, List.set_cons_zero, List.set_cons_succ]
                refine wpAnyH_take (i := 11) (oi := ⟨some 149, _, _, _, _, _⟩) (v := (.agg #[.float .f64 ta, .float .f64 tb])) rfl (by kernel_rfl) (by kernel_rfl) (by kernel_rfl) (fun _ _ _ h => h) (Or.inl ⟨by rfl, ?_⟩) (by assumption) ?_
                · intro w' hS; go_simp; try with_reducible rfl
                simp only [Act.put, List.setIfInBounds_toArray, List.set_cons_zero, List.set_cons_succ]
                refine wpAnyH_take (i := 12) (oi := ⟨some 150, _, _, _, _, _⟩) (v := (.int .i64 c4)) rfl (by kernel_rfl) (by kernel_rfl) (by kernel_rfl) (fun _ _ _ h => h) (Or.inl ⟨by rfl, ?_⟩) (by assumption) ?_
                · intro w' hS; go_simp; try with_reducible rfl
                simp only [Act.put, List.setIfInBounds_toArray, List.set_cons_zero, List.set_cons_succ]
                refine wpAnyH_ready (rs := [14]) (by kernel_rfl) (by simp) ?_
                refine AllReadyH.cons (o := ⟨none, _, _, _, _, _⟩) rfl (fun K hK => ?_) AllReadyH.nil
                rw [if_pos (by rfl)]
                (try simp only [Act.put, List.setIfInBounds_toArray, List.set_cons_zero, List.set_cons_succ])
                refine wp_store_row 34 _ _ rfl pd #[.float .f64 ta, .float .f64 tb] rfl rfl 34 #[.float .f64 0, .float .f64 0] M4.out (by kernel_rfl) rfl (by kernel_rfl) ?_
                have V5 := Lib.hid (below_setRow V4.out G.out #[.float .f64 ta, .float .f64 tb])
                have M5 : Hid (Blk (v4.setRow pd #[.float .f64 ta, .float .f64 tb]) pd 34 [.float .f64 ta, .float .f64 tb]) := Lib.hid (setRow_heap _ _ _ _ _ _ M4.out)
                generalize v4.setRow pd #[.float .f64 ta, .float .f64 tb] = v5 at *
                clear V4 M4
                (try simp only [Act.put, List.setIfInBounds_toArray, List.set_cons_zero, List.set_cons_succ])
                refine hK.out _ _ V5.out (fun hHeld => ?_)
                clear hK K
                refine wpAnyH_take (i := 15) (oi := ⟨some 14, _, _, _, _, _⟩) (v := (.int .i64 c4)) rfl (by kernel_rfl) (by kernel_rfl) (by kernel_rfl) (fun _ _ _ h => h) (Or.inl ⟨by rfl, ?_⟩) (by assumption) ?_
                · intro w' hS; go_simp; try with_reducible rfl
                simp only [Act.put, List.setIfInBounds_toArray, List.set_cons_zero, List.set_cons_succ]
                refine wpAnyH_done (by kernel_rfl) ?_ _
                go_wp2_with fail
                go_meet
                exact ⟨pd, ta, tb, c4, r2, rfl, rfl, M5.out, Hr2.out, TA.out, V5.out⟩
            · rw [if_pos (by rfl)]
              go_simp
              have V2 := Lib.hid (V1.out.alloc V1.out.size (.cells #[.float .f64 0, .float .f64 0] 34))
              have M2 : Hid (Blk (v1.alloc (.cells #[.float .f64 0, .float .f64 0] 34)) v1.heap.size 34 [.float .f64 0, .float .f64 0]) := Lib.hid (Blk.new v1 34 _)
              have G : Hid (w8.heap.size ≤ v1.heap.size) := Lib.hid V1.out.size
              generalize v1.heap.size = pd at M2 G ⊢
              generalize (v1.alloc (.cells #[.float .f64 0, .float .f64 0] 34)) = v2 at *
              clear V1
              (try simp only [Act.put, List.setIfInBounds_toArray, List.set_cons_zero, List.set_cons_succ])
              refine hK.out _ _ V2.out (fun hHeld => ?_)
              clear hK K
              refine wpAnyH_ready (rs := [8]) (by kernel_rfl) (by simp) ?_
              refine AllReadyH.cons (o := ⟨some 147, _, _, _, _, _⟩) rfl (fun K hK => ?_) AllReadyH.nil
              rw [if_pos (by rfl)]
              go_simp
              refine (value_any xs os v2 HW3.out).mono ?_
              rintro e' v3 ⟨r2, rfl, hv, -, bb⟩
              have Hr2 := Lib.hid hv
              clear hv
              have V3 := Lib.hid (V2.out.trans (bb.mono V2.out.size))
              have M3 := Lib.hid (M2.out.below bb (Blk.lt M2.out))
              clear M2
              clear bb V2
              dsimp only
              (try simp only [Act.put, List.setIfInBounds_toArray, List.set_cons_zero, List.set_cons_succ])
              refine hK.out _ _ V3.out (fun hHeld => ?_)
              clear hK K
              refine wpAnyH_ready (rs := [9]) (by kernel_rfl) (by simp) ?_
              refine AllReadyH.cons (o := ⟨some 148, _, _, _, _, _⟩) rfl (fun K hK => ?_) AllReadyH.nil
              rw [if_pos (by rfl)]
              go_simp
              have hac := adv_cases v d rn (fv r1) r2 HG.out
              refine (adv_any v d rn r1 r2 v3).mono ?_
              rintro e' v4 ⟨ta, tb, rfl, ha, hb, bb⟩
              obtain ⟨T, hT⟩ : ∃ T, T = advF (fv v) (fv d) rn (fv r1) (fv r2) := ⟨_, rfl⟩
              rw [← hT] at ha hb hac ⊢
              clear hT
              have TA := Lib.hid (adv_told hac ha hb)
              clear ha hb hac
              generalize T.2.2 = c4 at *
              clear T
              have V4 := Lib.hid (V3.out.trans (bb.mono V3.out.size))
              have M4 := Lib.hid (M3.out.below bb (Blk.lt M3.out))
              clear M3
              clear bb V3
              dsimp only
              (try simp only [Act.put, List.setIfInBounds_toArray, List.set_cons_zero, List.set_cons_succ])
              refine hK.out _ _ V4.out (fun hHeld => ?_)
              clear hK K
              refine wpAnyH_take (i := 10) (oi := ⟨some 138, _, _, _, _, _⟩) (v := (.tuple #[.agg #[.float .f64 ta, .float .f64 tb], .int .i64 c4])) rfl (by kernel_rfl) (by kernel_rfl) (by kernel_rfl) (fun _ _ _ h => h) (Or.inl ⟨by rfl, ?_⟩) (by assumption) ?_
              · intro w' hS; go_simp; try with_reducible rfl
              simp only [Act.put, List.setIfInBounds_toArray, List.set_cons_zero, List.set_cons_succ]
              refine wpAnyH_take (i := 11) (oi := ⟨some 149, _, _, _, _, _⟩) (v := (.agg #[.float .f64 ta, .float .f64 tb])) rfl (by kernel_rfl) (by kernel_rfl) (by kernel_rfl) (fun _ _ _ h => h) (Or.inl ⟨by rfl, ?_⟩) (by assumption) ?_
              · intro w' hS; go_simp; try with_reducible rfl
              simp only [Act.put, List.setIfInBounds_toArray, List.set_cons_zero, List.set_cons_succ]
              refine wpAnyH_take (i := 12) (oi := ⟨some 150, _, _, _, _, _⟩) (v := (.int .i64 c4)) rfl (by kernel_rfl) (by kernel_rfl) (by kernel_rfl) (fun _ _ _ h => h) (Or.inl ⟨by rfl, ?_⟩) (by assumption) ?_
              · intro w' hS; go_simp; try with_reducible rfl
              simp only [Act.put, List.setIfInBounds_toArray, List.set_cons_zero, List.set_cons_succ]
              refine wpAnyH_ready (rs := [14]) (by kernel_rfl) (by simp) ?_
              refine AllReadyH.cons (o := ⟨none, _, _, _, _, _⟩) rfl (fun K hK => ?_) AllReadyH.nil
              rw [if_pos (by rfl)]
              (try simp only [Act.put, List.setIfInBounds_toArray, List.set_cons_zero, List.set_cons_succ])
              refine wp_store_row 34 _ _ rfl pd #[.float .f64 ta, .float .f64 tb] rfl rfl 34 #[.float .f64 0, .float .f64 0] M4.out (by kernel_rfl) rfl (by kernel_rfl) ?_
              have V5 := Lib.hid (below_setRow V4.out G.out #[.float .f64 ta, .float .f64 tb])
              have M5 : Hid (Blk (v4.setRow pd #[.float .f64 ta, .float .f64 tb]) pd 34 [.float .f64 ta, .float .f64 tb]) := Lib.hid (setRow_heap _ _ _ _ _ _ M4.out)
              generalize v4.setRow pd #[.float .f64 ta, .float .f64 tb] = v5 at *
              clear V4 M4
              (try simp only [Act.put, List.setIfInBounds_toArray, List.set_cons_zero, List.set_cons_succ])
              refine hK.out _ _ V5.out (fun hHeld => ?_)
              clear hK K
              refine wpAnyH_take (i := 15) (oi := ⟨some 14, _, _, _, _, _⟩) (v := (.int .i64 c4)) rfl (by kernel_rfl) (by kernel_rfl) (by kernel_rfl) (fun _ _ _ h => h) (Or.inl ⟨by rfl, ?_⟩) (by assumption) ?_
              · intro w' hS; go_simp; try with_reducible rfl
              simp only [Act.put, List.setIfInBounds_toArray, List.set_cons_zero, List.set_cons_succ]
              refine wpAnyH_done (by kernel_rfl) ?_ _
              go_wp2_with fail
              go_meet
              exact ⟨pd, ta, tb, c4, r2, rfl, rfl, M5.out, Hr2.out, TA.out, V5.out⟩
          · rw [if_pos (by rfl)]
            go_simp
            have V1 := Lib.hid (V0.out.alloc V0.out.size (.cells #[.float .f64 0, .float .f64 0] 34))
            have M1 : Hid (Blk (v0.alloc (.cells #[.float .f64 0, .float .f64 0] 34)) v0.heap.size 34 [.float .f64 0, .float .f64 0]) := Lib.hid (Blk.new v0 34 _)
            have G : Hid (w8.heap.size ≤ v0.heap.size) := Lib.hid V0.out.size
            generalize v0.heap.size = pd at M1 G ⊢
            generalize (v0.alloc (.cells #[.float .f64 0, .float .f64 0] 34)) = v1 at *
            clear V0
            (try simp only [Act.put, List.setIfInBounds_toArray, List.set_cons_zero, List.set_cons_succ])
            refine hK.out _ _ V1.out (fun hHeld => ?_)
            clear hK K
            refine wpAnyH_ready (rs := [5]) (by kernel_rfl) (by simp) ?_
            refine AllReadyH.cons (o := ⟨some 144, _, _, _, _, _⟩) rfl (fun K hK => ?_) AllReadyH.nil
            rw [if_pos (by rfl)]
            go_simp
            refine (value_any xn on v1 HW2.out).mono ?_
            rintro e' v2 ⟨r1, rfl, hv, -, bb⟩
            have Hr1 := Lib.hid hv
            clear hv
            have V2 := Lib.hid (V1.out.trans (bb.mono V1.out.size))
            have M2 := Lib.hid (M1.out.below bb (Blk.lt M1.out))
            clear M1
            clear bb V1
            dsimp only
            (try simp only [Act.put, List.setIfInBounds_toArray, List.set_cons_zero, List.set_cons_succ])
            refine hK.out _ _ V2.out (fun hHeld => ?_)
            clear hK K
            refine wpAnyH_ready (rs := [8]) (by kernel_rfl) (by simp) ?_
            refine AllReadyH.cons (o := ⟨some 147, _, _, _, _, _⟩) rfl (fun K hK => ?_) AllReadyH.nil
            rw [if_pos (by rfl)]
            go_simp
            refine (value_any xs os v2 HW3.out).mono ?_
            rintro e' v3 ⟨r2, rfl, hv, -, bb⟩
            have Hr2 := Lib.hid hv
            clear hv
            have V3 := Lib.hid (V2.out.trans (bb.mono V2.out.size))
            have M3 := Lib.hid (M2.out.below bb (Blk.lt M2.out))
            clear M2
            clear bb V2
            dsimp only
            (try simp only [Act.put, List.setIfInBounds_toArray, List.set_cons_zero, List.set_cons_succ])
            refine hK.out _ _ V3.out (fun hHeld => ?_)
            clear hK K
            refine wpAnyH_ready (rs := [9]) (by kernel_rfl) (by simp) ?_
            refine AllReadyH.cons (o := ⟨some 148, _, _, _, _, _⟩) rfl (fun K hK => ?_) AllReadyH.nil
            rw [if_pos (by rfl)]
            go_simp
            have hac := adv_cases v d rn (fv r1) r2 HG.out
            refine (adv_any v d rn r1 r2 v3).mono ?_
            rintro e' v4 ⟨ta, tb, rfl, ha, hb, bb⟩
            obtain ⟨T, hT⟩ : ∃ T, T = advF (fv v) (fv d) rn (fv r1) (fv r2) := ⟨_, rfl⟩
            rw [← hT] at ha hb hac ⊢
            clear hT
            have TA := Lib.hid (adv_told hac ha hb)
            clear ha hb hac
            generalize T.2.2 = c4 at *
            clear T
            have V4 := Lib.hid (V3.out.trans (bb.mono V3.out.size))
            have M4 := Lib.hid (M3.out.below bb (Blk.lt M3.out))
            clear M3
            clear bb V3
            dsimp only
            (try simp only [Act.put, List.setIfInBounds_toArray, List.set_cons_zero, List.set_cons_succ])
            refine hK.out _ _ V4.out (fun hHeld => ?_)
            clear hK K
            refine wpAnyH_take (i := 10) (oi := ⟨some 138, _, _, _, _, _⟩) (v := (.tuple #[.agg #[.float .f64 ta, .float .f64 tb], .int .i64 c4])) rfl (by kernel_rfl) (by kernel_rfl) (by kernel_rfl) (fun _ _ _ h => h) (Or.inl ⟨by rfl, ?_⟩) (by assumption) ?_
            · intro w' hS; go_simp; try with_reducible rfl
            simp only [Act.put, List.setIfInBounds_toArray, List.set_cons_zero, List.set_cons_succ]
            refine wpAnyH_take (i := 11) (oi := ⟨some 149, _, _, _, _, _⟩) (v := (.agg #[.float .f64 ta, .float .f64 tb])) rfl (by kernel_rfl) (by kernel_rfl) (by kernel_rfl) (fun _ _ _ h => h) (Or.inl ⟨by rfl, ?_⟩) (by assumption) ?_
            · intro w' hS; go_simp; try with_reducible rfl
            simp only [Act.put, List.setIfInBounds_toArray, List.set_cons_zero, List.set_cons_succ]
            refine wpAnyH_take (i := 12) (oi := ⟨some 150, _, _, _, _, _⟩) (v := (.int .i64 c4)) rfl (by kernel_rfl) (by kernel_rfl) (by kernel_rfl) (fun _ _ _ h => h) (Or.inl ⟨by rfl, ?_⟩) (by assumption) ?_
            · intro w' hS; go_simp; try with_reducible rfl
            simp only [Act.put, List.setIfInBounds_toArray, List.set_cons_zero, List.set_cons_succ]
            refine wpAnyH_ready (rs := [14]) (by kernel_rfl) (by simp) ?_
            refine AllReadyH.cons (o := ⟨none, _, _, _, _, _⟩) rfl (fun K hK => ?_) AllReadyH.nil
            rw [if_pos (by rfl)]
            (try simp only [Act.put, List.setIfInBounds_toArray, List.set_cons_zero, List.set_cons_succ])
            refine wp_store_row 34 _ _ rfl pd #[.float .f64 ta, .float .f64 tb] rfl rfl 34 #[.float .f64 0, .float .f64 0] M4.out (by kernel_rfl) rfl (by kernel_rfl) ?_
            have V5 := Lib.hid (below_setRow V4.out G.out #[.float .f64 ta, .float .f64 tb])
            have M5 : Hid (Blk (v4.setRow pd #[.float .f64 ta, .float .f64 tb]) pd 34 [.float .f64 ta, .float .f64 tb]) := Lib.hid (setRow_heap _ _ _ _ _ _ M4.out)
            generalize v4.setRow pd #[.float .f64 ta, .float .f64 tb] = v5 at *
            clear V4 M4
            (try simp only [Act.put, List.setIfInBounds_toArray, List.set_cons_zero, List.set_cons_succ])
            refine hK.out _ _ V5.out (fun hHeld => ?_)
            clear hK K
            refine wpAnyH_take (i := 15) (oi := ⟨some 14, _, _, _, _, _⟩) (v := (.int .i64 c4)) rfl (by kernel_rfl) (by kernel_rfl) (by kernel_rfl) (fun _ _ _ h => h) (Or.inl ⟨by rfl, ?_⟩) (by assumption) ?_
            · intro w' hS; go_simp; try with_reducible rfl
            simp only [Act.put, List.setIfInBounds_toArray, List.set_cons_zero, List.set_cons_succ]
            refine wpAnyH_done (by kernel_rfl) ?_ _
            go_wp2_with fail
            go_meet
            exact ⟨pd, ta, tb, c4, r2, rfl, rfl, M5.out, Hr2.out, TA.out, V5.out⟩
        case rest =>
          obtain ⟨pd, ta, tb, c4, r2, rfl, rfl, hbl, hr2, hta, bb⟩ := hcut
          have M9 := Lib.hid hbl
          have HR2 := Lib.hid hr2
          have X9 := Lib.hid (X8.out.below bb (Blk.lt X8.out))
          have B9 : Hid (Below w.heap.size w wc) := Lib.hid (B8.out.trans (bb.mono B8.out.size))
          clear hbl hr2 bb X8 B8
          generalize wc = w9 at *
          have d0 : w9.cell? ⟨pd, 0, none⟩ = some (.float .f64 ta) := M9.out.cell 0
          have d1 : w9.cell? ⟨pd, 1, none⟩ = some (.float .f64 tb) := M9.out.cell 1
          rcases hta with ⟨rfl, rfl, hc4⟩ | ⟨rfl, hfin, hn, hge⟩
          · have hc4' : (c4 == 0) = false := by rcases hc4 with rfl | rfl <;> rfl
            have hc5 : (c4 != 0) = true := by rw [bne, hc4']; rfl
            have q0 := eq22 w9 0 0
            rw [show Op.floatEq .f64 0 0 = true from by decide] at q0
            have o2 : FloatKind.f64.format.order 0 0 = some .eq := by decide
            clear hc4
            go_wp2_with fail
            go_ret
            exact ⟨rfl, HXE.out ▸ B9.out⟩
          · have HFI := Lib.hid hfin
            have HGE := Lib.hid hge
            have HNN := Lib.hid hn
            clear hfin hge hn
            go_upto_region 22 with fail
            clear d0 d1
            refine wp_region_held_drew (S := fun w' => Below w9.heap.size w9 w') (by kernel_rfl) ((Below.refl w9.heap.size w9).drew) (fun hHeld => ?_)
            have V0 : Hid (Below w9.heap.size w9 w9.drew) := Lib.hid (Below.refl w9.heap.size w9).drew
            generalize w9.drew = v0 at V0 hHeld ⊢
            refine wpAnyH_take (i := 0) (oi := ⟨some 156, _, _, _, _, _⟩) (v := (.agg #[.float .f64 ta, .float .f64 tb])) rfl (by kernel_rfl) (by kernel_rfl) (by kernel_rfl) (fun _ _ _ h => h) (Or.inl ⟨by rfl, ?_⟩) (by assumption) ?_
            · intro w' hS; have hq := M9.out.below hS (Blk.lt M9.out); have h0 : w'.cell? ⟨pd, 0, none⟩ = some (.float .f64 ta) := hq.cell 0; have h1 : w'.cell? ⟨pd, 1, none⟩ = some (.float .f64 tb) := hq.cell 1; clear hq; go_simp; try with_reducible rfl
            simp only [Act.put, List.setIfInBounds_toArray, List.set_cons_zero, List.set_cons_succ]
            refine wpAnyH_ready (rs := [1]) (by kernel_rfl) (by simp) ?_
            refine AllReadyH.cons (o := ⟨some 157, _, _, _, _, _⟩) rfl (fun K hK => ?_) AllReadyH.nil
            rw [if_pos (by rfl)]
            go_simp
            have hlg := lgood_any ta tb v0
            rw [HFI.out] at hlg
            refine hlg.mono ?_
            rintro e' v1 ⟨rfl, bb⟩
            have V1 := Lib.hid (V0.out.trans (bb.mono V0.out.size))
            clear bb V0 hlg
            dsimp only
            (try simp only [Act.put, List.setIfInBounds_toArray, List.set_cons_zero, List.set_cons_succ])
            refine hK.out _ _ V1.out (fun hHeld => ?_)
            clear hK K
            refine wpAnyH_take (i := 2) (oi := ⟨some 158, _, _, _, _, _⟩) (v := (.bool true)) rfl (by kernel_rfl) (by kernel_rfl) (by kernel_rfl) (fun _ _ _ h => h) (Or.inl ⟨by rfl, ?_⟩) (by assumption) ?_
            · intro w' hS; go_simp; try with_reducible rfl
            simp only [Act.put, List.setIfInBounds_toArray, List.set_cons_zero, List.set_cons_succ]
            refine wpAnyH_take (i := 3) (oi := ⟨some 159, _, _, _, _, _⟩) (v := (.pointer (some ⟨pd, 1, none⟩))) rfl (by kernel_rfl) (by kernel_rfl) (by kernel_rfl) (fun _ _ _ h => h) (Or.inl ⟨by rfl, ?_⟩) (by assumption) ?_
            · intro w' hS; go_simp; try with_reducible rfl
            simp only [Act.put, List.setIfInBounds_toArray, List.set_cons_zero, List.set_cons_succ]
            refine wpAnyH_take (i := 4) (oi := ⟨some 160, _, _, _, _, _⟩) (v := (.float .f64 tb)) rfl (by kernel_rfl) (by kernel_rfl) (by kernel_rfl) (fun _ _ _ h => h) (Or.inl ⟨by rfl, ?_⟩) (by assumption) ?_
            · intro w' hS; have hq := M9.out.below hS (Blk.lt M9.out); have h1 : w'.cell? ⟨pd, 1, none⟩ = some (.float .f64 tb) := hq.cell 1; clear hq; go_simp; try with_reducible rfl
            simp only [Act.put, List.setIfInBounds_toArray, List.set_cons_zero, List.set_cons_succ]
            refine wpAnyH_take (i := 5) (oi := ⟨some 161, _, _, _, _, _⟩) (v := (.pointer (some ⟨X, 6, none⟩))) rfl (by kernel_rfl) (by kernel_rfl) (by kernel_rfl) (fun _ _ _ h => h) (Or.inl ⟨by rfl, ?_⟩) (by assumption) ?_
            · intro w' hS; go_simp; try with_reducible rfl
            simp only [Act.put, List.setIfInBounds_toArray, List.set_cons_zero, List.set_cons_succ]
            refine wpAnyH_take (i := 6) (oi := ⟨some 162, _, _, _, _, _⟩) (v := (.agg #[.float .f64 xs, .int .i64 os])) rfl (by kernel_rfl) (by kernel_rfl) (by kernel_rfl) (fun _ _ _ h => h) (Or.inl ⟨by rfl, ?_⟩) (by assumption) ?_
            · intro w' hS; have hq := X9.out.below hS (Blk.lt X9.out); have h0 : w'.cell? ⟨X, 6, none⟩ = some (.float .f64 xs) := hq.cell 6; have h1 : w'.cell? ⟨X, 7, none⟩ = some (.int .i64 os) := hq.cell 7; clear hq; go_simp; try with_reducible rfl
            simp only [Act.put, List.setIfInBounds_toArray, List.set_cons_zero, List.set_cons_succ]
            refine wpAnyH_ready (rs := [7]) (by kernel_rfl) (by simp) ?_
            refine AllReadyH.cons (o := ⟨some 163, _, _, _, _, _⟩) rfl (fun K hK => ?_) AllReadyH.nil
            rw [if_pos (by rfl)]
            go_simp
            refine (value_any xs os v1 HW3.out).mono ?_
            rintro e' v2 ⟨r3, rfl, hv, -, bb⟩
            have hg3 : geB tb r3 = true := (geB_alike (hv.trans HR2.out.symm)).trans (HGE.out)
            have HG3 : Hid ((FloatKind.f64.format.order tb r3 == some .gt || FloatKind.f64.format.order tb r3 == some .eq) = true) := Lib.hid hg3
            have V2 := Lib.hid (V1.out.trans (bb.mono V1.out.size))
            clear bb V1 hv hg3
            dsimp only
            (try simp only [Act.put, List.setIfInBounds_toArray, List.set_cons_zero, List.set_cons_succ])
            refine hK.out _ _ V2.out (fun hHeld => ?_)
            clear hK K
            refine wpAnyH_take (i := 8) (oi := ⟨some 164, _, _, _, _, _⟩) (v := (.bool true)) rfl (by kernel_rfl) (by kernel_rfl) (by kernel_rfl) (fun _ _ _ h => h) (Or.inl ⟨by rfl, ?_⟩) (by assumption) ?_
            · intro w' hS; have hgg := HG3.out; go_simp; try with_reducible rfl
            simp only [Act.put, List.setIfInBounds_toArray, List.set_cons_zero, List.set_cons_succ]
            refine wpAnyH_take (i := 9) (oi := ⟨some 165, _, _, _, _, _⟩) (v := (.bool true)) rfl (by kernel_rfl) (by kernel_rfl) (by kernel_rfl) (fun _ _ _ h => h) (Or.inl ⟨by rfl, ?_⟩) (by assumption) ?_
            · intro w' hS; go_simp; try with_reducible rfl
            simp only [Act.put, List.setIfInBounds_toArray, List.set_cons_zero, List.set_cons_succ]
            refine wpAnyH_take (i := 10) (oi := ⟨some 166, _, _, _, _, _⟩) (v := (.bool true)) rfl (by kernel_rfl) (by kernel_rfl) (by kernel_rfl) (fun _ _ _ h => h) (Or.inl ⟨by rfl, ?_⟩) (by assumption) ?_
            · intro w' hS; go_simp; try with_reducible rfl
            simp only [Act.put, List.setIfInBounds_toArray, List.set_cons_zero, List.set_cons_succ]
            refine wpAnyH_take (i := 11) (oi := ⟨some 167, _, _, _, _, _⟩) (v := (.pointer (some ⟨X, 8, none⟩))) rfl (by kernel_rfl) (by kernel_rfl) (by kernel_rfl) (fun _ _ _ h => h) (Or.inl ⟨by rfl, ?_⟩) (by assumption) ?_
            · intro w' hS; go_simp; try with_reducible rfl
            simp only [Act.put, List.setIfInBounds_toArray, List.set_cons_zero, List.set_cons_succ]
            refine wpAnyH_take (i := 12) (oi := ⟨some 168, _, _, _, _, _⟩) (v := (.int .i64 rn)) rfl (by kernel_rfl) (by kernel_rfl) (by kernel_rfl) (fun _ _ _ h => h) (Or.inl ⟨by rfl, ?_⟩) (by assumption) ?_
            · intro w' hS; have hq := X9.out.below hS (Blk.lt X9.out); have h0 : w'.cell? ⟨X, 8, none⟩ = some (.int .i64 rn) := hq.cell 8; clear hq; go_simp; try with_reducible rfl
            simp only [Act.put, List.setIfInBounds_toArray, List.set_cons_zero, List.set_cons_succ]
            refine wpAnyH_take (i := 13) (oi := ⟨some 169, _, _, _, _, _⟩) (v := (.bool true)) rfl (by kernel_rfl) (by kernel_rfl) (by kernel_rfl) (fun _ _ _ h => h) (Or.inl ⟨by rfl, ?_⟩) (by assumption) ?_
            · intro w' hS; have hn0 : decide (0 ≤ rn) = true := decide_eq_true HNN.out; have hn1 : decide (rn < 0) = false := decide_eq_false (by have := HNN.out; omega); go_simp; try with_reducible rfl
            simp only [Act.put, List.setIfInBounds_toArray, List.set_cons_zero, List.set_cons_succ]
            refine wpAnyH_take (i := 14) (oi := ⟨some 170, _, _, _, _, _⟩) (v := (.bool true)) rfl (by kernel_rfl) (by kernel_rfl) (by kernel_rfl) (fun _ _ _ h => h) (Or.inl ⟨by rfl, ?_⟩) (by assumption) ?_
            · intro w' hS; go_simp; try with_reducible rfl
            simp only [Act.put, List.setIfInBounds_toArray, List.set_cons_zero, List.set_cons_succ]
            refine wpAnyH_take (i := 15) (oi := ⟨some 2, _, _, _, _, _⟩) (v := (.bool true)) rfl (by kernel_rfl) (by kernel_rfl) (by kernel_rfl) (fun _ _ _ h => h) (Or.inl ⟨by rfl, ?_⟩) (by assumption) ?_
            · intro w' hS; go_simp; try with_reducible rfl
            simp only [Act.put, List.setIfInBounds_toArray, List.set_cons_zero, List.set_cons_succ]
            refine wpAnyH_done (by kernel_rfl) ?_ _
            have BZ := Lib.hid (B9.out.trans (V2.out.mono B9.out.size))
            go_wp2_with fail
            go_ret
            exact ⟨rfl, HXE.out ▸ BZ.out⟩
end Go.Proofs.Ytcfbaildcocnhaa

/-
  Walks: Spent, NewBudget, Rounds: the program's and the document's.
-/
import Derived.Test.YtcfbaildcocnhaaBs
import Derived.LoopTactic
import Derived.Outline
set_option linter.unusedVariables false
set_option linter.unusedSimpArgs false
namespace Go.Proofs.Ytcfbaildcocnhaa
open Go.RowKit

theorem spent_of (p me md se sd : Nat) (w : World) (hB : Bud 96 w p me md se sd) :
    Calls Try.prog 32 #[.pointer (some ⟨p, 0, none⟩)] w fun e w' => e = .returned (.agg #[.float .f64 se, .float .f64 sd]) ∧ Below w.heap.size w w' := by
  have HB := Lib.hid hB
  have hlt : p < w.heap.size := Blk.lt hB
  have c2 : w.cell? ⟨p, 2, none⟩ = some (.float .f64 se) := Blk.cell hB 2
  have c3 : w.cell? ⟨p, 3, none⟩ = some (.float .f64 sd) := Blk.cell hB 3
  have hb : Below w.heap.size w (w.alloc (.cells #[.float .f64 0, .float .f64 0] 34)) := (Below.refl _ _).alloc (Nat.le_refl _) _
  have HW := Lib.hid hb
  have np : ¬ p = w.heap.size := by omega
  have hne : ¬ w.heap.size = p := by omega
  clear hB hb
  go_enter Try.func32, Try.ntmps32
  go_wp2_with (refine wpList_store_row rfl 34 _ _ rfl w.heap.size #[.float .f64 se, .float .f64 sd] rfl rfl 34 #[.float .f64 0, .float .f64 0] (heap_alloc_new _ _) (by kernel_rfl) rfl (by kernel_rfl) ?_)
  have hR : Blk ((w.alloc (.cells #[.float .f64 0, .float .f64 0] 34)).setRow w.heap.size #[.float .f64 se, .float .f64 sd]) w.heap.size 34 [.float .f64 se, .float .f64 sd] := setRow_heap _ _ _ _ _ _ (heap_alloc_new _ _)
  have r0 : ((w.alloc (.cells #[.float .f64 0, .float .f64 0] 34)).setRow w.heap.size #[.float .f64 se, .float .f64 sd]).cell? ⟨w.heap.size, 0, none⟩ = some (.float .f64 se) := hR.cell 0
  have r1 : ((w.alloc (.cells #[.float .f64 0, .float .f64 0] 34)).setRow w.heap.size #[.float .f64 se, .float .f64 sd]).cell? ⟨w.heap.size, 1, none⟩ = some (.float .f64 sd) := hR.cell 1
  have HWR := Lib.hid (below_setRow HW.out (Nat.le_refl _) #[.float .f64 se, .float .f64 sd])
  clear hR
  refine bodyPost_ret (v := .agg #[.float .f64 se, .float .f64 sd]) (by simp [results, Try.results32, go_sem, r0, r1]) rfl ?_
  exact ⟨rfl, HWR.out⟩

/-- What Rounds answers. -/
def rdB (me md se sd le ld : Nat) : Int × Int := if (fin (fv le) && fin (fv ld)) = true then ((rnd me md se sd le ld : Int), 0) else (0, 260)
def NewB (T : TypeId) (E D : Nat) (w : World) (e : Ending) (w' : World) : Prop :=
  Below w.heap.size w w' ∧ (((fin (fv E) && fin (fv D)) = true ∧ ∃ p, e = .returned (.tuple #[.pointer (some ⟨p, 0, none⟩), .int .i64 0]) ∧ w.heap.size ≤ p ∧ Bud T w' p E D 0 0)
    ∨ ((fin (fv E) && fin (fv D)) = false ∧ e = .returned (.tuple #[.pointer none, .int .i64 260])))
theorem newb_any (E D : Nat) (w : World) : Calls Try.prog 17 #[.agg #[.float .f64 E, .float .f64 D]] w (NewB 96 E D w) := by
  have hb : Below w.heap.size w (w.alloc (.cells #[.float .f64 E, .float .f64 D] 34)) := (Below.refl _ _).alloc (Nat.le_refl _) _
  have HW := Lib.hid hb
  have HL : Hid (Blk (w.alloc (.cells #[.float .f64 E, .float .f64 D] 34)) w.heap.size 34 [.float .f64 E, .float .f64 D]) := Lib.hid (Blk.new w 34 _)
  clear hb
  go_enter Try.func17, Try.ntmps17
  go_wp2_with fail
  refine (good_any E D _).mono ?_
  rintro e w1 ⟨rfl, b1⟩
  have HL1 := Lib.hid (HL.out.below b1 (by simp))
  have HW1 := Lib.hid (HW.out.trans (b1.mono (by simp)))
  clear HL HW b1
  cases hg : (fin (fv E) && fin (fv D))
  · have HG := Lib.hid hg
    clear hg
    go_wp2_with fail
    go_ret2
    exact ⟨HW1.out, .inr ⟨HG.out, rfl⟩⟩
  · have HG := Lib.hid hg
    clear hg
    have l0 : w1.cell? ⟨w.heap.size, 0, none⟩ = some (.float .f64 E) := HL1.out.cell 0
    have l1 : w1.cell? ⟨w.heap.size, 1, none⟩ = some (.float .f64 D) := HL1.out.cell 1
    go_wp2_with fail
    go_ret2
    exact ⟨HW1.out.alloc HW1.out.size _, .inl ⟨HG.out, _, rfl, HW1.out.size, Blk.new w1 96 [.float .f64 E, .float .f64 D, .float .f64 0, .float .f64 0]⟩⟩
theorem rnewb_any (E D : Nat) (w : World) : Calls Try.prog 18 #[.agg #[.float .f64 E, .float .f64 D]] w (NewB 98 E D w) := by
  have hb : Below w.heap.size w (w.alloc (.cells #[.float .f64 E, .float .f64 D] 34)) := (Below.refl _ _).alloc (Nat.le_refl _) _
  have HW := Lib.hid hb
  have HL : Hid (Blk (w.alloc (.cells #[.float .f64 E, .float .f64 D] 34)) w.heap.size 34 [.float .f64 E, .float .f64 D]) := Lib.hid (Blk.new w 34 _)
  clear hb
  go_enter Try.func18, Try.ntmps18
  go_wp2_with fail
  refine (rgood_any E D _).mono ?_
  rintro e w1 ⟨rfl, b1⟩
  have HL1 := Lib.hid (HL.out.below b1 (by simp))
  have HW1 := Lib.hid (HW.out.trans (b1.mono (by simp)))
  clear HL HW b1
  cases hg : (fin (fv E) && fin (fv D))
  · have HG := Lib.hid hg
    clear hg
    go_wp2_with fail
    go_ret2
    exact ⟨HW1.out, .inr ⟨HG.out, rfl⟩⟩
  · have HG := Lib.hid hg
    clear hg
    have l0 : w1.cell? ⟨w.heap.size, 0, none⟩ = some (.float .f64 E) := HL1.out.cell 0
    have l1 : w1.cell? ⟨w.heap.size, 1, none⟩ = some (.float .f64 D) := HL1.out.cell 1
    go_wp2_with fail
    go_ret2
    exact ⟨HW1.out.alloc HW1.out.size _, .inl ⟨HG.out, _, rfl, HW1.out.size, Blk.new w1 98 [.float .f64 E, .float .f64 D, .float .f64 0, .float .f64 0]⟩⟩
set_option maxRecDepth 100000 in
set_option maxHeartbeats 4000000 in
theorem rounds_any (p me md se sd le ld : Nat) (w : World) (hB : Bud 96 w p me md se sd) (h1 : nn me) (h2 : nn md) (h3 : nn se) (h4 : nn sd) :
    Calls Try.prog 33 #[.pointer (some ⟨p, 0, none⟩), .agg #[.float .f64 le, .float .f64 ld]] w fun e w' => e = .returned (.tuple #[.int .i64 (rdB me md se sd le ld).1, .int .i64 (rdB me md se sd le ld).2]) ∧ Below w.heap.size w w' := by
  have HB := Lib.hid hB
  have HN := Lib.hid (And.intro h1 (And.intro h2 (And.intro h3 h4)))
  have hlt : p < w.heap.size := Blk.lt hB
  clear hB h1 h2 h3 h4
  have hb : Below w.heap.size w (w.alloc (.cells #[.float .f64 le, .float .f64 ld] 34)) := (Below.refl _ _).alloc (Nat.le_refl _) _
  have HW := Lib.hid hb
  have HL : Hid (Blk (w.alloc (.cells #[.float .f64 le, .float .f64 ld] 34)) w.heap.size 34 [.float .f64 le, .float .f64 ld]) := Lib.hid (Blk.new w 34 _)
  have HB0 : Hid (Bud 96 (w.alloc (.cells #[.float .f64 le, .float .f64 ld] 34)) p me md se sd) := Lib.hid (Blk.alloc HB.out _)
  clear hb
  go_enter Try.func33, Try.ntmps33
  go_wp2_with fail
  refine (good_any le ld _).mono ?_
  rintro e w1 ⟨rfl, b1⟩
  have HL1 := Lib.hid (HL.out.below b1 (by simp))
  have HB1 : Hid (Bud 96 w1 p me md se sd) := Lib.hid (Blk.below HB0.out b1 (by simp; omega))
  have HW1 := Lib.hid (HW.out.trans (b1.mono (by simp)))
  clear HL HW b1 HB0
  cases hg : (fin (fv le) && fin (fv ld))
  · have HG := Lib.hid hg
    clear hg
    go_wp2_with fail
    go_ret2
    exact ⟨by rw [show rdB me md se sd le ld = (0, 260) from by unfold rdB; rw [HG.out]; rfl]; rfl, HW1.out⟩
  · have HG := Lib.hid hg
    clear hg
    have HR : Hid (rdB me md se sd le ld = ((rnd me md se sd le ld : Int), 0)) := Lib.hid (by unfold rdB; rw [HG.out]; rfl)
    have HD1 : Hid (w.heap.size < w1.heap.size ∧ p < w1.heap.size ∧ ¬ p = w.heap.size) := Lib.hid ⟨Blk.lt HL1.out, Blk.lt HB1.out, by omega⟩
    have HS1 : Hid (w.heap.size ≤ w.heap.size) := Lib.hid (Nat.le_refl _)
    generalize hL : w.heap.size = L at HL1 HD1 ⊢
    have HLE := Lib.hid hL
    clear hL
    go_wp2_with (first
      | (refine wpList_load_row rfl 96 _ rfl p rfl 96 #[.float .f64 me, .float .f64 md, .float .f64 se, .float .f64 sd] (0, 0) _ HB1.out Try.underlying96 rfl (by kernel_rfl) ?_)
      | (refine wpList_store_row rfl 96 _ _ rfl w1.heap.size #[.float .f64 me, .float .f64 md, .float .f64 se, .float .f64 sd] rfl rfl 96 #[.float .f64 0, .float .f64 0, .float .f64 0, .float .f64 0] (heap_alloc_new _ _) (by kernel_rfl) rfl (by kernel_rfl) ?_))
    have HM2 : Hid (Bud 96 ((w1.alloc (.cells #[.float .f64 0, .float .f64 0, .float .f64 0, .float .f64 0] 96)).setRow w1.heap.size #[.float .f64 me, .float .f64 md, .float .f64 se, .float .f64 sd]) w1.heap.size me md se sd) := Lib.hid (setRow_heap _ _ _ _ _ _ (heap_alloc_new _ _))
    have HL2 : Hid (Blk ((w1.alloc (.cells #[.float .f64 0, .float .f64 0, .float .f64 0, .float .f64 0] 96)).setRow w1.heap.size #[.float .f64 me, .float .f64 md, .float .f64 se, .float .f64 sd]) L 34 [.float .f64 le, .float .f64 ld]) := Lib.hid ((HL1.out.alloc _).fr (fr_row _ _ _) (by have := HD1.out; omega))
    have HW2 : Hid (Below w.heap.size w ((w1.alloc (.cells #[.float .f64 0, .float .f64 0, .float .f64 0, .float .f64 0] 96)).setRow w1.heap.size #[.float .f64 me, .float .f64 md, .float .f64 se, .float .f64 sd])) := Lib.hid (below_setRow (HW1.out.alloc HW1.out.size _) HW1.out.size _)
    have HM : Hid (w.heap.size ≤ w1.heap.size ∧ ¬ L = w1.heap.size) := Lib.hid ⟨HW1.out.size, by have := HD1.out; omega⟩
    generalize ((w1.alloc (.cells #[.float .f64 0, .float .f64 0, .float .f64 0, .float .f64 0] 96)).setRow w1.heap.size #[.float .f64 me, .float .f64 md, .float .f64 se, .float .f64 sd]) = w2 at *
    generalize w1.heap.size = M at *
    clear HL1 HB1 HW1 HD1
    go_loopw [7] (fun s wr => ∃ k : Nat, s = .int .i64 k ∧ k ≤ 65536 ∧ Bud 96 wr M me md (stB me md se sd le ld k).1 (stB me md se sd le ld k).2 ∧ Blk wr L 34 [.float .f64 le, .float .f64 ld] ∧ Below w.heap.size w wr ∧ rnd me md se sd le ld = cnt (okB me md se sd le ld) (65536 - k) k) (fun s _ => 65536 - (intOf s).toNat)
    case atStart => exact ⟨0, rfl, by omega, HM2.out, HL2.out, HW2.out, by unfold rnd; rw [Nat.sub_zero]⟩
    case round =>
      obtain ⟨k, rfl, hk, hb, hl, hw, hr⟩ := hrel
      have BK := Lib.hid hb
      have LK := Lib.hid hl
      have WK := Lib.hid hw
      have RK := Lib.hid hr
      clear hb hl hw hr
      have l0 : wr.cell? ⟨L, 0, none⟩ = some (.float .f64 le) := LK.out.cell 0
      have l1 : wr.cell? ⟨L, 1, none⟩ = some (.float .f64 ld) := LK.out.cell 1
      by_cases hlt : k < 65536
      · have d1 : decide ((k : Int) < 65536) = true := decide_eq_true (by omega)
        go_wp2_with fail
        have hs := spend_any M me md (stB me md se sd le ld k).1 (stB me md se sd le ld k).2 le ld wr BK.out HN.out.1 HN.out.2.1 (stB_nn HN.out.1 HN.out.2.1 HN.out.2.2.1 HN.out.2.2.2 k).1 (stB_nn HN.out.1 HN.out.2.1 HN.out.2.2.1 HN.out.2.2.2 k).2
        cases ho : okB me md se sd le ld k
        · have ho' : ((spB me md (stB me md se sd le ld k).1 (stB me md se sd le ld k).2 le ld).1 == 0) = false := ho
          refine hs.mono ?_
          rintro e wz ⟨rfl, hbz, hfz⟩
          have WZ := Lib.hid (WK.out.trans (hfz.below (B := w.heap.size) WK.out.size (fun j hj => by subst hj; exact HM.out.1)))
          have RZ : Hid (rnd me md se sd le ld = k) := Lib.hid (by rw [RK.out, cnt_stop hlt ho])
          generalize (spB me md (stB me md se sd le ld k).1 (stB me md se sd le ld k).2 le ld).1 = cc at ho' ⊢
          clear hs hbz hfz ho
          go_wp2_with fail
          go_ret2
          exact ⟨by rw [HR.out, RZ.out]; rfl, HLE.out ▸ WZ.out⟩
        · have ho' : ((spB me md (stB me md se sd le ld k).1 (stB me md se sd le ld k).2 le ld).1 == 0) = true := ho
          refine hs.mono ?_
          rintro e wz ⟨rfl, hbz, hfz⟩
          have WZ := Lib.hid (WK.out.trans (hfz.below (B := w.heap.size) WK.out.size (fun j hj => by subst hj; exact HM.out.1)))
          have LZ := Lib.hid (LK.out.fr hfz (by have := HM.out; omega))
          have BZ : Hid (Bud 96 wz M me md (stB me md se sd le ld (k + 1)).1 (stB me md se sd le ld (k + 1)).2) := Lib.hid hbz
          have RZ : Hid (rnd me md se sd le ld = cnt (okB me md se sd le ld) (65536 - (k + 1)) (k + 1)) := Lib.hid (by rw [RK.out, cnt_step hlt ho])
          generalize (spB me md (stB me md se sd le ld k).1 (stB me md se sd le ld k).2 le ld).1 = cc at ho' ⊢
          clear hs hbz hfz ho
          have m1 : IntKind.i64.wrap ((k : Int) + 1) = ((k + 1 : Nat) : Int) := by rw [IntKind.wrap_i64] <;> omega
          go_wp2_with fail
          go_roundw
          case rel => exact ⟨k + 1, rfl, by omega, BZ.out, LZ.out, WZ.out, RZ.out⟩
          case measure => simp [intOf]; omega
      · obtain rfl : k = 65536 := by omega
        have RZ : Hid (rnd me md se sd le ld = 65536) := Lib.hid (by rw [RK.out, Nat.sub_self]; rfl)
        go_wp2_with fail
        go_ret2
        exact ⟨by rw [HR.out, RZ.out]; rfl, HLE.out ▸ WK.out⟩
set_option maxRecDepth 100000 in
set_option maxHeartbeats 4000000 in
theorem rrounds_any (p me md se sd le ld : Nat) (w : World) (hB : Bud 98 w p me md se sd) (h1 : nn me) (h2 : nn md) (h3 : nn se) (h4 : nn sd) :
    Calls Try.prog 50 #[.pointer (some ⟨p, 0, none⟩), .agg #[.float .f64 le, .float .f64 ld]] w fun e w' => e = .returned (.tuple #[.int .i64 (rdB me md se sd le ld).1, .int .i64 (rdB me md se sd le ld).2]) ∧ Below w.heap.size w w' := by
  have HB := Lib.hid hB
  have HN := Lib.hid (And.intro h1 (And.intro h2 (And.intro h3 h4)))
  have hlt : p < w.heap.size := Blk.lt hB
  clear hB h1 h2 h3 h4
  have hb : Below w.heap.size w (w.alloc (.cells #[.float .f64 le, .float .f64 ld] 34)) := (Below.refl _ _).alloc (Nat.le_refl _) _
  have HW := Lib.hid hb
  have HL : Hid (Blk (w.alloc (.cells #[.float .f64 le, .float .f64 ld] 34)) w.heap.size 34 [.float .f64 le, .float .f64 ld]) := Lib.hid (Blk.new w 34 _)
  have HB0 : Hid (Bud 98 (w.alloc (.cells #[.float .f64 le, .float .f64 ld] 34)) p me md se sd) := Lib.hid (Blk.alloc HB.out _)
  clear hb
  go_enter Try.func50, Try.ntmps50
  go_wp2_with fail
  refine (rgood_any le ld _).mono ?_
  rintro e w1 ⟨rfl, b1⟩
  have HL1 := Lib.hid (HL.out.below b1 (by simp))
  have HB1 : Hid (Bud 98 w1 p me md se sd) := Lib.hid (Blk.below HB0.out b1 (by simp; omega))
  have HW1 := Lib.hid (HW.out.trans (b1.mono (by simp)))
  clear HL HW b1 HB0
  cases hg : (fin (fv le) && fin (fv ld))
  · have HG := Lib.hid hg
    clear hg
    go_wp2_with fail
    go_ret2
    exact ⟨by rw [show rdB me md se sd le ld = (0, 260) from by unfold rdB; rw [HG.out]; rfl]; rfl, HW1.out⟩
  · have HG := Lib.hid hg
    clear hg
    have HR : Hid (rdB me md se sd le ld = ((rnd me md se sd le ld : Int), 0)) := Lib.hid (by unfold rdB; rw [HG.out]; rfl)
    have HD1 : Hid (w.heap.size < w1.heap.size ∧ p < w1.heap.size ∧ ¬ p = w.heap.size) := Lib.hid ⟨Blk.lt HL1.out, Blk.lt HB1.out, by omega⟩
    have HS1 : Hid (w.heap.size ≤ w.heap.size) := Lib.hid (Nat.le_refl _)
    go_wp2_with fail
    generalize hL : w.heap.size = L at HL1 HD1 ⊢
    have HLE := Lib.hid hL
    clear hL
    refine wp_region_held_drew (S := fun w' => Bud 98 w' p me md se sd ∧ Blk w' L 34 [.float .f64 le, .float .f64 ld]) (by kernel_rfl) (⟨HB1.out, HL1.out⟩) (fun hHeld => ?_)
    have HW2 := Lib.hid HW1.out.drew
    have HB2 : Hid (Bud 98 w1.drew p me md se sd) := Lib.hid HB1.out
    have HL2 : Hid (Blk w1.drew L 34 [.float .f64 le, .float .f64 ld]) := Lib.hid HL1.out
    have HD2 : Hid (L < w1.drew.heap.size ∧ p < w1.drew.heap.size ∧ ¬ p = L) := HD1
    clear HW1 HB1 HL1 HD1
    generalize w1.drew = w2 at *
    refine wpAnyH_take (i := 0) (oi := ⟨some 11, _, _, _, _, _⟩) (v := (.pointer (some ⟨p, 0, none⟩))) rfl (by kernel_rfl) (by kernel_rfl) (by kernel_rfl) (fun _ _ _ h => h) (Or.inl ⟨by rfl, ?_⟩) (by assumption) ?_
    · intro w' hS; go_simp; try with_reducible rfl
    simp only [Act.put, List.setIfInBounds_toArray, List.set_cons_zero, List.set_cons_succ]
    refine wpAnyH_take (i := 1) (oi := ⟨some 12, _, _, _, _, _⟩) (v := (.pointer (some ⟨p, 0, none⟩))) rfl (by kernel_rfl) (by kernel_rfl) (by kernel_rfl) (fun _ _ _ h => h) (Or.inl ⟨by rfl, ?_⟩) (by assumption) ?_
    · intro w' hS; go_simp; try with_reducible rfl
    simp only [Act.put, List.setIfInBounds_toArray, List.set_cons_zero, List.set_cons_succ]
    refine wpAnyH_take (i := 2) (oi := ⟨some 13, _, _, _, _, _⟩) (v := (.pointer (some ⟨p, 0, none⟩))) rfl (by kernel_rfl) (by kernel_rfl) (by kernel_rfl) (fun _ _ _ h => h) (Or.inl ⟨by rfl, ?_⟩) (by assumption) ?_
    · intro w' hS; go_simp; try with_reducible rfl
    simp only [Act.put, List.setIfInBounds_toArray, List.set_cons_zero, List.set_cons_succ]
    refine wpAnyH_take (i := 3) (oi := ⟨some 14, _, _, _, _, _⟩) (v := (.agg #[.float .f64 me, .float .f64 md])) rfl (by kernel_rfl) (by kernel_rfl) (by kernel_rfl) (fun _ _ _ h => h) (Or.inl ⟨by rfl, ?_⟩) (by assumption) ?_
    · intro w' hS; have h0 : w'.cell? ⟨p, 0, none⟩ = some (.float .f64 me) := Blk.cell hS.1 0; have h1 : w'.cell? ⟨p, 1, none⟩ = some (.float .f64 md) := Blk.cell hS.1 1; go_simp; try with_reducible rfl
    simp only [Act.put, List.setIfInBounds_toArray, List.set_cons_zero, List.set_cons_succ]
    refine wpAnyH_take (i := 4) (oi := ⟨some 15, _, _, _, _, _⟩) (v := (.pointer (some ⟨p, 0, none⟩))) rfl (by kernel_rfl) (by kernel_rfl) (by kernel_rfl) (fun _ _ _ h => h) (Or.inl ⟨by rfl, ?_⟩) (by assumption) ?_
    · intro w' hS; go_simp; try with_reducible rfl
    simp only [Act.put, List.setIfInBounds_toArray, List.set_cons_zero, List.set_cons_succ]
    refine wpAnyH_take (i := 5) (oi := ⟨some 16, _, _, _, _, _⟩) (v := (.pointer (some ⟨p, 0, none⟩))) rfl (by kernel_rfl) (by kernel_rfl) (by kernel_rfl) (fun _ _ _ h => h) (Or.inl ⟨by rfl, ?_⟩) (by assumption) ?_
    · intro w' hS; go_simp; try with_reducible rfl
    simp only [Act.put, List.setIfInBounds_toArray, List.set_cons_zero, List.set_cons_succ]
    refine wpAnyH_take (i := 6) (oi := ⟨some 17, _, _, _, _, _⟩) (v := (.pointer (some ⟨p, 2, none⟩))) rfl (by kernel_rfl) (by kernel_rfl) (by kernel_rfl) (fun _ _ _ h => h) (Or.inl ⟨by rfl, ?_⟩) (by assumption) ?_
    · intro w' hS; go_simp; try with_reducible rfl
    simp only [Act.put, List.setIfInBounds_toArray, List.set_cons_zero, List.set_cons_succ]
    refine wpAnyH_take (i := 7) (oi := ⟨some 18, _, _, _, _, _⟩) (v := (.agg #[.float .f64 se, .float .f64 sd])) rfl (by kernel_rfl) (by kernel_rfl) (by kernel_rfl) (fun _ _ _ h => h) (Or.inl ⟨by rfl, ?_⟩) (by assumption) ?_
    · intro w' hS; have h0 : w'.cell? ⟨p, 2, none⟩ = some (.float .f64 se) := Blk.cell hS.1 2; have h1 : w'.cell? ⟨p, 3, none⟩ = some (.float .f64 sd) := Blk.cell hS.1 3; go_simp; try with_reducible rfl
    simp only [Act.put, List.setIfInBounds_toArray, List.set_cons_zero, List.set_cons_succ]
    refine wpAnyH_take (i := 8) (oi := ⟨some 19, _, _, _, _, _⟩) (v := (.agg #[.float .f64 me, .float .f64 md, .float .f64 se, .float .f64 sd])) rfl (by kernel_rfl) (by kernel_rfl) (by kernel_rfl) (fun _ _ _ h => h) (Or.inl ⟨by rfl, ?_⟩) (by assumption) ?_
    · intro w' hS; go_simp; try with_reducible rfl
    simp only [Act.put, List.setIfInBounds_toArray, List.set_cons_zero, List.set_cons_succ]
    refine wpAnyH_ready (rs := [9]) (by kernel_rfl) (by simp) ?_
    refine AllReadyH.cons (o := ⟨some 6, _, _, _, _, _⟩) rfl (fun K hK => ?_) AllReadyH.nil
    rw [if_pos (by rfl)]
    go_simp
    have HW3 := Lib.hid (HW2.out.alloc HW2.out.size (.cells #[.float .f64 0, .float .f64 0, .float .f64 0, .float .f64 0] 98))
    have HB3 : Hid (Bud 98 (w2.alloc (.cells #[.float .f64 0, .float .f64 0, .float .f64 0, .float .f64 0] 98)) p me md se sd) := Lib.hid (Blk.alloc HB2.out _)
    have HL3 : Hid (Blk (w2.alloc (.cells #[.float .f64 0, .float .f64 0, .float .f64 0, .float .f64 0] 98)) L 34 [.float .f64 le, .float .f64 ld]) := Lib.hid (Blk.alloc HL2.out _)
    have HN3 : Hid (Bud 98 (w2.alloc (.cells #[.float .f64 0, .float .f64 0, .float .f64 0, .float .f64 0] 98)) w2.heap.size 0 0 0 0) := Lib.hid (Blk.new w2 98 _)
    have HM : Hid (w.heap.size ≤ w2.heap.size ∧ ¬ L = w2.heap.size ∧ ¬ p = w2.heap.size) := Lib.hid ⟨HW2.out.size, by have := HD2.out; omega, by have := HD2.out; omega⟩
    generalize hM : w2.heap.size = M at HN3 HM ⊢
    generalize (w2.alloc (.cells #[.float .f64 0, .float .f64 0, .float .f64 0, .float .f64 0] 98)) = w3 at *
    clear HW2 HB2 HL2 HD2 hM
    (try simp only [Act.put, List.setIfInBounds_toArray, List.set_cons_zero, List.set_cons_succ])
    refine hK.out _ _ (⟨HB3.out, HL3.out⟩) (fun hHeld => ?_)
    clear hK K
    refine wpAnyH_ready (rs := [10]) (by kernel_rfl) (by simp) ?_
    refine AllReadyH.cons (o := ⟨none, _, _, _, _, _⟩) rfl (fun K hK => ?_) AllReadyH.nil
    rw [if_pos (by rfl)]
    (try simp only [Act.put, List.setIfInBounds_toArray, List.set_cons_zero, List.set_cons_succ])
    refine wp_store_row 98 _ _ rfl M #[.float .f64 me, .float .f64 md, .float .f64 se, .float .f64 sd] rfl rfl 98 #[.float .f64 0, .float .f64 0, .float .f64 0, .float .f64 0] HN3.out (by kernel_rfl) rfl (by kernel_rfl) ?_
    have HW4 : Hid (Below w.heap.size w (w3.setRow M #[.float .f64 me, .float .f64 md, .float .f64 se, .float .f64 sd])) := Lib.hid (below_setRow HW3.out HM.out.1 _)
    have HB4 : Hid (Bud 98 (w3.setRow M #[.float .f64 me, .float .f64 md, .float .f64 se, .float .f64 sd]) p me md se sd) := Lib.hid (Blk.fr HB3.out (fr_row w3 M #[.float .f64 me, .float .f64 md, .float .f64 se, .float .f64 sd]) HM.out.2.2)
    have HL4 : Hid (Blk (w3.setRow M #[.float .f64 me, .float .f64 md, .float .f64 se, .float .f64 sd]) L 34 [.float .f64 le, .float .f64 ld]) := Lib.hid (Blk.fr HL3.out (fr_row w3 M #[.float .f64 me, .float .f64 md, .float .f64 se, .float .f64 sd]) HM.out.2.1)
    have HM4 : Hid (Bud 98 (w3.setRow M #[.float .f64 me, .float .f64 md, .float .f64 se, .float .f64 sd]) M me md se sd) := Lib.hid (setRow_heap _ _ _ _ _ _ HN3.out)
    generalize w3.setRow M #[.float .f64 me, .float .f64 md, .float .f64 se, .float .f64 sd] = w4 at *
    clear HW3 HB3 HL3 HN3
    (try simp only [Act.put, List.setIfInBounds_toArray, List.set_cons_zero, List.set_cons_succ])
    refine hK.out _ _ (⟨HB4.out, HL4.out⟩) (fun hHeld => ?_)
    clear hK K
    refine wpAnyH_done (by kernel_rfl) ?_ _
    have HM2 := HM4
    have HL2 := HL4
    have HW2 := HW4
    generalize w4 = w2 at *
    clear hHeld HB4 HM4 HL4 HW4
    have HM' : Hid (w.heap.size ≤ M ∧ ¬ L = M) := Lib.hid ⟨HM.out.1, HM.out.2.1⟩
    clear HM
    have HM := HM'
    clear HM'
    go_wp2_with fail
    go_loopw [7] (fun s wr => ∃ k : Nat, s = .int .i64 k ∧ k ≤ 65536 ∧ Bud 98 wr M me md (stB me md se sd le ld k).1 (stB me md se sd le ld k).2 ∧ Blk wr L 34 [.float .f64 le, .float .f64 ld] ∧ Below w.heap.size w wr ∧ rnd me md se sd le ld = cnt (okB me md se sd le ld) (65536 - k) k) (fun s _ => 65536 - (intOf s).toNat)
    case atStart => exact ⟨0, rfl, by omega, HM2.out, HL2.out, HW2.out, by unfold rnd; rw [Nat.sub_zero]⟩
    case round =>
      obtain ⟨k, rfl, hk, hb, hl, hw, hr⟩ := hrel
      have BK := Lib.hid hb
      have LK := Lib.hid hl
      have WK := Lib.hid hw
      have RK := Lib.hid hr
      clear hb hl hw hr
      have l0 : wr.cell? ⟨L, 0, none⟩ = some (.float .f64 le) := LK.out.cell 0
      have l1 : wr.cell? ⟨L, 1, none⟩ = some (.float .f64 ld) := LK.out.cell 1
      by_cases hlt : k < 65536
      · have d1 : decide ((k : Int) < 65536) = true := decide_eq_true (by omega)
        go_wp2_with fail
        have hs := rspend_any M me md (stB me md se sd le ld k).1 (stB me md se sd le ld k).2 le ld wr BK.out HN.out.1 HN.out.2.1 (stB_nn HN.out.1 HN.out.2.1 HN.out.2.2.1 HN.out.2.2.2 k).1 (stB_nn HN.out.1 HN.out.2.1 HN.out.2.2.1 HN.out.2.2.2 k).2
        cases ho : okB me md se sd le ld k
        · have ho' : ((spB me md (stB me md se sd le ld k).1 (stB me md se sd le ld k).2 le ld).1 == 0) = false := ho
          refine hs.mono ?_
          rintro e wz ⟨rfl, hbz, hfz⟩
          have WZ := Lib.hid (WK.out.trans (hfz.below (B := w.heap.size) WK.out.size (fun j hj => by subst hj; exact HM.out.1)))
          have RZ : Hid (rnd me md se sd le ld = k) := Lib.hid (by rw [RK.out, cnt_stop hlt ho])
          generalize (spB me md (stB me md se sd le ld k).1 (stB me md se sd le ld k).2 le ld).1 = cc at ho' ⊢
          clear hs hbz hfz ho
          go_wp2_with fail
          go_ret2
          exact ⟨by rw [HR.out, RZ.out]; rfl, HLE.out ▸ WZ.out⟩
        · have ho' : ((spB me md (stB me md se sd le ld k).1 (stB me md se sd le ld k).2 le ld).1 == 0) = true := ho
          refine hs.mono ?_
          rintro e wz ⟨rfl, hbz, hfz⟩
          have WZ := Lib.hid (WK.out.trans (hfz.below (B := w.heap.size) WK.out.size (fun j hj => by subst hj; exact HM.out.1)))
          have LZ := Lib.hid (LK.out.fr hfz (by have := HM.out; omega))
          have BZ : Hid (Bud 98 wz M me md (stB me md se sd le ld (k + 1)).1 (stB me md se sd le ld (k + 1)).2) := Lib.hid hbz
          have RZ : Hid (rnd me md se sd le ld = cnt (okB me md se sd le ld) (65536 - (k + 1)) (k + 1)) := Lib.hid (by rw [RK.out, cnt_step hlt ho])
          generalize (spB me md (stB me md se sd le ld k).1 (stB me md se sd le ld k).2 le ld).1 = cc at ho' ⊢
          clear hs hbz hfz ho
          have m1 : IntKind.i64.wrap ((k : Int) + 1) = ((k + 1 : Nat) : Int) := by rw [IntKind.wrap_i64] <;> omega
          go_wp2_with fail
          go_roundw
          case rel => exact ⟨k + 1, rfl, by omega, BZ.out, LZ.out, WZ.out, RZ.out⟩
          case measure => simp [intOf]; omega
      · obtain rfl : k = 65536 := by omega
        have RZ : Hid (rnd me md se sd le ld = 65536) := Lib.hid (by rw [RK.out, Nat.sub_self]; rfl)
        go_wp2_with fail
        go_ret2
        exact ⟨by rw [HR.out, RZ.out]; rfl, HLE.out ▸ WK.out⟩
end Go.Proofs.Ytcfbaildcocnhaa

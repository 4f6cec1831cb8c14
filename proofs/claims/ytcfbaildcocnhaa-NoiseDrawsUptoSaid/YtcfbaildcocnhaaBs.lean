/-
  Walks: Spend, Spent, NewBudget: the program's and the document's.
-/
import Derived.Test.YtcfbaildcocnhaaMem
import Derived.Test.YtcfbaildcocnhaaFj
import Derived.Test.YtcfbaildcocnhaaBu
import Derived.BigQuiet
import Derived.Deep.RegionHeld
import Derived.Deep.MidRow
set_option linter.unusedVariables false
set_option linter.unusedSimpArgs false
namespace Go.Proofs.Ytcfbaildcocnhaa
open Go.RowKit

/-- A budget that lies in block p. -/
def Bud (T : TypeId) (w : World) (p me md se sd : Nat) : Prop := Blk w p T [.float .f64 me, .float .f64 md, .float .f64 se, .float .f64 sd]
theorem run_addF {P : Program} {x y : Nat} (hx : nn x) (hy : nn y) (t : TypeId) (w : World) : (binOp .add t (.float .f64 x) (.float .f64 y)).run P w = .ok (.float .f64 (addF x y)) w := run_float_arith w .add t .f64 x y _ (addF_eq hx hy)
theorem Bud.set {T : TypeId} {w : World} {p me md se sd : Nat} (h : Bud T w p me md se sd) (x y : Nat) : Bud T ((w.setCell ⟨p, 2, none⟩ (.float .f64 x)).setCell ⟨p, 3, none⟩ (.float .f64 y)) p me md x y := (Blk.set h 2 (.float .f64 x)).set 3 (.float .f64 y)

theorem fr_row (w : World) (M : Nat) (cs : Array Value) : Fr (fun j => j = M) w (w.setRow M cs) :=
  ⟨rfl, rfl, rfl, by simp, fun k hk hs => setRow_other w M k cs hs⟩
set_option maxRecDepth 100000 in
set_option maxHeartbeats 4000000 in
theorem spend_any (p me md se sd le ld : Nat) (w : World) (hB : Bud 96 w p me md se sd) (h1 : nn me) (h2 : nn md) (h3 : nn se) (h4 : nn sd) :
    Calls Try.prog 34 #[.pointer (some ⟨p, 0, none⟩), .agg #[.float .f64 le, .float .f64 ld]] w fun e w' => e = .returned (.int .i64 (spB me md se sd le ld).1) ∧ Bud 96 w' p me md (spB me md se sd le ld).2.1 (spB me md se sd le ld).2.2 ∧ Fr (fun j => j = p) w w' := by
  have HB := Lib.hid hB
  have HN := Lib.hid (And.intro h1 (And.intro h2 (And.intro h3 h4)))
  have hlt : p < w.heap.size := Blk.lt hB
  clear hB h1 h2 h3 h4
  have F0 := Lib.hid ((Fr.refl (fun j => j = p) w).alloc (.cells #[.float .f64 le, .float .f64 ld] 34))
  have HL0 : Hid (Blk (w.alloc (.cells #[.float .f64 le, .float .f64 ld] 34)) w.heap.size 34 [.float .f64 le, .float .f64 ld]) := Lib.hid (Blk.new w 34 _)
  have HB0 : Hid (Bud 96 (w.alloc (.cells #[.float .f64 le, .float .f64 ld] 34)) p me md se sd) := Lib.hid (Blk.alloc HB.out _)
  go_enter Try.func34, Try.ntmps34
  go_wp2_with fail
  refine (good_any le ld _).mono ?_
  rintro e w1 ⟨rfl, b1⟩
  have F1 := Lib.hid (F0.out.trans (Fr.of_below b1 _))
  have HL1 := Lib.hid (HL0.out.below b1 (by simp))
  have HB1 : Hid (Bud 96 w1 p me md se sd) := Lib.hid (Blk.below HB0.out b1 (by simp; omega))
  clear b1 F0 HL0 HB0
  cases hg : (fin (fv le) && fin (fv ld))
  · have HG := Lib.hid hg
    clear hg
    go_wp2_with fail
    go_ret
    have e : spB me md se sd le ld = (260, se, sd) := by unfold spB; rw [HG.out]; rfl
    rw [e]
    exact ⟨rfl, HB1.out, F1.out⟩
  · have HG := Lib.hid hg
    have nl := fin_nn (by simp only [Bool.and_eq_true] at hg; exact hg.1)
    have nd := fin_nn (by simp only [Bool.and_eq_true] at hg; exact hg.2)
    clear hg
    have RA := Lib.hid (fun w => run_addF (P := Try.prog) HN.out.2.2.1 nl 22 w)
    have RB := Lib.hid (fun w => run_addF (P := Try.prog) HN.out.2.2.2 nd 22 w)
    clear nl nd
    go_wp2_with fail
    have HD1 : Hid (w.heap.size < w1.heap.size ∧ p < w1.heap.size ∧ ¬ p = w.heap.size) := Lib.hid ⟨Blk.lt HL1.out, Blk.lt HB1.out, by omega⟩
    generalize hL : w.heap.size = L at HL1 HD1 ⊢
    clear hL HB hlt
    refine wp_region_held_drew (S := fun w' => Bud 96 w' p me md se sd ∧ Blk w' L 34 [.float .f64 le, .float .f64 ld]) (by kernel_rfl) (⟨HB1.out, HL1.out⟩) (fun hHeld => ?_)
    have F2 := Lib.hid F1.out.drew
    have HB2 : Hid (Bud 96 w1.drew p me md se sd) := Lib.hid HB1.out
    have HL2 : Hid (Blk w1.drew L 34 [.float .f64 le, .float .f64 ld]) := Lib.hid HL1.out
    have HD2 : Hid (L < w1.drew.heap.size ∧ p < w1.drew.heap.size ∧ ¬ p = L) := HD1
    clear F1 HB1 HL1 HD1
    generalize w1.drew = w2 at *
    refine wpAnyH_take (i := 0) (oi := ⟨some 13, _, _, _, _, _⟩) (v := (.pointer (some ⟨p, 0, none⟩))) rfl (by kernel_rfl) (by kernel_rfl) (by kernel_rfl) (fun _ _ _ h => h) (Or.inl ⟨by rfl, ?_⟩) (by assumption) ?_
    · intro w' hS; go_simp; try with_reducible rfl
    simp only [Act.put, List.setIfInBounds_toArray, List.set_cons_zero, List.set_cons_succ]
    refine wpAnyH_take (i := 1) (oi := ⟨some 14, _, _, _, _, _⟩) (v := (.pointer (some ⟨p, 0, none⟩))) rfl (by kernel_rfl) (by kernel_rfl) (by kernel_rfl) (fun _ _ _ h => h) (Or.inl ⟨by rfl, ?_⟩) (by assumption) ?_
    · intro w' hS; go_simp; try with_reducible rfl
    simp only [Act.put, List.setIfInBounds_toArray, List.set_cons_zero, List.set_cons_succ]
    refine wpAnyH_take (i := 2) (oi := ⟨some 15, _, _, _, _, _⟩) (v := (.pointer (some ⟨p, 2, none⟩))) rfl (by kernel_rfl) (by kernel_rfl) (by kernel_rfl) (fun _ _ _ h => h) (Or.inl ⟨by rfl, ?_⟩) (by assumption) ?_
    · intro w' hS; go_simp; try with_reducible rfl
    simp only [Act.put, List.setIfInBounds_toArray, List.set_cons_zero, List.set_cons_succ]
    refine wpAnyH_take (i := 3) (oi := ⟨some 16, _, _, _, _, _⟩) (v := (.pointer (some ⟨p, 2, none⟩))) rfl (by kernel_rfl) (by kernel_rfl) (by kernel_rfl) (fun _ _ _ h => h) (Or.inl ⟨by rfl, ?_⟩) (by assumption) ?_
    · intro w' hS; go_simp; try with_reducible rfl
    simp only [Act.put, List.setIfInBounds_toArray, List.set_cons_zero, List.set_cons_succ]
    refine wpAnyH_take (i := 4) (oi := ⟨some 17, _, _, _, _, _⟩) (v := (.float .f64 se)) rfl (by kernel_rfl) (by kernel_rfl) (by kernel_rfl) (fun _ _ _ h => h) (Or.inl ⟨by rfl, ?_⟩) (by assumption) ?_
    · intro w' hS; have h0 : w'.cell? ⟨p, 2, none⟩ = some (.float .f64 se) := Blk.cell hS.1 2; go_simp; try with_reducible rfl
    simp only [Act.put, List.setIfInBounds_toArray, List.set_cons_zero, List.set_cons_succ]
    refine wpAnyH_take (i := 5) (oi := ⟨some 18, _, _, _, _, _⟩) (v := (.pointer (some ⟨L, 0, none⟩))) rfl (by kernel_rfl) (by kernel_rfl) (by kernel_rfl) (fun _ _ _ h => h) (Or.inl ⟨by rfl, ?_⟩) (by assumption) ?_
    · intro w' hS; go_simp; try with_reducible rfl
    simp only [Act.put, List.setIfInBounds_toArray, List.set_cons_zero, List.set_cons_succ]
    refine wpAnyH_take (i := 6) (oi := ⟨some 19, _, _, _, _, _⟩) (v := (.float .f64 le)) rfl (by kernel_rfl) (by kernel_rfl) (by kernel_rfl) (fun _ _ _ h => h) (Or.inl ⟨by rfl, ?_⟩) (by assumption) ?_
    · intro w' hS; have h0 : w'.cell? ⟨L, 0, none⟩ = some (.float .f64 le) := Blk.cell hS.2 0; go_simp; try with_reducible rfl
    simp only [Act.put, List.setIfInBounds_toArray, List.set_cons_zero, List.set_cons_succ]
    refine wpAnyH_take (i := 7) (oi := ⟨some 20, _, _, _, _, _⟩) (v := (.float .f64 (addF se le))) rfl (by kernel_rfl) (by kernel_rfl) (by kernel_rfl) (fun _ _ _ h => h) (Or.inl ⟨by rfl, ?_⟩) (by assumption) ?_
    · intro w' hS; have h0 := RA.out w'; go_simp; try with_reducible rfl
    simp only [Act.put, List.setIfInBounds_toArray, List.set_cons_zero, List.set_cons_succ]
    refine wpAnyH_take (i := 8) (oi := ⟨some 21, _, _, _, _, _⟩) (v := (.pointer (some ⟨p, 0, none⟩))) rfl (by kernel_rfl) (by kernel_rfl) (by kernel_rfl) (fun _ _ _ h => h) (Or.inl ⟨by rfl, ?_⟩) (by assumption) ?_
    · intro w' hS; go_simp; try with_reducible rfl
    simp only [Act.put, List.setIfInBounds_toArray, List.set_cons_zero, List.set_cons_succ]
    refine wpAnyH_take (i := 9) (oi := ⟨some 22, _, _, _, _, _⟩) (v := (.pointer (some ⟨p, 0, none⟩))) rfl (by kernel_rfl) (by kernel_rfl) (by kernel_rfl) (fun _ _ _ h => h) (Or.inl ⟨by rfl, ?_⟩) (by assumption) ?_
    · intro w' hS; go_simp; try with_reducible rfl
    simp only [Act.put, List.setIfInBounds_toArray, List.set_cons_zero, List.set_cons_succ]
    refine wpAnyH_take (i := 10) (oi := ⟨some 23, _, _, _, _, _⟩) (v := (.pointer (some ⟨p, 2, none⟩))) rfl (by kernel_rfl) (by kernel_rfl) (by kernel_rfl) (fun _ _ _ h => h) (Or.inl ⟨by rfl, ?_⟩) (by assumption) ?_
    · intro w' hS; go_simp; try with_reducible rfl
    simp only [Act.put, List.setIfInBounds_toArray, List.set_cons_zero, List.set_cons_succ]
    refine wpAnyH_take (i := 11) (oi := ⟨some 24, _, _, _, _, _⟩) (v := (.pointer (some ⟨p, 3, none⟩))) rfl (by kernel_rfl) (by kernel_rfl) (by kernel_rfl) (fun _ _ _ h => h) (Or.inl ⟨by rfl, ?_⟩) (by assumption) ?_
    · intro w' hS; go_simp; try with_reducible rfl
    simp only [Act.put, List.setIfInBounds_toArray, List.set_cons_zero, List.set_cons_succ]
    refine wpAnyH_take (i := 12) (oi := ⟨some 25, _, _, _, _, _⟩) (v := (.float .f64 sd)) rfl (by kernel_rfl) (by kernel_rfl) (by kernel_rfl) (fun _ _ _ h => h) (Or.inl ⟨by rfl, ?_⟩) (by assumption) ?_
    · intro w' hS; have h0 : w'.cell? ⟨p, 3, none⟩ = some (.float .f64 sd) := Blk.cell hS.1 3; go_simp; try with_reducible rfl
    simp only [Act.put, List.setIfInBounds_toArray, List.set_cons_zero, List.set_cons_succ]
    refine wpAnyH_take (i := 13) (oi := ⟨some 26, _, _, _, _, _⟩) (v := (.pointer (some ⟨L, 1, none⟩))) rfl (by kernel_rfl) (by kernel_rfl) (by kernel_rfl) (fun _ _ _ h => h) (Or.inl ⟨by rfl, ?_⟩) (by assumption) ?_
    · intro w' hS; go_simp; try with_reducible rfl
    simp only [Act.put, List.setIfInBounds_toArray, List.set_cons_zero, List.set_cons_succ]
    refine wpAnyH_take (i := 14) (oi := ⟨some 27, _, _, _, _, _⟩) (v := (.float .f64 ld)) rfl (by kernel_rfl) (by kernel_rfl) (by kernel_rfl) (fun _ _ _ h => h) (Or.inl ⟨by rfl, ?_⟩) (by assumption) ?_
    · intro w' hS; have h0 : w'.cell? ⟨L, 1, none⟩ = some (.float .f64 ld) := Blk.cell hS.2 1; go_simp; try with_reducible rfl
    simp only [Act.put, List.setIfInBounds_toArray, List.set_cons_zero, List.set_cons_succ]
    refine wpAnyH_take (i := 15) (oi := ⟨some 28, _, _, _, _, _⟩) (v := (.float .f64 (addF sd ld))) rfl (by kernel_rfl) (by kernel_rfl) (by kernel_rfl) (fun _ _ _ h => h) (Or.inl ⟨by rfl, ?_⟩) (by assumption) ?_
    · intro w' hS; have h0 := RB.out w'; go_simp; try with_reducible rfl
    simp only [Act.put, List.setIfInBounds_toArray, List.set_cons_zero, List.set_cons_succ]
    refine wpAnyH_take (i := 16) (oi := ⟨some 29, _, _, _, _, _⟩) (v := (.agg #[.float .f64 (addF se le), .float .f64 (addF sd ld)])) rfl (by kernel_rfl) (by kernel_rfl) (by kernel_rfl) (fun _ _ _ h => h) (Or.inl ⟨by rfl, ?_⟩) (by assumption) ?_
    · intro w' hS; go_simp; try with_reducible rfl
    simp only [Act.put, List.setIfInBounds_toArray, List.set_cons_zero, List.set_cons_succ]
    refine wpAnyH_ready (rs := [17]) (by kernel_rfl) (by simp) ?_
    refine AllReadyH.cons (o := ⟨some 5, _, _, _, _, _⟩) rfl (fun K hK => ?_) AllReadyH.nil
    rw [if_pos (by rfl)]
    go_simp
    have F3 := Lib.hid (F2.out.alloc (.cells #[.float .f64 0, .float .f64 0] 34))
    have HB3 : Hid (Bud 96 (w2.alloc (.cells #[.float .f64 0, .float .f64 0] 34)) p me md se sd) := Lib.hid (Blk.alloc HB2.out _)
    have HL3 : Hid (Blk (w2.alloc (.cells #[.float .f64 0, .float .f64 0] 34)) L 34 [.float .f64 le, .float .f64 ld]) := Lib.hid (Blk.alloc HL2.out _)
    have HN3 : Hid (Blk (w2.alloc (.cells #[.float .f64 0, .float .f64 0] 34)) w2.heap.size 34 [.float .f64 0, .float .f64 0]) := Lib.hid (Blk.new w2 34 [.float .f64 0, .float .f64 0])
    have HG3 : Hid (¬ p = w2.heap.size ∧ ¬ L = w2.heap.size ∧ w.heap.size ≤ w2.heap.size) := Lib.hid ⟨by have := HD2.out; omega, by have := HD2.out; omega, F2.out.size⟩
    generalize hM : w2.heap.size = M at HN3 HG3 ⊢
    generalize (w2.alloc (.cells #[.float .f64 0, .float .f64 0] 34)) = w3 at *
    clear F2 HB2 HL2 HD2 hM
    (try simp only [Act.put, List.setIfInBounds_toArray, List.set_cons_zero, List.set_cons_succ])
    refine hK.out _ _ (⟨HB3.out, HL3.out⟩) (fun hHeld => ?_)
    clear hK K
    refine wpAnyH_ready (rs := [18]) (by kernel_rfl) (by simp) ?_
    refine AllReadyH.cons (o := ⟨none, _, _, _, _, _⟩) rfl (fun K hK => ?_) AllReadyH.nil
    rw [if_pos (by rfl)]
    (try simp only [Act.put, List.setIfInBounds_toArray, List.set_cons_zero, List.set_cons_succ])
    refine wp_store_row 34 _ _ rfl M #[.float .f64 (addF se le), .float .f64 (addF sd ld)] rfl rfl 34 #[.float .f64 0, .float .f64 0] HN3.out (by kernel_rfl) rfl (by kernel_rfl) ?_
    have F4 : Hid (Fr (fun j => j = p) w (w3.setRow M #[.float .f64 (addF se le), .float .f64 (addF sd ld)])) := Lib.hid (F3.out.then (T := fun j => j = M) (fr_row w3 M #[.float .f64 (addF se le), .float .f64 (addF sd ld)]) (fun i hi => by subst hi; exact .inr HG3.out.2.2))
    have HB4 : Hid (Bud 96 (w3.setRow M #[.float .f64 (addF se le), .float .f64 (addF sd ld)]) p me md se sd) := Lib.hid (Blk.fr HB3.out (fr_row w3 M #[.float .f64 (addF se le), .float .f64 (addF sd ld)]) HG3.out.1)
    have HL4 : Hid (Blk (w3.setRow M #[.float .f64 (addF se le), .float .f64 (addF sd ld)]) L 34 [.float .f64 le, .float .f64 ld]) := Lib.hid (Blk.fr HL3.out (fr_row w3 M #[.float .f64 (addF se le), .float .f64 (addF sd ld)]) HG3.out.2.1)
    have HN4 : Hid (Blk (w3.setRow M #[.float .f64 (addF se le), .float .f64 (addF sd ld)]) M 34 [.float .f64 (addF se le), .float .f64 (addF sd ld)]) := Lib.hid (setRow_heap _ _ _ _ _ _ HN3.out)
    generalize w3.setRow M #[.float .f64 (addF se le), .float .f64 (addF sd ld)] = w4 at *
    clear F3 HB3 HL3 HN3
    (try simp only [Act.put, List.setIfInBounds_toArray, List.set_cons_zero, List.set_cons_succ])
    refine hK.out _ _ (⟨HB4.out, HL4.out⟩) (fun hHeld => ?_)
    clear hK K
    refine wpAnyH_done (by kernel_rfl) ?_ _
    have c0 : w4.cell? ⟨p, 0, none⟩ = some (.float .f64 me) := HB4.out.cell 0
    have c1 : w4.cell? ⟨p, 1, none⟩ = some (.float .f64 md) := HB4.out.cell 1
    have n0 : w4.cell? ⟨M, 0, none⟩ = some (.float .f64 (addF se le)) := HN4.out.cell 0
    have n1 : w4.cell? ⟨M, 1, none⟩ = some (.float .f64 (addF sd ld)) := HN4.out.cell 1
    cases hq1 : gtB (addF se le) me
    · have g1 : (FloatKind.f64.format.order (addF se le) me == some .gt) = false := hq1
      cases hq2 : gtB (addF sd ld) md
      · have g2 : (FloatKind.f64.format.order (addF sd ld) md == some .gt) = false := hq2
        have e : spB me md se sd le ld = (0, addF se le, addF sd ld) := by unfold spB; rw [HG.out, hq1, hq2]; rfl
        have EE := Lib.hid e
        clear e hq1 hq2
        go_wp2_with fail
        go_quiet (fail)
        have TH : Hid ((w4.drewN nq).there p 2 2) := Lib.hid (fun j hj => by
          have hq : Blk (w4.drewN nq) p 96 [.float .f64 me, .float .f64 md, .float .f64 se, .float .f64 sd] := HB4.out
          refine ⟨?_, hq.frozen _⟩
          rw [hq.cell]
          have : j = 0 ∨ j = 1 := by omega
          rcases this with rfl | rfl <;> rfl)
        go_wp2_with (refine wpList_store_mid rfl 34 _ _ rfl p 2 #[.float .f64 (addF se le), .float .f64 (addF sd ld)] rfl rfl TH.out (by kernel_rfl) (by kernel_rfl) ?_)
        go_ret
        rw [EE.out]
        exact ⟨rfl, Bud.set (w := w4.drewN nq) HB4.out _ _, ((F4.out.drewN nq).setCell (p := ⟨p, 2, none⟩) (.inl rfl) _).setCell (p := ⟨p, 3, none⟩) (.inl rfl) _⟩
      · have g2 : (FloatKind.f64.format.order (addF sd ld) md == some .gt) = true := hq2
        have e : spB me md se sd le ld = (261, se, sd) := by unfold spB; rw [HG.out, hq1, hq2]; rfl
        have EE := Lib.hid e
        clear e hq1 hq2
        go_wp2_with fail
        go_quiet (fail)
        go_wp2_with fail
        go_ret
        rw [EE.out]
        exact ⟨rfl, HB4.out, F4.out.drewN nq⟩
    · have g1 : (FloatKind.f64.format.order (addF se le) me == some .gt) = true := hq1
      have e : spB me md se sd le ld = (261, se, sd) := by unfold spB; rw [HG.out, hq1]; rfl
      have EE := Lib.hid e
      clear e hq1
      go_wp2_with fail
      go_quiet (fail)
      go_wp2_with fail
      go_ret
      rw [EE.out]
      exact ⟨rfl, HB4.out, F4.out.drewN nq⟩
set_option maxRecDepth 100000 in
set_option maxHeartbeats 4000000 in
theorem rspend_any (p me md se sd le ld : Nat) (w : World) (hB : Bud 98 w p me md se sd) (h1 : nn me) (h2 : nn md) (h3 : nn se) (h4 : nn sd) :
    Calls Try.prog 51 #[.pointer (some ⟨p, 0, none⟩), .agg #[.float .f64 le, .float .f64 ld]] w fun e w' => e = .returned (.int .i64 (spB me md se sd le ld).1) ∧ Bud 98 w' p me md (spB me md se sd le ld).2.1 (spB me md se sd le ld).2.2 ∧ Fr (fun j => j = p) w w' := by
  have HB := Lib.hid hB
  have HN := Lib.hid (And.intro h1 (And.intro h2 (And.intro h3 h4)))
  have hlt : p < w.heap.size := Blk.lt hB
  clear hB h1 h2 h3 h4
  have F0 := Lib.hid ((Fr.refl (fun j => j = p) w).alloc (.cells #[.float .f64 le, .float .f64 ld] 34))
  have HL0 : Hid (Blk (w.alloc (.cells #[.float .f64 le, .float .f64 ld] 34)) w.heap.size 34 [.float .f64 le, .float .f64 ld]) := Lib.hid (Blk.new w 34 _)
  have HB0 : Hid (Bud 98 (w.alloc (.cells #[.float .f64 le, .float .f64 ld] 34)) p me md se sd) := Lib.hid (Blk.alloc HB.out _)
  go_enter Try.func51, Try.ntmps51
  go_wp2_with fail
  refine (rgood_any le ld _).mono ?_
  rintro e w1 ⟨rfl, b1⟩
  have F1 := Lib.hid (F0.out.trans (Fr.of_below b1 _))
  have HL1 := Lib.hid (HL0.out.below b1 (by simp))
  have HB1 : Hid (Bud 98 w1 p me md se sd) := Lib.hid (Blk.below HB0.out b1 (by simp; omega))
  clear b1 F0 HL0 HB0
  cases hg : (fin (fv le) && fin (fv ld))
  · have HG := Lib.hid hg
    clear hg
    go_wp2_with fail
    go_ret
    have e : spB me md se sd le ld = (260, se, sd) := by unfold spB; rw [HG.out]; rfl
    rw [e]
    exact ⟨rfl, HB1.out, F1.out⟩
  · have HG := Lib.hid hg
    have nl := fin_nn (by simp only [Bool.and_eq_true] at hg; exact hg.1)
    have nd := fin_nn (by simp only [Bool.and_eq_true] at hg; exact hg.2)
    clear hg
    have RA := Lib.hid (fun w => run_addF (P := Try.prog) HN.out.2.2.1 nl 22 w)
    have RB := Lib.hid (fun w => run_addF (P := Try.prog) HN.out.2.2.2 nd 22 w)
    clear nl nd
    go_wp2_with fail
    have HD1 : Hid (w.heap.size < w1.heap.size ∧ p < w1.heap.size ∧ ¬ p = w.heap.size) := Lib.hid ⟨Blk.lt HL1.out, Blk.lt HB1.out, by omega⟩
    generalize hL : w.heap.size = L at HL1 HD1 ⊢
    clear hL HB hlt
    refine wp_region_held_drew (S := fun w' => Bud 98 w' p me md se sd ∧ Blk w' L 34 [.float .f64 le, .float .f64 ld]) (by kernel_rfl) (⟨HB1.out, HL1.out⟩) (fun hHeld => ?_)
    have F2 := Lib.hid F1.out.drew
    have HB2 : Hid (Bud 98 w1.drew p me md se sd) := Lib.hid HB1.out
    have HL2 : Hid (Blk w1.drew L 34 [.float .f64 le, .float .f64 ld]) := Lib.hid HL1.out
    have HD2 : Hid (L < w1.drew.heap.size ∧ p < w1.drew.heap.size ∧ ¬ p = L) := HD1
    clear F1 HB1 HL1 HD1
    generalize w1.drew = w2 at *
    refine wpAnyH_take (i := 0) (oi := ⟨some 9, _, _, _, _, _⟩) (v := (.pointer (some ⟨p, 0, none⟩))) rfl (by kernel_rfl) (by kernel_rfl) (by kernel_rfl) (fun _ _ _ h => h) (Or.inl ⟨by rfl, ?_⟩) (by assumption) ?_
    · intro w' hS; go_simp; try with_reducible rfl
    simp only [Act.put, List.setIfInBounds_toArray, List.set_cons_zero, List.set_cons_succ]
    refine wpAnyH_take (i := 1) (oi := ⟨some 10, _, _, _, _, _⟩) (v := (.pointer (some ⟨p, 0, none⟩))) rfl (by kernel_rfl) (by kernel_rfl) (by kernel_rfl) (fun _ _ _ h => h) (Or.inl ⟨by rfl, ?_⟩) (by assumption) ?_
    · intro w' hS; go_simp; try with_reducible rfl
    simp only [Act.put, List.setIfInBounds_toArray, List.set_cons_zero, List.set_cons_succ]
    refine wpAnyH_take (i := 2) (oi := ⟨some 11, _, _, _, _, _⟩) (v := (.pointer (some ⟨p, 2, none⟩))) rfl (by kernel_rfl) (by kernel_rfl) (by kernel_rfl) (fun _ _ _ h => h) (Or.inl ⟨by rfl, ?_⟩) (by assumption) ?_
    · intro w' hS; go_simp; try with_reducible rfl
    simp only [Act.put, List.setIfInBounds_toArray, List.set_cons_zero, List.set_cons_succ]
    refine wpAnyH_take (i := 3) (oi := ⟨some 12, _, _, _, _, _⟩) (v := (.pointer (some ⟨p, 2, none⟩))) rfl (by kernel_rfl) (by kernel_rfl) (by kernel_rfl) (fun _ _ _ h => h) (Or.inl ⟨by rfl, ?_⟩) (by assumption) ?_
    · intro w' hS; go_simp; try with_reducible rfl
    simp only [Act.put, List.setIfInBounds_toArray, List.set_cons_zero, List.set_cons_succ]
    refine wpAnyH_take (i := 4) (oi := ⟨some 13, _, _, _, _, _⟩) (v := (.float .f64 se)) rfl (by kernel_rfl) (by kernel_rfl) (by kernel_rfl) (fun _ _ _ h => h) (Or.inl ⟨by rfl, ?_⟩) (by assumption) ?_
    · intro w' hS; have h0 : w'.cell? ⟨p, 2, none⟩ = some (.float .f64 se) := Blk.cell hS.1 2; go_simp; try with_reducible rfl
    simp only [Act.put, List.setIfInBounds_toArray, List.set_cons_zero, List.set_cons_succ]
    refine wpAnyH_take (i := 5) (oi := ⟨some 14, _, _, _, _, _⟩) (v := (.pointer (some ⟨L, 0, none⟩))) rfl (by kernel_rfl) (by kernel_rfl) (by kernel_rfl) (fun _ _ _ h => h) (Or.inl ⟨by rfl, ?_⟩) (by assumption) ?_
    · intro w' hS; go_simp; try with_reducible rfl
    simp only [Act.put, List.setIfInBounds_toArray, List.set_cons_zero, List.set_cons_succ]
    refine wpAnyH_take (i := 6) (oi := ⟨some 15, _, _, _, _, _⟩) (v := (.float .f64 le)) rfl (by kernel_rfl) (by kernel_rfl) (by kernel_rfl) (fun _ _ _ h => h) (Or.inl ⟨by rfl, ?_⟩) (by assumption) ?_
    · intro w' hS; have h0 : w'.cell? ⟨L, 0, none⟩ = some (.float .f64 le) := Blk.cell hS.2 0; go_simp; try with_reducible rfl
    simp only [Act.put, List.setIfInBounds_toArray, List.set_cons_zero, List.set_cons_succ]
    refine wpAnyH_take (i := 7) (oi := ⟨some 16, _, _, _, _, _⟩) (v := (.float .f64 (addF se le))) rfl (by kernel_rfl) (by kernel_rfl) (by kernel_rfl) (fun _ _ _ h => h) (Or.inl ⟨by rfl, ?_⟩) (by assumption) ?_
    · intro w' hS; have h0 := RA.out w'; go_simp; try with_reducible rfl
    simp only [Act.put, List.setIfInBounds_toArray, List.set_cons_zero, List.set_cons_succ]
    refine wpAnyH_take (i := 8) (oi := ⟨some 17, _, _, _, _, _⟩) (v := (.pointer (some ⟨p, 0, none⟩))) rfl (by kernel_rfl) (by kernel_rfl) (by kernel_rfl) (fun _ _ _ h => h) (Or.inl ⟨by rfl, ?_⟩) (by assumption) ?_
    · intro w' hS; go_simp; try with_reducible rfl
    simp only [Act.put, List.setIfInBounds_toArray, List.set_cons_zero, List.set_cons_succ]
    refine wpAnyH_take (i := 9) (oi := ⟨some 18, _, _, _, _, _⟩) (v := (.pointer (some ⟨p, 0, none⟩))) rfl (by kernel_rfl) (by kernel_rfl) (by kernel_rfl) (fun _ _ _ h => h) (Or.inl ⟨by rfl, ?_⟩) (by assumption) ?_
    · intro w' hS; go_simp; try with_reducible rfl
    simp only [Act.put, List.setIfInBounds_toArray, List.set_cons_zero, List.set_cons_succ]
    refine wpAnyH_take (i := 10) (oi := ⟨some 19, _, _, _, _, _⟩) (v := (.pointer (some ⟨p, 2, none⟩))) rfl (by kernel_rfl) (by kernel_rfl) (by kernel_rfl) (fun _ _ _ h => h) (Or.inl ⟨by rfl, ?_⟩) (by assumption) ?_
    · intro w' hS; go_simp; try with_reducible rfl
    simp only [Act.put, List.setIfInBounds_toArray, List.set_cons_zero, List.set_cons_succ]
    refine wpAnyH_take (i := 11) (oi := ⟨some 20, _, _, _, _, _⟩) (v := (.pointer (some ⟨p, 3, none⟩))) rfl (by kernel_rfl) (by kernel_rfl) (by kernel_rfl) (fun _ _ _ h => h) (Or.inl ⟨by rfl, ?_⟩) (by assumption) ?_
    · intro w' hS; go_simp; try with_reducible rfl
    simp only [Act.put, List.setIfInBounds_toArray, List.set_cons_zero, List.set_cons_succ]
    refine wpAnyH_take (i := 12) (oi := ⟨some 21, _, _, _, _, _⟩) (v := (.float .f64 sd)) rfl (by kernel_rfl) (by kernel_rfl) (by kernel_rfl) (fun _ _ _ h => h) (Or.inl ⟨by rfl, ?_⟩) (by assumption) ?_
    · intro w' hS; have h0 : w'.cell? ⟨p, 3, none⟩ = some (.float .f64 sd) := Blk.cell hS.1 3; go_simp; try with_reducible rfl
    simp only [Act.put, List.setIfInBounds_toArray, List.set_cons_zero, List.set_cons_succ]
    refine wpAnyH_take (i := 13) (oi := ⟨some 22, _, _, _, _, _⟩) (v := (.pointer (some ⟨L, 1, none⟩))) rfl (by kernel_rfl) (by kernel_rfl) (by kernel_rfl) (fun _ _ _ h => h) (Or.inl ⟨by rfl, ?_⟩) (by assumption) ?_
    · intro w' hS; go_simp; try with_reducible rfl
    simp only [Act.put, List.setIfInBounds_toArray, List.set_cons_zero, List.set_cons_succ]
    refine wpAnyH_take (i := 14) (oi := ⟨some 23, _, _, _, _, _⟩) (v := (.float .f64 ld)) rfl (by kernel_rfl) (by kernel_rfl) (by kernel_rfl) (fun _ _ _ h => h) (Or.inl ⟨by rfl, ?_⟩) (by assumption) ?_
    · intro w' hS; have h0 : w'.cell? ⟨L, 1, none⟩ = some (.float .f64 ld) := Blk.cell hS.2 1; go_simp; try with_reducible rfl
    simp only [Act.put, List.setIfInBounds_toArray, List.set_cons_zero, List.set_cons_succ]
    refine wpAnyH_take (i := 15) (oi := ⟨some 24, _, _, _, _, _⟩) (v := (.float .f64 (addF sd ld))) rfl (by kernel_rfl) (by kernel_rfl) (by kernel_rfl) (fun _ _ _ h => h) (Or.inl ⟨by rfl, ?_⟩) (by assumption) ?_
    · intro w' hS; have h0 := RB.out w'; go_simp; try with_reducible rfl
    simp only [Act.put, List.setIfInBounds_toArray, List.set_cons_zero, List.set_cons_succ]
    refine wpAnyH_take (i := 16) (oi := ⟨some 25, _, _, _, _, _⟩) (v := (.agg #[.float .f64 (addF se le), .float .f64 (addF sd ld)])) rfl (by kernel_rfl) (by kernel_rfl) (by kernel_rfl) (fun _ _ _ h => h) (Or.inl ⟨by rfl, ?_⟩) (by assumption) ?_
    · intro w' hS; go_simp; try with_reducible rfl
    simp only [Act.put, List.setIfInBounds_toArray, List.set_cons_zero, List.set_cons_succ]
    refine wpAnyH_ready (rs := [17]) (by kernel_rfl) (by simp) ?_
    refine AllReadyH.cons (o := ⟨some 5, _, _, _, _, _⟩) rfl (fun K hK => ?_) AllReadyH.nil
    rw [if_pos (by rfl)]
    go_simp
    have F3 := Lib.hid (F2.out.alloc (.cells #[.float .f64 0, .float .f64 0] 34))
    have HB3 : Hid (Bud 98 (w2.alloc (.cells #[.float .f64 0, .float .f64 0] 34)) p me md se sd) := Lib.hid (Blk.alloc HB2.out _)
    have HL3 : Hid (Blk (w2.alloc (.cells #[.float .f64 0, .float .f64 0] 34)) L 34 [.float .f64 le, .float .f64 ld]) := Lib.hid (Blk.alloc HL2.out _)
    have HN3 : Hid (Blk (w2.alloc (.cells #[.float .f64 0, .float .f64 0] 34)) w2.heap.size 34 [.float .f64 0, .float .f64 0]) := Lib.hid (Blk.new w2 34 [.float .f64 0, .float .f64 0])
    have HG3 : Hid (¬ p = w2.heap.size ∧ ¬ L = w2.heap.size ∧ w.heap.size ≤ w2.heap.size) := Lib.hid ⟨by have := HD2.out; omega, by have := HD2.out; omega, F2.out.size⟩
    generalize hM : w2.heap.size = M at HN3 HG3 ⊢
    generalize (w2.alloc (.cells #[.float .f64 0, .float .f64 0] 34)) = w3 at *
    clear F2 HB2 HL2 HD2 hM
    (try simp only [Act.put, List.setIfInBounds_toArray, List.set_cons_zero, List.set_cons_succ])
    refine hK.out _ _ (⟨HB3.out, HL3.out⟩) (fun hHeld => ?_)
    clear hK K
    refine wpAnyH_ready (rs := [18]) (by kernel_rfl) (by simp) ?_
    refine AllReadyH.cons (o := ⟨none, _, _, _, _, _⟩) rfl (fun K hK => ?_) AllReadyH.nil
    rw [if_pos (by rfl)]
    (try simp only [Act.put, List.setIfInBounds_toArray, List.set_cons_zero, List.set_cons_succ])
    refine wp_store_row 34 _ _ rfl M #[.float .f64 (addF se le), .float .f64 (addF sd ld)] rfl rfl 34 #[.float .f64 0, .float .f64 0] HN3.out (by kernel_rfl) rfl (by kernel_rfl) ?_
    have F4 : Hid (Fr (fun j => j = p) w (w3.setRow M #[.float .f64 (addF se le), .float .f64 (addF sd ld)])) := Lib.hid (F3.out.then (T := fun j => j = M) (fr_row w3 M #[.float .f64 (addF se le), .float .f64 (addF sd ld)]) (fun i hi => by subst hi; exact .inr HG3.out.2.2))
    have HB4 : Hid (Bud 98 (w3.setRow M #[.float .f64 (addF se le), .float .f64 (addF sd ld)]) p me md se sd) := Lib.hid (Blk.fr HB3.out (fr_row w3 M #[.float .f64 (addF se le), .float .f64 (addF sd ld)]) HG3.out.1)
    have HL4 : Hid (Blk (w3.setRow M #[.float .f64 (addF se le), .float .f64 (addF sd ld)]) L 34 [.float .f64 le, .float .f64 ld]) := Lib.hid (Blk.fr HL3.out (fr_row w3 M #[.float .f64 (addF se le), .float .f64 (addF sd ld)]) HG3.out.2.1)
    have HN4 : Hid (Blk (w3.setRow M #[.float .f64 (addF se le), .float .f64 (addF sd ld)]) M 34 [.float .f64 (addF se le), .float .f64 (addF sd ld)]) := Lib.hid (setRow_heap _ _ _ _ _ _ HN3.out)
    generalize w3.setRow M #[.float .f64 (addF se le), .float .f64 (addF sd ld)] = w4 at *
    clear F3 HB3 HL3 HN3
    (try simp only [Act.put, List.setIfInBounds_toArray, List.set_cons_zero, List.set_cons_succ])
    refine hK.out _ _ (⟨HB4.out, HL4.out⟩) (fun hHeld => ?_)
    clear hK K
    refine wpAnyH_done (by kernel_rfl) ?_ _
    have c0 : w4.cell? ⟨p, 0, none⟩ = some (.float .f64 me) := HB4.out.cell 0
    have c1 : w4.cell? ⟨p, 1, none⟩ = some (.float .f64 md) := HB4.out.cell 1
    have n0 : w4.cell? ⟨M, 0, none⟩ = some (.float .f64 (addF se le)) := HN4.out.cell 0
    have n1 : w4.cell? ⟨M, 1, none⟩ = some (.float .f64 (addF sd ld)) := HN4.out.cell 1
    cases hq1 : gtB (addF se le) me
    · have g1 : (FloatKind.f64.format.order (addF se le) me == some .gt) = false := hq1
      cases hq2 : gtB (addF sd ld) md
      · have g2 : (FloatKind.f64.format.order (addF sd ld) md == some .gt) = false := hq2
        have e : spB me md se sd le ld = (0, addF se le, addF sd ld) := by unfold spB; rw [HG.out, hq1, hq2]; rfl
        have EE := Lib.hid e
        clear e hq1 hq2
        go_wp2_with fail
        go_quiet (fail)
        have TH : Hid ((w4.drewN nq).there p 2 2) := Lib.hid (fun j hj => by
          have hq : Blk (w4.drewN nq) p 98 [.float .f64 me, .float .f64 md, .float .f64 se, .float .f64 sd] := HB4.out
          refine ⟨?_, hq.frozen _⟩
          rw [hq.cell]
          have : j = 0 ∨ j = 1 := by omega
          rcases this with rfl | rfl <;> rfl)
        go_wp2_with (refine wpList_store_mid rfl 34 _ _ rfl p 2 #[.float .f64 (addF se le), .float .f64 (addF sd ld)] rfl rfl TH.out (by kernel_rfl) (by kernel_rfl) ?_)
        go_ret
        rw [EE.out]
        exact ⟨rfl, Bud.set (w := w4.drewN nq) HB4.out _ _, ((F4.out.drewN nq).setCell (p := ⟨p, 2, none⟩) (.inl rfl) _).setCell (p := ⟨p, 3, none⟩) (.inl rfl) _⟩
      · have g2 : (FloatKind.f64.format.order (addF sd ld) md == some .gt) = true := hq2
        have e : spB me md se sd le ld = (261, se, sd) := by unfold spB; rw [HG.out, hq1, hq2]; rfl
        have EE := Lib.hid e
        clear e hq1 hq2
        go_wp2_with fail
        go_quiet (fail)
        go_wp2_with fail
        go_ret
        rw [EE.out]
        exact ⟨rfl, HB4.out, F4.out.drewN nq⟩
    · have g1 : (FloatKind.f64.format.order (addF se le) me == some .gt) = true := hq1
      have e : spB me md se sd le ld = (261, se, sd) := by unfold spB; rw [HG.out, hq1]; rfl
      have EE := Lib.hid e
      clear e hq1
      go_wp2_with fail
      go_quiet (fail)
      go_wp2_with fail
      go_ret
      rw [EE.out]
      exact ⟨rfl, HB4.out, F4.out.drewN nq⟩
end Go.Proofs.Ytcfbaildcocnhaa

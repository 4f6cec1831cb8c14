/-
  Walk: record.Parse of a record.
-/
import Derived.Test.YtedejkfhgpnhpaaPa
import Derived.Test.YtedejkfhgpnhpaaMk
import Derived.Test.YtedejkfhgpnhpaaSl
import Derived.Deep.DeepCutAuto
set_option linter.unusedVariables false
set_option linter.unusedSimpArgs false
namespace Go.Proofs.Ytedejkfhgpnhpaa
open Go.RowKit

theorem exec_slice_from {P : Program} {o : Oper} {a : Act} {w : World} (t e : TypeId) (x y : Operand) (ho : o.op = .slice t x (some y) none none) (ht : P.underlying t = some (.slice e)) (hsz : (P.info? e).map (·.size) = some 1) (A : Option Addr) (n c j : Nat) (kl : IntKind) (l : Int)
    (hx : a.eval x = .slice A n c) (hy : a.eval y = .int kl l) (hl : l = (j : Int)) (hj : j ≤ n) : (execOp a.eval o).run P w = .ok (.value (.slice (cutA A j c) (n - j) (c - j))) w := by
  unfold execOp
  have he : P.elem t = e := by simp [Program.elem, ht]
  simp only [ho, hx, hy, Option.map, Sem.run_bind, run_sliceAt_slice w t _ _ _ _ (by rw [ht, he]), run_cut_from w t e ht hsz A n c j kl l hl hj, Result.andThen_ok]
  rfl
theorem Hd.ne {w : World} {b : Nat} {h : Array Value} (x : Hd w b h) {base : Nat} {k : IntKind} {v : Value} {xs : List Int} (o : Own w base 5 k v xs) : ∀ g, v.ownBlock = some g → g ≠ b := by
  rintro g hg rfl
  rcases o.form with ⟨rfl, rfl⟩ | ⟨g', c, rest, rfl, _, hB, _, _⟩
  · cases hg
  · injection hg with e
    subst e
    have h2 : w.heap[g']? = some (.cells _ 5 (0, 0)) := hB
    unfold Hd at x
    rw [x] at h2
    injection h2 with h2
    injection h2 with _ h3 _
    cases h3
theorem own_setRow {w : World} {base T : Nat} {k : IntKind} {v : Value} {xs : List Int} (o : Own w base T k v xs) {b : Nat} (hne : ∀ g, v.ownBlock = some g → g ≠ b) (cs : Array Value) : Own (w.setRow b cs) base T k v xs := by
  rcases o.form with ⟨rfl, rfl⟩ | ⟨g, c, rest, rfl, hb, hB, hc, hm⟩
  · exact Own.nil _ _ _ _
  · exact Own.mk hb ((setRow_other _ b g cs (hne g rfl)).trans hB) hc hm
theorem hdr_size (xs : List Int) : (Try.prog.info? 26).map (·.size) = some (hdr xs).size := size26' _ _ _ _ _
theorem hdr_sz (xs : List Int) (l f i r : Nat) (g : Nat → Int) : (hArr l f i r g).size = (hdr xs).size := (hArr_size2 _ _ _ _ _).trans (hArr_size2 _ _ _ _ _).symm
theorem hdr_cells (xs : List Int) : (hdr xs).all (·.oneCell') = true := hArr_cells _ _ _ _ _
/-- What a region of Parse keeps: the argument's first two cells, whatever is made. -/
def SS (b off L F : Nat) (W : World) : Prop := W.cell? ⟨b, off, none⟩ = some (.int .u8 L) ∧ W.cell? ⟨b, off + 1, none⟩ = some (.int .u8 F)
theorem SS.below {b off L F B : Nat} {w W : World} (h : SS b off L F w) (hb : b < B) (bl : Below B w W) : SS b off L F W :=
  ⟨(bl.cell (p := ⟨b, off, none⟩) hb).trans h.1, (bl.cell (p := ⟨b, off + 1, none⟩) hb).trans h.2⟩

set_option maxRecDepth 20000 in
set_option maxHeartbeats 4000000 in
theorem parse_yes (b off n c : Nat) (xs : List Int) (w : World) (hn : n = xs.length) (hnc : n ≤ c) (hc63 : c ≤ 9223372036854775807) (hl : xs.length ≤ 140737488355328) (hr : Rd w .u8 (some ⟨b, off, none⟩) xs) (hB : B8 xs) (hI : isR xs n = true) (h26 : 26 ≤ n) :
    Calls Try.prog 21 #[.slice (some ⟨b, off, none⟩) n c] w fun e w' => ∃ v, e = .returned (.tuple #[.agg (hdr xs), v, .int .i64 0]) ∧ Own w' w.heap.size 5 .u8 v (xs.drop 26) ∧ Below w.heap.size w w' := by
  have HN := Lib.hid hn
  have HR := Lib.hid hr
  have HB := Lib.hid hB
  have HI := Lib.hid hI
  have hblt : b < w.heap.size := hr.lt (by omega)
  have HBL := Lib.hid hblt
  obtain ⟨b', off', y0, hA0, hc0, HK0⟩ := hr.at 0 (by omega)
  cases hA0
  obtain ⟨b', off', y1, hA1, hc1, HK1⟩ := hr.at 1 (by omega)
  cases hA1
  obtain ⟨L, e0⟩ : ∃ Y : Nat, y0 = (Y : Int) := ⟨y0.toNat, by have := hB 0; have := HK0.out; omega⟩
  obtain ⟨F, e1⟩ : ∃ Y : Nat, y1 = (Y : Int) := ⟨y1.toNat, by have := hB 1; have := HK1.out; omega⟩
  subst e0 e1
  have HS := Lib.hid (show SS b off L F w from ⟨by simpa using hc0, hc1⟩)
  have HHD : Hid (hArr L F (numR xs 2) (numR xs 6) (fun j => xs.getD (10 + j) 0) = hdr xs) := Lib.hid (by
    unfold hdr
    rw [← HK0.out, ← HK1.out]
    simp)
  have HBLD : Hid (Try.prog.built 26 [(0, .int .u8 (L : Int)), (1, .int .u8 (F : Int)), (2, .int .u32 (numR xs 2 : Int)), (3, .int .u32 (numR xs 6 : Int)), (4, .agg (grp xs).toArray)] = some (hdr xs)) := Lib.hid (by
    rw [← HHD.out, grp16 xs (hn ▸ h26)]
    exact build_arr L F (numR xs 2) (numR xs 6) (fun j => xs.getD (10 + j) 0))
  have h0n : ¬ n = 0 := by omega
  have h1n : (1 : Int) < (n : Int) := by omega
  have HLN := Lib.hid hl
  clear hn hr hB hI hc0 hc1 hblt hl
  go_enter Try.func21, Try.ntmps21
  go_wp2_with fail
  rw [zArr]
  have W1 := Lib.hid ((Below.refl w.heap.size w).alloc (Nat.le_refl _) (.cells (hArr 0 0 0 0 z0) 26))
  have Z1 : Hid (Hd (w.alloc (.cells (hArr 0 0 0 0 z0) 26)) w.heap.size (hArr 0 0 0 0 z0)) := Lib.hid (heap_alloc_new w _)
  generalize w.alloc (.cells (hArr 0 0 0 0 z0) 26) = w1 at W1 Z1
  refine (is_any _ n c xs w1 HN.out (HR.out.below W1.out) HB.out).mono ?_
  rintro e w' ⟨rfl, q, rfl⟩
  rw [HI.out]
  have Z2 : Hid (Hd (w1.drewN q) w.heap.size (hArr 0 0 0 0 z0)) := Lib.hid Z1.out
  have W2 := Lib.hid (belowN W1.out q)
  generalize w1.drewN q = w2 at Z2 W2
  have hm : ((mk true : Int) == 0) = false := rfl
  clear Z1 W1
  go_wp2_with fail
  go_cut [5] (fun v5 wx => ∃ B, v5 = .pointer (some ⟨B, 0, none⟩) ∧ Hid (w.heap.size < B) ∧ Hid (Hd wx w.heap.size (hArr 0 0 0 0 z0)) ∧ Hid (Hd wx B (hdr xs)) ∧ Hid (Below w.heap.size w wx))
  case first =>
    refine wp_region_held_drew (S := SS b off L F) (by kernel_rfl) (SS.below HS.out HBL.out W2.out.drew) (fun hHeld => ?_)
    have WB := Lib.hid W2.out.drew
    have ZZ : Hid (Hd w2.drew w.heap.size (hArr 0 0 0 0 z0)) := Lib.hid Z2.out
    generalize w2.drew = W at WB ZZ hHeld
    clear W2 Z2
    refine wpAnyH_take (i := 0) (v := (.slice (some ⟨b, off, none⟩) n c)) rfl (by kernel_rfl) (by kernel_rfl) (by kernel_rfl) (fun _ _ _ h => h) (Or.inl ⟨by rfl, ?_⟩) (by assumption) ?_
    · intro w' hS; (try dsimp only [SS] at hS); go_simp; try with_reducible rfl
    simp only [Act.put, List.setIfInBounds_toArray, List.set_cons_zero, List.set_cons_succ]
    refine wpAnyH_take (i := 1) (v := (.pointer (some ⟨b, off, none⟩))) rfl (by kernel_rfl) (by kernel_rfl) (by kernel_rfl) (fun _ _ _ h => h) (Or.inl ⟨by rfl, ?_⟩) (by assumption) ?_
    · intro w' hS; (try dsimp only [SS] at hS); go_simp; try with_reducible rfl
    simp only [Act.put, List.setIfInBounds_toArray, List.set_cons_zero, List.set_cons_succ]
    refine wpAnyH_take (i := 2) (v := (.int .u8 (L : Int))) rfl (by kernel_rfl) (by kernel_rfl) (by kernel_rfl) (fun _ _ _ h => h) (Or.inl ⟨by rfl, ?_⟩) (by assumption) ?_
    · intro w' hS; have hS1 := hS.1; go_simp; try with_reducible rfl
    simp only [Act.put, List.setIfInBounds_toArray, List.set_cons_zero, List.set_cons_succ]
    refine wpAnyH_take (i := 3) (v := (.slice (some ⟨b, off, none⟩) n c)) rfl (by kernel_rfl) (by kernel_rfl) (by kernel_rfl) (fun _ _ _ h => h) (Or.inl ⟨by rfl, ?_⟩) (by assumption) ?_
    · intro w' hS; (try dsimp only [SS] at hS); go_simp; try with_reducible rfl
    simp only [Act.put, List.setIfInBounds_toArray, List.set_cons_zero, List.set_cons_succ]
    refine wpAnyH_take (i := 4) (v := (.pointer (some ⟨b, off + 1, none⟩))) rfl (by kernel_rfl) (by kernel_rfl) (by kernel_rfl) (fun _ _ _ h => h) (Or.inl ⟨by rfl, ?_⟩) (by assumption) ?_
    · intro w' hS; (try dsimp only [SS] at hS); go_simp; try with_reducible rfl
    simp only [Act.put, List.setIfInBounds_toArray, List.set_cons_zero, List.set_cons_succ]
    refine wpAnyH_take (i := 5) (v := (.int .u8 (F : Int))) rfl (by kernel_rfl) (by kernel_rfl) (by kernel_rfl) (fun _ _ _ h => h) (Or.inl ⟨by rfl, ?_⟩) (by assumption) ?_
    · intro w' hS; have hS1 := hS.2; go_simp; try with_reducible rfl
    simp only [Act.put, List.setIfInBounds_toArray, List.set_cons_zero, List.set_cons_succ]
    refine wpAnyH_take (i := 6) (v := (.slice (some ⟨b, off, none⟩) n c)) rfl (by kernel_rfl) (by kernel_rfl) (by kernel_rfl) (fun _ _ _ h => h) (Or.inl ⟨by rfl, ?_⟩) (by assumption) ?_
    · intro w' hS; (try dsimp only [SS] at hS); go_simp; try with_reducible rfl
    simp only [Act.put, List.setIfInBounds_toArray, List.set_cons_zero, List.set_cons_succ]
    refine wpAnyH_take (i := 8) (v := (.slice (some ⟨b, off, none⟩) n c)) rfl (by kernel_rfl) (by kernel_rfl) (by kernel_rfl) (fun _ _ _ h => h) (Or.inl ⟨by rfl, ?_⟩) (by assumption) ?_
    · intro w' hS; (try dsimp only [SS] at hS); go_simp; try with_reducible rfl
    simp only [Act.put, List.setIfInBounds_toArray, List.set_cons_zero, List.set_cons_succ]
    refine wpAnyH_take (i := 10) (v := (.slice (some ⟨b, off, none⟩) n c)) rfl (by kernel_rfl) (by kernel_rfl) (by kernel_rfl) (fun _ _ _ h => h) (Or.inl ⟨by rfl, ?_⟩) (by assumption) ?_
    · intro w' hS; (try dsimp only [SS] at hS); go_simp; try with_reducible rfl
    simp only [Act.put, List.setIfInBounds_toArray, List.set_cons_zero, List.set_cons_succ]
    refine wpAnyH_ready (rs := [7, 13]) (by kernel_rfl) (by simp) ?_
    refine AllReadyH.cons rfl (fun K hK => ?_) ?_
    · rw [if_pos (by rfl)]
      go_simp
      refine (rnum_any _ n c 2 xs _ HN.out hnc (HR.out.below WB.out) HB.out (by omega) (by omega) hc63).mono ?_
      rintro e w' ⟨rfl, hw⟩
      obtain rfl : W = w' := by first | exact hw | exact hw.symm
      dsimp only
      (try simp only [Act.put, List.setIfInBounds_toArray, List.set_cons_zero, List.set_cons_succ])
      refine hK.out _ _ (SS.below HS.out HBL.out WB.out) (fun hHeld => ?_)
      clear hK K
      refine wpAnyH_ready (rs := [9, 13]) (by kernel_rfl) (by simp) ?_
      refine AllReadyH.cons rfl (fun K hK => ?_) ?_
      · rw [if_pos (by rfl)]
        go_simp
        refine (rnum_any _ n c 6 xs _ HN.out hnc (HR.out.below WB.out) HB.out (by omega) (by omega) hc63).mono ?_
        rintro e w' ⟨rfl, hw⟩
        obtain rfl : W = w' := by first | exact hw | exact hw.symm
        dsimp only
        (try simp only [Act.put, List.setIfInBounds_toArray, List.set_cons_zero, List.set_cons_succ])
        refine hK.out _ _ (SS.below HS.out HBL.out WB.out) (fun hHeld => ?_)
        clear hK K
        refine wpAnyH_ready (rs := [11, 13]) (by kernel_rfl) (by simp) ?_
        refine AllReadyH.cons rfl (fun K hK => ?_) ?_
        · rw [if_pos (by rfl)]
          go_simp
          refine (group_any b off n c xs _ HN.out hnc h26 (HR.out.below WB.out) hc63).mono ?_
          rintro e W' ⟨rfl, bl⟩
          have ZZ := Lib.hid (ZZ.out.below ZZ.out.lt bl)
          have WB := Lib.hid (WB.out.trans (bl.mono WB.out.size))
          clear bl
          dsimp only
          (try simp only [Act.put, List.setIfInBounds_toArray, List.set_cons_zero, List.set_cons_succ])
          refine hK.out _ _ (SS.below HS.out HBL.out WB.out) (fun hHeld => ?_)
          clear hK K
          refine wpAnyH_take (i := 12) (v := (.agg (hdr xs))) rfl (by kernel_rfl) (by kernel_rfl) (by kernel_rfl) (fun _ _ _ h => h) (Or.inl ⟨by rfl, ?_⟩) (by assumption) ?_
          · intro w' hS; refine exec_build 26 _ (by rfl) _ ?_; simp only [List.map_toArray, List.map_cons, List.map_nil]; exact HBLD.out
          simp only [Act.put, List.setIfInBounds_toArray, List.set_cons_zero, List.set_cons_succ]
          refine wpAnyH_ready (rs := [13]) (by kernel_rfl) (by simp) ?_
          refine AllReadyH.cons rfl (fun K hK => ?_) ?_
          · rw [if_pos (by rfl)]
            go_simp
            rw [zArr]
            have BB : Hid (Hd (W'.alloc (.cells (hArr 0 0 0 0 z0) 26)) W'.heap.size (hArr 0 0 0 0 z0)) := Lib.hid (heap_alloc_new _ _)
            have HBN : Hid (w.heap.size < W'.heap.size) := Lib.hid ZZ.out.lt
            have ZZ : Hid (Hd (W'.alloc (.cells (hArr 0 0 0 0 z0) 26)) w.heap.size (hArr 0 0 0 0 z0)) := Lib.hid ((Below.heap_alloc _ _ _ ZZ.out.lt).trans ZZ.out)
            have WB := Lib.hid (WB.out.alloc WB.out.size (.cells (hArr 0 0 0 0 z0) 26))
            generalize hGB : W'.heap.size = B at BB HBN ⊢
            clear hGB
            generalize W'.alloc (.cells (hArr 0 0 0 0 z0) 26) = WA at WB ZZ BB ⊢
            (try simp only [Act.put, List.setIfInBounds_toArray, List.set_cons_zero, List.set_cons_succ])
            refine hK.out _ _ (SS.below HS.out HBL.out WB.out) (fun hHeld => ?_)
            clear hK K
            refine wpAnyH_ready (rs := [14]) (by kernel_rfl) (by simp) ?_
            refine AllReadyH.cons rfl (fun K hK => ?_) ?_
            · rw [if_pos (by rfl)]
              refine wp_store_row 26 _ _ rfl B (hdr xs) rfl rfl 26 _ BB.out (hdr_size xs) (hdr_sz xs _ _ _ _ _) (hdr_cells xs) ?_
              have ZZ : Hid (Hd (WA.setRow B (hdr xs)) w.heap.size (hArr 0 0 0 0 z0)) := Lib.hid ((setRow_other _ B w.heap.size (hdr xs) (Nat.ne_of_lt HBN.out)).trans ZZ.out)
              have WB := Lib.hid (below_setRow WB.out (Nat.le_of_lt HBN.out) (hdr xs))
              have BB : Hid (Hd (WA.setRow B (hdr xs)) B (hdr xs)) := Lib.hid (setRow_heap _ _ _ (hdr xs) _ _ BB.out)
              generalize WA.setRow B (hdr xs) = WS at WB ZZ BB ⊢
              (try simp only [Act.put, List.setIfInBounds_toArray, List.set_cons_zero, List.set_cons_succ])
              refine hK.out _ _ (SS.below HS.out HBL.out WB.out) (fun hHeld => ?_)
              clear hK K
              refine wpAnyH_done (by kernel_rfl) ?_ _
              go_wp2_with fail
              go_meet
              exact ⟨B, rfl, HBN, ZZ, BB, WB⟩
            exact AllReadyH.nil
          exact AllReadyH.nil
        refine AllReadyH.cons rfl (fun K hK => ?_) ?_
        · rw [if_pos (by rfl)]
          go_simp
          rw [zArr]
          have BB : Hid (Hd (W.alloc (.cells (hArr 0 0 0 0 z0) 26)) W.heap.size (hArr 0 0 0 0 z0)) := Lib.hid (heap_alloc_new _ _)
          have HBN : Hid (w.heap.size < W.heap.size) := Lib.hid ZZ.out.lt
          have ZZ : Hid (Hd (W.alloc (.cells (hArr 0 0 0 0 z0) 26)) w.heap.size (hArr 0 0 0 0 z0)) := Lib.hid ((Below.heap_alloc _ _ _ ZZ.out.lt).trans ZZ.out)
          have WB := Lib.hid (WB.out.alloc WB.out.size (.cells (hArr 0 0 0 0 z0) 26))
          generalize hGB : W.heap.size = B at BB HBN ⊢
          clear hGB
          generalize W.alloc (.cells (hArr 0 0 0 0 z0) 26) = WA at WB ZZ BB ⊢
          (try simp only [Act.put, List.setIfInBounds_toArray, List.set_cons_zero, List.set_cons_succ])
          refine hK.out _ _ (SS.below HS.out HBL.out WB.out) (fun hHeld => ?_)
          clear hK K
          refine wpAnyH_ready (rs := [11]) (by kernel_rfl) (by simp) ?_
          refine AllReadyH.cons rfl (fun K hK => ?_) ?_
          · rw [if_pos (by rfl)]
            go_simp
            refine (group_any b off n c xs _ HN.out hnc h26 (HR.out.below WB.out) hc63).mono ?_
            rintro e W' ⟨rfl, bl⟩
            have BB := Lib.hid (BB.out.below BB.out.lt bl)
            have ZZ := Lib.hid (ZZ.out.below ZZ.out.lt bl)
            have WB := Lib.hid (WB.out.trans (bl.mono WB.out.size))
            clear bl
            dsimp only
            (try simp only [Act.put, List.setIfInBounds_toArray, List.set_cons_zero, List.set_cons_succ])
            refine hK.out _ _ (SS.below HS.out HBL.out WB.out) (fun hHeld => ?_)
            clear hK K
            refine wpAnyH_take (i := 12) (v := (.agg (hdr xs))) rfl (by kernel_rfl) (by kernel_rfl) (by kernel_rfl) (fun _ _ _ h => h) (Or.inl ⟨by rfl, ?_⟩) (by assumption) ?_
            · intro w' hS; refine exec_build 26 _ (by rfl) _ ?_; simp only [List.map_toArray, List.map_cons, List.map_nil]; exact HBLD.out
            simp only [Act.put, List.setIfInBounds_toArray, List.set_cons_zero, List.set_cons_succ]
            refine wpAnyH_ready (rs := [14]) (by kernel_rfl) (by simp) ?_
            refine AllReadyH.cons rfl (fun K hK => ?_) ?_
            · rw [if_pos (by rfl)]
              refine wp_store_row 26 _ _ rfl B (hdr xs) rfl rfl 26 _ BB.out (hdr_size xs) (hdr_sz xs _ _ _ _ _) (hdr_cells xs) ?_
              have ZZ : Hid (Hd (W'.setRow B (hdr xs)) w.heap.size (hArr 0 0 0 0 z0)) := Lib.hid ((setRow_other _ B w.heap.size (hdr xs) (Nat.ne_of_lt HBN.out)).trans ZZ.out)
              have WB := Lib.hid (below_setRow WB.out (Nat.le_of_lt HBN.out) (hdr xs))
              have BB : Hid (Hd (W'.setRow B (hdr xs)) B (hdr xs)) := Lib.hid (setRow_heap _ _ _ (hdr xs) _ _ BB.out)
              generalize W'.setRow B (hdr xs) = WS at WB ZZ BB ⊢
              (try simp only [Act.put, List.setIfInBounds_toArray, List.set_cons_zero, List.set_cons_succ])
              refine hK.out _ _ (SS.below HS.out HBL.out WB.out) (fun hHeld => ?_)
              clear hK K
              refine wpAnyH_done (by kernel_rfl) ?_ _
              go_wp2_with fail
              go_meet
              exact ⟨B, rfl, HBN, ZZ, BB, WB⟩
            exact AllReadyH.nil
          exact AllReadyH.nil
        exact AllReadyH.nil
      refine AllReadyH.cons rfl (fun K hK => ?_) ?_
      · rw [if_pos (by rfl)]
        go_simp
        rw [zArr]
        have BB : Hid (Hd (W.alloc (.cells (hArr 0 0 0 0 z0) 26)) W.heap.size (hArr 0 0 0 0 z0)) := Lib.hid (heap_alloc_new _ _)
        have HBN : Hid (w.heap.size < W.heap.size) := Lib.hid ZZ.out.lt
        have ZZ : Hid (Hd (W.alloc (.cells (hArr 0 0 0 0 z0) 26)) w.heap.size (hArr 0 0 0 0 z0)) := Lib.hid ((Below.heap_alloc _ _ _ ZZ.out.lt).trans ZZ.out)
        have WB := Lib.hid (WB.out.alloc WB.out.size (.cells (hArr 0 0 0 0 z0) 26))
        generalize hGB : W.heap.size = B at BB HBN ⊢
        clear hGB
        generalize W.alloc (.cells (hArr 0 0 0 0 z0) 26) = WA at WB ZZ BB ⊢
        (try simp only [Act.put, List.setIfInBounds_toArray, List.set_cons_zero, List.set_cons_succ])
        refine hK.out _ _ (SS.below HS.out HBL.out WB.out) (fun hHeld => ?_)
        clear hK K
        refine wpAnyH_ready (rs := [9]) (by kernel_rfl) (by simp) ?_
        refine AllReadyH.cons rfl (fun K hK => ?_) ?_
        · rw [if_pos (by rfl)]
          go_simp
          refine (rnum_any _ n c 6 xs _ HN.out hnc (HR.out.below WB.out) HB.out (by omega) (by omega) hc63).mono ?_
          rintro e w' ⟨rfl, hw⟩
          obtain rfl : WA = w' := by first | exact hw | exact hw.symm
          dsimp only
          (try simp only [Act.put, List.setIfInBounds_toArray, List.set_cons_zero, List.set_cons_succ])
          refine hK.out _ _ (SS.below HS.out HBL.out WB.out) (fun hHeld => ?_)
          clear hK K
          refine wpAnyH_ready (rs := [11]) (by kernel_rfl) (by simp) ?_
          refine AllReadyH.cons rfl (fun K hK => ?_) ?_
          · rw [if_pos (by rfl)]
            go_simp
            refine (group_any b off n c xs _ HN.out hnc h26 (HR.out.below WB.out) hc63).mono ?_
            rintro e W' ⟨rfl, bl⟩
            have BB := Lib.hid (BB.out.below BB.out.lt bl)
            have ZZ := Lib.hid (ZZ.out.below ZZ.out.lt bl)
            have WB := Lib.hid (WB.out.trans (bl.mono WB.out.size))
            clear bl
            dsimp only
            (try simp only [Act.put, List.setIfInBounds_toArray, List.set_cons_zero, List.set_cons_succ])
            refine hK.out _ _ (SS.below HS.out HBL.out WB.out) (fun hHeld => ?_)
            clear hK K
            refine wpAnyH_take (i := 12) (v := (.agg (hdr xs))) rfl (by kernel_rfl) (by kernel_rfl) (by kernel_rfl) (fun _ _ _ h => h) (Or.inl ⟨by rfl, ?_⟩) (by assumption) ?_
            · intro w' hS; refine exec_build 26 _ (by rfl) _ ?_; simp only [List.map_toArray, List.map_cons, List.map_nil]; exact HBLD.out
            simp only [Act.put, List.setIfInBounds_toArray, List.set_cons_zero, List.set_cons_succ]
            refine wpAnyH_ready (rs := [14]) (by kernel_rfl) (by simp) ?_
            refine AllReadyH.cons rfl (fun K hK => ?_) ?_
            · rw [if_pos (by rfl)]
              refine wp_store_row 26 _ _ rfl B (hdr xs) rfl rfl 26 _ BB.out (hdr_size xs) (hdr_sz xs _ _ _ _ _) (hdr_cells xs) ?_
              have ZZ : Hid (Hd (W'.setRow B (hdr xs)) w.heap.size (hArr 0 0 0 0 z0)) := Lib.hid ((setRow_other _ B w.heap.size (hdr xs) (Nat.ne_of_lt HBN.out)).trans ZZ.out)
              have WB := Lib.hid (below_setRow WB.out (Nat.le_of_lt HBN.out) (hdr xs))
              have BB : Hid (Hd (W'.setRow B (hdr xs)) B (hdr xs)) := Lib.hid (setRow_heap _ _ _ (hdr xs) _ _ BB.out)
              generalize W'.setRow B (hdr xs) = WS at WB ZZ BB ⊢
              (try simp only [Act.put, List.setIfInBounds_toArray, List.set_cons_zero, List.set_cons_succ])
              refine hK.out _ _ (SS.below HS.out HBL.out WB.out) (fun hHeld => ?_)
              clear hK K
              refine wpAnyH_done (by kernel_rfl) ?_ _
              go_wp2_with fail
              go_meet
              exact ⟨B, rfl, HBN, ZZ, BB, WB⟩
            exact AllReadyH.nil
          exact AllReadyH.nil
        exact AllReadyH.nil
      exact AllReadyH.nil
    refine AllReadyH.cons rfl (fun K hK => ?_) ?_
    · rw [if_pos (by rfl)]
      go_simp
      rw [zArr]
      have BB : Hid (Hd (W.alloc (.cells (hArr 0 0 0 0 z0) 26)) W.heap.size (hArr 0 0 0 0 z0)) := Lib.hid (heap_alloc_new _ _)
      have HBN : Hid (w.heap.size < W.heap.size) := Lib.hid ZZ.out.lt
      have ZZ : Hid (Hd (W.alloc (.cells (hArr 0 0 0 0 z0) 26)) w.heap.size (hArr 0 0 0 0 z0)) := Lib.hid ((Below.heap_alloc _ _ _ ZZ.out.lt).trans ZZ.out)
      have WB := Lib.hid (WB.out.alloc WB.out.size (.cells (hArr 0 0 0 0 z0) 26))
      generalize hGB : W.heap.size = B at BB HBN ⊢
      clear hGB
      generalize W.alloc (.cells (hArr 0 0 0 0 z0) 26) = WA at WB ZZ BB ⊢
      (try simp only [Act.put, List.setIfInBounds_toArray, List.set_cons_zero, List.set_cons_succ])
      refine hK.out _ _ (SS.below HS.out HBL.out WB.out) (fun hHeld => ?_)
      clear hK K
      refine wpAnyH_ready (rs := [7]) (by kernel_rfl) (by simp) ?_
      refine AllReadyH.cons rfl (fun K hK => ?_) ?_
      · rw [if_pos (by rfl)]
        go_simp
        refine (rnum_any _ n c 2 xs _ HN.out hnc (HR.out.below WB.out) HB.out (by omega) (by omega) hc63).mono ?_
        rintro e w' ⟨rfl, hw⟩
        obtain rfl : WA = w' := by first | exact hw | exact hw.symm
        dsimp only
        (try simp only [Act.put, List.setIfInBounds_toArray, List.set_cons_zero, List.set_cons_succ])
        refine hK.out _ _ (SS.below HS.out HBL.out WB.out) (fun hHeld => ?_)
        clear hK K
        refine wpAnyH_ready (rs := [9]) (by kernel_rfl) (by simp) ?_
        refine AllReadyH.cons rfl (fun K hK => ?_) ?_
        · rw [if_pos (by rfl)]
          go_simp
          refine (rnum_any _ n c 6 xs _ HN.out hnc (HR.out.below WB.out) HB.out (by omega) (by omega) hc63).mono ?_
          rintro e w' ⟨rfl, hw⟩
          obtain rfl : WA = w' := by first | exact hw | exact hw.symm
          dsimp only
          (try simp only [Act.put, List.setIfInBounds_toArray, List.set_cons_zero, List.set_cons_succ])
          refine hK.out _ _ (SS.below HS.out HBL.out WB.out) (fun hHeld => ?_)
          clear hK K
          refine wpAnyH_ready (rs := [11]) (by kernel_rfl) (by simp) ?_
          refine AllReadyH.cons rfl (fun K hK => ?_) ?_
          · rw [if_pos (by rfl)]
            go_simp
            refine (group_any b off n c xs _ HN.out hnc h26 (HR.out.below WB.out) hc63).mono ?_
            rintro e W' ⟨rfl, bl⟩
            have BB := Lib.hid (BB.out.below BB.out.lt bl)
            have ZZ := Lib.hid (ZZ.out.below ZZ.out.lt bl)
            have WB := Lib.hid (WB.out.trans (bl.mono WB.out.size))
            clear bl
            dsimp only
            (try simp only [Act.put, List.setIfInBounds_toArray, List.set_cons_zero, List.set_cons_succ])
            refine hK.out _ _ (SS.below HS.out HBL.out WB.out) (fun hHeld => ?_)
            clear hK K
            refine wpAnyH_take (i := 12) (v := (.agg (hdr xs))) rfl (by kernel_rfl) (by kernel_rfl) (by kernel_rfl) (fun _ _ _ h => h) (Or.inl ⟨by rfl, ?_⟩) (by assumption) ?_
            · intro w' hS; refine exec_build 26 _ (by rfl) _ ?_; simp only [List.map_toArray, List.map_cons, List.map_nil]; exact HBLD.out
            simp only [Act.put, List.setIfInBounds_toArray, List.set_cons_zero, List.set_cons_succ]
            refine wpAnyH_ready (rs := [14]) (by kernel_rfl) (by simp) ?_
            refine AllReadyH.cons rfl (fun K hK => ?_) ?_
            · rw [if_pos (by rfl)]
              refine wp_store_row 26 _ _ rfl B (hdr xs) rfl rfl 26 _ BB.out (hdr_size xs) (hdr_sz xs _ _ _ _ _) (hdr_cells xs) ?_
              have ZZ : Hid (Hd (W'.setRow B (hdr xs)) w.heap.size (hArr 0 0 0 0 z0)) := Lib.hid ((setRow_other _ B w.heap.size (hdr xs) (Nat.ne_of_lt HBN.out)).trans ZZ.out)
              have WB := Lib.hid (below_setRow WB.out (Nat.le_of_lt HBN.out) (hdr xs))
              have BB : Hid (Hd (W'.setRow B (hdr xs)) B (hdr xs)) := Lib.hid (setRow_heap _ _ _ (hdr xs) _ _ BB.out)
              generalize W'.setRow B (hdr xs) = WS at WB ZZ BB ⊢
              (try simp only [Act.put, List.setIfInBounds_toArray, List.set_cons_zero, List.set_cons_succ])
              refine hK.out _ _ (SS.below HS.out HBL.out WB.out) (fun hHeld => ?_)
              clear hK K
              refine wpAnyH_done (by kernel_rfl) ?_ _
              go_wp2_with fail
              go_meet
              exact ⟨B, rfl, HBN, ZZ, BB, WB⟩
            exact AllReadyH.nil
          exact AllReadyH.nil
        exact AllReadyH.nil
      exact AllReadyH.nil
    exact AllReadyH.nil
  case rest =>
    clear hm
    obtain ⟨B, rfl, HBN, ZZ, BB, WB⟩ := hcut
    have R2 := Lib.hid ((HR.out.below WB.out).cutA 26 c (by rw [← HN.out]; exact hnc))
    have hd26 : n - 26 = (xs.drop 26).length := by rw [List.length_drop, ← HN.out]
    have hb26 : (([] : List Int).length + (xs.drop 26).length) * 1 ≤ 140737488355328 := by rw [List.length_drop, List.length_nil]; have := HLN.out; omega
    have H26 := Lib.hid hd26
    clear hd26
    go_wp2_with fail
    refine wp_region_held_drew (S := fun w' => Hd w' B (hdr xs)) (by kernel_rfl) BB.out (fun hHeld => ?_)
    have WB := Lib.hid WB.out.drew
    have ZZ : Hid (Hd wc.drew w.heap.size (hArr 0 0 0 0 z0)) := Lib.hid ZZ.out
    have BB : Hid (Hd wc.drew B (hdr xs)) := Lib.hid BB.out
    have R2 := Lib.hid (R2.out.draws 1)
    rw [show wc.drewN 1 = wc.drew from rfl] at R2
    generalize wc.drew = W at WB ZZ BB R2 hHeld
    refine wpAnyH_take (i := 0) (v := (.agg (hdr xs))) rfl (by kernel_rfl) (by kernel_rfl) (by kernel_rfl) (fun _ _ _ h => h) (Or.inl ⟨by rfl, ?_⟩) (by assumption) ?_
    · intro w' hS; exact exec_load_row 26 _ (by rfl) B (by rfl) 26 (hdr xs) (0, 0) _ hS Try.underlying26 rfl (hdr_size xs)
    simp only [Act.put, List.setIfInBounds_toArray, List.set_cons_zero, List.set_cons_succ]
    refine wpAnyH_take (i := 1) (v := (.slice (some ⟨b, off, none⟩) n c)) rfl (by kernel_rfl) (by kernel_rfl) (by kernel_rfl) (fun _ _ _ h => h) (Or.inl ⟨by rfl, ?_⟩) (by assumption) ?_
    · intro w' hS; (try dsimp only [SS] at hS); go_simp; try with_reducible rfl
    simp only [Act.put, List.setIfInBounds_toArray, List.set_cons_zero, List.set_cons_succ]
    refine wpAnyH_take (i := 2) (v := (.slice (cutA (some ⟨b, off, none⟩) 26 c) (n - 26) (c - 26))) rfl (by kernel_rfl) (by kernel_rfl) (by kernel_rfl) (fun _ _ _ h => h) (Or.inl ⟨by rfl, ?_⟩) (by assumption) ?_
    · intro w' hS; exact exec_slice_from 27 5 _ _ (by rfl) Try.underlying27 size5' (some ⟨b, off, none⟩) n c 26 .i64 26 (by rfl) (by rfl) rfl h26
    simp only [Act.put, List.setIfInBounds_toArray, List.set_cons_zero, List.set_cons_succ]
    refine wpAnyH_ready (rs := [3]) (by kernel_rfl) (by simp) ?_
    refine AllReadyH.cons (o := ⟨some 26, _, _, _, _, _⟩) rfl (fun K hK => ?_) AllReadyH.nil
    rw [if_pos (by rfl)]
    refine wp_pushes_rd W _ _ 27 rfl w.heap.size 5 .u8 1 Try.underlying27 info5 (.slice none 0 0) [] rfl (Own.nil _ _ _ _) (cutA (some ⟨b, off, none⟩) 26 c) (n - 26) (c - 26) (xs.drop 26) (by rfl) H26.out R2.out hb26 (by decide) WB.out.size ?_
    intro v' w3 hown hfr
    have b3 : Below W.heap.size W w3 := hfr.below (Nat.le_refl _) (fun k hk => by cases hk)
    have O3 := Lib.hid hown
    have ZZ := Lib.hid (ZZ.out.below ZZ.out.lt b3)
    have BB := Lib.hid (BB.out.below BB.out.lt b3)
    have WB := Lib.hid (WB.out.trans (b3.mono WB.out.size))
    clear b3 hown hfr
    (try simp only [Act.put, List.setIfInBounds_toArray, List.set_cons_zero, List.set_cons_succ])
    refine hK.out _ _ BB.out (fun hHeld => ?_)
    clear hK K
    refine wpAnyH_ready (rs := [4]) (by kernel_rfl) (by simp) ?_
    refine AllReadyH.cons rfl (fun K hK => ?_) AllReadyH.nil
    rw [if_pos (by rfl)]
    refine wp_store_row 26 _ _ rfl w.heap.size (hdr xs) rfl rfl 26 _ ZZ.out (hdr_size xs) (hdr_sz xs _ _ _ _ _) (hdr_cells xs) ?_
    have BB : Hid (Hd (w3.setRow w.heap.size (hdr xs)) B (hdr xs)) := Lib.hid ((setRow_other _ w.heap.size B (hdr xs) (Nat.ne_of_gt HBN.out)).trans BB.out)
    have ZY := ZZ
    have ZZ : Hid (Hd (w3.setRow w.heap.size (hdr xs)) w.heap.size (hdr xs)) := Lib.hid (setRow_heap _ _ _ (hdr xs) _ _ ZZ.out)
    have OO : Hid (Own (w3.setRow w.heap.size (hdr xs)) w.heap.size 5 .u8 v' (xs.drop 26)) := Lib.hid (own_setRow O3.out (Hd.ne ZY.out O3.out) _)
    have WB := Lib.hid (below_setRow WB.out (Nat.le_refl _) (hdr xs))
    (try simp only [Act.put, List.setIfInBounds_toArray, List.set_cons_zero, List.set_cons_succ])
    refine hK.out _ _ BB.out (fun hHeld => ?_)
    clear hK K
    refine wpAnyH_take (i := 5) (oi := ⟨some 3, _, _, _, _, _⟩) (v := v') rfl (by kernel_rfl) (by kernel_rfl) (by kernel_rfl) (fun _ _ _ h => h) (Or.inl ⟨by rfl, ?_⟩) (by assumption) ?_
    · intro w' hS; rfl
    simp only [Act.put, List.setIfInBounds_toArray, List.set_cons_zero, List.set_cons_succ]
    refine wpAnyH_take (i := 6) (oi := ⟨some 4, _, _, _, _, _⟩) (v := (.int .i64 0)) rfl (by kernel_rfl) (by kernel_rfl) (by kernel_rfl) (fun _ _ _ h => h) (Or.inl ⟨by rfl, ?_⟩) (by assumption) ?_
    · intro w' hS; rfl
    simp only [Act.put, List.setIfInBounds_toArray, List.set_cons_zero, List.set_cons_succ]
    refine wpAnyH_done (by kernel_rfl) ?_ _
    go_wp2_with fail
    refine bodyPost_ret (results_ctt26 rfl _ _ w.heap.size _ rfl ZZ.out (hdr_size xs)) rfl ?_
    exact ⟨v', rfl, OO.out, WB.out⟩
end Go.Proofs.Ytedejkfhgpnhpaa

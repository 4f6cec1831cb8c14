/-
  Walk: the document's Parse.
-/
import Derived.Test.YtedejkfhgpnhpaaPb
set_option linter.unusedVariables false
set_option linter.unusedSimpArgs false
namespace Go.Proofs.Ytedejkfhgpnhpaa
open Go.RowKit

theorem exec_slice_mid {P : Program} {o : Oper} {a : Act} {w : World} (t e : TypeId) (x y z : Operand) (ho : o.op = .slice t x (some y) (some z) none) (ht : P.underlying t = some (.slice e)) (hsz : (P.info? e).map (·.size) = some 1) (A : Option Addr) (n c j m : Nat) (kl kh : IntKind) (l h : Int)
    (hx : a.eval x = .slice A n c) (hy : a.eval y = .int kl l) (hz : a.eval z = .int kh h) (hl : l = (j : Int)) (hh : h = (m : Int)) (hj : j ≤ m) (hm : m ≤ c) : (execOp a.eval o).run P w = .ok (.value (.slice (cutA A j c) (m - j) (c - j))) w := by
  unfold execOp
  have he : P.elem t = e := by simp [Program.elem, ht]
  simp only [ho, hx, hy, hz, Option.map, Sem.run_bind, run_sliceAt_slice w t _ _ _ _ (by rw [ht, he]), run_cut_mid w t e ht hsz A n c j m kl kh l h hl hh hj hm, Result.andThen_ok]
  rfl
theorem hArr_set (l f i r : Nat) (g : Nat → Int) (k : Nat) (hk : k < 16) (y : Int) : (hArr l f i r g).set! (4 + k) (.int .u8 y) = hArr l f i r (fun j => if j = k then y else g j) := by
  unfold hArr
  have : k = 0 ∨ k = 1 ∨ k = 2 ∨ k = 3 ∨ k = 4 ∨ k = 5 ∨ k = 6 ∨ k = 7 ∨ k = 8 ∨ k = 9 ∨ k = 10 ∨ k = 11 ∨ k = 12 ∨ k = 13 ∨ k = 14 ∨ k = 15 := by omega
  rcases this with rfl | rfl | rfl | rfl | rfl | rfl | rfl | rfl | rfl | rfl | rfl | rfl | rfl | rfl | rfl | rfl <;> rfl
theorem build_arr0 (l f i r : Nat) : Try.prog.built 26 [(0, .int .u8 l), (1, .int .u8 f), (2, .int .u32 i), (3, .int .u32 r)] = some (hArr l f i r z0) := by
  unfold hArr hlist
  kernel_rfl





/-- The first k of a group. -/
def gk (xs : List Int) (k : Nat) : Nat → Int := fun j => if j < k then xs.getD (10 + j) 0 else 0
theorem gk_zero (xs : List Int) : gk xs 0 = z0 := by funext j; simp [gk, z0]
theorem gk_succ (xs : List Int) (k : Nat) (y : Int) (h : y = xs.getD (10 + k) 0) : (fun j => if j = k then y else gk xs k j) = gk xs (k + 1) := by
  funext j
  unfold gk
  by_cases e : j = k
  · subst e; simp [h]
  · rw [if_neg e]
    by_cases hj : j < k
    · rw [if_pos hj, if_pos (by omega)]
    · rw [if_neg hj, if_neg (by omega)]
theorem gk_all (l f i r : Nat) (xs : List Int) : hArr l f i r (gk xs 16) = hArr l f i r (fun j => xs.getD (10 + j) 0) := by
  unfold hArr
  rfl
theorem Hd.blk {w : World} {b l f i r : Nat} {g : Nat → Int} (x : Hd w b (hArr l f i r g)) : Blk w b 26 (hlist l f i r g) := by
  unfold Hd hArr at x
  exact x
theorem Hd.of {w : World} {b l f i r : Nat} {g : Nat → Int} (x : Blk w b 26 (hlist l f i r g)) : Hd w b (hArr l f i r g) := by
  unfold Hd hArr
  exact x
theorem Hd.hcell {w : World} {b l f i r : Nat} {g : Nat → Int} (x : Hd w b (hArr l f i r g)) (k : Nat) (hk : k < 16) : ∃ v, w.cell? ⟨b, 4 + k, none⟩ = some v := by
  have := x.blk.cell (4 + k)
  exact ⟨_, this.trans (List.getElem?_eq_getElem (show 4 + k < (hlist l f i r g).length by show 4 + k < 20; omega))⟩
theorem Hd.hfrozen {w : World} {b l f i r : Nat} {g : Nat → Int} (x : Hd w b (hArr l f i r g)) (k : Nat) : w.frozen? ⟨b, k, none⟩ = false := x.blk.frozen k
theorem Hd.hset {w : World} {b l f i r : Nat} {g : Nat → Int} (x : Hd w b (hArr l f i r g)) (k : Nat) (hk : k < 16) (y : Int) : Hd (w.setCell ⟨b, 4 + k, none⟩ (.int .u8 y)) b (hArr l f i r (fun j => if j = k then y else g j)) := by
  apply Hd.of
  have := x.blk.set (4 + k) (.int .u8 y)
  have e : (hlist l f i r g).set (4 + k) (.int .u8 y) = hlist l f i r (fun j => if j = k then y else g j) := by
    have : k = 0 ∨ k = 1 ∨ k = 2 ∨ k = 3 ∨ k = 4 ∨ k = 5 ∨ k = 6 ∨ k = 7 ∨ k = 8 ∨ k = 9 ∨ k = 10 ∨ k = 11 ∨ k = 12 ∨ k = 13 ∨ k = 14 ∨ k = 15 := by omega
    rcases this with rfl | rfl | rfl | rfl | rfl | rfl | rfl | rfl | rfl | rfl | rfl | rfl | rfl | rfl | rfl | rfl <;> rfl
  rw [e] at this
  exact this
theorem Hd.hset_other {w : World} {b B : Nat} {h : Array Value} (x : Hd w b h) (hne : b ≠ B) (k : Nat) (u : Value) : Hd (w.setCell ⟨B, k, none⟩ u) b h := (Below.heap_setCell w ⟨B, k, none⟩ u b hne).trans x

set_option maxHeartbeats 1000000 in
theorem rparse_no (A : Option Addr) (n c : Nat) (xs : List Int) (w : World) (hn : n = xs.length) (hr : Rd w .u8 A xs) (hB : B8 xs) (hI : isR xs n = false) :
    Calls Try.prog 20 #[.slice A n c] w fun e w' => e = .returned (.tuple #[.agg (hArr 0 0 0 0 z0), .slice none 0 0, .bool false]) ∧ Below w.heap.size w w' := by
  have HN := Lib.hid hn
  have HR := Lib.hid hr
  have HB := Lib.hid hB
  have HI := Lib.hid hI
  clear hn hr hB hI
  go_enter Try.func20, Try.ntmps20
  go_wp2_with fail
  rw [zArr]
  have W1 := Lib.hid ((Below.refl w.heap.size w).alloc (Nat.le_refl _) (.cells (hArr 0 0 0 0 z0) 26))
  have Z1 : Hid (Hd (w.alloc (.cells (hArr 0 0 0 0 z0) 26)) w.heap.size (hArr 0 0 0 0 z0)) := Lib.hid (heap_alloc_new w _)
  generalize w.alloc (.cells (hArr 0 0 0 0 z0) 26) = w1 at W1 Z1
  refine (ris_any A n c xs w1 HN.out (HR.out.below W1.out) HB.out).mono ?_
  rintro e w' ⟨rfl, hw⟩
  obtain rfl : w1 = w' := hw.symm
  rw [HI.out]
  go_wp2_with (first
    | (refine wpList_buildTo rfl 26 _ rfl (some 10) rfl (hArr 0 0 0 0 z0) (by rw [← zArr]; kernel_rfl) ?_)
    | (refine wpList_store_row rfl 26 _ _ rfl w.heap.size (hArr 0 0 0 0 z0) rfl rfl 26 _ Z1.out (size26' _ _ _ _ _) rfl (hArr_cells _ _ _ _ _) ?_))
  refine bodyPost_ret (results_ctt26 rfl _ _ w.heap.size _ rfl (setRow_heap _ _ _ _ _ _ Z1.out) (size26' _ _ _ _ _)) rfl ?_
  exact ⟨rfl, below_setRow W1.out (Nat.le_refl _) _⟩

set_option maxRecDepth 20000 in
set_option maxHeartbeats 4000000 in
theorem rparse_yes (b off n c : Nat) (xs : List Int) (w : World) (hn : n = xs.length) (hnc : n ≤ c) (hc63 : c ≤ 9223372036854775807) (hl : xs.length ≤ 140737488355328) (hr : Rd w .u8 (some ⟨b, off, none⟩) xs) (hB : B8 xs) (hI : isR xs n = true) (h26 : 26 ≤ n) :
    Calls Try.prog 20 #[.slice (some ⟨b, off, none⟩) n c] w fun e w' => ∃ v, e = .returned (.tuple #[.agg (hdr xs), v, .bool true]) ∧ Own w' w.heap.size 5 .u8 v (xs.drop 26) ∧ Below w.heap.size w w' := by
  have HN := Lib.hid hn
  have HR := Lib.hid hr
  have HB := Lib.hid hB
  have HI := Lib.hid hI
  have hblt : b < w.heap.size := hr.lt (by omega)
  have HBL := Lib.hid hblt
  obtain ⟨b', off', y0, hA0, hc0, HK0⟩ := hr.at 0 (by omega)
  cases hA0
  obtain ⟨b', off', y1, hA1, hc1, HK1⟩ := hr.at 1 (by omega)
  cases hA1
  obtain ⟨L, e0⟩ : ∃ Y : Nat, y0 = (Y : Int) := ⟨y0.toNat, by have := hB 0; have := HK0.out; omega⟩
  obtain ⟨F, e1⟩ : ∃ Y : Nat, y1 = (Y : Int) := ⟨y1.toNat, by have := hB 1; have := HK1.out; omega⟩
  subst e0 e1
  have HS := Lib.hid (show SS b off L F w from ⟨by simpa using hc0, hc1⟩)
  have HHD : Hid (hArr L F (numR xs 2) (numR xs 6) (fun j => xs.getD (10 + j) 0) = hdr xs) := Lib.hid (by
    unfold hdr
    rw [← HK0.out, ← HK1.out]
    simp)
  have HBLD := Lib.hid (build_arr0 L F (numR xs 2) (numR xs 6))
  have h0n : ¬ n = 0 := by omega
  have h1n : (1 : Int) < (n : Int) := by omega
  have HLN := Lib.hid hl
  have F2 := Lib.hid (four_len xs 2 (by omega)).symm
  have F6 := Lib.hid (four_len xs 6 (by omega)).symm
  have HC2 : Hid (∀ W, Below w.heap.size w W → Rd W .u8 (cutA (some ⟨b, off, none⟩) 2 c) (four xs 2)) := Lib.hid (fun W hW => ((hr.below hW).cutA 2 c (by omega)).take 4)
  have HC6 : Hid (∀ W, Below w.heap.size w W → Rd W .u8 (cutA (some ⟨b, off, none⟩) 6 c) (four xs 6)) := Lib.hid (fun W hW => ((hr.below hW).cutA 6 c (by omega)).take 4)
  have HB2 := Lib.hid (four_b8 hB 2)
  have HB6 := Lib.hid (four_b8 hB 6)
  have c6 : 6 ≤ c := by omega
  have c10 : 10 ≤ c := by omega
  clear hn hr hB hI hc0 hc1 hblt hl
  go_enter Try.func20, Try.ntmps20
  go_wp2_with fail
  rw [zArr]
  have W1 := Lib.hid ((Below.refl w.heap.size w).alloc (Nat.le_refl _) (.cells (hArr 0 0 0 0 z0) 26))
  have Z1 : Hid (Hd (w.alloc (.cells (hArr 0 0 0 0 z0) 26)) w.heap.size (hArr 0 0 0 0 z0)) := Lib.hid (heap_alloc_new w _)
  generalize w.alloc (.cells (hArr 0 0 0 0 z0) 26) = w1 at W1 Z1
  refine (ris_any _ n c xs w1 HN.out (HR.out.below W1.out) HB.out).mono ?_
  rintro e w' ⟨rfl, hw⟩
  obtain rfl : w1 = w' := hw.symm
  rw [HI.out]
  go_wp2_with fail
  go_cut [5] (fun v5 wx => ∃ B, v5 = .pointer (some ⟨B, 0, none⟩) ∧ Hid (w.heap.size < B) ∧ Hid (Hd wx w.heap.size (hArr 0 0 0 0 z0)) ∧ Hid (Hd wx B (hArr L F (numR xs 2) (numR xs 6) z0)) ∧ Hid (Below w.heap.size w wx))
  case first =>
    refine wp_region_held_drew (S := SS b off L F) (by kernel_rfl) (SS.below HS.out HBL.out W1.out.drew) (fun hHeld => ?_)
    have WB := Lib.hid W1.out.drew
    have ZZ : Hid (Hd w1.drew w.heap.size (hArr 0 0 0 0 z0)) := Lib.hid Z1.out
    generalize w1.drew = W at WB ZZ hHeld
    clear W1 Z1
    refine wpAnyH_take (i := 0) (oi := ⟨some 11, _, _, _, _, _⟩) (v := (.slice (some ⟨b, off, none⟩) n c)) rfl (by kernel_rfl) (by kernel_rfl) (by kernel_rfl) (fun _ _ _ h => h) (Or.inl ⟨by rfl, ?_⟩) (by assumption) ?_
    · intro w' hS; (try dsimp only [SS] at hS); go_simp; try with_reducible rfl
    simp only [Act.put, List.setIfInBounds_toArray, List.set_cons_zero, List.set_cons_succ]
    refine wpAnyH_take (i := 1) (oi := ⟨some 12, _, _, _, _, _⟩) (v := (.pointer (some ⟨b, off, none⟩))) rfl (by kernel_rfl) (by kernel_rfl) (by kernel_rfl) (fun _ _ _ h => h) (Or.inl ⟨by rfl, ?_⟩) (by assumption) ?_
    · intro w' hS; (try dsimp only [SS] at hS); go_simp; try with_reducible rfl
    simp only [Act.put, List.setIfInBounds_toArray, List.set_cons_zero, List.set_cons_succ]
    refine wpAnyH_take (i := 2) (oi := ⟨some 13, _, _, _, _, _⟩) (v := (.int .u8 (L : Int))) rfl (by kernel_rfl) (by kernel_rfl) (by kernel_rfl) (fun _ _ _ h => h) (Or.inl ⟨by rfl, ?_⟩) (by assumption) ?_
    · intro w' hS; have hS1 := hS.1; go_simp; try with_reducible rfl
    simp only [Act.put, List.setIfInBounds_toArray, List.set_cons_zero, List.set_cons_succ]
    refine wpAnyH_take (i := 3) (oi := ⟨some 14, _, _, _, _, _⟩) (v := (.slice (some ⟨b, off, none⟩) n c)) rfl (by kernel_rfl) (by kernel_rfl) (by kernel_rfl) (fun _ _ _ h => h) (Or.inl ⟨by rfl, ?_⟩) (by assumption) ?_
    · intro w' hS; (try dsimp only [SS] at hS); go_simp; try with_reducible rfl
    simp only [Act.put, List.setIfInBounds_toArray, List.set_cons_zero, List.set_cons_succ]
    refine wpAnyH_take (i := 4) (oi := ⟨some 15, _, _, _, _, _⟩) (v := (.pointer (some ⟨b, off + 1, none⟩))) rfl (by kernel_rfl) (by kernel_rfl) (by kernel_rfl) (fun _ _ _ h => h) (Or.inl ⟨by rfl, ?_⟩) (by assumption) ?_
    · intro w' hS; (try dsimp only [SS] at hS); go_simp; try with_reducible rfl
    simp only [Act.put, List.setIfInBounds_toArray, List.set_cons_zero, List.set_cons_succ]
    refine wpAnyH_take (i := 5) (oi := ⟨some 16, _, _, _, _, _⟩) (v := (.int .u8 (F : Int))) rfl (by kernel_rfl) (by kernel_rfl) (by kernel_rfl) (fun _ _ _ h => h) (Or.inl ⟨by rfl, ?_⟩) (by assumption) ?_
    · intro w' hS; have hS1 := hS.2; go_simp; try with_reducible rfl
    simp only [Act.put, List.setIfInBounds_toArray, List.set_cons_zero, List.set_cons_succ]
    refine wpAnyH_take (i := 6) (oi := ⟨some 17, _, _, _, _, _⟩) (v := (.slice (some ⟨b, off, none⟩) n c)) rfl (by kernel_rfl) (by kernel_rfl) (by kernel_rfl) (fun _ _ _ h => h) (Or.inl ⟨by rfl, ?_⟩) (by assumption) ?_
    · intro w' hS; (try dsimp only [SS] at hS); go_simp; try with_reducible rfl
    simp only [Act.put, List.setIfInBounds_toArray, List.set_cons_zero, List.set_cons_succ]
    refine wpAnyH_take (i := 7) (oi := ⟨some 18, _, _, _, _, _⟩) (v := (.slice (cutA (some ⟨b, off, none⟩) 2 c) 4 (c - 2))) rfl (by kernel_rfl) (by kernel_rfl) (by kernel_rfl) (fun _ _ _ h => h) (Or.inl ⟨by rfl, ?_⟩) (by assumption) ?_
    · intro w' hS; exact exec_slice_mid 27 5 _ _ _ (by rfl) Try.underlying27 size5' (some ⟨b, off, none⟩) n c 2 6 .i64 .i64 2 6 (by rfl) (by rfl) (by rfl) rfl rfl (by decide) c6
    simp only [Act.put, List.setIfInBounds_toArray, List.set_cons_zero, List.set_cons_succ]
    refine wpAnyH_take (i := 9) (oi := ⟨some 20, _, _, _, _, _⟩) (v := (.slice (some ⟨b, off, none⟩) n c)) rfl (by kernel_rfl) (by kernel_rfl) (by kernel_rfl) (fun _ _ _ h => h) (Or.inl ⟨by rfl, ?_⟩) (by assumption) ?_
    · intro w' hS; (try dsimp only [SS] at hS); go_simp; try with_reducible rfl
    simp only [Act.put, List.setIfInBounds_toArray, List.set_cons_zero, List.set_cons_succ]
    refine wpAnyH_take (i := 10) (oi := ⟨some 21, _, _, _, _, _⟩) (v := (.slice (cutA (some ⟨b, off, none⟩) 6 c) 4 (c - 6))) rfl (by kernel_rfl) (by kernel_rfl) (by kernel_rfl) (fun _ _ _ h => h) (Or.inl ⟨by rfl, ?_⟩) (by assumption) ?_
    · intro w' hS; exact exec_slice_mid 27 5 _ _ _ (by rfl) Try.underlying27 size5' (some ⟨b, off, none⟩) n c 6 10 .i64 .i64 6 10 (by rfl) (by rfl) (by rfl) rfl rfl (by decide) c10
    simp only [Act.put, List.setIfInBounds_toArray, List.set_cons_zero, List.set_cons_succ]
    refine wpAnyH_ready (rs := [8, 13]) (by kernel_rfl) (by simp) ?_
    refine AllReadyH.cons (o := ⟨some 19, _, _, _, _, _⟩) rfl (fun K hK => ?_) ?_
    · rw [if_pos (by rfl)]
      go_simp
      refine (refnum_any _ _ (four xs 2) _ F2.out (HC2.out _ WB.out) HB2.out).mono ?_
      rintro e w' ⟨rfl, q, rfl⟩
      dsimp only
      rw [show leV (four xs 2) 4 = numR xs 2 from rfl]
      have WB := Lib.hid (belowN WB.out q)
      have ZZ : Hid (Hd (W.drewN q) w.heap.size (hArr 0 0 0 0 z0)) := Lib.hid ZZ.out
      generalize W.drewN q = V2 at WB ZZ  ⊢
      (try simp only [Act.put, List.setIfInBounds_toArray, List.set_cons_zero, List.set_cons_succ])
      refine hK.out _ _ (SS.below HS.out HBL.out WB.out) (fun hHeld => ?_)
      clear hK K
      refine wpAnyH_ready (rs := [11, 13]) (by kernel_rfl) (by simp) ?_
      refine AllReadyH.cons (o := ⟨some 22, _, _, _, _, _⟩) rfl (fun K hK => ?_) ?_
      · rw [if_pos (by rfl)]
        go_simp
        refine (refnum_any _ _ (four xs 6) _ F6.out (HC6.out _ WB.out) HB6.out).mono ?_
        rintro e w' ⟨rfl, q, rfl⟩
        dsimp only
        rw [show leV (four xs 6) 4 = numR xs 6 from rfl]
        have WB := Lib.hid (belowN WB.out q)
        have ZZ : Hid (Hd (V2.drewN q) w.heap.size (hArr 0 0 0 0 z0)) := Lib.hid ZZ.out
        generalize V2.drewN q = V6 at WB ZZ  ⊢
        (try simp only [Act.put, List.setIfInBounds_toArray, List.set_cons_zero, List.set_cons_succ])
        refine hK.out _ _ (SS.below HS.out HBL.out WB.out) (fun hHeld => ?_)
        clear hK K
        refine wpAnyH_take (i := 12) (oi := ⟨some 23, _, _, _, _, _⟩) (v := (.agg (hArr L F (numR xs 2) (numR xs 6) z0))) rfl (by kernel_rfl) (by kernel_rfl) (by kernel_rfl) (fun _ _ _ h => h) (Or.inl ⟨by rfl, ?_⟩) (by assumption) ?_
        · intro w' hS; refine exec_build 26 _ (by rfl) _ ?_; simp only [List.map_toArray, List.map_cons, List.map_nil]; exact HBLD.out
        simp only [Act.put, List.setIfInBounds_toArray, List.set_cons_zero, List.set_cons_succ]
        refine wpAnyH_ready (rs := [13]) (by kernel_rfl) (by simp) ?_
        refine AllReadyH.cons (o := ⟨some 5, _, _, _, _, _⟩) rfl (fun K hK => ?_) ?_
        · rw [if_pos (by rfl)]
          go_simp
          rw [zArr]
          have BB : Hid (Hd (V6.alloc (.cells (hArr 0 0 0 0 z0) 26)) V6.heap.size (hArr 0 0 0 0 z0)) := Lib.hid (heap_alloc_new _ _)
          have HBN : Hid (w.heap.size < V6.heap.size) := Lib.hid ZZ.out.lt
          have ZZ : Hid (Hd (V6.alloc (.cells (hArr 0 0 0 0 z0) 26)) w.heap.size (hArr 0 0 0 0 z0)) := Lib.hid ((Below.heap_alloc _ _ _ ZZ.out.lt).trans ZZ.out)
          have WB := Lib.hid (WB.out.alloc WB.out.size (.cells (hArr 0 0 0 0 z0) 26))
          generalize hGB : V6.heap.size = B at BB HBN ⊢
          clear hGB
          generalize V6.alloc (.cells (hArr 0 0 0 0 z0) 26) = WA at WB ZZ BB ⊢
          (try simp only [Act.put, List.setIfInBounds_toArray, List.set_cons_zero, List.set_cons_succ])
          refine hK.out _ _ (SS.below HS.out HBL.out WB.out) (fun hHeld => ?_)
          clear hK K
          refine wpAnyH_ready (rs := [14]) (by kernel_rfl) (by simp) ?_
          refine AllReadyH.cons (o := ⟨none, _, _, _, _, _⟩) rfl (fun K hK => ?_) ?_
          · rw [if_pos (by rfl)]
            refine wp_store_row 26 _ _ rfl B (hArr L F (numR xs 2) (numR xs 6) z0) rfl rfl 26 _ BB.out (size26' _ _ _ _ _) ((hArr_size2 _ _ _ _ _).trans (hArr_size2 _ _ _ _ _).symm) (hArr_cells _ _ _ _ _) ?_
            have ZZ : Hid (Hd (WA.setRow B (hArr L F (numR xs 2) (numR xs 6) z0)) w.heap.size (hArr 0 0 0 0 z0)) := Lib.hid ((setRow_other _ B w.heap.size (hArr L F (numR xs 2) (numR xs 6) z0) (Nat.ne_of_lt HBN.out)).trans ZZ.out)
            have WB := Lib.hid (below_setRow WB.out (Nat.le_of_lt HBN.out) (hArr L F (numR xs 2) (numR xs 6) z0))
            have BB : Hid (Hd (WA.setRow B (hArr L F (numR xs 2) (numR xs 6) z0)) B (hArr L F (numR xs 2) (numR xs 6) z0)) := Lib.hid (setRow_heap _ _ _ (hArr L F (numR xs 2) (numR xs 6) z0) _ _ BB.out)
            generalize WA.setRow B (hArr L F (numR xs 2) (numR xs 6) z0) = WS at WB ZZ BB ⊢
            (try simp only [Act.put, List.setIfInBounds_toArray, List.set_cons_zero, List.set_cons_succ])
            refine hK.out _ _ (SS.below HS.out HBL.out WB.out) (fun hHeld => ?_)
            clear hK K
            refine wpAnyH_done (by kernel_rfl) ?_ _
            go_wp2_with fail
            go_meet
            exact ⟨B, rfl, HBN, ZZ, BB, WB⟩
          exact AllReadyH.nil
        exact AllReadyH.nil
      refine AllReadyH.cons (o := ⟨some 5, _, _, _, _, _⟩) rfl (fun K hK => ?_) ?_
      · rw [if_pos (by rfl)]
        go_simp
        rw [zArr]
        have BB : Hid (Hd (V2.alloc (.cells (hArr 0 0 0 0 z0) 26)) V2.heap.size (hArr 0 0 0 0 z0)) := Lib.hid (heap_alloc_new _ _)
        have HBN : Hid (w.heap.size < V2.heap.size) := Lib.hid ZZ.out.lt
        have ZZ : Hid (Hd (V2.alloc (.cells (hArr 0 0 0 0 z0) 26)) w.heap.size (hArr 0 0 0 0 z0)) := Lib.hid ((Below.heap_alloc _ _ _ ZZ.out.lt).trans ZZ.out)
        have WB := Lib.hid (WB.out.alloc WB.out.size (.cells (hArr 0 0 0 0 z0) 26))
        generalize hGB : V2.heap.size = B at BB HBN ⊢
        clear hGB
        generalize V2.alloc (.cells (hArr 0 0 0 0 z0) 26) = WA at WB ZZ BB ⊢
        (try simp only [Act.put, List.setIfInBounds_toArray, List.set_cons_zero, List.set_cons_succ])
        refine hK.out _ _ (SS.below HS.out HBL.out WB.out) (fun hHeld => ?_)
        clear hK K
        refine wpAnyH_ready (rs := [11]) (by kernel_rfl) (by simp) ?_
        refine AllReadyH.cons (o := ⟨some 22, _, _, _, _, _⟩) rfl (fun K hK => ?_) ?_
        · rw [if_pos (by rfl)]
          go_simp
          refine (refnum_any _ _ (four xs 6) _ F6.out (HC6.out _ WB.out) HB6.out).mono ?_
          rintro e w' ⟨rfl, q, rfl⟩
          dsimp only
          rw [show leV (four xs 6) 4 = numR xs 6 from rfl]
          have WB := Lib.hid (belowN WB.out q)
          have ZZ : Hid (Hd (WA.drewN q) w.heap.size (hArr 0 0 0 0 z0)) := Lib.hid ZZ.out
          have BB : Hid (Hd (WA.drewN q) B (hArr 0 0 0 0 z0)) := Lib.hid BB.out
          generalize WA.drewN q = V6 at WB ZZ BB ⊢
          (try simp only [Act.put, List.setIfInBounds_toArray, List.set_cons_zero, List.set_cons_succ])
          refine hK.out _ _ (SS.below HS.out HBL.out WB.out) (fun hHeld => ?_)
          clear hK K
          refine wpAnyH_take (i := 12) (oi := ⟨some 23, _, _, _, _, _⟩) (v := (.agg (hArr L F (numR xs 2) (numR xs 6) z0))) rfl (by kernel_rfl) (by kernel_rfl) (by kernel_rfl) (fun _ _ _ h => h) (Or.inl ⟨by rfl, ?_⟩) (by assumption) ?_
          · intro w' hS; refine exec_build 26 _ (by rfl) _ ?_; simp only [List.map_toArray, List.map_cons, List.map_nil]; exact HBLD.out
          simp only [Act.put, List.setIfInBounds_toArray, List.set_cons_zero, List.set_cons_succ]
          refine wpAnyH_ready (rs := [14]) (by kernel_rfl) (by simp) ?_
          refine AllReadyH.cons (o := ⟨none, _, _, _, _, _⟩) rfl (fun K hK => ?_) ?_
          · rw [if_pos (by rfl)]
            refine wp_store_row 26 _ _ rfl B (hArr L F (numR xs 2) (numR xs 6) z0) rfl rfl 26 _ BB.out (size26' _ _ _ _ _) ((hArr_size2 _ _ _ _ _).trans (hArr_size2 _ _ _ _ _).symm) (hArr_cells _ _ _ _ _) ?_
            have ZZ : Hid (Hd (V6.setRow B (hArr L F (numR xs 2) (numR xs 6) z0)) w.heap.size (hArr 0 0 0 0 z0)) := Lib.hid ((setRow_other _ B w.heap.size (hArr L F (numR xs 2) (numR xs 6) z0) (Nat.ne_of_lt HBN.out)).trans ZZ.out)
            have WB := Lib.hid (below_setRow WB.out (Nat.le_of_lt HBN.out) (hArr L F (numR xs 2) (numR xs 6) z0))
            have BB : Hid (Hd (V6.setRow B (hArr L F (numR xs 2) (numR xs 6) z0)) B (hArr L F (numR xs 2) (numR xs 6) z0)) := Lib.hid (setRow_heap _ _ _ (hArr L F (numR xs 2) (numR xs 6) z0) _ _ BB.out)
            generalize V6.setRow B (hArr L F (numR xs 2) (numR xs 6) z0) = WS at WB ZZ BB ⊢
            (try simp only [Act.put, List.setIfInBounds_toArray, List.set_cons_zero, List.set_cons_succ])
            refine hK.out _ _ (SS.below HS.out HBL.out WB.out) (fun hHeld => ?_)
            clear hK K
            refine wpAnyH_done (by kernel_rfl) ?_ _
            go_wp2_with fail
            go_meet
            exact ⟨B, rfl, HBN, ZZ, BB, WB⟩
          exact AllReadyH.nil
        exact AllReadyH.nil
      exact AllReadyH.nil
    refine AllReadyH.cons (o := ⟨some 5, _, _, _, _, _⟩) rfl (fun K hK => ?_) ?_
    · rw [if_pos (by rfl)]
      go_simp
      rw [zArr]
      have BB : Hid (Hd (W.alloc (.cells (hArr 0 0 0 0 z0) 26)) W.heap.size (hArr 0 0 0 0 z0)) := Lib.hid (heap_alloc_new _ _)
      have HBN : Hid (w.heap.size < W.heap.size) := Lib.hid ZZ.out.lt
      have ZZ : Hid (Hd (W.alloc (.cells (hArr 0 0 0 0 z0) 26)) w.heap.size (hArr 0 0 0 0 z0)) := Lib.hid ((Below.heap_alloc _ _ _ ZZ.out.lt).trans ZZ.out)
      have WB := Lib.hid (WB.out.alloc WB.out.size (.cells (hArr 0 0 0 0 z0) 26))
      generalize hGB : W.heap.size = B at BB HBN ⊢
      clear hGB
      generalize W.alloc (.cells (hArr 0 0 0 0 z0) 26) = WA at WB ZZ BB ⊢
      (try simp only [Act.put, List.setIfInBounds_toArray, List.set_cons_zero, List.set_cons_succ])
      refine hK.out _ _ (SS.below HS.out HBL.out WB.out) (fun hHeld => ?_)
      clear hK K
      refine wpAnyH_ready (rs := [8]) (by kernel_rfl) (by simp) ?_
      refine AllReadyH.cons (o := ⟨some 19, _, _, _, _, _⟩) rfl (fun K hK => ?_) ?_
      · rw [if_pos (by rfl)]
        go_simp
        refine (refnum_any _ _ (four xs 2) _ F2.out (HC2.out _ WB.out) HB2.out).mono ?_
        rintro e w' ⟨rfl, q, rfl⟩
        dsimp only
        rw [show leV (four xs 2) 4 = numR xs 2 from rfl]
        have WB := Lib.hid (belowN WB.out q)
        have ZZ : Hid (Hd (WA.drewN q) w.heap.size (hArr 0 0 0 0 z0)) := Lib.hid ZZ.out
        have BB : Hid (Hd (WA.drewN q) B (hArr 0 0 0 0 z0)) := Lib.hid BB.out
        generalize WA.drewN q = V2 at WB ZZ BB ⊢
        (try simp only [Act.put, List.setIfInBounds_toArray, List.set_cons_zero, List.set_cons_succ])
        refine hK.out _ _ (SS.below HS.out HBL.out WB.out) (fun hHeld => ?_)
        clear hK K
        refine wpAnyH_ready (rs := [11]) (by kernel_rfl) (by simp) ?_
        refine AllReadyH.cons (o := ⟨some 22, _, _, _, _, _⟩) rfl (fun K hK => ?_) ?_
        · rw [if_pos (by rfl)]
          go_simp
          refine (refnum_any _ _ (four xs 6) _ F6.out (HC6.out _ WB.out) HB6.out).mono ?_
          rintro e w' ⟨rfl, q, rfl⟩
          dsimp only
          rw [show leV (four xs 6) 4 = numR xs 6 from rfl]
          have WB := Lib.hid (belowN WB.out q)
          have ZZ : Hid (Hd (V2.drewN q) w.heap.size (hArr 0 0 0 0 z0)) := Lib.hid ZZ.out
          have BB : Hid (Hd (V2.drewN q) B (hArr 0 0 0 0 z0)) := Lib.hid BB.out
          generalize V2.drewN q = V6 at WB ZZ BB ⊢
          (try simp only [Act.put, List.setIfInBounds_toArray, List.set_cons_zero, List.set_cons_succ])
          refine hK.out _ _ (SS.below HS.out HBL.out WB.out) (fun hHeld => ?_)
          clear hK K
          refine wpAnyH_take (i := 12) (oi := ⟨some 23, _, _, _, _, _⟩) (v := (.agg (hArr L F (numR xs 2) (numR xs 6) z0))) rfl (by kernel_rfl) (by kernel_rfl) (by kernel_rfl) (fun _ _ _ h => h) (Or.inl ⟨by rfl, ?_⟩) (by assumption) ?_
          · intro w' hS; refine exec_build 26 _ (by rfl) _ ?_; simp only [List.map_toArray, List.map_cons, List.map_nil]; exact HBLD.out
          simp only [Act.put, List.setIfInBounds_toArray, List.set_cons_zero, List.set_cons_succ]
          refine wpAnyH_ready (rs := [14]) (by kernel_rfl) (by simp) ?_
          refine AllReadyH.cons (o := ⟨none, _, _, _, _, _⟩) rfl (fun K hK => ?_) ?_
          · rw [if_pos (by rfl)]
            refine wp_store_row 26 _ _ rfl B (hArr L F (numR xs 2) (numR xs 6) z0) rfl rfl 26 _ BB.out (size26' _ _ _ _ _) ((hArr_size2 _ _ _ _ _).trans (hArr_size2 _ _ _ _ _).symm) (hArr_cells _ _ _ _ _) ?_
            have ZZ : Hid (Hd (V6.setRow B (hArr L F (numR xs 2) (numR xs 6) z0)) w.heap.size (hArr 0 0 0 0 z0)) := Lib.hid ((setRow_other _ B w.heap.size (hArr L F (numR xs 2) (numR xs 6) z0) (Nat.ne_of_lt HBN.out)).trans ZZ.out)
            have WB := Lib.hid (below_setRow WB.out (Nat.le_of_lt HBN.out) (hArr L F (numR xs 2) (numR xs 6) z0))
            have BB : Hid (Hd (V6.setRow B (hArr L F (numR xs 2) (numR xs 6) z0)) B (hArr L F (numR xs 2) (numR xs 6) z0)) := Lib.hid (setRow_heap _ _ _ (hArr L F (numR xs 2) (numR xs 6) z0) _ _ BB.out)
            generalize V6.setRow B (hArr L F (numR xs 2) (numR xs 6) z0) = WS at WB ZZ BB ⊢
            (try simp only [Act.put, List.setIfInBounds_toArray, List.set_cons_zero, List.set_cons_succ])
            refine hK.out _ _ (SS.below HS.out HBL.out WB.out) (fun hHeld => ?_)
            clear hK K
            refine wpAnyH_done (by kernel_rfl) ?_ _
            go_wp2_with fail
            go_meet
            exact ⟨B, rfl, HBN, ZZ, BB, WB⟩
          exact AllReadyH.nil
        exact AllReadyH.nil
      exact AllReadyH.nil
    exact AllReadyH.nil
  case rest =>
    obtain ⟨B, rfl, HBN, ZZ, BB, WB⟩ := hcut
    clear Z1 W1
    go_wp2_with fail
    go_loopw [6] (fun i wr => ∃ k : Nat, k ≤ 16 ∧ i = .int .i64 k ∧ Hid (Hd wr w.heap.size (hArr 0 0 0 0 z0)) ∧ Hid (Hd wr B (hArr L F (numR xs 2) (numR xs 6) (gk xs k))) ∧ Hid (Below w.heap.size w wr)) (fun i _ => 16 - (intOf i).toNat)
    case atStart => exact ⟨0, Nat.zero_le _, rfl, ZZ, by rw [gk_zero]; exact BB, WB⟩
    case round =>
      clear ZZ BB WB
      obtain ⟨k, hk, rfl, ZZ, BB, WB⟩ := hrel
      by_cases hlt : k < 16
      · obtain ⟨b', off', y, hA, hc, HK⟩ := (HR.out.below WB.out).at (10 + k) (by have := HN.out; omega)
        cases hA
        obtain ⟨v0, hcell⟩ := BB.out.hcell k hlt
        have hfz := BB.out.hfrozen (4 + k)
        have hkn : (10 : Int) + (k : Int) < (n : Int) := by omega
        have hk16 : (k : Int) < 16 := by omega
        go_wp2_with fail
        go_roundw
        case rel => exact ⟨k + 1, by omega, by go_num, Lib.hid (ZZ.out.hset_other (Nat.ne_of_lt HBN.out) _ _), Lib.hid (by have := BB.out.hset k hlt y; rw [gk_succ xs k y HK.out] at this; exact this), Lib.hid (WB.out.setCell (p := ⟨B, 4 + k, none⟩) (Nat.le_of_lt HBN.out) _)⟩
        case measure => simp [intOf]; omega
      · obtain rfl : k = 16 := by omega
        have BB : Hid (Hd wr B (hdr xs)) := Lib.hid (by rw [← HHD.out, ← gk_all L F (numR xs 2) (numR xs 6) xs]; exact BB.out)
        have R2 := Lib.hid ((HR.out.below WB.out).cutA 26 c (by rw [← HN.out]; exact hnc))
        have hd26 : n - 26 = (xs.drop 26).length := by rw [List.length_drop, ← HN.out]
        have H26 := Lib.hid hd26
        have HLD : Hid ((xs.drop 26).length ≤ 140737488355328) := Lib.hid (by rw [List.length_drop]; have := HLN.out; omega)
        clear hd26
        go_wp2_with fail
        refine wp_region_held_drew (S := fun w' => Hd w' B (hdr xs)) (by kernel_rfl) BB.out (fun hHeld => ?_)
        have WB := Lib.hid WB.out.drew
        have ZZ : Hid (Hd wr.drew w.heap.size (hArr 0 0 0 0 z0)) := Lib.hid ZZ.out
        have BB : Hid (Hd wr.drew B (hdr xs)) := Lib.hid BB.out
        have R2 : Hid (Rd wr.drew .u8 (cutA (some ⟨b, off, none⟩) 26 c) (xs.drop 26)) := Lib.hid (R2.out.draws 1)
        generalize wr.drew = W at WB ZZ BB R2 hHeld
        refine wpAnyH_take (i := 0) (oi := ⟨some 36, _, _, _, _, _⟩) (v := (.agg (hdr xs))) rfl (by kernel_rfl) (by kernel_rfl) (by kernel_rfl) (fun _ _ _ h => h) (Or.inl ⟨by rfl, ?_⟩) (by assumption) ?_
        · intro w' hS; exact exec_load_row 26 _ (by rfl) B (by rfl) 26 (hdr xs) (0, 0) _ hS Try.underlying26 rfl (hdr_size xs)
        simp only [Act.put, List.setIfInBounds_toArray, List.set_cons_zero, List.set_cons_succ]
        refine wpAnyH_take (i := 1) (oi := ⟨some 37, _, _, _, _, _⟩) (v := (.slice (some ⟨b, off, none⟩) n c)) rfl (by kernel_rfl) (by kernel_rfl) (by kernel_rfl) (fun _ _ _ h => h) (Or.inl ⟨by rfl, ?_⟩) (by assumption) ?_
        · intro w' hS; (try dsimp only [SS] at hS); go_simp; try with_reducible rfl
        simp only [Act.put, List.setIfInBounds_toArray, List.set_cons_zero, List.set_cons_succ]
        refine wpAnyH_take (i := 2) (oi := ⟨some 38, _, _, _, _, _⟩) (v := (.slice (cutA (some ⟨b, off, none⟩) 26 c) (n - 26) (c - 26))) rfl (by kernel_rfl) (by kernel_rfl) (by kernel_rfl) (fun _ _ _ h => h) (Or.inl ⟨by rfl, ?_⟩) (by assumption) ?_
        · intro w' hS; exact exec_slice_from 27 5 _ _ (by rfl) Try.underlying27 size5' (some ⟨b, off, none⟩) n c 26 .i64 26 (by rfl) (by rfl) rfl h26
        simp only [Act.put, List.setIfInBounds_toArray, List.set_cons_zero, List.set_cons_succ]
        refine wpAnyH_ready (rs := [3]) (by kernel_rfl) (by simp) ?_
        refine AllReadyH.cons (o := ⟨some 39, _, _, _, _, _⟩) rfl (fun K hK => ?_) AllReadyH.nil
        rw [if_pos (by rfl)]
        have hcp := copyb_any (cutA (some ⟨b, off, none⟩) 26 c) (c - 26) (xs.drop 26) W R2.out HLD.out
        rw [← H26.out] at hcp
        go_simp
        refine hcp.mono ?_
        rintro e w3 ⟨v', rfl, hown, b3⟩
        have O3 := Lib.hid (hown.lower WB.out.size)
        have ZZ := Lib.hid (ZZ.out.below ZZ.out.lt b3)
        have BB := Lib.hid (BB.out.below BB.out.lt b3)
        have WB := Lib.hid (WB.out.trans (b3.mono WB.out.size))
        clear b3 hown hcp
        dsimp only
        (try simp only [Act.put, List.setIfInBounds_toArray, List.set_cons_zero, List.set_cons_succ])
        refine hK.out _ _ BB.out (fun hHeld => ?_)
        clear hK K
        refine wpAnyH_ready (rs := [4]) (by kernel_rfl) (by simp) ?_
        refine AllReadyH.cons (o := ⟨none, _, _, _, _, _⟩) rfl (fun K hK => ?_) AllReadyH.nil
        rw [if_pos (by rfl)]
        refine wp_store_row 26 _ _ rfl w.heap.size (hdr xs) rfl rfl 26 _ ZZ.out (hdr_size xs) (hdr_sz xs _ _ _ _ _) (hdr_cells xs) ?_
        have BB : Hid (Hd (w3.setRow w.heap.size (hdr xs)) B (hdr xs)) := Lib.hid ((setRow_other _ w.heap.size B (hdr xs) (Nat.ne_of_gt HBN.out)).trans BB.out)
        have ZY := ZZ
        have ZZ : Hid (Hd (w3.setRow w.heap.size (hdr xs)) w.heap.size (hdr xs)) := Lib.hid (setRow_heap _ _ _ (hdr xs) _ _ ZZ.out)
        have OO : Hid (Own (w3.setRow w.heap.size (hdr xs)) w.heap.size 5 .u8 v' (xs.drop 26)) := Lib.hid (own_setRow O3.out (Hd.ne ZY.out O3.out) _)
        have WB := Lib.hid (below_setRow WB.out (Nat.le_refl _) (hdr xs))
        (try simp only [Act.put, List.setIfInBounds_toArray, List.set_cons_zero, List.set_cons_succ])
        refine hK.out _ _ BB.out (fun hHeld => ?_)
        clear hK K
        refine wpAnyH_take (i := 5) (oi := ⟨some 3, _, _, _, _, _⟩) (v := v') rfl (by kernel_rfl) (by kernel_rfl) (by kernel_rfl) (fun _ _ _ h => h) (Or.inl ⟨by rfl, ?_⟩) (by assumption) ?_
        · intro w' hS; rfl
        simp only [Act.put, List.setIfInBounds_toArray, List.set_cons_zero, List.set_cons_succ]
        refine wpAnyH_take (i := 6) (oi := ⟨some 4, _, _, _, _, _⟩) (v := (.bool true)) rfl (by kernel_rfl) (by kernel_rfl) (by kernel_rfl) (fun _ _ _ h => h) (Or.inl ⟨by rfl, ?_⟩) (by assumption) ?_
        · intro w' hS; rfl
        simp only [Act.put, List.setIfInBounds_toArray, List.set_cons_zero, List.set_cons_succ]
        refine wpAnyH_done (by kernel_rfl) ?_ _
        go_wp2_with fail
        refine bodyPost_ret (results_ctt26 rfl _ _ w.heap.size _ rfl ZZ.out (hdr_size xs)) rfl ?_
        exact ⟨v', rfl, OO.out, WB.out⟩
end Go.Proofs.Ytedejkfhgpnhpaa

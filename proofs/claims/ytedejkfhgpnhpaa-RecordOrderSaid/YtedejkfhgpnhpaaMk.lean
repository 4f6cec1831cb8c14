/-
  Walks: record.Make; the law RecordMakes.
-/
import Derived.Test.YtedejkfhgpnhpaaLp
import Derived.Test.YtedejkfhgpnhpaaApr
import Derived.Deep.RegionHeld3
set_option linter.unusedVariables false
set_option linter.unusedSimpArgs false
namespace Go.Proofs.Ytedejkfhgpnhpaa
open Go.RowKit

theorem pmake_any (l f i r : Nat) (g : Nat → Int) (A : Option Addr) (n c : Nat) (ys : List Int) (w : World) (hn : n = ys.length) (hy : Rd w .u8 A ys) (hi : i < 4294967296) (hr : r < 4294967296) (hl : ys.length ≤ 140737488355000) :
    Calls Try.prog 12 #[.agg (hArr l f i r g), .slice A n c] w (Made 5 .u8 (hb l f i r g ++ ys) w) := by
  have W0 := Lib.hid ((Below.refl w.heap.size w).alloc (Nat.le_refl _) (.cells (hArr l f i r g) 26))
  have HY := Lib.hid hy
  have HN := Lib.hid hn
  have HX := Lib.hid (hArr_blk' w l f i r g)
  have hby : ((hb l f i r g).length + ys.length) * 1 ≤ 140737488355328 := by rw [hb_len]; omega
  clear hn hy
  go_enter Try.func12, Try.ntmps12
  go_wp2_with (refine wpList_load_row rfl 26 _ rfl w.heap.size rfl 26 (hArr l f i r g) (0, 0) _ HX.out Try.underlying26 rfl (size26' l f i r g) ?_)
  refine (head_arr l f i r g _ hi hr).mono ?_
  rintro e w1 ⟨v1, rfl, o1, b1⟩
  have W1 := Lib.hid (W0.out.trans (b1.mono W0.out.size))
  have O1 := Lib.hid (o1.lower W0.out.size)
  have Y1 := Lib.hid (HY.out.below W1.out)
  have hbs := W1.out.size
  clear o1 b1
  go_wp2_with (refine wpList_pushes_any w1 rfl _ _ 27 rfl w.heap.size 5 .u8 1 Try.underlying27 info5 v1 _ rfl O1.out A n c ys rfl HN.out Y1.out hby (by decide) hbs ?_; intro v' w2 hown2 hfr2)
  go_ret
  exact ⟨_, rfl, hown2, W1.out.trans (hfr2.below hbs (fun k hk => (O1.out.base_le hk).1))⟩

theorem blk_set_int {w : World} {G T : Nat} {kd : IntKind} {ys : List Int} {rest : List Value} {k : Nat} (h : Blk w G T (ys.map (Value.int kd) ++ rest)) (hk : k < ys.length) (y : Int) : Blk (w.setCell ⟨G, k, none⟩ (.int kd y)) G T ((ys.set k y).map (Value.int kd) ++ rest) := by
  have := h.set k (.int kd y)
  rwa [List.set_append_left _ _ (by simpa using hk), ← List.map_set] at this
theorem exec_load_row {P : Program} {o : Oper} {a : Act} {w : World} (ty : TypeId) (x : Operand) (ho : o.op = .load ty x) (g : Nat) (hx : a.eval x = .pointer (some ⟨g, 0, none⟩)) (t : TypeId) (cs : Array Value) (fr : Nat × Nat) (d : TypeDesc) (hg : w.heap[g]? = some (.cells cs t fr))
    (hu : P.underlying ty = some d) (hd : (match d with | .struct _ | .array _ _ => true | _ => false) = true) (hi : (P.info? ty).map (·.size) = some cs.size) : (execOp a.eval o).run P w = .ok (.value (.agg cs)) w := by
  unfold execOp
  simp only [ho, hx, Instr.loadAt, Instr.sureAddr, Sem.run_bind, Sem.run_pure, Result.andThen_ok, run_loadVar_row w g t ty cs fr d hg hu hd hi]
/-- Two values. -/
def two (a b : Value) : Nat → Value := fun j => if j = 0 then a else b
theorem two_cells {W : World} {a b : Value} {T : TypeId} {G : Nat} (h : Blk W G T [a, b]) : ∀ j, j < 2 → W.cell? ⟨G, j, none⟩ = some (two a b j) := fun j hj => by
  have : j = 0 ∨ j = 1 := by omega
  rcases this with rfl | rfl
  · exact h.cell 0
  · exact h.cell 1
theorem two_all {P : Nat → Value → Prop} {a b : Value} (ha : P 0 a) (hb : P 1 b) : ∀ j, j < 2 → P j (two a b j) := fun j hj => by
  have : j = 0 ∨ j = 1 := by omega
  rcases this with rfl | rfl
  · exact ha
  · exact hb
theorem two_dist {a b : Value} (h : ∀ g, a.ownBlock = some g → b.ownBlock ≠ some g) : Dist 2 (two a b) := fun i j hi hj hne g hg hg2 => by
  have hi' : i = 0 ∨ i = 1 := by omega
  have hj' : j = 0 ∨ j = 1 := by omega
  rcases hi' with rfl | rfl <;> rcases hj' with rfl | rfl
  · exact hne rfl
  · exact h g hg hg2
  · exact h g hg2 hg
  · exact hne rfl
theorem two_blks {a b : Value} {g : Nat} (h : Blks 2 (two a b) g) : a.ownBlock = some g ∨ b.ownBlock = some g := by
  obtain ⟨j, hj, h⟩ := h
  have : j = 0 ∨ j = 1 := by omega
  rcases this with rfl | rfl
  · exact .inl h
  · exact .inr h

/-- Apart of two rows that lie in the cells of a new block. -/
theorem apart_two {base : Nat} {W : World} {va vb : Value} {xs ys : List Int} (ha : Own W base 5 .u8 va xs) (hb : Own W base 5 .u8 vb ys) (hne : ∀ g, va.ownBlock = some g → vb.ownBlock ≠ some g) (hbase : base ≤ W.heap.size)
    (h1 : xs.length + 71 ≤ 140737488355328) (h2 : ys.length + 71 ≤ 140737488355328) :
    Calls Try.prog 16 #[.slice (some ⟨W.heap.size, 0, none⟩) 2 2] (W.alloc (.cells #[va, vb] 27)) fun e w' => e = .returned (.bool true) ∧ Fr (fun g => base ≤ g) W w' := by
  have hB := Blk.new W 27 [va, vb]
  have bel := (Below.refl W.heap.size W).alloc (Nat.le_refl _) (.cells #[va, vb] 27)
  have ha' := ha.below bel
  have hb' := hb.below bel
  refine (apart_any base W.heap.size 2 2 (two va vb) (fun j => if j = 0 then xs.length else ys.length) (fun j => if j = 0 then xs else ys) _ (by decide) (fun j _ => by split <;> rfl) ?_ (two_dist hne) ?_ (two_cells hB) (by simp; omega) ?_).mono ?_
  · exact two_all (P := fun j v => Own (W.alloc (.cells #[va, vb] 27)) base 5 .u8 v (if j = 0 then xs else ys)) ha' hb'
  · refine two_all (P := fun j v => v.ownBlock ≠ some W.heap.size) (fun h => ?_) (fun h => ?_)
    · have := (ha.base_le h).2; omega
    · have := (hb.base_le h).2; omega
  · intro j _
    split <;> assumption
  · rintro e w' ⟨rfl, hf⟩
    refine ⟨rfl, ((Fr.refl _ W).alloc _).trans (hf.mono (fun g hg => ?_))⟩
    rcases two_blks hg with h | h
    · exact (ha.base_le h).1
    · exact (hb.base_le h).1

set_option maxHeartbeats 1600000 in
theorem makes_any (l f i r : Nat) (g : Nat → Int) (A : Option Addr) (n c : Nat) (xs : List Int) (w : World) (hn : n = xs.length) (hx : Rd w .u8 A xs) (hi : i < 4294967296) (hr : r < 4294967296) (hl : xs.length ≤ 140737488354000) :
    Calls Try.prog 3 #[.agg (hArr l f i r g), .slice A n c] w fun e w' => e = .returned (.bool true) ∧ Below w.heap.size w w' := by
  have W0 := Lib.hid ((Below.refl w.heap.size w).alloc (Nat.le_refl _) (.cells (hArr l f i r g) 26))
  have HX := Lib.hid hx
  have HN := Lib.hid hn
  have B0 := Lib.hid (hArr_blk w l f i r g)
  clear hn hx
  go_enter Try.func3, Try.ntmps3
  go_wp2_with fail
  have hs := spare_any A c xs _ (HX.out.below W0.out) (by omega)
  rw [← HN.out] at hs
  refine hs.mono ?_
  rintro e w1 ⟨rfl, b1, hb1⟩
  have W1 := Lib.hid (W0.out.trans (hb1.mono W0.out.size))
  have B1 := Lib.hid (B0.out.below hb1 B0.out.lt)
  have X1 := Lib.hid (HX.out.below W1.out)
  obtain ⟨G, hG⟩ : ∃ G, G = (w.alloc (.cells (hArr l f i r g) 26)).heap.size := ⟨_, rfl⟩
  rw [← hG] at b1 ⊢
  have hGw : w.heap.size < G := by rw [hG]; simp
  have GB := Lib.hid b1
  have HGW := Lib.hid hGw
  have HG1 : Hid (G < w1.heap.size) := Lib.hid b1.lt
  clear b1 hb1 hs hG W0 B0 hGw
  have B1' := Lib.hid (blk_hArr B1.out)
  obtain ⟨L, HL⟩ : ∃ L, Hid (hb l f i r g ++ xs = L) := ⟨_, Lib.hid rfl⟩
  have HLL : Hid (L.length + 71 ≤ 140737488355328) := Lib.hid (by rw [← HL.out, List.length_append, hb_len]; omega)
  go_wp2_with (refine wpList_load_row rfl 26 _ rfl w.heap.size rfl 26 (hArr l f i r g) (0, 0) _ B1'.out Try.underlying26 rfl (size26' l f i r g) ?_)
  refine (pmake_any l f i r g _ n _ xs _ HN.out (by have := (blk_rd0 GB.out).take xs.length; rwa [spL_take] at this) hi hr (by omega)).mono ?_
  rintro e w2 ⟨va, rfl, o2, bb2⟩
  rw [HL.out] at o2
  have OA := Lib.hid o2
  have W2 := Lib.hid (W1.out.trans (bb2.mono W1.out.size))
  have B2 := Lib.hid (B1.out.below bb2 B1.out.lt)
  have B2' := Lib.hid (blk_hArr B2.out)
  have G2 := Lib.hid (GB.out.below bb2 GB.out.lt)
  have S12 := Lib.hid bb2.size
  clear o2 bb2 B1' B1
  go_wp2_with (refine wpList_load_row rfl 26 _ rfl w.heap.size rfl 26 (hArr l f i r g) (0, 0) _ B2'.out Try.underlying26 rfl (size26' l f i r g) ?_)
  refine (pmake_any l f i r g _ n _ xs _ HN.out (by have := (blk_rd0 G2.out).take xs.length; rwa [spL_take] at this) hi hr (by omega)).mono ?_
  rintro e w3 ⟨vb, rfl, o3, bb3⟩
  rw [HL.out] at o3
  have OA3 := Lib.hid (OA.out.below bb3)
  have HNE : Hid (∀ g, va.ownBlock = some g → vb.ownBlock ≠ some g) := Lib.hid (fun g h1 h2 => by have := (OA.out.base_le h1).2; have := (o3.base_le h2).1; omega)
  have OB := Lib.hid (o3.lower S12.out)
  have W3 := Lib.hid (W2.out.trans (bb3.mono W2.out.size))
  have B3 := Lib.hid (B2.out.below bb3 B2.out.lt)
  have B3' := Lib.hid (blk_hArr B3.out)
  have G3 := Lib.hid (G2.out.below bb3 G2.out.lt)
  have S13 : Hid (w1.heap.size ≤ w3.heap.size) := Lib.hid (Nat.le_trans S12.out bb3.size)
  have X3 := Lib.hid (HX.out.below W3.out)
  clear o3 bb3 B2' B2 OA GB G2 W1 W2 S12
  go_wp2_with (refine wpList_load_row rfl 26 _ rfl w.heap.size rfl 26 (hArr l f i r g) (0, 0) _ B3'.out Try.underlying26 rfl (size26' l f i r g) ?_)
  refine (rmake_any l f i r g A c n xs _ HN.out hi hr X3.out (by omega)).mono ?_
  rintro e w4 ⟨vw, rfl, o4, bb4⟩
  rw [HL.out] at o4
  have OA4 := Lib.hid (OA3.out.below bb4)
  have OB4 := Lib.hid (OB.out.below bb4)
  have W4 := Lib.hid (W3.out.trans (bb4.mono W3.out.size))
  have B4 := Lib.hid (B3.out.below bb4 B3.out.lt)
  have G4 := Lib.hid (G3.out.below bb4 G3.out.lt)
  have S14 : Hid (w1.heap.size ≤ w4.heap.size) := Lib.hid (Nat.le_trans S13.out bb4.size)
  have X4 := Lib.hid (HX.out.below W4.out)
  obtain ⟨Aw, cw, rfl, -, -, rdw, -⟩ := o4.slice
  obtain ⟨Aa, ca, hva, -, -, rda, -⟩ := OA4.out.slice
  obtain ⟨Ab, cb, hvb, -, -, rdb, -⟩ := OB4.out.slice
  subst hva hvb
  have RW := Lib.hid rdw
  have RA := Lib.hid rda
  have RB := Lib.hid rdb
  clear o4 bb4 B3' B3 OA3 OB G3 W3 S13 X3 rdw rda rdb
  go_wp2_with fail
  refine (eqb_any Aa Aw ca cw L L w4 RA.out RW.out (by have := HLL.out; omega) (by have := HLL.out; omega)).mono ?_
  rintro e w' ⟨q1, rfl, rfl⟩
  rw [show decide (L = L) = true from by simp]
  go_wp2_with fail
  refine (eqb_any Ab Aw cb cw L L _ (RB.out.draws _) (RW.out.draws _) (by have := HLL.out; omega) (by have := HLL.out; omega)).mono ?_
  rintro e w' ⟨q2, rfl, rfl⟩
  rw [show decide (L = L) = true from by simp]
  go_wp2_with fail
  refine (kept_any A G (n + 80) c n n xs [] _ HN.out HN.out (by rw [List.append_nil]; exact G4.out.drewN _) (X4.out.draws _) (by omega) (by have := HN.out; omega) (by have := HN.out; omega)).mono ?_
  rintro e w' ⟨q3, rfl, rfl⟩
  go_wp2_with fail
  refine (apart_two (OA4.out.drewN _) (OB4.out.drewN _) HNE.out S14.out HLL.out HLL.out).mono ?_
  rintro e w5 ⟨rfl, hf⟩
  have F5 : Hid (Fr (fun g => w1.heap.size ≤ g) w4 w5) := Lib.hid ((Fr.refl (fun g => w1.heap.size ≤ g) w4).drewN _ |>.trans hf)
  have hW1 : w.heap.size ≤ w1.heap.size := Nat.le_of_lt (Nat.lt_trans HGW.out HG1.out)
  have W5 := Lib.hid (W4.out.trans (F5.out.below (by have := S14.out; omega) (fun k hk => Nat.le_trans hW1 hk)))
  have G5 := Lib.hid (G4.out.fr F5.out (by have := HG1.out; omega))
  have B5 := Lib.hid (B4.out.fr F5.out (by have := HG1.out; have := HGW.out; omega))
  have X5 := Lib.hid (HX.out.below W5.out)
  have S15 : Hid (w1.heap.size ≤ w5.heap.size) := Lib.hid (Nat.le_trans S14.out F5.out.size)
  clear hf hW1 F5 OA4 OB4 W4 B4 G4 S14 X4 RW RA RB HNE
  go_wp2_with fail
  refine (kept_any A G (n + 80) c n n xs [] _ HN.out HN.out (by rw [List.append_nil]; exact G5.out) X5.out (by omega) (by have := HN.out; omega) (by have := HN.out; omega)).mono ?_
  rintro e w' ⟨q4, rfl, rfl⟩
  have B5' := Lib.hid (blk_hArr (B5.out.drewN q4))
  go_wp2_with (refine wpList_load_row rfl 26 _ rfl w.heap.size rfl 26 (hArr l f i r g) (0, 0) _ B5'.out Try.underlying26 rfl (size26' l f i r g) ?_)
  refine (pmake_any l f i r g _ n _ xs _ HN.out (by have := (blk_rd0 (G5.out.drewN q4)).take xs.length; rwa [spL_take] at this) hi hr (by omega)).mono ?_
  rintro e w6 ⟨v6, rfl, o6, bb6⟩
  have W6 := Lib.hid (((belowN W5.out q4)).trans (bb6.mono W5.out.size))
  have B6 := Lib.hid ((B5.out.drewN q4).below bb6 B5.out.lt)
  have G6 := Lib.hid ((G5.out.drewN q4).below bb6 G5.out.lt)
  have S16 : Hid (w1.heap.size ≤ w6.heap.size) := Lib.hid (Nat.le_trans S15.out bb6.size)
  clear o6 bb6 B5' B5 G5 W5 X5 S15
  have HGE : Hid (Blk w6 G 5 (xs.map (Value.int .u8) ++ (mk80 xs.length).map (Value.int .u8))) := Lib.hid (by have := G6.out; rw [spL_eq, List.map_append] at this; exact this)
  go_wp2_with fail
  go_loopw [9] (fun i wr => ∃ (k : Nat) (ys : List Int), k ≤ n ∧ i = .int .i64 k ∧ Hid (ys.length = n) ∧ Hid (Blk wr G 5 (ys.map (Value.int .u8) ++ (mk80 xs.length).map (Value.int .u8))) ∧ Hid (Fr (fun j => j = G) w6 wr)) (fun i _ => n - (intOf i).toNat)
  case atStart => exact ⟨0, xs, Nat.zero_le _, rfl, Lib.hid HN.out.symm, HGE, Lib.hid (Fr.refl _ _)⟩
  case round =>
    obtain ⟨k, ys, hk, rfl, HY, HB, HF⟩ := hrel
    by_cases hlt : k < n
    · have hylt : k < ys.length := by have := HY.out; omega
      have hcell : wr.cell? ⟨G, k, none⟩ = some (.int .u8 (ys.getD k 0)) := by
        rw [HB.out.cell, List.getElem?_append_left (by simpa using hylt)]
        simp [hylt]
      have hfz := HB.out.frozen k
      generalize ys.getD k 0 = y at hcell
      have hn63 : n ≤ 140737488355328 := by have := HN.out; omega
      go_wp2_with fail
      go_roundw
      case rel => exact ⟨k + 1, ys.set k _, by omega, by go_num, Lib.hid (by rw [List.length_set]; exact HY.out), Lib.hid (blk_set_int HB.out hylt _), Lib.hid (HF.out.setCell (p := ⟨G, k, none⟩) (.inl rfl) _)⟩
      case measure => simp [intOf]; omega
    · have hge : decide ((k : Int) < (n : Int)) = false := by simp; omega
      have RY : Hid (Rd wr .u8 (some ⟨G, 0, none⟩) ys) := Lib.hid (blk_rd HB.out)
      have HYL : Hid (n = ys.length) := Lib.hid HY.out.symm
      have hyl : ys.length ≤ 140737488354000 := by have := HN.out; have := HYL.out; omega
      have W7 := Lib.hid (W6.out.trans (HF.out.below (by have := W6.out.size; exact this) (fun j hj => by have := HGW.out; omega)))
      have B7 := Lib.hid (B6.out.fr HF.out (by have := HGW.out; omega))
      have hcp := copyb_any (some ⟨G, 0, none⟩) (n + 80) ys wr RY.out (by omega)
      rw [← HYL.out] at hcp
      go_wp2_with fail
      refine hcp.mono ?_
      rintro e w8 ⟨v8, rfl, o8, bb8⟩
      have W8 := Lib.hid (W7.out.trans (bb8.mono W7.out.size))
      have B8 := Lib.hid (B7.out.below bb8 B7.out.lt)
      have R8 := Lib.hid (RY.out.below bb8)
      obtain ⟨A8, c8, rfl, -, -, rd8, -⟩ := o8.slice
      have RN := Lib.hid rd8
      rw [← HYL.out]
      clear hcp o8 bb8 rd8 B7 W7 HB HF
      go_wp2_with fail
      have B8' := Lib.hid (blk_hArr B8.out)
      refine wp_region_held_drew (S := fun w' => w'.heap[w.heap.size]? = some (.cells (hArr l f i r g) 26 (0, 0))) (by kernel_rfl) B8'.out (fun hHeld => ?_)
      refine wpAnyH_take (i := 0) (v := .agg (hArr l f i r g)) rfl (by kernel_rfl) (by kernel_rfl) (by kernel_rfl) (fun _ _ _ h => h) (Or.inl ⟨by rfl, fun w' hS => exec_load_row 26 _ rfl w.heap.size rfl 26 (hArr l f i r g) (0, 0) _ hS Try.underlying26 rfl (size26' l f i r g)⟩) hHeld ?_
      simp only [Act.put, List.setIfInBounds_toArray, List.set_cons_zero, List.set_cons_succ]
      refine wpAnyH_take (i := 3) (v := .agg (hArr l f i r g)) rfl (by kernel_rfl) (by kernel_rfl) (by kernel_rfl) (fun _ _ _ h => h) (Or.inl ⟨by rfl, fun w' hS => exec_load_row 26 _ rfl w.heap.size rfl 26 (hArr l f i r g) (0, 0) _ hS Try.underlying26 rfl (size26' l f i r g)⟩) hHeld ?_
      simp only [Act.put, List.setIfInBounds_toArray, List.set_cons_zero, List.set_cons_succ]
      refine wpAnyH_take (i := 1) (v := .slice (some ⟨G, 0, none⟩) n (n + 80)) rfl (by kernel_rfl) (by kernel_rfl) (by kernel_rfl) (fun _ _ _ h => h) (Or.inl ⟨by rfl, fun w' hS => rfl⟩) hHeld ?_
      simp only [Act.put, List.setIfInBounds_toArray, List.set_cons_zero, List.set_cons_succ]
      refine wpAnyH_take (i := 4) (v := .slice A8 n c8) rfl (by kernel_rfl) (by kernel_rfl) (by kernel_rfl) (fun _ _ _ h => h) (Or.inl ⟨by rfl, fun w' hS => rfl⟩) hHeld ?_
      simp only [Act.put, List.setIfInBounds_toArray, List.set_cons_zero, List.set_cons_succ]
      refine wpAnyH_ready (rs := [2]) (by kernel_rfl) (by simp) ?_
      refine AllReadyH.cons rfl (fun K hK => ?_) AllReadyH.nil
      rw [if_pos (by rfl)]
      go_simp
      refine (pmake_any l f i r g _ n _ ys _ HYL.out (R8.out.draw1) hi hr (by omega)).mono ?_
      rintro e w9 ⟨v9, rfl, o9, bb9⟩
      obtain ⟨L2, HL2⟩ : ∃ L, Hid (hb l f i r g ++ ys = L) := ⟨_, Lib.hid rfl⟩
      have HLL2 : Hid (L2.length ≤ 9223372036854775807) := Lib.hid (by rw [← HL2.out, List.length_append, hb_len]; omega)
      rw [HL2.out] at o9
      have W9 := Lib.hid (W8.out.drew.trans (bb9.mono W8.out.size))
      have B9 := Lib.hid (B8.out.below (Below.trans ((Below.refl wr.heap.size w8).drew |> fun h => (Below.refl _ w8).drew) bb9) B8.out.lt)
      have RN9 := Lib.hid (RN.out.draw1.below bb9)
      obtain ⟨A9, c9, rfl, -, -, rd9, -⟩ := o9.slice
      have R9 := Lib.hid rd9
      clear o9 bb9 rd9
      dsimp only
      refine hK.out _ _ (blk_hArr B9.out) (fun hHeld => ?_)
      clear hK K
      refine wpAnyH_ready (rs := [5]) (by kernel_rfl) (by simp) ?_
      refine AllReadyH.cons rfl (fun K hK => ?_) AllReadyH.nil
      rw [if_pos (by rfl)]
      go_simp
      refine (rmake_any l f i r g _ _ n ys _ HYL.out hi hr RN9.out (by omega)).mono ?_
      rintro e w10 ⟨v10, rfl, o10, bb10⟩
      rw [HL2.out] at o10
      have W10 := Lib.hid (W9.out.trans (bb10.mono W9.out.size))
      have B10 := Lib.hid (B9.out.below bb10 B9.out.lt)
      have R9b := Lib.hid (R9.out.below bb10)
      obtain ⟨A10, c10, rfl, -, -, rd10, -⟩ := o10.slice
      have R10 := Lib.hid rd10
      clear o10 bb10 rd10
      dsimp only
      refine hK.out _ _ (blk_hArr B10.out) (fun hHeld => ?_)
      clear hK K
      refine wpAnyH_ready (rs := [6]) (by kernel_rfl) (by simp) ?_
      refine AllReadyH.cons rfl (fun K hK => ?_) AllReadyH.nil
      rw [if_pos (by rfl)]
      go_simp
      refine (eqb_any A9 A10 c9 c10 L2 L2 _ R9b.out R10.out HLL2.out HLL2.out).mono ?_
      rintro e w' ⟨q5, rfl, rfl⟩
      rw [show decide (L2 = L2) = true from by simp]
      dsimp only
      refine hK.out _ _ (blk_hArr (B10.out.drewN q5)) (fun hHeld => ?_)
      clear hK K
      refine wpAnyH_ready (rs := [7]) (by kernel_rfl) (by simp) ?_
      refine AllReadyH.cons rfl (fun K hK => ?_) AllReadyH.nil
      rw [if_pos (by rfl)]
      go_simp
      refine hK.out _ _ (blk_hArr (B10.out.drewN q5)) (fun hHeld => ?_)
      clear hK K
      refine wpAnyH_done (by kernel_rfl) ?_ _
      go_wp2_with fail
      go_ret
      exact ⟨rfl, belowN W10.out q5⟩
end Go.Proofs.Ytedejkfhgpnhpaa

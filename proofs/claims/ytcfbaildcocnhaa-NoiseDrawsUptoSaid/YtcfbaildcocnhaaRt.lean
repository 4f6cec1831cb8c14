/-
  The document's source: New, take.
-/
import Derived.Test.YtcfbaildcocnhaaSn
import Derived.Test.YtcfbaildcocnhaaRn
import Derived.Test.YtcfbaildcocnhaaBd
import Derived.Deep.Upon
set_option linter.unusedVariables false
set_option linter.unusedSimpArgs false
namespace Go.Proofs.Ytcfbaildcocnhaa
open Go.RowKit

theorem Blk.setCells {g T : Nat} {post : List Value} : ∀ (new old pre : List Value) (w : World), Blk w g T (pre ++ (old ++ post)) → old.length = new.length → Blk (w.setCells g pre.length new) g T (pre ++ (new ++ post))
  | [], old, pre, w, h, hl => by
    obtain rfl : old = [] := List.eq_nil_of_length_eq_zero hl
    exact h
  | v :: vs, old, pre, w, h, hl => by
    cases old with
    | nil => simp at hl
    | cons o os =>
      have h1 := h.set pre.length v
      rw [List.set_append_right _ _ (Nat.le_refl _), Nat.sub_self, List.cons_append, List.set_cons_zero] at h1
      have h2 := Blk.setCells vs os (pre ++ [v]) (w.setCell ⟨g, pre.length, none⟩ v) (by rw [List.append_assoc]; exact h1) (by simpa using hl)
      rw [List.length_append, List.append_assoc] at h2
      exact h2
theorem Fr.setCells {S : Nat → Prop} {a : World} {g : Nat} (hg : S g) : ∀ (vs : List Value) (o : Nat) (w : World), Fr S a w → Fr S a (w.setCells g o vs)
  | [], _, _, h => h
  | v :: vs, o, w, h => Fr.setCells hg vs (o + 1) _ (h.setCell (p := ⟨g, o, none⟩) (.inl hg) v)
/-- The document's source's cells. -/
def RSl (ks : List Int) (p M : Nat) (bs : List Int) : List Value := ks.map (Value.int .u8) ++ ([.int .u64 (p : Int)] ++ ([.int .u64 (M : Int)] ++ bs.map (Value.int .u8)))
structure RSt (ks : List Int) (M : Nat) (bs : List Int) : Prop where
  lb : bs.length = 64
  lM : M < 18446744073709551616
  ok : M = 0 ∨ bs = blkAt ks (M - 1)
/-- The document's source of a seed, at a place of its row. -/
def RSrc (w : World) (R : Nat) (ks : List Int) (p : Nat) : Prop := ∃ M bs, Blk w R 105 (RSl ks p M bs) ∧ RSt ks M bs
theorem RSrc.lt {w : World} {R : Nat} {ks : List Int} {p : Nat} (h : RSrc w R ks p) : R < w.heap.size := by
  obtain ⟨M, bs, h1, -⟩ := h; exact h1.lt
theorem RSrc.fr {F : Nat → Prop} {w w' : World} {R : Nat} {ks : List Int} {p : Nat} (h : RSrc w R ks p) (hf : Fr F w w') (hS : ¬ F R) : RSrc w' R ks p := by
  obtain ⟨M, bs, h1, h2⟩ := h; exact ⟨M, bs, h1.fr hf hS, h2⟩
theorem RSrc.below {w w' : World} {R : Nat} {ks : List Int} {p : Nat} (h : RSrc w R ks p) (hb : Below w.heap.size w w') : RSrc w' R ks p := h.fr (F := fun _ => False) (Fr.of_below hb _) (fun h => h)
theorem RSl_cells {w : World} {R T p M : Nat} {ks bs : List Int} (h : Blk w R T (RSl ks p M bs)) (hk : ks.length = 32) :
    w.rangeAt R 0 (ks.map (Value.int .u8)) ∧ w.cell? ⟨R, 32, none⟩ = some (.int .u64 (p : Int)) ∧ w.cell? ⟨R, 33, none⟩ = some (.int .u64 (M : Int)) ∧ w.rangeAt R 34 (bs.map (Value.int .u8)) := by
  have h1 := range_blk (a := ks.map (Value.int .u8)) (b := [.int .u64 (p : Int)]) (c := [.int .u64 (M : Int)] ++ bs.map (Value.int .u8)) h
  have h2 := range_blk (a := ks.map (Value.int .u8) ++ [.int .u64 (p : Int)]) (b := [.int .u64 (M : Int)]) (c := bs.map (Value.int .u8)) (by rw [List.append_assoc]; exact h)
  simp only [List.length_append, List.length_map, hk, List.length_singleton] at h1 h2
  exact ⟨h1.1, h1.2.1 0 _ rfl, h2.2.1 0 _ rfl, h2.2.2⟩
theorem RSl_place {w : World} {R T p M : Nat} {ks bs : List Int} (h : Blk w R T (RSl ks p M bs)) (hk : ks.length = 32) (q : Nat) : Blk (w.setCell ⟨R, 32, none⟩ (.int .u64 (q : Int))) R T (RSl ks q M bs) := by
  have := h.set 32 (.int .u64 (q : Int))
  unfold RSl at this ⊢
  rw [List.set_append_right _ _ (by simp [hk])] at this
  simpa [hk] using this
theorem RSl_m {w : World} {R T p M : Nat} {ks bs : List Int} (h : Blk w R T (RSl ks p M bs)) (hk : ks.length = 32) (q : Nat) : Blk (w.setCell ⟨R, 33, none⟩ (.int .u64 (q : Int))) R T (RSl ks p q bs) := by
  have := h.set 33 (.int .u64 (q : Int))
  unfold RSl at this ⊢
  rw [List.set_append_right _ _ (by simp [hk])] at this
  simpa [hk] using this
theorem RSl_blk {w : World} {R T p M : Nat} {ks bs : List Int} (h : Blk w R T (RSl ks p M bs)) (hk : ks.length = 32) (cs : List Int) (hl : bs.length = cs.length) : Blk (w.setCells R 34 (cs.map (Value.int .u8))) R T (RSl ks p M cs) := by
  have h2 := Blk.setCells (post := []) (cs.map (Value.int .u8)) (bs.map (Value.int .u8)) (ks.map (Value.int .u8) ++ ([.int .u64 (p : Int)] ++ [.int .u64 (M : Int)])) w (by
    rw [List.append_nil]
    unfold RSl at h
    simpa [List.append_assoc] using h) (by simpa using hl)
  simp only [List.length_append, List.length_map, hk, List.length_singleton] at h2
  unfold RSl
  simpa [List.append_assoc] using h2
/-- A new source's cells. -/
def SR (ks : List Int) : Array Value := (RSl ks 0 0 Z64).toArray
theorem SR_eq (ks : List Int) : SR ks = (RSl ks 0 0 Z64).toArray := rfl
attribute [irreducible] SR
def Z98 : List Value := List.replicate 32 (Value.int .u8 0) ++ ([.int .u64 0, .int .u64 0] ++ List.replicate 64 (Value.int .u8 0))
set_option maxRecDepth 100000 in
theorem built105 (parts : List (Nat × Value)) : Try.prog.built 105 parts = Instr.fill (fun i => (#[(0, 32), (32, 1), (33, 1), (34, 64)] : Array (Nat × Nat))[i]?) Z98.toArray parts := by kernel_rfl
set_option maxRecDepth 100000 in
theorem fill_SR (ks : List Int) (hk : ks.length = 32) :
    Instr.fill (fun i => (#[(0, 32), (32, 1), (33, 1), (34, 64)] : Array (Nat × Nat))[i]?) Z98.toArray [(0, .agg (AY .u8 ks))] = some (SR ks) := by
  have hc : (Value.agg (AY .u8 ks)).cells.toList = ks.map (Value.int .u8) := by rw [AY_cells, AY_eq]
  rw [fill_step _ _ 0 0 32 _ _ rfl (by rw [AY_cells, AY_size, hk]) (by decide)]
  unfold Instr.fill
  rw [SR_eq, hc]
  congr 1
set_option maxRecDepth 100000 in
set_option maxHeartbeats 4000000 in
theorem rnew_any (ks : List Int) (w : World) (hk : ks.length = 32) :
    Calls Try.prog 26 #[.agg (AY .u8 ks)] w fun e w' => ∃ R, e = .returned (.pointer (some ⟨R, 0, none⟩)) ∧ w.heap.size ≤ R ∧ RSrc w' R ks 0 ∧ Below w.heap.size w w' := by
  have I53 : Hid ((Try.prog.info? 53).map (·.size) = some (AY .u8 ks).size) := Lib.hid (by rw [info31, AY_size, hk])
  have HBD : Hid (Try.prog.built 105 [(0, .agg (AY .u8 ks))] = some (SR ks)) := Lib.hid (by rw [built105, fill_SR ks hk])
  clear hk
  go_enter Try.func26, Try.ntmps26
  go_upto_region 1 with fail
  generalize hG : w.heap.size = G
  generalize hW2 : w.alloc _ = w2
  have K2 : Hid (w2.heap[G]? = some (.cells (AY .u8 ks) 53 (0, 0))) := Lib.hid (blk_AY (by rw [← hW2]; exact AY_new_at .u8 w 53 ks hG.symm))
  have F2 : Hid (Below G w w2) := Lib.hid (by rw [← hW2]; exact (Below.refl _ w).alloc (by omega) _)
  have HGE := Lib.hid hG
  clear hG hW2
  go_wp2_with (first
    | (show wpList _ _ _ ({ dst := some 3, op := _, type := _, pos := _, after := _, guard := _ } :: _) _ _; refine wpList_load_row rfl 53 _ rfl G rfl 53 (AY .u8 ks) (0, 0) _ K2.out Try.underlying53 rfl I53.out ?_)
    | (show wpList _ _ _ ({ dst := some 4, op := _, type := _, pos := _, after := _, guard := _ } :: _) _ _; refine wpList_buildE rfl 105 _ rfl (SR ks) (by simp only [List.map_toArray, List.map_cons, List.map_nil]; exact HBD.out) ?_))
  go_ret
  have hlt := (Array.getElem?_eq_some_iff.1 K2.out).1
  exact ⟨w2.heap.size, rfl, by rw [HGE.out]; omega, ⟨0, Z64, by rw [SR_eq]; exact Blk.new w2 105 _, rfl, by decide, .inl rfl⟩, by rw [HGE.out]; exact F2.out.alloc (by omega) _⟩
theorem rowB_of (ks : List Int) (p : Nat) (hp : p < 18446744073709551616) : rowB ks p = (blkAt ks (p / 64)).getD (p % 64) 0 := by
  unfold rowB
  rw [Nat.mod_eq_of_lt (by omega : p / 64 < 18446744073709551616)]
theorem rowL_snoc (ks : List Int) (p k : Nat) : rowL ks p (k + 1) = rowL ks p k ++ [rowB ks (p + k)] := by
  rw [rowL_add]; rfl

set_option maxRecDepth 100000 in
set_option maxHeartbeats 8000000 in
theorem rtake_any (R n : Nat) (ks : List Int) (p : Nat) (w : World) (hs : RSrc w R ks p) (hk : ks.length = 32) (bk : B8 ks) (hn : n ≤ 1048576) (hp : p + n < 9223372036854775808) :
    Calls Try.prog 64 #[.pointer (some ⟨R, 0, none⟩), .int .i64 (n : Int)] w fun e w' => ∃ v, e = .returned v ∧ Own w' w.heap.size 5 .u8 v (rowL ks p n) ∧ RSrc w' R ks (p + n) ∧ Fr (fun b => b = R) w w' := by
  have HNC := Lib.hid (fun m W (hm : m < 18446744073709551616) => rnonce_any m W hm)
  have HBC : Hid (∀ m W, m < 18446744073709551616 → Calls Try.prog 78 #[.agg (AY .u8 ks), .int .u32 ((m % 4294967296 : Nat) : Int), .agg (AY .u8 (nonL (m / 4294967296)))] W fun e w' => e = .returned (.agg (AY .u8 (blkAt ks m))) ∧ Below W.heap.size W w') := Lib.hid (fun m W hm => by
    rw [blkAt_eq]; exact rblock_any ks (nonL (m / 4294967296)) (m % 4294967296) W hk (nonL_len _) bk (nonL_B8 _) (by omega))
  have I53 : Hid ((Try.prog.info? 53).map (·.size) = some ks.length) := Lib.hid (by rw [info31, hk])
  have HK := Lib.hid hk
  have HRL := Lib.hid hs.lt
  have HNP := Lib.hid (And.intro hn hp)
  have HS := Lib.hid hs
  clear hs hk bk hn hp
  go_enter Try.func64, Try.ntmps64
  go_wp2_with fail
  go_loopw [5, 6] (fun v i wr => ∃ k : Nat, i = .int .i64 k ∧ Hid (k ≤ n) ∧ Hid (Own wr w.heap.size 5 .u8 v (rowL ks p k)) ∧ Hid (RSrc wr R ks (p + k)) ∧ Hid (Fr (fun b => b = R) w wr)) (fun _ i _ => n - (intOf i).toNat)
  case atStart => exact ⟨0, rfl, Lib.hid (Nat.zero_le _), Lib.hid (Own.nil _ _ _ _), HS, Lib.hid (Fr.refl _ _)⟩
  case round =>
    clear HS
    obtain ⟨k, rfl, HKN, HO, HS, HF⟩ := hrel
    by_cases hlt : k < n
    · have d1 : decide ((k : Int) < (n : Int)) = true := decide_eq_true (by omega)
      have d2 : decide (k < n) = true := decide_eq_true hlt
      obtain ⟨q, hq⟩ : ∃ q, q = p + k := ⟨_, rfl⟩
      have hq63 : q < 9223372036854775808 := by have := HNP.out; omega
      rw [← hq] at HS
      have HQ := Lib.hid hq
      clear hq
      obtain ⟨M, bs, hblk, hst⟩ := HS.out
      have HST := Lib.hid hst
      have HB := Lib.hid hblk
      have HLT := Lib.hid hlt
      have HCE := Lib.hid (RSl_cells hblk HK.out)
      clear hst hlt
      obtain ⟨m, hm⟩ : ∃ m, m = q / 64 := ⟨_, rfl⟩
      have hmq : (q : Int).tdiv 64 = (m : Int) := by rw [hm]; rfl
      have hmq2 : (q : Int) / 64 = (m : Int) := by rw [hm]; rfl
      have hm64 : m < 144115188075855872 := by omega
      have w1 : IntKind.u64.wrap (m : Int) = (m : Int) := by rw [IntKind.wrap_u64] <;> omega
      have w2 : IntKind.u64.wrap ((m : Int) + 1) = ((m + 1 : Nat) : Int) := by rw [IntKind.wrap_u64] <;> omega
      have HM := Lib.hid hm
      clear hm
      have c32 : wr.cell? ⟨R, 32, none⟩ = some (.int .u64 (q : Int)) := HCE.out.2.1
      have c33 : wr.cell? ⟨R, 33, none⟩ = some (.int .u64 (M : Int)) := HCE.out.2.2.1
      go_upto_region 6 with fail
      clear hmq hmq2
      -- the block that holds the place is there behind the 'if'
      have hcase : M = m + 1 ∨ ¬ M = m + 1 := Decidable.em _
      go_upto_if 24 with fail
      go_cut [24] from 25 to 43 (fun v24 wx => Hid (Fr (fun b => b = R) wr wx) ∧ ∃ bs2, Hid (Blk wx R 105 (RSl ks q (m + 1) bs2)) ∧ Hid (bs2 = blkAt ks m))
      case first =>
        rcases hcase with hM | hM
        · have e1 : ((M : Int) != (m : Int) + 1) = false := by simp; omega
          have e2 : decide ((M : Int) = (m : Int) + 1) = true := decide_eq_true (by omega)
          have hbs : bs = blkAt ks m := by
            rcases HST.out.ok with h | h
            · omega
            · rw [h, hM]; rfl
          have HBM : Hid (Blk wr R 105 (RSl ks q (m + 1) bs)) := Lib.hid (by rw [← hM]; exact HB.out)
          have HBS := Lib.hid hbs
          clear hbs hM
          go_wp2_with fail
          go_meet
          exact ⟨Lib.hid (Fr.refl _ _), bs, HBM, HBS⟩
        · have e1 : ((M : Int) != (m : Int) + 1) = true := by simp; omega
          have e2 : decide ((M : Int) = (m : Int) + 1) = false := decide_eq_false (by omega)
          clear hM
          go_upto_region 7 with fail
          clear c32 c33 e1 e2
          refine wp_region_held_drew (S := fun w' => w'.rangeAt R 0 (ks.map (Value.int .u8))) (by kernel_rfl) (HCE.out.1) (fun hHeld => ?_)
          have B0 : Hid (Blk wr.drew R 105 (RSl ks q M bs)) := HB
          have F0 : Hid (Below wr.heap.size wr wr.drew) := Lib.hid (Below.refl _ _).drew
          have u32 : IntKind.u32.wrap (m : Int) = ((m % 4294967296 : Nat) : Int) := by simp [IntKind.wrap, IntKind.bits, IntKind.signed]
          have dv1 : (m : Int).tmod 4294967296 = ((m % 4294967296 : Nat) : Int) := rfl
          have dv2 : (m : Int).tdiv 4294967296 = ((m / 4294967296 : Nat) : Int) := rfl
          have u33 : IntKind.u32.wrap ((m : Int) % 4294967296) = (m : Int) % 4294967296 := by rw [IntKind.wrap_u32] <;> omega
          have u34 : IntKind.u64.wrap ((m : Int) / 4294967296) = (m : Int) / 4294967296 := by rw [IntKind.wrap_u64] <;> omega
          generalize wr.drew = v0 at B0 F0 hHeld ⊢
          refine wpAnyH_take (i := 0) (oi := ⟨some 25, _, _, _, _, _⟩) (v := (.pointer (some ⟨R, 0, none⟩))) rfl (by kernel_rfl) (by kernel_rfl) (by kernel_rfl) (fun _ _ _ h => h) (Or.inl ⟨by rfl, ?_⟩) (by assumption) ?_
          · intro w' hS; go_simp; try with_reducible rfl
          simp only [Act.put, List.setIfInBounds_toArray, List.set_cons_zero, List.set_cons_succ]
          refine wpAnyH_take (i := 1) (oi := ⟨some 26, _, _, _, _, _⟩) (v := (.pointer (some ⟨R, 0, none⟩))) rfl (by kernel_rfl) (by kernel_rfl) (by kernel_rfl) (fun _ _ _ h => h) (Or.inl ⟨by rfl, ?_⟩) (by assumption) ?_
          · intro w' hS; go_simp; try with_reducible rfl
          simp only [Act.put, List.setIfInBounds_toArray, List.set_cons_zero, List.set_cons_succ]
          refine wpAnyH_take (i := 2) (oi := ⟨some 27, _, _, _, _, _⟩) (v := (.pointer (some ⟨R, 0, none⟩))) rfl (by kernel_rfl) (by kernel_rfl) (by kernel_rfl) (fun _ _ _ h => h) (Or.inl ⟨by rfl, ?_⟩) (by assumption) ?_
          · intro w' hS; go_simp; try with_reducible rfl
          simp only [Act.put, List.setIfInBounds_toArray, List.set_cons_zero, List.set_cons_succ]
          refine wpAnyH_take (i := 3) (oi := ⟨some 28, _, _, _, _, _⟩) (v := (.pointer (some ⟨R, 0, none⟩))) rfl (by kernel_rfl) (by kernel_rfl) (by kernel_rfl) (fun _ _ _ h => h) (Or.inl ⟨by rfl, ?_⟩) (by assumption) ?_
          · intro w' hS; go_simp; try with_reducible rfl
          simp only [Act.put, List.setIfInBounds_toArray, List.set_cons_zero, List.set_cons_succ]
          refine wpAnyH_take (i := 4) (oi := ⟨some 29, _, _, _, _, _⟩) (v := (.agg (AY .u8 ks))) rfl (by kernel_rfl) (by kernel_rfl) (by kernel_rfl) (fun _ _ _ h => h) (Or.inl ⟨by rfl, ?_⟩) (by assumption) ?_
          · intro w' hS; exact exec_load_AY 53 _ rfl R 0 (by rfl) .u8 ks _ hS Try.underlying53 rfl I53.out
          simp only [Act.put, List.setIfInBounds_toArray, List.set_cons_zero, List.set_cons_succ]
          refine wpAnyH_take (i := 5) (oi := ⟨some 30, _, _, _, _, _⟩) (v := (.int .u64 (m : Nat))) rfl (by kernel_rfl) (by kernel_rfl) (by kernel_rfl) (fun _ _ _ h => h) (Or.inl ⟨by rfl, ?_⟩) (by assumption) ?_
          · intro w' hS; go_simp; try with_reducible rfl
          simp only [Act.put, List.setIfInBounds_toArray, List.set_cons_zero, List.set_cons_succ]
          refine wpAnyH_take (i := 6) (oi := ⟨some 31, _, _, _, _, _⟩) (v := (.int .u64 ((m % 4294967296 : Nat) : Int))) rfl (by kernel_rfl) (by kernel_rfl) (by kernel_rfl) (fun _ _ _ h => h) (Or.inl ⟨by rfl, ?_⟩) (by assumption) ?_
          · intro w' hS; go_simp; try with_reducible rfl
          simp only [Act.put, List.setIfInBounds_toArray, List.set_cons_zero, List.set_cons_succ]
          refine wpAnyH_take (i := 7) (oi := ⟨some 32, _, _, _, _, _⟩) (v := (.int .u32 ((m % 4294967296 : Nat) : Int))) rfl (by kernel_rfl) (by kernel_rfl) (by kernel_rfl) (fun _ _ _ h => h) (Or.inl ⟨by rfl, ?_⟩) (by assumption) ?_
          · intro w' hS; go_simp; try with_reducible rfl
          simp only [Act.put, List.setIfInBounds_toArray, List.set_cons_zero, List.set_cons_succ]
          refine wpAnyH_take (i := 8) (oi := ⟨some 33, _, _, _, _, _⟩) (v := (.int .u64 (m : Nat))) rfl (by kernel_rfl) (by kernel_rfl) (by kernel_rfl) (fun _ _ _ h => h) (Or.inl ⟨by rfl, ?_⟩) (by assumption) ?_
          · intro w' hS; go_simp; try with_reducible rfl
          simp only [Act.put, List.setIfInBounds_toArray, List.set_cons_zero, List.set_cons_succ]
          refine wpAnyH_take (i := 9) (oi := ⟨some 34, _, _, _, _, _⟩) (v := (.int .u64 ((m / 4294967296 : Nat) : Int))) rfl (by kernel_rfl) (by kernel_rfl) (by kernel_rfl) (fun _ _ _ h => h) (Or.inl ⟨by rfl, ?_⟩) (by assumption) ?_
          · intro w' hS; go_simp; try with_reducible rfl
          simp only [Act.put, List.setIfInBounds_toArray, List.set_cons_zero, List.set_cons_succ]
          refine wpAnyH_ready (rs := [10]) (by kernel_rfl) (by simp) ?_
          refine AllReadyH.cons (o := ⟨some 35, _, _, _, _, _⟩) rfl (fun K hK => ?_) AllReadyH.nil
          rw [if_pos (by rfl)]
          go_simp
          refine (HNC.out (m / 4294967296) v0 (by omega)).mono ?_
          rintro e' v1 ⟨rfl, bb⟩
          have B1 := Lib.hid (B0.out.below bb B0.out.lt)
          have F1 := Lib.hid (F0.out.trans (bb.mono F0.out.size))
          clear bb B0 F0
          dsimp only
          (try simp only [Act.put, List.setIfInBounds_toArray, List.set_cons_zero, List.set_cons_succ])
          refine hK.out _ _ (RSl_cells B1.out HK.out).1 (fun hHeld => ?_)
          clear hK K
          refine wpAnyH_ready (rs := [11]) (by kernel_rfl) (by simp) ?_
          refine AllReadyH.cons (o := ⟨some 36, _, _, _, _, _⟩) rfl (fun K hK => ?_) AllReadyH.nil
          rw [if_pos (by rfl)]
          go_simp
          refine (HBC.out m v1 (by omega)).mono ?_
          rintro e' v2 ⟨rfl, bb⟩
          have B2 := Lib.hid (B1.out.below bb B1.out.lt)
          have F2 := Lib.hid (F1.out.trans (bb.mono F1.out.size))
          clear bb B1 F1
          dsimp only
          (try simp only [Act.put, List.setIfInBounds_toArray, List.set_cons_zero, List.set_cons_succ])
          refine hK.out _ _ (RSl_cells B2.out HK.out).1 (fun hHeld => ?_)
          clear hK K
          have IE : Hid ((Try.prog.info? 103).map (·.size) = some (AY .u8 (blkAt ks m)).size) := Lib.hid (by rw [info36, AY_size, blkAt_len])
          have HTH : Hid (v2.there R 34 (AY .u8 (blkAt ks m)).size) := Lib.hid (fun j hj => by
            rw [AY_size, blkAt_len] at hj
            refine ⟨?_, B2.out.frozen _⟩
            have h := (RSl_cells B2.out HK.out).2.2.2 j
            rw [h (Value.int .u8 (bs.getD j 0)) (by rw [List.getElem?_map, List.getElem?_eq_getElem (by rw [HST.out.lb]; exact hj), List.getD_eq_getElem?_getD, List.getElem?_eq_getElem (by rw [HST.out.lb]; exact hj)]; rfl)]
            rfl)
          have B3 : Hid (Blk (v2.setCells R 34 (AY .u8 (blkAt ks m)).toList) R 105 (RSl ks q M (blkAt ks m))) := Lib.hid (by rw [AY_eq]; exact RSl_blk B2.out HK.out (blkAt ks m) (by rw [HST.out.lb, blkAt_len]))
          have F3 : Hid (Fr (fun b => b = R) wr (v2.setCells R 34 (AY .u8 (blkAt ks m)).toList)) := Lib.hid (Fr.setCells (S := fun b => b = R) rfl _ _ _ (Fr.of_below F2.out _))
          refine wpAnyH_take (i := 12) (oi := ⟨some 37, _, _, _, _, _⟩) (v := (.pointer (some ⟨R, 0, none⟩))) rfl (by kernel_rfl) (by kernel_rfl) (by kernel_rfl) (fun _ _ _ h => h) (Or.inl ⟨by rfl, ?_⟩) (by assumption) ?_
          · intro w' hS; go_simp; try with_reducible rfl
          simp only [Act.put, List.setIfInBounds_toArray, List.set_cons_zero, List.set_cons_succ]
          refine wpAnyH_take (i := 13) (oi := ⟨some 38, _, _, _, _, _⟩) (v := (.pointer (some ⟨R, 34, none⟩))) rfl (by kernel_rfl) (by kernel_rfl) (by kernel_rfl) (fun _ _ _ h => h) (Or.inl ⟨by rfl, ?_⟩) (by assumption) ?_
          · intro w' hS; go_simp; try with_reducible rfl
          simp only [Act.put, List.setIfInBounds_toArray, List.set_cons_zero, List.set_cons_succ]
          refine wpAnyH_ready (rs := [14]) (by kernel_rfl) (by simp) ?_
          refine AllReadyH.cons (o := ⟨none, _, _, _, _, _⟩) rfl (fun K hK => ?_) AllReadyH.nil
          rw [if_pos (by rfl)]
          (try simp only [Act.put, List.setIfInBounds_toArray, List.set_cons_zero, List.set_cons_succ])
          refine wp_store_mid 103 _ _ rfl R 34 (AY .u8 (blkAt ks m)) rfl rfl HTH.out IE.out (AY_one _ _) ?_
          generalize v2.setCells R 34 (AY .u8 (blkAt ks m)).toList = v3 at B3 F3 ⊢
          (try simp only [Act.put, List.setIfInBounds_toArray, List.set_cons_zero, List.set_cons_succ])
          refine hK.out _ _ (RSl_cells B3.out HK.out).1 (fun hHeld => ?_)
          clear hK K
          refine wpAnyH_done (by kernel_rfl) ?_ _
          have B4 : Hid (Blk (v3.setCell ⟨R, 33, none⟩ (.int .u64 ((m + 1 : Nat) : Int))) R 105 (RSl ks q (m + 1) (blkAt ks m))) := Lib.hid (RSl_m B3.out HK.out (m + 1))
          have F4 : Hid (Fr (fun b => b = R) wr (v3.setCell ⟨R, 33, none⟩ (.int .u64 ((m + 1 : Nat) : Int)))) := Lib.hid (F3.out.setCell (p := ⟨R, 33, none⟩) (.inl rfl) _)
          have c33 : v3.cell? ⟨R, 33, none⟩ = some (.int .u64 (M : Int)) := (RSl_cells B3.out HK.out).2.2.1
          have f33 : v3.frozen? ⟨R, 33, none⟩ = false := B3.out.frozen 33
          go_wp2_with fail
          go_meet
          exact ⟨F4, _, B4, Lib.hid rfl⟩
      case rest =>
        clear hcase c32 c33
        obtain ⟨HFX, bs2, HB2, HBE⟩ := hcut
        go_upto_region 9 with fail
        refine wp_region_held_drew (S := fun w' => w'.heap[R]? = wc.heap[R]?) (by kernel_rfl) (rfl) (fun hHeld => ?_)
        have LB2 : Hid (bs2.length = 64) := Lib.hid (by rw [HBE.out, blkAt_len])
        have HY : Hid (bs2.getD (q % 64) 0 = rowB ks q) := Lib.hid (by rw [HBE.out, rowB_of ks q (by omega), ← HM.out])
        have HCC := Lib.hid (RSl_cells HB2.out HK.out)
        have HOW : Hid (Own wc w.heap.size 5 .u8 u5 (rowL ks p k)) := Lib.hid (HO.out.fr HFX.out (fun g hg => own_neB HO.out HB.out (by decide) hg))
        have HFW := Lib.hid (HF.out.trans HFX.out)
        have HD0 : Hid (Below wc.heap.size wc wc.drew) := Lib.hid (Below.refl _ _).drew
        obtain ⟨x, hx⟩ : ∃ x, x = q % 64 := ⟨_, rfl⟩
        have hx64 : x < 64 := by omega
        have qm : (q : Int).tmod 64 = (x : Int) := by rw [hx]; rfl
        have qm2 : (q : Int) % 64 = (x : Int) := by rw [hx]; rfl
        have qm1 : IntKind.u64.wrap (x : Int) = (x : Int) := by rw [IntKind.wrap_u64] <;> omega
        rw [← hx] at HY
        have HXX := Lib.hid hx
        obtain ⟨y, hy⟩ : ∃ y, y = bs2.getD x 0 := ⟨_, rfl⟩
        have HYC : Hid (wc.cell? ⟨R, 34 + x, none⟩ = some (.int .u8 y)) := Lib.hid (HCC.out.2.2.2 x _ (by rw [hy, List.getElem?_map, List.getElem?_eq_getElem (by rw [LB2.out]; omega), List.getD_eq_getElem?_getD, List.getElem?_eq_getElem (by rw [LB2.out]; omega)]; rfl))
        rw [← hy] at HY
        clear hx hy
        refine wpAnyH_take (i := 0) (oi := ⟨some 44, _, _, _, _, _⟩) (v := u5) rfl (by kernel_rfl) (by kernel_rfl) (by kernel_rfl) (fun _ _ _ h => h) (Or.inl ⟨by rfl, ?_⟩) (by assumption) ?_
        · intro w' hS; go_simp; try with_reducible rfl
        simp only [Act.put, List.setIfInBounds_toArray, List.set_cons_zero, List.set_cons_succ]
        refine wpAnyH_take (i := 1) (oi := ⟨some 45, _, _, _, _, _⟩) (v := (.pointer (some ⟨R, 0, none⟩))) rfl (by kernel_rfl) (by kernel_rfl) (by kernel_rfl) (fun _ _ _ h => h) (Or.inl ⟨by rfl, ?_⟩) (by assumption) ?_
        · intro w' hS; go_simp; try with_reducible rfl
        simp only [Act.put, List.setIfInBounds_toArray, List.set_cons_zero, List.set_cons_succ]
        refine wpAnyH_take (i := 2) (oi := ⟨some 46, _, _, _, _, _⟩) (v := (.pointer (some ⟨R, 0, none⟩))) rfl (by kernel_rfl) (by kernel_rfl) (by kernel_rfl) (fun _ _ _ h => h) (Or.inl ⟨by rfl, ?_⟩) (by assumption) ?_
        · intro w' hS; go_simp; try with_reducible rfl
        simp only [Act.put, List.setIfInBounds_toArray, List.set_cons_zero, List.set_cons_succ]
        refine wpAnyH_take (i := 3) (oi := ⟨some 47, _, _, _, _, _⟩) (v := (.pointer (some ⟨R, 0, none⟩))) rfl (by kernel_rfl) (by kernel_rfl) (by kernel_rfl) (fun _ _ _ h => h) (Or.inl ⟨by rfl, ?_⟩) (by assumption) ?_
        · intro w' hS; go_simp; try with_reducible rfl
        simp only [Act.put, List.setIfInBounds_toArray, List.set_cons_zero, List.set_cons_succ]
        refine wpAnyH_take (i := 4) (oi := ⟨some 48, _, _, _, _, _⟩) (v := (.pointer (some ⟨R, 32, none⟩))) rfl (by kernel_rfl) (by kernel_rfl) (by kernel_rfl) (fun _ _ _ h => h) (Or.inl ⟨by rfl, ?_⟩) (by assumption) ?_
        · intro w' hS; go_simp; try with_reducible rfl
        simp only [Act.put, List.setIfInBounds_toArray, List.set_cons_zero, List.set_cons_succ]
        refine wpAnyH_take (i := 5) (oi := ⟨some 49, _, _, _, _, _⟩) (v := (.int .u64 (q : Nat))) rfl (by kernel_rfl) (by kernel_rfl) (by kernel_rfl) (fun _ _ _ h => h) (Or.inl ⟨by rfl, ?_⟩) (by assumption) ?_
        · intro w' hS; have z0 : w'.cell? ⟨R, 32, none⟩ = some (.int .u64 (q : Int)) := (World.cell?_of_block (w := wc) (w' := w') hS).trans HCC.out.2.1; go_simp; try with_reducible rfl
        simp only [Act.put, List.setIfInBounds_toArray, List.set_cons_zero, List.set_cons_succ]
        refine wpAnyH_take (i := 6) (oi := ⟨some 50, _, _, _, _, _⟩) (v := (.int .u64 (x : Nat))) rfl (by kernel_rfl) (by kernel_rfl) (by kernel_rfl) (fun _ _ _ h => h) (Or.inl ⟨by rfl, ?_⟩) (by assumption) ?_
        · intro w' hS; go_simp; try with_reducible rfl
        simp only [Act.put, List.setIfInBounds_toArray, List.set_cons_zero, List.set_cons_succ]
        refine wpAnyH_take (i := 7) (oi := ⟨some 51, _, _, _, _, _⟩) (v := (.pointer (some ⟨R, 0, none⟩))) rfl (by kernel_rfl) (by kernel_rfl) (by kernel_rfl) (fun _ _ _ h => h) (Or.inl ⟨by rfl, ?_⟩) (by assumption) ?_
        · intro w' hS; go_simp; try with_reducible rfl
        simp only [Act.put, List.setIfInBounds_toArray, List.set_cons_zero, List.set_cons_succ]
        refine wpAnyH_take (i := 8) (oi := ⟨some 52, _, _, _, _, _⟩) (v := (.pointer (some ⟨R, 34, none⟩))) rfl (by kernel_rfl) (by kernel_rfl) (by kernel_rfl) (fun _ _ _ h => h) (Or.inl ⟨by rfl, ?_⟩) (by assumption) ?_
        · intro w' hS; go_simp; try with_reducible rfl
        simp only [Act.put, List.setIfInBounds_toArray, List.set_cons_zero, List.set_cons_succ]
        refine wpAnyH_take (i := 9) (oi := ⟨some 53, _, _, _, _, _⟩) (v := (.pointer (some ⟨R, 34 + x, none⟩))) rfl (by kernel_rfl) (by kernel_rfl) (by kernel_rfl) (fun _ _ _ h => h) (Or.inl ⟨by rfl, ?_⟩) (by assumption) ?_
        · intro w' hS; have z1 := hx64; have z2 : (x : Int) < 64 := (by omega); have z3 : decide ((x : Int) < 64) = true := decide_eq_true (by omega); go_simp; try with_reducible rfl
        simp only [Act.put, List.setIfInBounds_toArray, List.set_cons_zero, List.set_cons_succ]
        refine wpAnyH_take (i := 10) (oi := ⟨some 54, _, _, _, _, _⟩) (v := (.int .u8 y)) rfl (by kernel_rfl) (by kernel_rfl) (by kernel_rfl) (fun _ _ _ h => h) (Or.inl ⟨by rfl, ?_⟩) (by assumption) ?_
        · intro w' hS; have z0 := (World.cell?_of_block (w := wc) (w' := w') hS).trans HYC.out; go_simp; try with_reducible rfl
        simp only [Act.put, List.setIfInBounds_toArray, List.set_cons_zero, List.set_cons_succ]
        refine wpAnyH_ready (rs := [11]) (by kernel_rfl) (by simp) ?_
        refine AllReadyH.cons (o := ⟨some 55, _, _, _, _, _⟩) rfl (fun K hK => ?_) AllReadyH.nil
        rw [if_pos (by rfl)]
        go_simp
        refine hK.out _ _ (Below.heap_alloc _ _ _ (by have := HB2.out.lt; show R < wc.heap.size; exact this)) (fun hHeld => ?_)
        clear hK K
        have hc1 : ((rowL ks p k).length + 1) * 1 ≤ 140737488355328 := by rw [rowL_len]; have := HKN.out; have := HNP.out; omega
        have hbw : w.heap.size ≤ wc.drew.heap.size := HFW.out.size
        refine wpAnyH_ready (rs := [12]) (by kernel_rfl) (by simp) ?_
        refine AllReadyH.cons (o := ⟨some 56, _, _, _, _, _⟩) rfl (fun K hK => ?_) AllReadyH.nil
        refine step_push wc.drew rfl _ _ 75 rfl w.heap.size 5 .u8 1 Try.underlying75 info5 y rfl u5 (rowL ks p k) rfl rfl HOW.out hc1 (by decide) hbw ?_
        intro v' w3 hown3 hfr3
        (try simp only [Act.put, List.setIfInBounds_toArray, List.set_cons_zero, List.set_cons_succ])
        have HNB : Hid (¬ (fun gk => u5.ownBlock = some gk) R) := Lib.hid (fun h2 => by have := own_neB HOW.out HB2.out (by decide) h2; exact this rfl)
        refine hK.out _ _ (hfr3.block R HB2.out.lt HNB.out) (fun hHeld => ?_)
        clear hK K
        have O3 : Hid (Own w3 w.heap.size 5 .u8 v' (rowL ks p (k + 1))) := Lib.hid (by rw [rowL_snoc, ← HQ.out, ← HY.out]; exact hown3)
        have B3 : Hid (Blk w3 R 105 (RSl ks q (m + 1) bs2)) := Lib.hid ((show Blk wc.drew R 105 _ from HB2.out).fr hfr3 HNB.out)
        have F3 : Hid (Fr (fun b => b = R) w w3) := Lib.hid (HFW.out.drew.then hfr3 (fun j hj => .inr (HOW.out.base_le hj).1))
        clear hown3 hfr3 hc1 hbw
        refine wpAnyH_take (i := 13) (oi := ⟨some 5, _, _, _, _, _⟩) (v := v') rfl (by kernel_rfl) (by kernel_rfl) (by kernel_rfl) (fun _ _ _ h => h) (Or.inl ⟨by rfl, ?_⟩) (by assumption) ?_
        · intro w' hS; go_simp; try with_reducible rfl
        simp only [Act.put, List.setIfInBounds_toArray, List.set_cons_zero, List.set_cons_succ]
        refine wpAnyH_done (by kernel_rfl) ?_ _
        have HC3 := Lib.hid (RSl_cells B3.out HK.out)
        have c32 : w3.cell? ⟨R, 32, none⟩ = some (.int .u64 (q : Int)) := HC3.out.2.1
        have f32 : w3.frozen? ⟨R, 32, none⟩ = false := B3.out.frozen 32
        have w4 : IntKind.u64.wrap ((q : Int) + 1) = ((q + 1 : Nat) : Int) := by rw [IntKind.wrap_u64] <;> omega
        have w5 : IntKind.i64.wrap ((k : Int) + 1) = ((k + 1 : Nat) : Int) := by have := HNP.out; have := HLT.out; rw [IntKind.wrap_i64] <;> omega
        have B4 : Hid (Blk (w3.setCell ⟨R, 32, none⟩ (.int .u64 ((q + 1 : Nat) : Int))) R 105 (RSl ks (q + 1) (m + 1) bs2)) := Lib.hid (RSl_place B3.out HK.out (q + 1))
        have F4 : Hid (Fr (fun b => b = R) w (w3.setCell ⟨R, 32, none⟩ (.int .u64 ((q + 1 : Nat) : Int)))) := Lib.hid (F3.out.setCell (p := ⟨R, 32, none⟩) (.inl rfl) _)
        have O4 : Hid (Own (w3.setCell ⟨R, 32, none⟩ (.int .u64 ((q + 1 : Nat) : Int))) w.heap.size 5 .u8 v' (rowL ks p (k + 1))) := Lib.hid (O3.out.fr ((Fr.refl (fun b => b = R) w3).setCell (p := ⟨R, 32, none⟩) (.inl rfl) _) (fun g hg => own_neB O3.out B3.out (by decide) hg))
        clear qm qm2 qm1 w1 w2
        go_wp2_with fail
        go_roundw
        case rel => exact ⟨k + 1, by go_num, Lib.hid (by have := HLT.out; omega), O4, Lib.hid ⟨m + 1, bs2, by rw [show p + (k + 1) = q + 1 from by have := HQ.out; omega]; exact B4.out, by rw [HBE.out]; exact blkAt_len _ _, by omega, .inr (by rw [HBE.out]; rfl)⟩, F4⟩
        case measure => simp [intOf]; have := HLT.out; omega
    · have d1 : decide ((k : Int) < (n : Int)) = false := decide_eq_false (by omega)
      have d2 : decide (k < n) = false := decide_eq_false hlt
      have HKE : Hid (k = n) := Lib.hid (by have := HKN.out; omega)
      go_wp2_with fail
      go_ret
      have ho := HO.out
      have hs := HS.out
      rw [HKE.out] at ho hs
      exact ⟨_, rfl, ho, hs, HF.out⟩
end Go.Proofs.Ytcfbaildcocnhaa

/-
  Walk: the law StreamBlocks.
-/
import Derived.Test.YtldbmjkecmmmjaaBl
import Derived.Deep.MidRow
import Derived.Stop.BytesEq
set_option linter.unusedVariables false
set_option linter.unusedSimpArgs false
namespace Go.Proofs.Ytldbmjkecmmmjaa
open Go.RowKit

/-! ### bytes as cells -/
def ub (l : List Int) : List UInt8 := l.map fun z => UInt8.ofNat z.toNat
theorem B8.mem {l : List Int} (h : B8 l) {z : Int} (hz : z ∈ l) : 0 ≤ z ∧ z ≤ 255 := by
  obtain ⟨i, hi, rfl⟩ := List.getElem_of_mem hz
  have := h i
  simpa [List.getD, hi] using this
theorem ub_cell {l : List Int} (h : B8 l) : (ub l).map Go.Extern.Stop.cell = l.map (Value.int .u8) := by
  unfold ub
  rw [List.map_map]
  apply List.map_congr_left
  intro z hz
  have := h.mem hz
  have hlt : z.toNat < 256 := by omega
  show Value.int .u8 ((UInt8.ofNat z.toNat).toNat : Int) = _
  rw [UInt8.toNat_ofNat_of_lt' hlt]
  congr 1
  omega
theorem map_int_inj : ∀ {l l' : List Int}, l.map (Value.int .u8) = l'.map (Value.int .u8) → l = l'
  | [], [], _ => rfl
  | [], _ :: _, h => by simp at h
  | _ :: _, [], h => by simp at h
  | a :: l, b :: l', h => by
    simp only [List.map_cons, List.cons.injEq] at h
    obtain ⟨h1, h2⟩ := h
    injection h1 with _ h1
    rw [h1, map_int_inj h2]
theorem ub_eq {l l' : List Int} (h : B8 l) (h' : B8 l') : (ub l == ub l') = decide (l = l') := by
  rw [Bool.eq_iff_iff]
  simp only [beq_iff_eq, decide_eq_true_eq]
  constructor
  · intro e
    have := congrArg (List.map Go.Extern.Stop.cell) e
    rw [ub_cell h, ub_cell h'] at this
    exact map_int_inj this
  · intro e; rw [e]
theorem size5w : ∀ w : World, (sizeOf 5).run Try.prog w = .ok 1 w := fun w => by
  obtain ⟨i, hi, _, h1, _⟩ := info_parts info5
  simp [sizeOf, typeInfo, hi, h1]

theorem B8.of {xs : List Int} (h : ∀ x ∈ xs, 0 ≤ x ∧ x ≤ 255) : B8 xs := fun i => by
  by_cases hi : i < xs.length
  · rw [List.getD_eq_getElem?_getD, List.getElem?_eq_getElem hi]; exact h _ (List.getElem_mem hi)
  · rw [List.getD_eq_getElem?_getD, List.getElem?_eq_none (by omega)]; exact ⟨by decide, by decide⟩
theorem leN_mem {X k : Nat} {x : Int} (h : x ∈ leN X k) : 0 ≤ x ∧ x ≤ 255 := by
  unfold leN at h
  obtain ⟨j, _, rfl⟩ := List.mem_map.1 h
  unfold byt
  omega
theorem blkL_B8 (ks ns : List Int) (c : Nat) : B8 (blkL ks ns c) := B8.of fun x hx => by
  rw [blkL_eq, outL] at hx
  rcases List.mem_append.1 hx with h | h
  · unfold outW at h
    obtain ⟨i, _, h2⟩ := List.mem_flatMap.1 h
    exact leN_mem h2
  · obtain rfl := List.eq_of_mem_replicate h; decide
theorem eq_arr64 {a b : List Int} (ha : B8 a) (hb : B8 b) (la : a.length = 64) (lb : b.length = 64) (v : Bool) (hv : decide (a = b) = v) (w : World) : (Op.equalIn 10000 36 (.agg (AY .u8 a)) (.agg (AY .u8 b))).run Try.prog w = .ok v w := by
  have h := run_equalIn_bytes (P := Try.prog) w 9998 36 5 64 Try.underlying36 Try.underlying5 size5w (ub a) (ub b) (by simp [ub, la]) (by simp [ub, lb])
  rw [ub_cell ha, ub_cell hb, ub_eq ha hb] at h
  rw [← hv, AY_eq, AY_eq]
  exact h
theorem exec_load_mid {P : Program} {o : Oper} {a : Act} {w : World} (ty : TypeId) (x : Operand) (ho : o.op = .load ty x) (b off : Nat) (hx : a.eval x = .pointer (some ⟨b, off, none⟩)) (cs : List Value) (d : TypeDesc) (hc : w.rangeAt b off cs)
    (hu : P.underlying ty = some d) (hd : d.isRow = true) (hi : (P.info? ty).map (·.size) = some cs.length) : (execOp a.eval o).run P w = .ok (.value (.agg cs.toArray)) w := by
  unfold execOp
  simp only [ho, hx, Instr.loadAt, Instr.sureAddr, Sem.run_bind, Sem.run_pure, Result.andThen_ok, run_loadVar_mid w b off ty cs d hc hu hd hi]
theorem exec_load_AY {o : Oper} {a : Act} {w : World} (ty : TypeId) (x : Operand) (ho : o.op = .load ty x) (b off : Nat) (hx : a.eval x = .pointer (some ⟨b, off, none⟩)) (k : IntKind) (L : List Int) (d : TypeDesc) (hc : w.rangeAt b off (L.map (Value.int k)))
    (hu : Try.prog.underlying ty = some d) (hd : d.isRow = true) (hi : (Try.prog.info? ty).map (·.size) = some L.length) : (execOp a.eval o).run Try.prog w = .ok (.value (.agg (AY k L))) w := by
  rw [AY_eq]
  exact exec_load_mid ty x ho b off hx _ d hc hu hd (by rw [List.length_map]; exact hi)

theorem exec_eql {o : Oper} {a : Act} {w : World} (x y : Operand) (ho : o.op = .binOp .eql 36 x y 36) (A B : Array Value) (v : Bool) (hx : a.eval x = .agg A) (hy : a.eval y = .agg B) (h : (Op.equalIn 10000 36 (.agg A) (.agg B)).run Try.prog w = .ok v w) : (execOp a.eval o).run Try.prog w = .ok (.value (.bool v)) w := by
  unfold execOp
  simp only [ho, hx, hy]
  go_simp

/-! ### where a stream begins: its cells -/
def BGl (ks ns : List Int) (c : Nat) : List Value := ks.map (Value.int .u8) ++ (ns.map (Value.int .u8) ++ [.int .u32 (c : Int)])
def BG (ks ns : List Int) (c : Nat) : Array Value := (BGl ks ns c).toArray
theorem BG_eq (ks ns : List Int) (c : Nat) : BG ks ns c = (BGl ks ns c).toArray := rfl
attribute [irreducible] BG
theorem range_blk {w : World} {g T : Nat} {a b c : List Value} (h : Blk w g T (a ++ (b ++ c))) : w.rangeAt g 0 a ∧ w.rangeAt g a.length b ∧ w.rangeAt g (a.length + b.length) c := by
  refine ⟨fun j v hv => ?_, fun j v hv => ?_, fun j v hv => ?_⟩
  · have hj := (List.getElem?_eq_some_iff.1 hv).1
    rw [h.cell, Nat.zero_add, List.getElem?_append_left hj]; exact hv
  · have hj := (List.getElem?_eq_some_iff.1 hv).1
    rw [h.cell, List.getElem?_append_right (by omega), Nat.add_sub_cancel_left, List.getElem?_append_left hj]; exact hv
  · rw [h.cell, List.getElem?_append_right (by omega), List.getElem?_append_right (by omega), show a.length + b.length + j - a.length - b.length = j from by omega]; exact hv
theorem range_of_block {w w' : World} {b o : Nat} {cs : List Value} (h : w.rangeAt b o cs) (he : w'.heap[b]? = w.heap[b]?) : w'.rangeAt b o cs := fun j v hv => (World.cell?_of_block (w := w) (w' := w') he).trans (h j v hv)

set_option maxRecDepth 100000 in
set_option maxHeartbeats 8000000 in
theorem sblocks_walk (RB : ∀ (ks ns : List Int) (c : Nat) (w : World), ks.length = 32 → ns.length = 12 → B8 ks → B8 ns → c < 4294967296 →
      Calls Try.prog 16 #[.agg (AY .u8 ks), .int .u32 (c : Int), .agg (AY .u8 ns)] w fun e w' => e = .returned (.agg (AY .u8 (blkL ks ns c))) ∧ Below w.heap.size w w')
    (ks ns : List Int) (c : Nat) (w : World) (hk : ks.length = 32) (hn : ns.length = 12) (bk : B8 ks) (bn : B8 ns) (hc : c < 4294967296) :
    Calls Try.prog 4 #[.agg (BG ks ns c)] w fun e w' => e = .returned (.bool true) ∧ Below w.heap.size w w' := by
  have HC1 : Hid (∀ W, Calls Try.prog 15 #[.agg (AY .u8 ks), .int .u32 (c : Int), .agg (AY .u8 ns)] W fun e w' => e = .returned (.agg (AY .u8 (blkL ks ns c))) ∧ Below W.heap.size W w') := Lib.hid (fun W => block_any ks ns c W hk hn bk bn hc)
  have HC2 : Hid (∀ W, Calls Try.prog 16 #[.agg (AY .u8 ks), .int .u32 (c : Int), .agg (AY .u8 ns)] W fun e w' => e = .returned (.agg (AY .u8 (blkL ks ns c))) ∧ Below W.heap.size W w') := Lib.hid (fun W => RB ks ns c W hk hn bk bn hc)
  have HEQ : Hid (∀ W : World, (Op.equalIn 10000 36 (.agg (AY .u8 (blkL ks ns c))) (.agg (AY .u8 (blkL ks ns c)))).run Try.prog W = .ok true W) := Lib.hid (fun W => eq_arr64 (blkL_B8 _ _ _) (blkL_B8 _ _ _) (blkL_len _ _ _) (blkL_len _ _ _) _ (by simp) W)
  have I31 : Hid ((Try.prog.info? 31).map (·.size) = some ks.length) := Lib.hid (by rw [info31, hk])
  have I33 : Hid ((Try.prog.info? 33).map (·.size) = some ns.length) := Lib.hid (by rw [info33, hn])
  have HRG : Hid (Blk (w.alloc (.cells (BG ks ns c) 35)) w.heap.size 35 (BGl ks ns c)) := Lib.hid (by rw [BG_eq]; exact Blk.new w 35 _)
  have HR3 : Hid (∀ W g, Blk W g 35 (BGl ks ns c) → W.rangeAt g 0 (ks.map (Value.int .u8)) ∧ W.rangeAt g 32 (ns.map (Value.int .u8)) ∧ W.cell? ⟨g, 44, none⟩ = some (.int .u32 (c : Int))) := Lib.hid (fun W g h => by
    obtain ⟨h1, h2, h3⟩ := range_blk (a := ks.map (Value.int .u8)) (b := ns.map (Value.int .u8)) (c := [.int .u32 (c : Int)]) h
    rw [List.length_map, hk] at h2 h3
    rw [List.length_map, hn] at h3
    exact ⟨h1, h2, h3 0 _ rfl⟩)
  clear bk bn hk hn RB
  generalize blkL ks ns c = BL at *
  go_enter Try.func4, Try.ntmps4
  go_upto_region 1 with fail
  generalize hG : w.heap.size = G at HRG
  have F1 : Hid (Below G w (w.alloc (.cells (BG ks ns c) 35))) := Lib.hid ((Below.refl _ w).alloc (by omega) _)
  have HGE := Lib.hid hG
  generalize w.alloc (.cells (BG ks ns c) 35) = w1 at *
  clear hG
  refine wp_region_held_drew (S := fun w' => w'.heap[G]? = w1.heap[G]?) (by kernel_rfl) (rfl) (fun hHeld => ?_)
  have HHd := Lib.hid hHeld
  clear hHeld
  refine wpAnyH_take (i := 0) (oi := ⟨some 3, _, _, _, _, _⟩) (v := (.pointer (some ⟨G, 0, none⟩))) rfl (by kernel_rfl) (by kernel_rfl) (by kernel_rfl) (fun _ _ _ h => h) (Or.inl ⟨by rfl, ?_⟩) HHd.out ?_
  · intro w' hS; go_simp; try with_reducible rfl
  simp only [Act.put, List.setIfInBounds_toArray, List.set_cons_zero, List.set_cons_succ]
  refine wpAnyH_take (i := 1) (oi := ⟨some 4, _, _, _, _, _⟩) (v := (.agg (AY .u8 ks))) rfl (by kernel_rfl) (by kernel_rfl) (by kernel_rfl) (fun _ _ _ h => h) (Or.inl ⟨by rfl, ?_⟩) HHd.out ?_
  · intro w' hS; exact exec_load_AY 31 _ rfl G 0 (by rfl) .u8 ks _ (range_of_block (HR3.out w1 G HRG.out).1 hS) Try.underlying31 rfl I31.out
  simp only [Act.put, List.setIfInBounds_toArray, List.set_cons_zero, List.set_cons_succ]
  refine wpAnyH_take (i := 2) (oi := ⟨some 5, _, _, _, _, _⟩) (v := (.pointer (some ⟨G, 44, none⟩))) rfl (by kernel_rfl) (by kernel_rfl) (by kernel_rfl) (fun _ _ _ h => h) (Or.inl ⟨by rfl, ?_⟩) HHd.out ?_
  · intro w' hS; go_simp; try with_reducible rfl
  simp only [Act.put, List.setIfInBounds_toArray, List.set_cons_zero, List.set_cons_succ]
  refine wpAnyH_take (i := 3) (oi := ⟨some 6, _, _, _, _, _⟩) (v := (.int .u32 (c : Int))) rfl (by kernel_rfl) (by kernel_rfl) (by kernel_rfl) (fun _ _ _ h => h) (Or.inl ⟨by rfl, ?_⟩) HHd.out ?_
  · intro w' hS; have z0 : w'.cell? ⟨G, 44, none⟩ = some (.int .u32 (c : Int)) := (World.cell?_of_block (w := w1) (w' := w') hS).trans (HR3.out w1 G HRG.out).2.2; go_simp; try with_reducible rfl
  simp only [Act.put, List.setIfInBounds_toArray, List.set_cons_zero, List.set_cons_succ]
  refine wpAnyH_take (i := 4) (oi := ⟨some 7, _, _, _, _, _⟩) (v := (.pointer (some ⟨G, 32, none⟩))) rfl (by kernel_rfl) (by kernel_rfl) (by kernel_rfl) (fun _ _ _ h => h) (Or.inl ⟨by rfl, ?_⟩) HHd.out ?_
  · intro w' hS; go_simp; try with_reducible rfl
  simp only [Act.put, List.setIfInBounds_toArray, List.set_cons_zero, List.set_cons_succ]
  refine wpAnyH_take (i := 5) (oi := ⟨some 8, _, _, _, _, _⟩) (v := (.agg (AY .u8 ns))) rfl (by kernel_rfl) (by kernel_rfl) (by kernel_rfl) (fun _ _ _ h => h) (Or.inl ⟨by rfl, ?_⟩) HHd.out ?_
  · intro w' hS; exact exec_load_AY 33 _ rfl G 32 (by rfl) .u8 ns _ (range_of_block (HR3.out w1 G HRG.out).2.1 hS) Try.underlying33 rfl I33.out
  simp only [Act.put, List.setIfInBounds_toArray, List.set_cons_zero, List.set_cons_succ]
  refine wpAnyH_take (i := 7) (oi := ⟨some 10, _, _, _, _, _⟩) (v := (.pointer (some ⟨G, 0, none⟩))) rfl (by kernel_rfl) (by kernel_rfl) (by kernel_rfl) (fun _ _ _ h => h) (Or.inl ⟨by rfl, ?_⟩) HHd.out ?_
  · intro w' hS; go_simp; try with_reducible rfl
  simp only [Act.put, List.setIfInBounds_toArray, List.set_cons_zero, List.set_cons_succ]
  refine wpAnyH_take (i := 8) (oi := ⟨some 11, _, _, _, _, _⟩) (v := (.agg (AY .u8 ks))) rfl (by kernel_rfl) (by kernel_rfl) (by kernel_rfl) (fun _ _ _ h => h) (Or.inl ⟨by rfl, ?_⟩) HHd.out ?_
  · intro w' hS; exact exec_load_AY 31 _ rfl G 0 (by rfl) .u8 ks _ (range_of_block (HR3.out w1 G HRG.out).1 hS) Try.underlying31 rfl I31.out
  simp only [Act.put, List.setIfInBounds_toArray, List.set_cons_zero, List.set_cons_succ]
  refine wpAnyH_take (i := 9) (oi := ⟨some 12, _, _, _, _, _⟩) (v := (.pointer (some ⟨G, 44, none⟩))) rfl (by kernel_rfl) (by kernel_rfl) (by kernel_rfl) (fun _ _ _ h => h) (Or.inl ⟨by rfl, ?_⟩) HHd.out ?_
  · intro w' hS; go_simp; try with_reducible rfl
  simp only [Act.put, List.setIfInBounds_toArray, List.set_cons_zero, List.set_cons_succ]
  refine wpAnyH_take (i := 10) (oi := ⟨some 13, _, _, _, _, _⟩) (v := (.int .u32 (c : Int))) rfl (by kernel_rfl) (by kernel_rfl) (by kernel_rfl) (fun _ _ _ h => h) (Or.inl ⟨by rfl, ?_⟩) HHd.out ?_
  · intro w' hS; have z0 : w'.cell? ⟨G, 44, none⟩ = some (.int .u32 (c : Int)) := (World.cell?_of_block (w := w1) (w' := w') hS).trans (HR3.out w1 G HRG.out).2.2; go_simp; try with_reducible rfl
  simp only [Act.put, List.setIfInBounds_toArray, List.set_cons_zero, List.set_cons_succ]
  refine wpAnyH_take (i := 11) (oi := ⟨some 14, _, _, _, _, _⟩) (v := (.pointer (some ⟨G, 32, none⟩))) rfl (by kernel_rfl) (by kernel_rfl) (by kernel_rfl) (fun _ _ _ h => h) (Or.inl ⟨by rfl, ?_⟩) HHd.out ?_
  · intro w' hS; go_simp; try with_reducible rfl
  simp only [Act.put, List.setIfInBounds_toArray, List.set_cons_zero, List.set_cons_succ]
  refine wpAnyH_take (i := 12) (oi := ⟨some 15, _, _, _, _, _⟩) (v := (.agg (AY .u8 ns))) rfl (by kernel_rfl) (by kernel_rfl) (by kernel_rfl) (fun _ _ _ h => h) (Or.inl ⟨by rfl, ?_⟩) HHd.out ?_
  · intro w' hS; exact exec_load_AY 33 _ rfl G 32 (by rfl) .u8 ns _ (range_of_block (HR3.out w1 G HRG.out).2.1 hS) Try.underlying33 rfl I33.out
  simp only [Act.put, List.setIfInBounds_toArray, List.set_cons_zero, List.set_cons_succ]
  refine wpAnyH_ready (rs := [6]) (by kernel_rfl) (by simp) ?_
  refine AllReadyH.cons (o := ⟨some 9, _, _, _, _, _⟩) rfl (fun K hK => ?_) AllReadyH.nil
  rw [if_pos (by rfl)]
  go_simp
  refine (HC1.out _).mono ?_
  rintro e w2 ⟨rfl, b2⟩
  (try simp only [Act.put, List.setIfInBounds_toArray, List.set_cons_zero, List.set_cons_succ])
  refine hK.out _ _ ((b2.block G HRG.out.lt).trans HHd.out) (fun hHeld => ?_)
  clear hK K
  have HH2 := Lib.hid hHeld
  have HB2 : Hid (Below w1.heap.size w1 w2) := Lib.hid ((⟨rfl, rfl, rfl, Nat.le_refl _, fun _ _ => rfl⟩ : Below w1.heap.size w1 w1.drew).trans b2)
  clear hHeld HHd b2
  refine wpAnyH_ready (rs := [13]) (by kernel_rfl) (by simp) ?_
  refine AllReadyH.cons (o := ⟨some 16, _, _, _, _, _⟩) rfl (fun K hK => ?_) AllReadyH.nil
  rw [if_pos (by rfl)]
  go_simp
  refine (HC2.out _).mono ?_
  rintro e w3 ⟨rfl, b3⟩
  (try simp only [Act.put, List.setIfInBounds_toArray, List.set_cons_zero, List.set_cons_succ])
  refine hK.out _ _ ((b3.block G (Nat.lt_of_lt_of_le HRG.out.lt HB2.out.size)).trans HH2.out) (fun hHeld => ?_)
  clear hK K
  have HH3 := Lib.hid hHeld
  have HB3 : Hid (Below w1.heap.size w1 w3) := Lib.hid (HB2.out.trans (b3.mono HB2.out.size))
  clear hHeld HH2 b3
  refine wpAnyH_take (i := 14) (oi := ⟨some 17, _, _, _, _, _⟩) (v := (.bool true)) rfl (by kernel_rfl) (by kernel_rfl) (by kernel_rfl) (fun _ _ _ h => h) (Or.inl ⟨by rfl, ?_⟩) HH3.out ?_
  · intro w' hS; exact exec_eql _ _ rfl _ _ true (by rfl) (by rfl) (HEQ.out w')
  simp only [Act.put, List.setIfInBounds_toArray, List.set_cons_zero, List.set_cons_succ]
  refine wpAnyH_take (i := 15) (oi := ⟨some 2, _, _, _, _, _⟩) (v := (.bool true)) rfl (by kernel_rfl) (by kernel_rfl) (by kernel_rfl) (fun _ _ _ h => h) (Or.inl ⟨by rfl, ?_⟩) HH3.out ?_
  · intro w' hS; go_simp; try with_reducible rfl
  simp only [Act.put, List.setIfInBounds_toArray, List.set_cons_zero, List.set_cons_succ]
  refine wpAnyH_done (by kernel_rfl) ?_ _
  go_wp2_with fail
  go_ret
  exact ⟨rfl, by rw [HGE.out]; exact F1.out.trans (HB3.out.mono (Nat.le_of_lt HRG.out.lt))⟩
end Go.Proofs.Ytldbmjkecmmmjaa

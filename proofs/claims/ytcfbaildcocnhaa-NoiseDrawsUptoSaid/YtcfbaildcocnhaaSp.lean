/-
  A source's row and what a source holds: plain.
-/
import Derived.Test.YtcfbaildcocnhaaNc
set_option linter.unusedVariables false
set_option linter.unusedSimpArgs false
namespace Go.Proofs.Ytcfbaildcocnhaa
open Go.RowKit

theorem B8.of {xs : List Int} (h : ∀ x ∈ xs, 0 ≤ x ∧ x ≤ 255) : B8 xs := fun i => by
  by_cases hi : i < xs.length
  · rw [List.getD_eq_getElem?_getD, List.getElem?_eq_getElem hi]; exact h _ (List.getElem_mem hi)
  · rw [List.getD_eq_getElem?_getD, List.getElem?_eq_none (by omega)]; exact ⟨by decide, by decide⟩
theorem leN_mem {X k : Nat} {x : Int} (h : x ∈ leN X k) : 0 ≤ x ∧ x ≤ 255 := by
  unfold leN at h
  obtain ⟨j, _, rfl⟩ := List.mem_map.1 h
  unfold byt
  omega
theorem blkL_B8 (ks ns : List Int) (c : Nat) : B8 (blkL ks ns c) := B8.of fun x hx => by
  rw [blkL_eq, outL] at hx
  rcases List.mem_append.1 hx with h | h
  · unfold outW at h
    obtain ⟨i, _, h2⟩ := List.mem_flatMap.1 h
    exact leN_mem h2
  · obtain rfl := List.eq_of_mem_replicate h; decide
theorem exec_load_mid {P : Program} {o : Oper} {a : Act} {w : World} (ty : TypeId) (x : Operand) (ho : o.op = .load ty x) (b off : Nat) (hx : a.eval x = .pointer (some ⟨b, off, none⟩)) (cs : List Value) (d : TypeDesc) (hc : w.rangeAt b off cs)
    (hu : P.underlying ty = some d) (hd : d.isRow = true) (hi : (P.info? ty).map (·.size) = some cs.length) : (execOp a.eval o).run P w = .ok (.value (.agg cs.toArray)) w := by
  unfold execOp
  simp only [ho, hx, Instr.loadAt, Instr.sureAddr, Sem.run_bind, Sem.run_pure, Result.andThen_ok, run_loadVar_mid w b off ty cs d hc hu hd hi]
theorem exec_load_AY {o : Oper} {a : Act} {w : World} (ty : TypeId) (x : Operand) (ho : o.op = .load ty x) (b off : Nat) (hx : a.eval x = .pointer (some ⟨b, off, none⟩)) (k : IntKind) (L : List Int) (d : TypeDesc) (hc : w.rangeAt b off (L.map (Value.int k)))
    (hu : Try.prog.underlying ty = some d) (hd : d.isRow = true) (hi : (Try.prog.info? ty).map (·.size) = some L.length) : (execOp a.eval o).run Try.prog w = .ok (.value (.agg (AY k L))) w := by
  rw [AY_eq]
  exact exec_load_mid ty x ho b off hx _ d hc hu hd (by rw [List.length_map]; exact hi)
theorem range_blk {w : World} {g T : Nat} {a b c : List Value} (h : Blk w g T (a ++ (b ++ c))) : w.rangeAt g 0 a ∧ w.rangeAt g a.length b ∧ w.rangeAt g (a.length + b.length) c := by
  refine ⟨fun j v hv => ?_, fun j v hv => ?_, fun j v hv => ?_⟩
  · have hj := (List.getElem?_eq_some_iff.1 hv).1
    rw [h.cell, Nat.zero_add, List.getElem?_append_left hj]; exact hv
  · have hj := (List.getElem?_eq_some_iff.1 hv).1
    rw [h.cell, List.getElem?_append_right (by omega), Nat.add_sub_cancel_left, List.getElem?_append_left hj]; exact hv
  · rw [h.cell, List.getElem?_append_right (by omega), List.getElem?_append_right (by omega), show a.length + b.length + j - a.length - b.length = j from by omega]; exact hv
theorem range_of_block {w w' : World} {b o : Nat} {cs : List Value} (h : w.rangeAt b o cs) (he : w'.heap[b]? = w.heap[b]?) : w'.rangeAt b o cs := fun j v hv => (World.cell?_of_block (w := w) (w' := w') he).trans (h j v hv)
theorem own_neB {w : World} {base T g Ba : Nat} {kd : IntKind} {v : Value} {xs : List Int} {T' : Nat} {cs : List Value} (h : Own w base T kd v xs) (hB : Blk w Ba T' cs) (hT : T ≠ T') (hg : v.ownBlock = some g) : g ≠ Ba := by
  rcases h.form with ⟨h4, h5⟩ | ⟨g', c', rest, h4, h5, h6, h7, h8⟩
  · rw [h4] at hg; cases hg
  · rw [h4] at hg
    injection hg with hg
    subst hg
    exact Blk.ne h6 hB hT

/-- A block of the row. -/
def blkAt (ks : List Int) (m : Nat) : List Int := blkL ks (nonL (m / 4294967296)) (m % 4294967296)
theorem blkAt_len (ks : List Int) (m : Nat) : (blkAt ks m).length = 64 := blkL_len _ _ _
theorem blkAt_B8 (ks : List Int) (m : Nat) : B8 (blkAt ks m) := blkL_B8 _ _ _
theorem blkAt_eq (ks : List Int) (m : Nat) : blkAt ks m = blkL ks (nonL (m / 4294967296)) (m % 4294967296) := rfl
attribute [irreducible] blkAt
/-- A seed's row. -/
def rowB (ks : List Int) (p : Nat) : Int := (blkAt ks (p / 64 % 18446744073709551616)).getD (p % 64) 0
def rowL (ks : List Int) (p n : Nat) : List Int := (List.range n).map fun i => rowB ks (p + i)
theorem rowB_8 (ks : List Int) (p : Nat) : 0 ≤ rowB ks p ∧ rowB ks p ≤ 255 := blkAt_B8 _ _ _
theorem rowL_len (ks : List Int) (p n : Nat) : (rowL ks p n).length = n := by simp [rowL]
theorem rowL_B8 (ks : List Int) (p n : Nat) : B8 (rowL ks p n) := B8.of fun x hx => by
  unfold rowL at hx
  obtain ⟨i, _, rfl⟩ := List.mem_map.1 hx
  exact rowB_8 _ _
theorem rowL_at (ks : List Int) (p n i : Nat) (h : i < n) : (rowL ks p n).getD i 0 = rowB ks (p + i) := by
  unfold rowL
  rw [List.getD_eq_getElem?_getD, List.getElem?_map, List.getElem?_range h]
  rfl
theorem rowL_add (ks : List Int) (p a b : Nat) : rowL ks p (a + b) = rowL ks p a ++ rowL ks (p + a) b := by
  unfold rowL
  rw [List.range_add, List.map_append, List.map_map]
  congr 1
  apply List.map_congr_left
  intro i _
  show rowB ks (p + (a + i)) = rowB ks (p + a + i)
  rw [Nat.add_assoc]
theorem rowL_blk (ks : List Int) (q j : Nat) (hj : j ≤ 64 - q % 64) : rowL ks q j = ((blkAt ks (q / 64 % 18446744073709551616)).drop (q % 64)).take j := by
  apply List.ext_getElem?
  intro i
  unfold rowL
  rw [List.getElem?_map, List.getElem?_take]
  rcases Nat.lt_or_ge i j with h | h
  · rw [List.getElem?_range h, if_pos h, List.getElem?_drop]
    have h1 : (q + i) / 64 = q / 64 := by omega
    have h2 : (q + i) % 64 = q % 64 + i := by omega
    have h3 : q % 64 + i < (blkAt ks (q / 64 % 18446744073709551616)).length := by rw [blkAt_len]; omega
    rw [List.getElem?_eq_getElem h3]
    simp only [Option.map_some]
    unfold rowB
    rw [h1, h2, List.getD_eq_getElem?_getD, List.getElem?_eq_getElem h3]
    rfl
  · rw [if_neg (by omega), List.getElem?_eq_none (by simpa using h)]
    rfl
theorem rowL_take (ks : List Int) (p n m : Nat) (h : m ≤ n) : (rowL ks p n).take m = rowL ks p m := by
  unfold rowL
  rw [← List.map_take, List.take_range, Nat.min_eq_left h]

/-- What is left of a block, and the next block's number, at a place of the row. -/
def StP (ks : List Int) (p : Nat) (r : List Int) (nx : Nat) : Prop :=
  (p % 64 = 0 ∧ r = [] ∧ nx = p / 64 % 18446744073709551616) ∨ (p % 64 ≠ 0 ∧ r = (blkAt ks (p / 64 % 18446744073709551616)).drop (p % 64) ∧ nx = (p / 64 + 1) % 18446744073709551616)
theorem StP.lt {ks : List Int} {p : Nat} {r : List Int} {nx : Nat} (h : StP ks p r nx) : nx < 18446744073709551616 := by
  rcases h with ⟨_, _, h⟩ | ⟨_, _, h⟩ <;> rw [h] <;> exact Nat.mod_lt _ (by decide)
theorem StP.empty {ks : List Int} {p : Nat} {r : List Int} {nx : Nat} (h : StP ks p r nx) (hr : r = []) : p % 64 = 0 ∧ nx = p / 64 % 18446744073709551616 := by
  rcases h with ⟨h1, _, h⟩ | ⟨h1, h2, h⟩
  · exact ⟨h1, h⟩
  · have := congrArg List.length h2
    rw [hr, List.length_drop, blkAt_len] at this
    simp at this
    omega
theorem StP.some {ks : List Int} {p : Nat} {r : List Int} {nx : Nat} (h : StP ks p r nx) (hr : 0 < r.length) : r = (blkAt ks (p / 64 % 18446744073709551616)).drop (p % 64) ∧ nx = (p / 64 + 1) % 18446744073709551616 := by
  rcases h with ⟨h1, h2, h⟩ | ⟨h1, h2, h⟩
  · rw [h2] at hr; simp at hr
  · exact ⟨h2, h⟩
theorem StP.step {ks : List Int} {q k : Nat} {r : List Int} {nx : Nat} (h1 : r = (blkAt ks (q / 64 % 18446744073709551616)).drop (q % 64)) (h2 : nx = (q / 64 + 1) % 18446744073709551616) (hk : 0 < k) (hkr : k ≤ r.length) : StP ks (q + k) (r.drop k) nx := by
  have hl : r.length = 64 - q % 64 := by rw [h1, List.length_drop, blkAt_len]
  by_cases he : q % 64 + k = 64
  · refine .inl ⟨by omega, ?_, ?_⟩
    · rw [List.drop_of_length_le (by omega)]
    · rw [h2, show (q + k) / 64 = q / 64 + 1 from by omega]
  · refine .inr ⟨by omega, ?_, ?_⟩
    · rw [h1, List.drop_drop, show (q + k) / 64 = q / 64 from by omega, show (q + k) % 64 = q % 64 + k from by omega]
    · rw [h2, show (q + k) / 64 = q / 64 from by omega]
/-- A source's cells. -/
def SRl (ks : List Int) (nx : Nat) (A : Option Addr) (r : List Int) (c : Nat) : List Value := ks.map (Value.int .u8) ++ ([.int .u64 (nx : Int)] ++ [.slice A r.length c])
theorem SRl_cells {w : World} {S T : Nat} {ks : List Int} {nx : Nat} {A : Option Addr} {r : List Int} {c : Nat} (h : Blk w S T (SRl ks nx A r c)) (hk : ks.length = 32) :
    w.rangeAt S 0 (ks.map (Value.int .u8)) ∧ w.cell? ⟨S, 32, none⟩ = some (.int .u64 (nx : Int)) ∧ w.cell? ⟨S, 33, none⟩ = some (.slice A r.length c) := by
  obtain ⟨h1, h2, h3⟩ := range_blk (a := ks.map (Value.int .u8)) (b := [.int .u64 (nx : Int)]) (c := [.slice A r.length c]) h
  rw [List.length_map, hk] at h2 h3
  exact ⟨h1, h2 0 _ rfl, h3 0 _ rfl⟩
theorem SRl_set {w : World} {S T : Nat} {ks : List Int} {nx : Nat} {A : Option Addr} {r : List Int} {c : Nat} (h : Blk w S T (SRl ks nx A r c)) (hk : ks.length = 32) (A' : Option Addr) (r' : List Int) (c' : Nat) : Blk (w.setCell ⟨S, 33, none⟩ (.slice A' r'.length c')) S T (SRl ks nx A' r' c') := by
  have := h.set 33 (.slice A' r'.length c')
  unfold SRl at this ⊢
  rw [List.set_append_right _ _ (by simp [hk])] at this
  simpa [hk] using this
theorem SRl_next {w : World} {S T : Nat} {ks : List Int} {nx : Nat} {A : Option Addr} {r : List Int} {c : Nat} (h : Blk w S T (SRl ks nx A r c)) (hk : ks.length = 32) (nx' : Nat) : Blk (w.setCell ⟨S, 32, none⟩ (.int .u64 (nx' : Int))) S T (SRl ks nx' A r c) := by
  have := h.set 32 (.int .u64 (nx' : Int))
  unfold SRl at this ⊢
  rw [List.set_append_right _ _ (by simp [hk])] at this
  simpa [hk] using this
/-- Where what is left lies. -/
def RestP (w : World) (A : Option Addr) (r : List Int) (c : Nat) : Prop :=
  r = [] ∨ ∃ (g o : Nat) (bs : List Int), A = some ⟨g, o, none⟩ ∧ Blk w g 103 (bs.map (Value.int .u8)) ∧ bs.length = 64 ∧ o ≤ 64 ∧ r = bs.drop o ∧ c = 64 - o
theorem RestP.fr {S : Nat → Prop} {w w' : World} {A : Option Addr} {r : List Int} {c : Nat} (h : RestP w A r c) (hf : Fr S w w') (hR : ∀ (g : Nat) (bs : List Int), Blk w g 103 (bs.map (Value.int .u8)) → ¬ S g) : RestP w' A r c := by
  rcases h with h | ⟨g, o, bs, h1, h2, h3, h4, h5, h6⟩
  · exact .inl h
  · exact .inr ⟨g, o, bs, h1, h2.fr hf (hR _ _ h2), h3, h4, h5, h6⟩
/-- A source of a seed, at a place of its row. -/
def Src (w : World) (S : Nat) (ks : List Int) (p : Nat) : Prop := ∃ A c nx r, Blk w S 102 (SRl ks nx A r c) ∧ StP ks p r nx ∧ RestP w A r c
theorem Src.lt {w : World} {S : Nat} {ks : List Int} {p : Nat} (h : Src w S ks p) : S < w.heap.size := by
  obtain ⟨A, c, nx, r, h1, -⟩ := h
  exact h1.lt
theorem Src.ne {w : World} {S S' : Nat} {T : Nat} {cs : List Value} {ks : List Int} {p : Nat} (h : Src w S ks p) (hB : Blk w S' T cs) (hT : T ≠ 102) : S ≠ S' := by
  obtain ⟨A, c, nx, r, h1, -⟩ := h
  exact Blk.ne h1 hB (Ne.symm hT)
/-- Blocks that are no block of a source's are turned. -/
theorem Src.fr {F : Nat → Prop} {w w' : World} {S : Nat} {ks : List Int} {p : Nat} (h : Src w S ks p) (hf : Fr F w w') (hS : ¬ F S) (hR : ∀ (g : Nat) (bs : List Int), Blk w g 103 (bs.map (Value.int .u8)) → ¬ F g) : Src w' S ks p := by
  obtain ⟨A, c, nx, r, h1, h2, h3⟩ := h
  exact ⟨A, c, nx, r, h1.fr hf hS, h2, h3.fr hf hR⟩
theorem Src.below {w w' : World} {S : Nat} {ks : List Int} {p : Nat} (h : Src w S ks p) (hb : Below w.heap.size w w') : Src w' S ks p := h.fr (F := fun _ => False) (Fr.of_below hb _) (fun h => h) (fun _ _ _ h => h)
theorem Rd.drop' {w : World} {k : IntKind} {g : Nat} {xs : List Int} (h : Rd w k (some ⟨g, 0, none⟩) xs) (o : Nat) : Rd w k (some ⟨g, o, none⟩) (xs.drop o) := fun i hi => by
  rw [List.length_drop] at hi
  obtain ⟨b, off, hA, hc⟩ := h (o + i) (by omega)
  injection hA with hA
  injection hA with h1 h2
  subst h1 h2
  refine ⟨g, o, rfl, ?_⟩
  rw [Nat.zero_add] at hc
  rw [hc, List.getD_eq_getElem?_getD, List.getD_eq_getElem?_getD, List.getElem?_drop]
def lenV : Value → Nat
  | .slice _ n _ => n
  | _ => 0
end Go.Proofs.Ytcfbaildcocnhaa

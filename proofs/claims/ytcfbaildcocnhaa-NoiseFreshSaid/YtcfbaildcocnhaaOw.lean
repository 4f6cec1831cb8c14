/-
  Memory laws: rows of one-cell values of the call's own, appended to one by one: in place, or in a new block. No program in sight.
-/
import Derived.Test.YtcfbaildcocnhaaRow
import Derived.Laws.OwnMore
set_option linter.unusedVariables false
namespace Go.Proofs.Ytcfbaildcocnhaa
open Go.RowKit

/-- A row of one-cell values of the call's own. -/
def OwnV (w : World) (base : Nat) (T : TypeId) (v : Value) (cs : List Value) : Prop := w.ownsRow base T 1 v cs.length cs
theorem OwnV.nil (w : World) (base : Nat) (T : TypeId) : OwnV w base T (.slice none 0 0) [] := World.ownsRow_nil _ _ _ _
theorem Own.toV {w : World} {base : Nat} {T : TypeId} {k : IntKind} {v : Value} {xs : List Int} (h : Own w base T k v xs) : OwnV w base T v (xs.map (Value.int k)) := by
  unfold OwnV; rw [List.length_map]; exact h
theorem OwnV.toOwn {w : World} {base : Nat} {T : TypeId} {k : IntKind} {v : Value} {xs : List Int} (h : OwnV w base T v (xs.map (Value.int k))) : Own w base T k v xs := by
  unfold OwnV at h; rw [List.length_map] at h; exact h
theorem OwnV.toOwn1 {w : World} {base : Nat} {T : TypeId} {k : IntKind} {v : Value} {xs : List Int} {y : Int} (h : OwnV w base T v (xs.map (Value.int k) ++ [.int k y])) : Own w base T k v (xs ++ [y]) :=
  OwnV.toOwn (by simpa using h)
theorem OwnV.form {w : World} {base : Nat} {T : TypeId} {v : Value} {cs : List Value} (h : OwnV w base T v cs) :
    (v = .slice none 0 0 ∧ cs = []) ∨ ∃ g c rest, v = .slice (some ⟨g, 0, none⟩) cs.length c ∧ base ≤ g ∧ Blk w g T (cs ++ rest) ∧ cs.length + rest.length = c ∧ c ≤ maxLen := by
  obtain ⟨h1, h2⟩ := h
  rcases h2 with ⟨hv, hn⟩ | ⟨g, cap, cur, hv, hb, hg, hn, hm, hs, ht⟩
  · exact .inl ⟨hv, List.eq_nil_of_length_eq_zero hn⟩
  · refine .inr ⟨g, cap, cur.toList.drop cs.length, hv, hb, ?_, ?_, hm⟩
    · unfold Blk
      rw [hg]
      have : cs ++ cur.toList.drop cs.length = cur.toList := by
        rw [← ht, Nat.mul_one, List.length_take]
        rw [Nat.min_eq_left (by simp; omega)]
        exact List.take_append_drop _ _
      rw [this]
    · simp; omega
theorem OwnV.mk {w : World} {base : Nat} {T : TypeId} {g c : Nat} {cs rest : List Value} (hb : base ≤ g) (hB : Blk w g T (cs ++ rest)) (hc : cs.length + rest.length = c) (hm : c ≤ maxLen) :
    OwnV w base T (.slice (some ⟨g, 0, none⟩) cs.length c) cs :=
  ⟨by simp, .inr ⟨g, c, _, rfl, hb, hB, by omega, hm, by simp; omega, by simp⟩⟩
theorem OwnV.fr {S : Nat → Prop} {w w' : World} {base : Nat} {T : TypeId} {v : Value} {cs : List Value} (h : OwnV w base T v cs) (hf : Fr S w w') (hS : ∀ g, v.ownBlock = some g → ¬ S g) : OwnV w' base T v cs := by
  rcases h.form with ⟨rfl, rfl⟩ | ⟨g, c, rest, rfl, hb, hB, hc, hm⟩
  · exact OwnV.nil _ _ _
  · exact OwnV.mk hb (hB.fr hf (hS g rfl)) hc hm
theorem OwnV.below {w w' : World} {base : Nat} {T : TypeId} {v : Value} {cs : List Value} (h : OwnV w base T v cs) (hb : Below w.heap.size w w') : OwnV w' base T v cs := h.fr (S := fun _ => False) (Fr.of_below hb _) (fun _ _ h => h)
theorem OwnV.lower {w : World} {base base' : Nat} {T : TypeId} {v : Value} {cs : List Value} (h : OwnV w base T v cs) (hb : base' ≤ base) : OwnV w base' T v cs := by
  rcases h.form with ⟨rfl, rfl⟩ | ⟨g, c, rest, rfl, hg, hB, hc, hm⟩
  · exact OwnV.nil _ _ _
  · exact OwnV.mk (by omega) hB hc hm
theorem OwnV.base_le {w : World} {base : Nat} {T : TypeId} {v : Value} {cs : List Value} (h : OwnV w base T v cs) {g : Nat} (hg : v.ownBlock = some g) : base ≤ g ∧ g < w.heap.size := World.ownsRow.lt h g hg
/-- Any values, read. -/
def RdV (w : World) (A : Option Addr) (cs : List Value) : Prop := ∀ i, i < cs.length → ∃ b off, A = some ⟨b, off, none⟩ ∧ w.cell? ⟨b, off + i, none⟩ = cs[i]?
theorem RdV.fr {S : Nat → Prop} {w w' : World} {A : Option Addr} {cs : List Value} (h : RdV w A cs) (hf : Fr S w w') (hS : ∀ a, A = some a → ¬ S a.block) : RdV w' A cs := fun i hi => by
  obtain ⟨b, off, hA, hc⟩ := h i hi
  refine ⟨b, off, hA, ?_⟩
  rw [List.getElem?_eq_getElem hi] at hc ⊢
  have hlt := World.block_lt_of_cell? w _ hc
  rw [World.cell?_of_block (w := w) (w' := w') (hf.block b hlt (hS _ hA))]; exact hc
theorem RdV.below {w w' : World} {A : Option Addr} {cs : List Value} (h : RdV w A cs) (hb : Below w.heap.size w w') : RdV w' A cs := h.fr (S := fun _ => False) (Fr.of_below hb _) (fun _ _ h => h)
theorem OwnV.slice {w : World} {base : Nat} {T : TypeId} {v : Value} {cs : List Value} (h : OwnV w base T v cs) : ∃ A c, v = .slice A cs.length c ∧ cs.length ≤ c ∧ c ≤ maxLen ∧ RdV w A cs ∧ (∀ a, A = some a → v.ownBlock = some a.block) := by
  rcases h.form with ⟨rfl, rfl⟩ | ⟨g, c, rest, rfl, hb, hB, hc, hm⟩
  · exact ⟨none, 0, rfl, Nat.le_refl _, by decide, fun i hi => by simp at hi, fun a h => by cases h⟩
  · refine ⟨_, c, rfl, by omega, hm, fun i hi => ⟨g, 0, rfl, ?_⟩, fun a h => by cases h; rfl⟩
    rw [hB.cell, Nat.zero_add, List.getElem?_append_left hi]

/-- What an append of one does: in place, or a new block. -/
def Pushed (w w' : World) (v v' : Value) : Prop :=
  (∃ g n c, v = .slice (some ⟨g, 0, none⟩) n c ∧ v' = .slice (some ⟨g, 0, none⟩) (n + 1) c ∧ Fr (fun j => j = g) w w') ∨
  (∃ g n c, v' = .slice (some ⟨g, 0, none⟩) n c ∧ w.heap.size ≤ g ∧ Fr (fun _ => False) w w')
theorem Pushed.fr {w w' : World} {v v' : Value} (h : Pushed w w' v v') : Fr (fun g => v.ownBlock = some g) w w' := by
  rcases h with ⟨g, n, c, rfl, _, h⟩ | ⟨g, n, c, _, _, h⟩
  · exact h.mono (fun k hk => by subst hk; rfl)
  · exact h.mono (fun k hk => hk.elim)
theorem Pushed.block {w w' : World} {v v' : Value} (h : Pushed w w' v v') : v'.ownBlock = v.ownBlock ∨ ∃ g, v'.ownBlock = some g ∧ w.heap.size ≤ g := by
  rcases h with ⟨g, n, c, rfl, rfl, h⟩ | ⟨g, n, c, rfl, hg, h⟩
  · exact .inl rfl
  · exact .inr ⟨g, rfl, hg⟩
theorem Pushed.drop {w0 w w' : World} {o : Obj} {v v' : Value} (h : Pushed (w.alloc o) w' v v') (hv : ∀ g, v.ownBlock = some g → g < w.heap.size) : Pushed w w' v v' := by
  rcases h with ⟨g, n, c, rfl, rfl, h⟩ | ⟨g, n, c, rfl, hg, h⟩
  · exact .inl ⟨g, n, c, rfl, rfl, ((Fr.refl _ w).alloc o).trans h⟩
  · exact .inr ⟨g, n, c, rfl, by simp at hg; omega, ((Fr.refl _ w).alloc o).trans h⟩

theorem run_push_own {P : Program} (w : World) (base : Nat) (t ty e : TypeId) (i : TypeInfo) (z : Value) (bytes : Nat) (ht : P.underlying t = some (.slice e)) (hi : P.info? e = some i) (hz : i.zero = some z)
    (hsize : i.size = 1) (hby : i.bytes = bytes) (hzs : z.cells.size = 1)
    (v : Value) (xs : List Value) (hown : OwnV w base e v xs) (a : Addr) (c : Nat) (y : Value) (hy : w.cell? a = some y) (h1 : y.oneCell' = true)
    (h63 : xs.length + 1 ≤ maxLen) (hbytes : (xs.length + 1) * bytes ≤ 140737488355328) (hbase : base ≤ w.heap.size) :
    ∃ v' w', (Builtin.append_ #[t, t] ty #[v, .slice (some a) 1 c]).run P w = .ok v' w' ∧ OwnV w' base e v' (xs ++ [y]) ∧ Pushed w w' v v' := by
  have hnews : ∀ j u, [y][j]? = some u → w.cell? (a.add j) = some u := by
    intro j u hu
    cases j with
    | zero => simp at hu; subst hu; simpa [Addr.add] using hy
    | succ j => simp at hu
  have hone : ∀ u ∈ [y], u.oneCell' = true := fun u hu => by simp at hu; subst hu; exact h1
  obtain ⟨v', w', hr, h2, h3, h4⟩ := run_append_own (P := P) w base t ty e i z 1 bytes ht hi hz hsize hby hzs (by decide) v xs.length xs hown a 1 c [y] rfl hnews hone h63 hbytes hbase
  refine ⟨v', w', hr, by unfold OwnV; simpa using h2, ?_⟩
  have frs : ∀ {W : World} {C : Array Value}, W = w.drew.alloc (.cells C e) → Fr (fun _ => False) w W := fun h => by subst h; exact ((Fr.refl _ w).drew).alloc _
  have hsm : xs.length + 1 ≤ 9223372036854775807 := by simp only [maxLen] at h63; omega
  rcases hown.form with ⟨rfl, rfl⟩ | ⟨g, cap, rest, rfl, hb, hB, hc, hm⟩
  · have hr2 := run_append_nil (P := P) w t ty e i z ht hi hz a 1 c [y] (by rw [hsize]; rfl) hnews (by decide) (by decide) (by rw [hby]; simp at hbytes; omega)
    rw [hr] at hr2
    injection hr2 with e1 e2
    exact .inr ⟨w.heap.size, _, _, e1, Nat.le_refl _, frs e2⟩
  · by_cases hroom : xs.length + 1 ≤ cap
    · obtain ⟨w2, hr2, _, hg⟩ := run_append_fits (P := P) w base t ty e i 1 ht hi hsize g xs.length cap xs hown a 1 c [y] rfl hnews hone hroom
      rw [hr] at hr2
      injection hr2 with e1 e2
      subst e1 e2
      exact .inl ⟨g, _, _, rfl, rfl, (Fr.refl _ w).grown hg (fun k hk => by injection hk with hk; exact .inl hk.symm)⟩
    · have hr2 := run_append_grow (P := P) w t ty e i z ht hi hz ⟨g, 0, none⟩ xs.length cap xs (by rw [hsize]; simp) (World.ownsRow.cells hown rfl) a 1 c [y] (by rw [hsize]; rfl) hnews (by omega) (by omega) (growslice_fits (by omega) (by rw [hby]; exact hbytes))
      rw [hr] at hr2
      injection hr2 with e1 e2
      exact .inr ⟨w.heap.size, _, _, e1, Nat.le_refl _, frs e2⟩

/-- append(v, x), the new element of any kind of one cell. -/
theorem wpList_pushV {P : Program} (w : World) {W : World} {ops : Array Oper} {rest : List Oper} {o : Oper} {a : Act} {Q : Exit → Act → World → Prop} (hgd : o.guard = none) (s x : Operand) (t : TypeId)
    (ho : o.op = Op.call { callee := Callee.builtin Builtin.append, args := #[s, x], argTypes := #[t, t] })
    (base : Nat) (e : TypeId) (z : Value) (bytes : Nat) (ht : P.underlying t = some (.slice e)) (hinfo : (P.info? e).map (fun i => (i.zero, i.size, i.bytes)) = some (some z, 1, bytes)) (hz1 : z.cells.size = 1)
    (y : Value) (hy1 : y.oneCell' = true) (hW : W = w.alloc (.cells #[y] e)) (v : Value) (xs : List Value) (hs : a.eval s = v) (hx : a.eval x = .slice (some ⟨w.heap.size, 0, none⟩) 1 1) (hown : OwnV w base e v xs)
    (hbytes : (xs.length + 1) * bytes ≤ 140737488355328) (hb0 : 0 < bytes) (hbase : base ≤ w.heap.size)
    (h : ∀ v' w', OwnV w' base e v' (xs ++ [y]) → Pushed w w' v v' → wpList P ops Q rest (a.put o.dst v') w') :
    wpList P ops Q (o :: rest) a W := by
  subst hW
  obtain ⟨i0, hi, hz0, hsz, hby⟩ := info_parts hinfo
  have hlen : xs.length + 1 ≤ 140737488355328 := Nat.le_trans (Nat.le_mul_of_pos_right _ hb0) hbytes
  have hown' : OwnV (w.alloc (.cells #[y] e)) base e v xs := hown.below ((Below.refl _ w).alloc (Nat.le_refl _) _)
  obtain ⟨v', w', hr, h2, h3⟩ := run_push_own (P := P) (w.alloc (.cells #[y] e)) base t o.type e i0 z bytes ht hi hz0 hsz hby hz1 v xs hown' ⟨w.heap.size, 0, none⟩ 1 y ((Blk.new w e [y]).cell 0) hy1 (by unfold maxLen; omega) hbytes (by simp; omega)
  refine wpList_plain hgd fun K hK => ?_
  have hn := h v' w' h2 (h3.drop (w0 := w) (fun g hg => (hown.base_le hg).2))
  unfold Oper.wp execOp
  simp only [ho, resolve, invoke, builtin, Sem.run_bind, Sem.run_pure, Result.andThen_ok, List.map_toArray, List.map_cons, List.map_nil, hs, hx, hr]
  exact hK _ _ hn
/-- What an append does to the blocks: the row's own block, or a new one. -/
def Grew (w w' : World) (v v' : Value) : Prop := Fr (fun g => v.ownBlock = some g) w w' ∧ (v'.ownBlock = v.ownBlock ∨ ∃ g, v'.ownBlock = some g ∧ w.heap.size ≤ g)
theorem run_pushes_own {P : Program} (w : World) (base : Nat) (t ty e : TypeId) (i : TypeInfo) (z : Value) (bytes : Nat) (ht : P.underlying t = some (.slice e)) (hi : P.info? e = some i) (hz : i.zero = some z)
    (hsize : i.size = 1) (hby : i.bytes = bytes) (hzs : z.cells.size = 1)
    (v : Value) (xs : List Value) (hown : OwnV w base e v xs) (a : Addr) (c : Nat) (news : List Value) (hnews : ∀ j u, news[j]? = some u → w.cell? (a.add j) = some u) (hone : ∀ u ∈ news, u.oneCell' = true) (hpos : 0 < news.length)
    (h63 : xs.length + news.length ≤ maxLen) (hbytes : (xs.length + news.length) * bytes ≤ 140737488355328) (hbase : base ≤ w.heap.size) :
    ∃ v' w', (Builtin.append_ #[t, t] ty #[v, .slice (some a) news.length c]).run P w = .ok v' w' ∧ OwnV w' base e v' (xs ++ news) ∧ Grew w w' v v' := by
  obtain ⟨v', w', hr, h2, h3, h4⟩ := run_append_own (P := P) w base t ty e i z 1 bytes ht hi hz hsize hby hzs (by decide) v xs.length xs hown a news.length c news (by simp) hnews hone h63 hbytes hbase
  refine ⟨v', w', hr, by unfold OwnV; simpa using h2, (Fr.refl _ w).grown h3 (fun g hg => .inl hg), ?_⟩
  have hsm : xs.length + news.length ≤ 9223372036854775807 := by simp only [maxLen] at h63; omega
  rcases hown.form with ⟨rfl, rfl⟩ | ⟨g, cap, rest, rfl, hb, hB, hc, hm⟩
  · have hr2 := run_append_nil (P := P) w t ty e i z ht hi hz a news.length c news (by rw [hsize]; simp) hnews hpos (by simp at hsm; omega) (by rw [hby]; simp at hbytes; omega)
    rw [hr] at hr2
    injection hr2 with e1 e2
    exact .inr ⟨w.heap.size, by rw [e1]; rfl, Nat.le_refl _⟩
  · by_cases hroom : xs.length + news.length ≤ cap
    · obtain ⟨w2, hr2, _, hg⟩ := run_append_fits (P := P) w base t ty e i 1 ht hi hsize g xs.length cap xs hown a news.length c news (by simp) hnews hone hroom
      rw [hr] at hr2
      injection hr2 with e1 e2
      exact .inl (by rw [e1]; rfl)
    · have hr2 := run_append_grow (P := P) w t ty e i z ht hi hz ⟨g, 0, none⟩ xs.length cap xs (by rw [hsize]; simp) (World.ownsRow.cells hown rfl) a news.length c news (by rw [hsize]; simp) hnews (by omega) (by omega) (growslice_fits (by omega) (by rw [hby]; exact hbytes))
      rw [hr] at hr2
      injection hr2 with e1 e2
      exact .inr ⟨w.heap.size, by rw [e1]; rfl, Nat.le_refl _⟩
/-- append(v, x, y). -/
theorem wpList_push2V {P : Program} (w : World) {W : World} {ops : Array Oper} {rest : List Oper} {o : Oper} {a : Act} {Q : Exit → Act → World → Prop} (hgd : o.guard = none) (s x : Operand) (t : TypeId)
    (ho : o.op = Op.call { callee := Callee.builtin Builtin.append, args := #[s, x], argTypes := #[t, t] })
    (base : Nat) (e : TypeId) (z : Value) (bytes : Nat) (ht : P.underlying t = some (.slice e)) (hinfo : (P.info? e).map (fun i => (i.zero, i.size, i.bytes)) = some (some z, 1, bytes)) (hz1 : z.cells.size = 1)
    (y y2 : Value) (hy1 : y.oneCell' = true) (hy2 : y2.oneCell' = true) (hW : W = w.alloc (.cells #[y, y2] e)) (v : Value) (xs : List Value) (hs : a.eval s = v) (hx : a.eval x = .slice (some ⟨w.heap.size, 0, none⟩) 2 2) (hown : OwnV w base e v xs)
    (hbytes : (xs.length + 2) * bytes ≤ 140737488355328) (hb0 : 0 < bytes) (hbase : base ≤ w.heap.size)
    (h : ∀ v' w', OwnV w' base e v' (xs ++ [y, y2]) → Grew w w' v v' → wpList P ops Q rest (a.put o.dst v') w') :
    wpList P ops Q (o :: rest) a W := by
  subst hW
  obtain ⟨i0, hi, hz0, hsz, hby⟩ := info_parts hinfo
  have hlen : xs.length + 2 ≤ 140737488355328 := Nat.le_trans (Nat.le_mul_of_pos_right _ hb0) hbytes
  have hB := Blk.new w e [y, y2]
  have hown' : OwnV (w.alloc (.cells #[y, y2] e)) base e v xs := hown.below ((Below.refl _ w).alloc (Nat.le_refl _) _)
  obtain ⟨v', w', hr, h2, h3⟩ := run_pushes_own (P := P) (w.alloc (.cells #[y, y2] e)) base t o.type e i0 z bytes ht hi hz0 hsz hby hz1 v xs hown' ⟨w.heap.size, 0, none⟩ 2 [y, y2] (fun j u hu => by
      have hj : j = 0 ∨ j = 1 := by have := (List.getElem?_eq_some_iff.1 hu).1; simp at this; omega
      rcases hj with rfl | rfl
      · simp at hu; subst hu; exact hB.cell 0
      · simp at hu; subst hu; exact hB.cell 1)
    (fun u hu => by simp at hu; rcases hu with rfl | rfl <;> assumption) (by simp) (by simp only [List.length_cons, List.length_nil]; unfold maxLen; omega) hbytes (by simp; omega)
  refine wpList_plain hgd fun K hK => ?_
  have hn := h v' w' h2 ⟨((Fr.refl _ w).alloc _).trans h3.1, by rcases h3.2 with h | ⟨g, h, hg⟩; exact .inl h; exact .inr ⟨g, h, by simp at hg; omega⟩⟩
  have hr' : (Builtin.append_ #[t, t] o.type #[v, .slice (some ⟨w.heap.size, 0, none⟩) 2 2]).run P (w.alloc (.cells #[y, y2] e)) = .ok v' w' := hr
  unfold Oper.wp execOp
  simp only [ho, resolve, invoke, builtin, Sem.run_bind, Sem.run_pure, Result.andThen_ok, List.map_toArray, List.map_cons, List.map_nil, hs, hx, hr']
  exact hK _ _ hn
/-- Rows of different kinds lie in different blocks. -/
theorem OwnV.ne {w : World} {base base' : Nat} {T T' : TypeId} {v v' : Value} {cs cs' : List Value} (h : OwnV w base T v cs) (h' : OwnV w base' T' v' cs') (hne : T ≠ T') : ∀ g, v.ownBlock = some g → v'.ownBlock ≠ some g := by
  intro g hg hg'
  rcases h.form with ⟨rfl, _⟩ | ⟨g1, c1, r1, rfl, _, hB, _⟩
  · cases hg
  · rcases h'.form with ⟨rfl, _⟩ | ⟨g2, c2, r2, rfl, _, hB', _⟩
    · cases hg'
    · have e1 : g1 = g := by injection hg
      have e2 : g2 = g := by injection hg'
      subst e1
      subst e2
      exact hB.ne hB' hne rfl
end Go.Proofs.Ytcfbaildcocnhaa

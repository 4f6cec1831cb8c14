/-
  Appends to rows of pairs and to rows of rows, with what they do to the blocks; rows of rows, each in a block of its own.
-/
import Derived.Test.YtpglocgfdonmaaaLa
import Derived.Test.YtpglocgfdonmaaaGw
import Derived.Test.YtpglocgfdonmaaaGk
set_option linter.unusedVariables false
set_option linter.unusedSimpArgs false
namespace Go.Proofs.Ytpglocgfdonmaaa
open Go.RowKit Go.Shelf
attribute [local go_sem] Oper.semAt_some

theorem OwnP.form {w : World} {base : Nat} {T : TypeId} {v : Value} {xs : List (Int × Int)} (h : OwnP w base T v xs) :
    (v = .slice none 0 0 ∧ xs = []) ∨ ∃ g c rest, v = .slice (some ⟨g, 0, none⟩) xs.length c ∧ base ≤ g ∧ Blk w g T (flat xs ++ rest) ∧ xs.length * 2 + rest.length = c * 2 ∧ c ≤ maxLen := by
  obtain ⟨h1, h2⟩ := h
  rcases h2 with ⟨hv, hn⟩ | ⟨g, cap, cur, hv, hb, hg, hn, hm, hs, ht⟩
  · exact .inl ⟨hv, List.eq_nil_of_length_eq_zero hn⟩
  · refine .inr ⟨g, cap, cur.toList.drop (xs.length * 2), hv, hb, ?_, ?_, hm⟩
    · unfold Blk
      rw [hg]
      have : flat xs ++ cur.toList.drop (xs.length * 2) = cur.toList := by
        rw [← ht]; exact List.take_append_drop _ _
      rw [this]
    · simp; omega
theorem OwnP.mk {w : World} {base : Nat} {T : TypeId} {g c : Nat} {xs : List (Int × Int)} {rest : List Value} (hb : base ≤ g) (hB : Blk w g T (flat xs ++ rest)) (hc : xs.length * 2 + rest.length = c * 2) (hm : c ≤ maxLen) :
    OwnP w base T (.slice (some ⟨g, 0, none⟩) xs.length c) xs :=
  ⟨flat_len xs, .inr ⟨g, c, _, rfl, hb, hB, by omega, hm, by simp [flat_len]; omega, by simp [flat_len]⟩⟩
theorem OwnP.base_le {w : World} {base : Nat} {T : TypeId} {v : Value} {xs : List (Int × Int)} (h : OwnP w base T v xs) {g : Nat} (hg : v.ownBlock = some g) : base ≤ g ∧ g < w.heap.size := World.ownsRow.lt h g hg
theorem run_push_pair {P : Program} (w : World) (base : Nat) (t ty e : TypeId) (i : TypeInfo) (z : Value) (ht : P.underlying t = some (.slice e)) (hi : P.info? e = some i) (hz : i.zero = some z)
    (hsize : i.size = 2) (hby : i.bytes = 16) (hzs : z.cells.size = 2)
    (v : Value) (xs : List (Int × Int)) (hown : OwnP w base e v xs) (a : Addr) (c : Nat) (y : Int × Int) (hy0 : w.cell? a = some (.int .i64 y.1)) (hy1 : w.cell? (a.add 1) = some (.int .i64 y.2))
    (hlen : xs.length ≤ 40000000) (hbase : base ≤ w.heap.size) :
    ∃ v' w', (Builtin.append_ #[t, t] ty #[v, .slice (some a) 1 c]).run P w = .ok v' w' ∧ OwnP w' base e v' (xs ++ [y]) ∧ Pushed w w' v v' := by
  have hnews : ∀ j u, ([.int .i64 y.1, .int .i64 y.2] : List Value)[j]? = some u → w.cell? (a.add j) = some u := by
    intro j u hu
    match j, hu with
    | 0, hu => simp at hu; subst hu; simpa [Addr.add] using hy0
    | 1, hu => simp at hu; subst hu; exact hy1
    | j + 2, hu => simp at hu
  have hone : ∀ u ∈ ([.int .i64 y.1, .int .i64 y.2] : List Value), u.oneCell' = true := fun u hu => by simp at hu; rcases hu with rfl | rfl <;> rfl
  obtain ⟨v', w', hr, h2, h3, h4⟩ := run_append_own (P := P) w base t ty e i z 2 16 ht hi hz hsize hby hzs (by decide) v xs.length (flat xs) hown a 1 c [.int .i64 y.1, .int .i64 y.2] rfl hnews hone (by unfold maxLen; omega) (by omega) hbase
  refine ⟨v', w', hr, by unfold OwnP; rw [flat_snoc, List.length_append]; exact h2, ?_⟩
  have frs : ∀ {W : World} {C : Array Value}, W = w.drew.alloc (.cells C e) → Fr (fun _ => False) w W := fun h => by subst h; exact ((Fr.refl _ w).drew).alloc _
  rcases hown.form with ⟨rfl, rfl⟩ | ⟨g, cap, rest, rfl, hb, hB, hc, hm⟩
  · have hr2 := run_append_nil (P := P) w t ty e i z ht hi hz a 1 c [.int .i64 y.1, .int .i64 y.2] (by rw [hsize]; rfl) hnews (by decide) (by decide) (by rw [hby]; decide)
    rw [hr] at hr2
    injection hr2 with e1 e2
    exact .inr ⟨w.heap.size, _, _, e1, Nat.le_refl _, frs e2⟩
  · by_cases hroom : xs.length + 1 ≤ cap
    · obtain ⟨w2, hr2, _, hg⟩ := run_append_fits (P := P) w base t ty e i 2 ht hi hsize g xs.length cap (flat xs) hown a 1 c [.int .i64 y.1, .int .i64 y.2] rfl hnews hone hroom
      rw [hr] at hr2
      injection hr2 with e1 e2
      subst e1 e2
      exact .inl ⟨g, _, _, rfl, rfl, (Fr.refl _ w).grown hg (fun k hk => by injection hk with hk; exact .inl hk.symm)⟩
    · have hr2 := run_append_grow (P := P) w t ty e i z ht hi hz ⟨g, 0, none⟩ xs.length cap (flat xs) (by rw [hsize, flat_len]) (World.ownsRow.cells hown rfl) a 1 c [.int .i64 y.1, .int .i64 y.2] (by rw [hsize]; rfl) hnews (by omega) (by omega) (growslice_fits (by omega) (by rw [hby]; omega))
      rw [hr] at hr2
      injection hr2 with e1 e2
      exact .inr ⟨w.heap.size, _, _, e1, Nat.le_refl _, frs e2⟩
/-- append(v, x), a pair: plain, and in code that ranges over functions. -/
theorem wpList_pushPP {P : Program} (w : World) {W : World} {ops : Array Oper} {rest : List Oper} {o : Oper} {a : Act} {Q : Exit → Act → World → Prop} (hgd : o.guard = none) (s x : Operand) (t : TypeId)
    (ho : o.op = Op.call { callee := Callee.builtin Builtin.append, args := #[s, x], argTypes := #[t, t] })
    (base : Nat) (e : TypeId) (z : Value) (hz : z.cells.size = 2) (ht : P.underlying t = some (.slice e)) (hinfo : (P.info? e).map (fun i => (i.zero, i.size, i.bytes)) = some (some z, 2, 16))
    (y : Int × Int) (hW : W = w.alloc (.cells #[.int .i64 y.1, .int .i64 y.2] e)) (v : Value) (xs : List (Int × Int)) (hs : a.eval s = v) (hx : a.eval x = .slice (some ⟨w.heap.size, 0, none⟩) 1 1) (hown : OwnP w base e v xs)
    (hlen : xs.length ≤ 40000000) (hbase : base ≤ w.heap.size)
    (h : ∀ v' w', OwnP w' base e v' (xs ++ [y]) → Pushed w w' v v' → wpList P ops Q rest (a.put o.dst v') w') :
    wpList P ops Q (o :: rest) a W := by
  subst hW
  obtain ⟨i0, hi, hz0, hsz, hby⟩ := info_parts hinfo
  have hb := Blk.new w e [.int .i64 y.1, .int .i64 y.2]
  obtain ⟨v', w', hr, h2, h3⟩ := run_push_pair (P := P) (w.alloc (.cells #[.int .i64 y.1, .int .i64 y.2] e)) base t o.type e i0 z ht hi hz0 hsz hby hz v xs (World.ownsRow.alloc hown _) ⟨w.heap.size, 0, none⟩ 1 y (hb.cell 0) (by rw [addN]; exact hb.cell 1) hlen (by simp; omega)
  refine wpList_plain hgd fun K hK => ?_
  have hn := h v' w' h2 (h3.drop (w0 := w) (fun g hg => (hown.base_le hg).2))
  unfold Oper.wp execOp
  simp only [ho, resolve, invoke, builtin, Sem.run_bind, Sem.run_pure, Result.andThen_ok, List.map_toArray, List.map_cons, List.map_nil, hs, hx, hr]
  exact hK _ _ hn
theorem wpListIn_pushPP {F : Fence} {nF : Nat} {P : Program} (w : World) {W : World} {ops : Array Oper} {rest : List Oper} {o : Oper} {a : Act} {Q : Exit → Act → World → Prop} (hgd : o.guard = none) (s x : Operand) (t : TypeId)
    (ho : o.op = Op.call { callee := Callee.builtin Builtin.append, args := #[s, x], argTypes := #[t, t] })
    (base : Nat) (e : TypeId) (z : Value) (hz : z.cells.size = 2) (ht : P.underlying t = some (.slice e)) (hinfo : (P.info? e).map (fun i => (i.zero, i.size, i.bytes)) = some (some z, 2, 16))
    (y : Int × Int) (hW : W = w.alloc (.cells #[.int .i64 y.1, .int .i64 y.2] e)) (v : Value) (xs : List (Int × Int)) (hs : a.eval s = v) (hx : a.eval x = .slice (some ⟨w.heap.size, 0, none⟩) 1 1) (hown : OwnP w base e v xs)
    (hlen : xs.length ≤ 40000000) (hbase : base ≤ w.heap.size)
    (h : ∀ v' w', OwnP w' base e v' (xs ++ [y]) → Pushed w w' v v' → wpListIn F nF P ops Q rest (a.put o.dst v') w') :
    wpListIn F nF P ops Q (o :: rest) a W := by
  subst hW
  obtain ⟨i0, hi, hz0, hsz, hby⟩ := info_parts hinfo
  have hb := Blk.new w e [.int .i64 y.1, .int .i64 y.2]
  obtain ⟨v', w', hr, h2, h3⟩ := run_push_pair (P := P) (w.alloc (.cells #[.int .i64 y.1, .int .i64 y.2] e)) base t o.type e i0 z ht hi hz0 hsz hby hz v xs (World.ownsRow.alloc hown _) ⟨w.heap.size, 0, none⟩ 1 y (hb.cell 0) (by rw [addN]; exact hb.cell 1) hlen (by simp; omega)
  refine wpListIn_plain hgd fun K hK => ?_
  have hn := h v' w' h2 (h3.drop (w0 := w) (fun g hg => (hown.base_le hg).2))
  unfold Oper.wpIn
  refine ⟨?_, ?_⟩
  · simp [Oper.about, ho, resolve, Target.leads, Sem.run_pure]
  · rw [Oper.semAt_plain F _ _ (by rw [ho]; intro c hc'; cases hc')]
    simp [execOp, ho, resolve, invoke, builtin, hs, hx, hr, Result.andThen]
    exact hK _ _ hn
theorem wpListIn_pushV {F : Fence} {nF : Nat} {P : Program} (w : World) {W : World} {ops : Array Oper} {rest : List Oper} {o : Oper} {a : Act} {Q : Exit → Act → World → Prop} (hgd : o.guard = none) (s x : Operand) (t : TypeId)
    (ho : o.op = Op.call { callee := Callee.builtin Builtin.append, args := #[s, x], argTypes := #[t, t] })
    (base : Nat) (e : TypeId) (z : Value) (bytes : Nat) (ht : P.underlying t = some (.slice e)) (hinfo : (P.info? e).map (fun i => (i.zero, i.size, i.bytes)) = some (some z, 1, bytes)) (hz1 : z.cells.size = 1)
    (y : Value) (hy1 : y.oneCell' = true) (hW : W = w.alloc (.cells #[y] e)) (v : Value) (xs : List Value) (hs : a.eval s = v) (hx : a.eval x = .slice (some ⟨w.heap.size, 0, none⟩) 1 1) (hown : OwnV w base e v xs)
    (hbytes : (xs.length + 1) * bytes ≤ 140737488355328) (hb0 : 0 < bytes) (hbase : base ≤ w.heap.size)
    (h : ∀ v' w', OwnV w' base e v' (xs ++ [y]) → Pushed w w' v v' → wpListIn F nF P ops Q rest (a.put o.dst v') w') :
    wpListIn F nF P ops Q (o :: rest) a W := by
  subst hW
  obtain ⟨i0, hi, hz0, hsz, hby⟩ := info_parts hinfo
  have hlen : xs.length + 1 ≤ 140737488355328 := Nat.le_trans (Nat.le_mul_of_pos_right _ hb0) hbytes
  have hown' : OwnV (w.alloc (.cells #[y] e)) base e v xs := hown.below ((Below.refl _ w).alloc (Nat.le_refl _) _)
  obtain ⟨v', w', hr, h2, h3⟩ := run_push_own (P := P) (w.alloc (.cells #[y] e)) base t o.type e i0 z bytes ht hi hz0 hsz hby hz1 v xs hown' ⟨w.heap.size, 0, none⟩ 1 y ((Blk.new w e [y]).cell 0) hy1 (by unfold maxLen; omega) hbytes (by simp; omega)
  refine wpListIn_plain hgd fun K hK => ?_
  have hn := h v' w' h2 (h3.drop (w0 := w) (fun g hg => (hown.base_le hg).2))
  unfold Oper.wpIn
  refine ⟨?_, ?_⟩
  · simp [Oper.about, ho, resolve, Target.leads, Sem.run_pure]
  · rw [Oper.semAt_plain F _ _ (by rw [ho]; intro c hc'; cases hc')]
    simp [execOp, ho, resolve, invoke, builtin, hs, hx, hr, Result.andThen]
    exact hK _ _ hn
theorem pushed_own {w w' : World} {v v' : Value} (h : Pushed w w' v v') {g : Nat} (hg : v'.ownBlock = some g) : v.ownBlock = some g ∨ w.heap.size ≤ g := by
  rcases h.block with h1 | ⟨k, h1, h2⟩
  · exact .inl (h1 ▸ hg)
  · rw [h1] at hg
    injection hg with hg
    exact .inr (hg ▸ h2)

/-- Rows of pairs, each in a block of its own. -/
structure LayE (w : World) (base : Nat) (ov : Value) (rows : List (List (Int × Int))) (cs : List Value) : Prop where
  ov_ : OwnV w base 32 ov cs
  len : cs.length = rows.length
  row : ∀ i, i < rows.length → OwnP w base 38 (cs.getD i undef) (rows.getD i [])
  dis : ∀ i j, i < rows.length → j < rows.length → i ≠ j → ∀ g, (cs.getD i undef).ownBlock = some g → (cs.getD j undef).ownBlock ≠ some g
theorem LayE.nil (w : World) (base : Nat) : LayE w base (.slice none 0 0) [] [] := ⟨OwnV.nil _ _ _, rfl, fun i hi => by simp at hi, fun i j hi => by simp at hi⟩
theorem LayE.fr {S : Nat → Prop} {w w' : World} {base : Nat} {ov : Value} {rows : List (List (Int × Int))} {cs : List Value} (h : LayE w base ov rows cs) (hf : Fr S w w') (h1 : ∀ g, ov.ownBlock = some g → ¬ S g) (h2 : ∀ i, i < rows.length → ∀ g, (cs.getD i undef).ownBlock = some g → ¬ S g) : LayE w' base ov rows cs :=
  ⟨h.ov_.fr hf h1, h.len, fun i hi => (h.row i hi).fr hf (h2 i hi), h.dis⟩
theorem LayE.below {w w' : World} {base : Nat} {ov : Value} {rows : List (List (Int × Int))} {cs : List Value} (h : LayE w base ov rows cs) (hb : Below w.heap.size w w') : LayE w' base ov rows cs := h.fr (S := fun _ => False) (Fr.of_below hb _) (fun _ _ h => h) (fun _ _ _ _ h => h)
theorem ownp_ne {w : World} {base T g Ba : Nat} {v : Value} {xs : List (Int × Int)} {T' : Nat} {cs : List Value} (h : OwnP w base T v xs) (hB : Blk w Ba T' cs) (hT : T ≠ T') (hg : v.ownBlock = some g) : g ≠ Ba := by
  rcases h.form with ⟨h4, h5⟩ | ⟨g', c', rest, h4, h5, h6, h7, h8⟩
  · rw [h4] at hg; cases hg
  · rw [h4] at hg
    injection hg with hg
    subst hg
    exact Blk.ne h6 hB hT
theorem ownv_ne {w : World} {base T g Ba : Nat} {v : Value} {xs : List Value} {T' : Nat} {cs : List Value} (h : OwnV w base T v xs) (hB : Blk w Ba T' cs) (hT : T ≠ T') (hg : v.ownBlock = some g) : g ≠ Ba := by
  rcases h.form with ⟨h4, h5⟩ | ⟨g', c', rest, h4, h5, h6, h7, h8⟩
  · rw [h4] at hg; cases hg
  · rw [h4] at hg
    injection hg with hg
    subst hg
    exact Blk.ne h6 hB hT
theorem LayE.push {w w' : World} {base : Nat} {ov ov' rv : Value} {rows : List (List (Int × Int))} {r : List (Int × Int)} {cs : List Value} (h : LayE w base ov rows cs) (hr : OwnP w base 38 rv r) (hd : ∀ i, i < rows.length → ∀ g, (cs.getD i undef).ownBlock = some g → rv.ownBlock ≠ some g)
    (ho : OwnV w' base 32 ov' (cs ++ [rv])) (hf : Fr (fun g => ov.ownBlock = some g) w w') : LayE w' base ov' (rows ++ [r]) (cs ++ [rv]) := by
  have e1 : ∀ i, i < rows.length → (cs ++ [rv]).getD i undef = cs.getD i undef := fun i hi => by simp [List.getD, List.getElem?_append_left (by rw [h.len]; exact hi : i < cs.length)]
  have e2 : (cs ++ [rv]).getD rows.length undef = rv := by rw [← h.len]; simp
  refine ⟨ho, by simp [h.len], fun i hi => ?_, fun i j hi hj hij g hg => ?_⟩
  · by_cases hi2 : i < rows.length
    · have e3 : (rows ++ [r]).getD i [] = rows.getD i [] := by simp [List.getD, List.getElem?_append_left hi2]
      rw [e1 i hi2, e3]
      exact (h.row i hi2).fr hf (fun g hg => own_ne (h.row i hi2) h.ov_ g hg)
    · have hi3 : i = rows.length := by simp at hi; omega
      subst hi3
      have e3 : (rows ++ [r]).getD rows.length [] = r := by simp
      rw [e2, e3]
      exact hr.fr hf (fun g hg => own_ne hr h.ov_ g hg)
  · simp only [List.length_append, List.length_cons, List.length_nil] at hi hj
    by_cases hi2 : i < rows.length
    · rw [e1 i hi2] at hg
      by_cases hj2 : j < rows.length
      · rw [e1 j hj2]
        exact h.dis i j hi2 hj2 hij g hg
      · rw [show j = rows.length from by omega, e2]
        exact hd i hi2 g hg
    · rw [show i = rows.length from by omega, e2] at hg
      rw [e1 j (by omega)]
      intro hc
      exact hd j (by omega) g hc hg
end Go.Proofs.Ytpglocgfdonmaaa

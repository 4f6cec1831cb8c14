/-
  Rows that are made and written place by place. No program in sight.
-/
import Derived.Test.YtcfbaildcocnhaaMem
import Derived.OwnWalk
import Derived.Deep.OwnRows
set_option linter.unusedVariables false
namespace Go.Proofs.Ytcfbaildcocnhaa
open Go.RowKit

/-- The first k of the new, the others of the old. -/
def upd (k : Nat) (new old : List Int) : List Int := new.take k ++ old.drop k
theorem upd_zero (new old : List Int) : upd 0 new old = old := by simp [upd]
theorem upd_all (new old : List Int) (h : new.length = old.length) : upd old.length new old = new := by
  unfold upd; rw [List.drop_length, ← h, List.take_length]; simp
theorem upd_length (k : Nat) (new old : List Int) (h : new.length = old.length) : (upd k new old).length = old.length := by simp [upd]; omega
theorem upd_get (k : Nat) (new old : List Int) (h : new.length = old.length) (hk : k < old.length) : (upd k new old)[k]? = some (old.getD k 0) := by
  unfold upd
  rw [List.getElem?_append_right (by simp; omega)]
  have : k - (new.take k).length = 0 := by simp; omega
  rw [this]
  simp [List.getD, hk]
theorem upd_set (k : Nat) (new old : List Int) (h : new.length = old.length) (hk : k < old.length) : (upd k new old).set k (new.getD k 0) = upd (k + 1) new old := by
  unfold upd
  have hl : (new.take k).length = k := by simp; omega
  rw [List.set_append_right _ _ (by omega), hl, Nat.sub_self, take_snocI new k (by omega)]
  rw [List.drop_eq_getElem_cons hk, List.set_cons_zero, List.append_assoc, List.singleton_append]
theorem blk_upd_cell {w : World} {g T : Nat} {kd : IntKind} {k : Nat} {new old : List Int} {r : List Value} (h : Blk w g T ((upd k new old).map (Value.int kd) ++ r)) (hl : new.length = old.length) (hk : k < old.length) :
    w.cell? ⟨g, k, none⟩ = some (.int kd (old.getD k 0)) := by
  rw [h.cell, List.getElem?_append_left (by simp [upd_length k new old hl]; exact hk), List.getElem?_map, upd_get k new old hl hk]; rfl
theorem blk_upd_set {w : World} {g T : Nat} {kd : IntKind} {k : Nat} {new old : List Int} {r : List Value} (h : Blk w g T ((upd k new old).map (Value.int kd) ++ r)) (hl : new.length = old.length) (hk : k < old.length) {y : Int} (hy : y = new.getD k 0) :
    Blk (w.setCell ⟨g, k, none⟩ (.int kd y)) g T ((upd (k + 1) new old).map (Value.int kd) ++ r) := by
  have h1 := h.set k (.int kd y)
  subst hy
  rw [List.set_append_left _ _ (by simp [upd_length k new old hl]; exact hk), ← List.map_set, upd_set k new old hl hk] at h1
  exact h1

theorem madeCells_one (z : Value) (n : Nat) : madeCells #[z] n = ((List.replicate n z)).toArray := by
  apply Array.ext
  · simp [size_madeCells]
  · intro i h1 h2
    simp [madeCells, Nat.mod_one]
/-- make([]T, n): a block of noughts. -/
theorem wpList_make_blk {P : Program} (w : World) {ops : Array Oper} {rest : List Oper} {o : Oper} {a : Act} {Q : Exit → Act → World → Prop}
    (hg : o.guard = none) (l c : Operand) (t : TypeId) (hop : o.op = Op.makeSlice t l c)
    (e : TypeId) (k : IntKind) (bytes : Nat) (ht : P.underlying t = some (.slice e)) (hinfo : (P.info? e).map (fun i => (i.zero, i.size, i.bytes)) = some (some (.int k 0), 1, bytes))
    (kl kc : IntKind) (n : Nat) (hl : a.eval l = .int kl (n : Int)) (hc : a.eval c = .int kc (n : Int)) (hbytes : bytes * n ≤ 281474976710656) (h63 : n ≤ 9223372036854775807)
    (hK : ∀ w', Blk w' w.heap.size e ((List.replicate n (0 : Int)).map (Value.int k)) → Fr (fun _ => False) w w' → wpList P ops Q rest (a.put o.dst (.slice (some ⟨w.heap.size, 0, none⟩) n n)) w') :
    wpList P ops Q (o :: rest) a w := by
  obtain ⟨i0, hi, hz0, hz1, hz2⟩ := info_parts hinfo
  refine wpList_make_row w hg l c t hop e i0 (.int k 0) ht hi hz0 hz1 rfl kl kc n hl hc (by rw [hz2]; exact hbytes) h63 (hK _ ?_ ((Fr.refl _ w).alloc _))
  have := Blk.new w e (List.replicate n (Value.int k 0))
  rw [madeCells_one]
  simpa using this
/-- make([]T, 0, n): an empty row of one's own. -/
theorem wpList_make_empty {P : Program} (w : World) {ops : Array Oper} {rest : List Oper} {o : Oper} {a : Act} {Q : Exit → Act → World → Prop}
    (hg : o.guard = none) (l c : Operand) (t : TypeId) (hop : o.op = Op.makeSlice t l c)
    (base : Nat) (e : TypeId) (k : IntKind) (bytes : Nat) (ht : P.underlying t = some (.slice e)) (hinfo : (P.info? e).map (fun i => (i.zero, i.size, i.bytes)) = some (some (.int k 0), 1, bytes))
    (kl kc : IntKind) (n : Nat) (hl : a.eval l = .int kl 0) (hc : a.eval c = .int kc (n : Int)) (hbytes : bytes * n ≤ 281474976710656) (h63 : n ≤ maxLen) (hbase : base ≤ w.heap.size)
    (hK : ∀ w', Own w' base e k (.slice (some ⟨w.heap.size, 0, none⟩) 0 n) [] → Fr (fun _ => False) w w' → wpList P ops Q rest (a.put o.dst (.slice (some ⟨w.heap.size, 0, none⟩) 0 n)) w') :
    wpList P ops Q (o :: rest) a w := by
  obtain ⟨i0, hi, hz0, hz1, hz2⟩ := info_parts hinfo
  exact wpList_make_own w hg l c t hop base e i0 (.int k 0) 1 ht hi hz0 hz1 kl kc n n hl hc rfl (by rw [hz2]; exact hbytes) h63 hbase
    (fun w' h1 h2 => hK w' h1 ((Fr.refl _ w).grown h2 (fun g hg => by cases hg)))

/-- make([]T, n, c). -/
theorem wpList_make_room {P : Program} (w : World) {ops : Array Oper} {rest : List Oper} {o : Oper} {a : Act} {Q : Exit → Act → World → Prop}
    (hg : o.guard = none) (l c : Operand) (t : TypeId) (hop : o.op = Op.makeSlice t l c)
    (e : TypeId) (k : IntKind) (bytes : Nat) (ht : P.underlying t = some (.slice e)) (hinfo : (P.info? e).map (fun i => (i.zero, i.size, i.bytes)) = some (some (.int k 0), 1, bytes))
    (kl kc : IntKind) (n m : Nat) (L C : Int) (hl : a.eval l = .int kl L) (hc : a.eval c = .int kc C) (hL : L = (n : Int)) (hC : C = (m : Int)) (hnm : n ≤ m) (hbytes : bytes * m ≤ 281474976710656) (h63 : m ≤ 9223372036854775807)
    (hK : ∀ w', Blk w' w.heap.size e ((List.replicate m (0 : Int)).map (Value.int k)) → Fr (fun _ => False) w w' → wpList P ops Q rest (a.put o.dst (.slice (some ⟨w.heap.size, 0, none⟩) n m)) w') :
    wpList P ops Q (o :: rest) a w := by
  obtain ⟨i0, hi, hz0, hz1, hz2⟩ := info_parts hinfo
  subst hL hC
  refine wpList_plain hg fun K hK' => ?_
  have hb2 : (i0.bytes : Int) * (m : Int) ≤ 281474976710656 := by
    have h : ((bytes * m : Nat) : Int) ≤ 281474976710656 := by omega
    rw [hz2]
    rwa [Int.natCast_mul] at h
  have hrun := run_make (P := P) w t e i0 (.int k 0) ht hi hz0 kl kc (n : Int) (m : Int) (by omega) (by omega) hb2 (by omega)
  simp only [Int.toNat_natCast, hz1, Nat.mul_one] at hrun
  unfold Oper.wp
  simp [execOp, hop, hl, hc, hrun, Result.andThen]
  refine hK' _ _ (hK _ ?_ ((Fr.refl _ w).alloc _))
  have := Blk.new w e (List.replicate m (Value.int k 0))
  rw [show (Value.int k 0).cells = #[Value.int k 0] from rfl, madeCells_one]
  simpa using this

/-- copy(d, s): the source fits into the destination. -/
theorem wpList_copy_rd {P : Program} (w : World) {ops : Array Oper} {rest : List Oper} {o : Oper} {a : Act} {Q : Exit → Act → World → Prop} (hgd : o.guard = none) (d s : Operand) (dT sT : TypeId)
    (ho : o.op = .call { callee := .builtin .copy, args := #[d, s], argTypes := #[dT, sT] }) (elem : TypeId) (hu : P.underlying dT = some (.slice elem)) (hsz : (P.info? elem).map (·.size) = some 1)
    (g dLen dCap : Nat) (sp : Option Addr) (sLen sCap : Nat) (hd : a.eval d = .slice (some ⟨g, 0, none⟩) dLen dCap) (hs : a.eval s = .slice sp sLen sCap)
    (k : IntKind) (T : TypeId) (all xs : List Int) (r : List Value) (hB : Blk w g T (all.map (Value.int k) ++ r)) (hx : Rd w k sp xs) (hl : sLen = xs.length) (hle : xs.length ≤ dLen) (hda : dLen ≤ all.length)
    (h : ∀ w', Blk w' g T ((xs ++ all.drop xs.length).map (Value.int k) ++ r) → Fr (fun j => j = g) w w' → wpList P ops Q rest (a.put o.dst (goInt xs.length)) w') :
    wpList P ops Q (o :: rest) a w := by
  subst hl
  have hmin : Nat.min xs.length dLen = xs.length := Nat.min_eq_left hle
  by_cases h0 : xs.length = 0
  · obtain rfl : xs = [] := List.eq_nil_of_length_eq_zero h0
    exact wpList_copy_nothing hgd d s dT sT ho elem hu hsz _ _ _ _ _ _ hd hs (by simp) (h w (by simpa using hB) (Fr.refl _ _))
  · obtain ⟨b, off, rfl, _⟩ := hx 0 (by omega)
    have hcs : ∀ j v, (xs.map (Value.int k))[j]? = some v → w.cell? ((⟨b, off, none⟩ : Addr).add j) = some v := by
      intro j v hj
      have hj2 : j < xs.length := by
        have := (List.getElem?_eq_some_iff.1 hj).1
        simpa using this
      obtain ⟨b', off', hA, hc⟩ := hx j hj2
      injection hA with hA
      injection hA with h1 h2
      subst h1 h2
      have hv : v = .int k (xs.getD j 0) := by
        simp [List.getD, hj2] at hj ⊢; exact hj.symm
      rw [hv, ← hc]
      by_cases hz : j = 0
      · subst hz; simp [Addr.add]
      · simp [Addr.add, hz]
    refine wpList_copy_own hgd d s dT sT ho elem hu hsz g 0 dLen dCap ⟨b, off, none⟩ xs.length sCap hd hs _ T hB (xs.map (Value.int k)) (by simp [hmin]) hcs (by simp; omega) (fun v hv => by obtain ⟨z, _, rfl⟩ := List.mem_map.1 hv; rfl) ?_
    have hgoal := h (w.setRow g ((xs ++ all.drop xs.length).map (Value.int k) ++ r).toArray) (setRow_heap w g _ _ T _ hB)
      ⟨rfl, rfl, rfl, by simp [World.setRow], fun j hj hne => setRow_other w g j _ (fun e => hne e)⟩
    have e1 : (List.take 0 (all.map (Value.int k) ++ r).toArray.toList ++ (xs.map (Value.int k) ++ List.drop (0 + (xs.map (Value.int k)).length) (all.map (Value.int k) ++ r).toArray.toList)) = (xs ++ all.drop xs.length).map (Value.int k) ++ r := by
      simp [List.drop_append_of_le_length (show xs.length ≤ (all.map (Value.int k)).length by simp; omega)]
    rw [e1]
    simpa using hgoal

/-- append(v, xs...), the source no part of v's own block, or any; not empty. -/
theorem wpList_pushes {P : Program} (w : World) {ops : Array Oper} {rest : List Oper} {o : Oper} {a : Act} {Q : Exit → Act → World → Prop} (hgd : o.guard = none) (s x : Operand) (t : TypeId)
    (ho : o.op = Op.call { callee := Callee.builtin Builtin.append, args := #[s, x], argTypes := #[t, t] })
    (base : Nat) (e : TypeId) (k : IntKind) (bytes : Nat) (ht : P.underlying t = some (.slice e)) (hinfo : (P.info? e).map (fun i => (i.zero, i.size, i.bytes)) = some (some (.int k 0), 1, bytes))
    (v : Value) (xs : List Int) (hs : a.eval s = v) (hown : Own w base e k v xs) (b off m c : Nat) (ys : List Int) (hx : a.eval x = .slice (some ⟨b, off, none⟩) m c) (hm : m = ys.length) (hr : Rd w k (some ⟨b, off, none⟩) ys)
    (hbytes : (xs.length + ys.length) * bytes ≤ 140737488355328) (hb0 : 0 < bytes) (hbase : base ≤ w.heap.size)
    (h : ∀ v' w', Own w' base e k v' (xs ++ ys) → Fr (fun g => v.ownBlock = some g) w w' → wpList P ops Q rest (a.put o.dst v') w') :
    wpList P ops Q (o :: rest) a w := by
  subst hm
  obtain ⟨i0, hi, hz0, hz1, hz2⟩ := info_parts hinfo
  have hlen : xs.length + ys.length ≤ 140737488355328 := Nat.le_trans (Nat.le_mul_of_pos_right _ hb0) hbytes
  refine wpList_append_own w hgd s x t ho base e i0 (.int k 0) 1 bytes ht hi hz0 hz1 hz2 rfl (by decide) v xs.length (xs.map (Value.int k)) hs hown ⟨b, off, none⟩ ys.length c (ys.map (Value.int k)) hx (by simp)
    (fun j u hu => ?_) (fun u hu => by obtain ⟨z, _, rfl⟩ := List.mem_map.1 hu; rfl) (by unfold maxLen; omega) hbytes hbase (fun v' w' hown' hgrow _ => h v' w' ?_ ?_)
  · have hj2 : j < ys.length := by
      have := (List.getElem?_eq_some_iff.1 hu).1
      simpa using this
    obtain ⟨b', off', hA, hc⟩ := hr j hj2
    injection hA with hA
    injection hA with h1 h2
    subst h1 h2
    have hv : u = .int k (ys.getD j 0) := by
      simp [List.getD, hj2] at hu ⊢; exact hu.symm
    rw [hv, ← hc]
    by_cases hz : j = 0
    · subst hz; simp [Addr.add]
    · simp [Addr.add, hz]
  · unfold Own; simpa using hown'
  · exact (Fr.refl _ w).grown hgrow (fun g hg => .inl hg)
/-- append(v, xs...) of nothing. -/
theorem run_append_empty {P : Program} (w : World) (base : Nat) (t ty e : TypeId) (i : TypeInfo) (size : Nat) (ht : P.underlying t = some (.slice e)) (hi : P.info? e = some i)
    (v : Value) (n : Nat) (xs : List Value) (hown : w.ownsRow base e size v n xs) (A : Option Addr) (c : Nat) :
    (Builtin.append_ #[t, t] ty #[v, .slice A 0 c]).run P w = .ok v w := by
  rcases hown.2 with ⟨rfl, rfl⟩ | ⟨g, cap, cur, rfl, _, _, hnc, _⟩
  · cases A <;> simp [Builtin.append_, run_underlying ht, sizeOf, typeInfo, hi, Builtin.lenOf, Builtin.firstCells, loadCells, loadCellsFrom]
  · cases A <;> simp [Builtin.append_, run_underlying ht, sizeOf, typeInfo, hi, Builtin.lenOf, Builtin.firstCells, hnc, storeCells, loadCells, loadCellsFrom]
/-- append(v, xs...), the source any row of numbers, empty and nil too. -/
theorem wpList_pushes_any {P : Program} (w : World) {ops : Array Oper} {rest : List Oper} {o : Oper} {a : Act} {Q : Exit → Act → World → Prop} (hgd : o.guard = none) (s x : Operand) (t : TypeId)
    (ho : o.op = Op.call { callee := Callee.builtin Builtin.append, args := #[s, x], argTypes := #[t, t] })
    (base : Nat) (e : TypeId) (k : IntKind) (bytes : Nat) (ht : P.underlying t = some (.slice e)) (hinfo : (P.info? e).map (fun i => (i.zero, i.size, i.bytes)) = some (some (.int k 0), 1, bytes))
    (v : Value) (xs : List Int) (hs : a.eval s = v) (hown : Own w base e k v xs) (A : Option Addr) (m c : Nat) (ys : List Int) (hx : a.eval x = .slice A m c) (hm : m = ys.length) (hr : Rd w k A ys)
    (hbytes : (xs.length + ys.length) * bytes ≤ 140737488355328) (hb0 : 0 < bytes) (hbase : base ≤ w.heap.size)
    (h : ∀ v' w', Own w' base e k v' (xs ++ ys) → Fr (fun g => v.ownBlock = some g) w w' → wpList P ops Q rest (a.put o.dst v') w') :
    wpList P ops Q (o :: rest) a w := by
  by_cases h0 : ys.length = 0
  · obtain rfl : ys = [] := List.eq_nil_of_length_eq_zero h0
    rw [List.length_nil] at hm
    subst hm
    obtain ⟨i0, hi, _, _, _⟩ := info_parts hinfo
    refine wpList_plain hgd fun K hK => ?_
    have hrun := run_append_empty (P := P) w base t o.type e i0 1 ht hi v xs.length (xs.map (Value.int k)) hown A c
    have hn := h v w (by simpa using hown) (Fr.refl _ _)
    unfold Oper.wp execOp
    simp only [ho, resolve, invoke, builtin, Sem.run_bind, Sem.run_pure, Result.andThen_ok, List.map_toArray, List.map_cons, List.map_nil, hs, hx, hrun]
    exact hK _ _ hn
  · obtain ⟨b, off, rfl, _⟩ := hr 0 (by omega)
    exact wpList_pushes w hgd s x t ho base e k bytes ht hinfo v xs hs hown b off m c ys hx hm hr hbytes hb0 hbase h
end Go.Proofs.Ytcfbaildcocnhaa

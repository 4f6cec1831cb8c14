/-
  Small laws on memory: rows of whole numbers that are read, owned, written; what a call leaves as it was. No program in sight.
-/
import Derived.Test.YtcfbaildcocnhaaNoiseExps
import Derived.WalkKit
import Derived.Below
import Derived.Deep.Draws
import Derived.Lib.Hide
import Derived.Laws.CopyOwn
set_option linter.unusedVariables false
namespace Go.Proofs.Ytcfbaildcocnhaa
open Go.RowKit

/-! ### the frame -/
/-- All but the blocks of S is as it was. -/
structure Fr (S : Nat → Prop) (w w' : World) : Prop where
  os : w'.os = w.os
  tape : w'.tape = w.tape
  output : w'.output = w.output
  size : w.heap.size ≤ w'.heap.size
  block : ∀ k, k < w.heap.size → ¬ S k → w'.heap[k]? = w.heap[k]?

theorem Fr.refl (S : Nat → Prop) (w : World) : Fr S w w := ⟨rfl, rfl, rfl, Nat.le_refl _, fun _ _ _ => rfl⟩
theorem Fr.trans {S : Nat → Prop} {a b c : World} (h : Fr S a b) (k : Fr S b c) : Fr S a c :=
  ⟨k.os.trans h.os, k.tape.trans h.tape, k.output.trans h.output, Nat.le_trans h.size k.size, fun i hi hs => (k.block i (Nat.lt_of_lt_of_le hi h.size) hs).trans (h.block i hi hs)⟩
/-- What the second turned is new, or in S. -/
theorem Fr.then {S T : Nat → Prop} {a b c : World} (h : Fr S a b) (k : Fr T b c) (hT : ∀ i, T i → S i ∨ a.heap.size ≤ i) : Fr S a c :=
  ⟨k.os.trans h.os, k.tape.trans h.tape, k.output.trans h.output, Nat.le_trans h.size k.size, fun i hi hs =>
    (k.block i (Nat.lt_of_lt_of_le hi h.size) (fun ht => by rcases hT i ht with h1 | h1; exact hs h1; omega)).trans (h.block i hi hs)⟩
theorem Fr.mono {S T : Nat → Prop} {w w' : World} (h : Fr S w w') (hS : ∀ k, S k → T k) : Fr T w w' := ⟨h.os, h.tape, h.output, h.size, fun k hk ht => h.block k hk (fun hs => ht (hS k hs))⟩
theorem Fr.below {S : Nat → Prop} {w w' : World} {B : Nat} (h : Fr S w w') (hB : B ≤ w.heap.size) (hS : ∀ k, S k → B ≤ k) : Below B w w' :=
  ⟨h.os, h.tape, h.output, h.size, fun k hk => h.block k (by omega) (fun hs => by have := hS k hs; omega)⟩
theorem Fr.of_below {w w' : World} (h : Below w.heap.size w w') (S : Nat → Prop) : Fr S w w' := ⟨h.os, h.tape, h.output, h.size, fun k hk _ => h.block k hk⟩
theorem Fr.drewN {S : Nat → Prop} {a w : World} (h : Fr S a w) (n : Nat) : Fr S a (w.drewN n) := ⟨h.os, h.tape, h.output, h.size, h.block⟩
theorem Fr.drew {S : Nat → Prop} {a w : World} (h : Fr S a w) : Fr S a w.drew := ⟨h.os, h.tape, h.output, h.size, h.block⟩
theorem Fr.alloc {S : Nat → Prop} {a w : World} (h : Fr S a w) (o : Obj) : Fr S a (w.alloc o) :=
  h.trans ⟨rfl, rfl, rfl, by simp, fun k hk _ => Below.heap_alloc _ _ _ hk⟩
theorem Fr.setCell {S : Nat → Prop} {a w : World} (h : Fr S a w) {p : Addr} (hp : S p.block ∨ a.heap.size ≤ p.block) (u : Value) : Fr S a (w.setCell p u) :=
  ⟨h.os, h.tape, h.output, by simpa [World.setCell] using h.size, fun k hk hs => by
    rw [Below.heap_setCell _ _ _ _ (fun e => by subst e; rcases hp with hp | hp; exact hs hp; omega)]; exact h.block k hk hs⟩
theorem Fr.grown {S : Nat → Prop} {a w w' : World} {row : Option Nat} (h : Fr S a w) (hg : w.grownBy w' row) (hr : ∀ k, row = some k → S k ∨ a.heap.size ≤ k) : Fr S a w' :=
  ⟨hg.os.trans h.os, hg.tape.trans h.tape, hg.output.trans h.output, Nat.le_trans h.size hg.size, fun k hk hs =>
    (hg.block k (Nat.lt_of_lt_of_le hk h.size) (fun e => by rcases hr k e.symm with h1 | h1; exact hs h1; omega)).trans (h.block k hk hs)⟩

/-! ### a block's cells -/
def Blk (w : World) (g : Nat) (T : TypeId) (cs : List Value) : Prop := w.heap[g]? = some (.cells cs.toArray T (0, 0))
theorem Blk.lt {w : World} {g : Nat} {T : TypeId} {cs : List Value} (h : Blk w g T cs) : g < w.heap.size := (Array.getElem?_eq_some_iff.1 h).1
theorem Blk.cell {w : World} {g : Nat} {T : TypeId} {cs : List Value} (h : Blk w g T cs) (j : Nat) : w.cell? ⟨g, j, none⟩ = cs[j]? := by
  rw [cell_of_row w g j cs.toArray T (0, 0) h]; simp
theorem Blk.frozen {w : World} {g : Nat} {T : TypeId} {cs : List Value} (h : Blk w g T cs) (j : Nat) : w.frozen? ⟨g, j, none⟩ = false := by
  have h' : w.heap[g]? = some (.cells cs.toArray T (0, 0)) := h
  simp [World.frozen?, h']
theorem Blk.fr {S : Nat → Prop} {w w' : World} {g : Nat} {T : TypeId} {cs : List Value} (h : Blk w g T cs) (hf : Fr S w w') (hs : ¬ S g) : Blk w' g T cs := (hf.block g h.lt hs).trans h
theorem Blk.below {w w' : World} {g : Nat} {T : TypeId} {cs : List Value} (h : Blk w g T cs) {B : Nat} (hf : Below B w w') (hs : g < B) : Blk w' g T cs := (hf.block g hs).trans h
theorem Blk.alloc {w : World} {g : Nat} {T : TypeId} {cs : List Value} (h : Blk w g T cs) (o : Obj) : Blk (w.alloc o) g T cs := (Below.heap_alloc w o g h.lt).trans h
theorem Blk.drewN {w : World} {g : Nat} {T : TypeId} {cs : List Value} (h : Blk w g T cs) (n : Nat) : Blk (w.drewN n) g T cs := h
theorem Blk.set {w : World} {g : Nat} {T : TypeId} {cs : List Value} (h : Blk w g T cs) (j : Nat) (u : Value) : Blk (w.setCell ⟨g, j, none⟩ u) g T (cs.set j u) := by
  unfold Blk
  rw [heap_setCell_same w g j cs.toArray T u h]; simp
theorem Blk.other {w : World} {g : Nat} {T : TypeId} {cs : List Value} (h : Blk w g T cs) {p : Addr} (hp : g ≠ p.block) (u : Value) : Blk (w.setCell p u) g T cs := (Below.heap_setCell w p u g hp).trans h
theorem Blk.new (w : World) (T : TypeId) (cs : List Value) : Blk (w.alloc (.cells cs.toArray T)) w.heap.size T cs := heap_alloc_new w _
theorem Blk.new_at (w : World) (T : TypeId) (cs : List Value) {g : Nat} (h : g = w.heap.size) : Blk (w.alloc (.cells cs.toArray T)) g T cs := by subst h; exact Blk.new w T cs
theorem Blk.ne {w : World} {g g' : Nat} {T T' : TypeId} {cs cs' : List Value} (h : Blk w g T cs) (h' : Blk w g' T' cs') (hne : T ≠ T') : g ≠ g' := by
  rintro rfl
  have h1 : w.heap[g]? = some (.cells cs.toArray T (0, 0)) := h
  have h2 : w.heap[g]? = some (.cells cs'.toArray T' (0, 0)) := h'
  rw [h1] at h2
  injection h2 with h2
  injection h2 with _ h3 _
  exact hne h3

/-! ### rows of whole numbers, read -/
def Rd (w : World) (k : IntKind) (A : Option Addr) (xs : List Int) : Prop :=
  ∀ i, i < xs.length → ∃ b off, A = some ⟨b, off, none⟩ ∧ w.cell? ⟨b, off + i, none⟩ = some (.int k (xs.getD i 0))
/-- One element, under a name of its own. -/
theorem Rd.at {w : World} {k : IntKind} {A : Option Addr} {xs : List Int} (h : Rd w k A xs) (i : Nat) (hi : i < xs.length) : ∃ b off y, A = some ⟨b, off, none⟩ ∧ w.cell? ⟨b, off + i, none⟩ = some (.int k y) ∧ Hid (y = xs.getD i 0) := by
  obtain ⟨b, off, hA, hc⟩ := h i hi
  exact ⟨b, off, _, hA, hc, Lib.hid rfl⟩
theorem take_snocI (xs : List Int) (i : Nat) (h : i < xs.length) : xs.take (i + 1) = xs.take i ++ [xs.getD i 0] := by
  rw [List.take_add_one]; simp [List.getD, h]
theorem Rd.nil (w : World) (k : IntKind) (A : Option Addr) : Rd w k A [] := fun i h => by simp at h
theorem Rd.fr {S : Nat → Prop} {w w' : World} {k : IntKind} {A : Option Addr} {xs : List Int} (h : Rd w k A xs) (hf : Fr S w w') (hS : ∀ a, A = some a → ¬ S a.block) : Rd w' k A xs := fun i hi => by
  obtain ⟨b, off, hA, hc⟩ := h i hi
  refine ⟨b, off, hA, ?_⟩
  have hlt := World.block_lt_of_cell? w _ hc
  rw [World.cell?_of_block (w := w) (w' := w') (hf.block b hlt (hS _ hA))]; exact hc
theorem Rd.below {w w' : World} {k : IntKind} {A : Option Addr} {xs : List Int} (h : Rd w k A xs) (hb : Below w.heap.size w w') : Rd w' k A xs := fun i hi => by
  obtain ⟨b, off, hA, hc⟩ := h i hi
  have hlt := World.block_lt_of_cell? w _ hc
  exact ⟨b, off, hA, (hb.cell hlt).trans hc⟩
theorem Rd.lt {w : World} {k : IntKind} {b off : Nat} {xs : List Int} (h : Rd w k (some ⟨b, off, none⟩) xs) (h0 : 0 < xs.length) : b < w.heap.size := by
  obtain ⟨b', off', hA, hc⟩ := h 0 h0
  cases hA
  exact World.block_lt_of_cell? w _ hc
theorem Rd.take {w : World} {k : IntKind} {A : Option Addr} {xs : List Int} (h : Rd w k A xs) (n : Nat) : Rd w k A (xs.take n) := fun i hi => by
  obtain ⟨b, off, hA, hc⟩ := h i (by simp at hi; omega)
  refine ⟨b, off, hA, ?_⟩
  rw [hc]
  have hn : i < n := by simp at hi; omega
  simp [List.getD, hn]
/-- A cut from i on, as the model writes its address. -/
theorem Rd.drop {w : World} {k : IntKind} {A : Option Addr} {xs : List Int} (h : Rd w k A xs) (i : Nat) {A' : Option Addr} (hA' : ∀ b off, A = some ⟨b, off, none⟩ → i < xs.length → A' = some ⟨b, off + i, none⟩) : Rd w k A' (xs.drop i) := fun j hj => by
  simp at hj
  obtain ⟨b, off, hA, hc⟩ := h (i + j) (by omega)
  refine ⟨b, off + i, hA' b off hA (by omega), ?_⟩
  rw [Nat.add_assoc, hc]
  simp [List.getD]

/-! ### rows of the call's own -/
def Own (w : World) (base : Nat) (T : TypeId) (k : IntKind) (v : Value) (xs : List Int) : Prop := w.ownsRow base T 1 v xs.length (xs.map (Value.int k))
theorem Own.nil (w : World) (base : Nat) (T : TypeId) (k : IntKind) : Own w base T k (.slice none 0 0) [] := World.ownsRow_nil _ _ _ _
/-- nil, or the head of a block of its own. -/
theorem Own.form {w : World} {base : Nat} {T : TypeId} {k : IntKind} {v : Value} {xs : List Int} (h : Own w base T k v xs) :
    (v = .slice none 0 0 ∧ xs = []) ∨ ∃ g c rest, v = .slice (some ⟨g, 0, none⟩) xs.length c ∧ base ≤ g ∧ Blk w g T (xs.map (Value.int k) ++ rest) ∧ xs.length + rest.length = c ∧ c ≤ maxLen := by
  obtain ⟨h1, h2⟩ := h
  rcases h2 with ⟨hv, hn⟩ | ⟨g, cap, cur, hv, hb, hg, hn, hm, hs, ht⟩
  · exact .inl ⟨hv, List.eq_nil_of_length_eq_zero hn⟩
  · refine .inr ⟨g, cap, cur.toList.drop xs.length, hv, hb, ?_, ?_, hm⟩
    · unfold Blk
      rw [hg]
      have : xs.map (Value.int k) ++ cur.toList.drop xs.length = cur.toList := by
        rw [← ht, Nat.mul_one]; exact List.take_append_drop _ _
      rw [this]
    · simp; omega
theorem Own.mk {w : World} {base : Nat} {T : TypeId} {k : IntKind} {g c : Nat} {xs : List Int} {rest : List Value} (hb : base ≤ g) (hB : Blk w g T (xs.map (Value.int k) ++ rest)) (hc : xs.length + rest.length = c) (hm : c ≤ maxLen) :
    Own w base T k (.slice (some ⟨g, 0, none⟩) xs.length c) xs :=
  ⟨by simp, .inr ⟨g, c, _, rfl, hb, hB, by omega, hm, by simp; omega, by simp⟩⟩
theorem Own.slice {w : World} {base : Nat} {T : TypeId} {k : IntKind} {v : Value} {xs : List Int} (h : Own w base T k v xs) : ∃ A c, v = .slice A xs.length c ∧ xs.length ≤ c ∧ c ≤ maxLen ∧ Rd w k A xs ∧ (∀ a, A = some a → base ≤ a.block) := by
  rcases h.form with ⟨rfl, rfl⟩ | ⟨g, c, rest, rfl, hb, hB, hc, hm⟩
  · exact ⟨none, 0, rfl, Nat.le_refl _, by decide, Rd.nil _ _ _, fun a h => by cases h⟩
  · refine ⟨_, c, rfl, by omega, hm, ?_, fun a h => by cases h; exact hb⟩
    intro i hi
    refine ⟨g, 0, rfl, ?_⟩
    rw [hB.cell]
    simp [List.getElem?_append, hi, List.getD]
theorem Own.len {w : World} {base : Nat} {T : TypeId} {k : IntKind} {v : Value} {xs : List Int} (h : Own w base T k v xs) : xs.length ≤ maxLen := by
  obtain ⟨A, c, _, h1, h2, _⟩ := h.slice; omega
theorem Own.fr {S : Nat → Prop} {w w' : World} {base : Nat} {T : TypeId} {k : IntKind} {v : Value} {xs : List Int} (h : Own w base T k v xs) (hf : Fr S w w') (hS : ∀ g, v.ownBlock = some g → ¬ S g) : Own w' base T k v xs := by
  rcases h.form with ⟨rfl, rfl⟩ | ⟨g, c, rest, rfl, hb, hB, hc, hm⟩
  · exact Own.nil _ _ _ _
  · exact Own.mk hb (hB.fr hf (hS g rfl)) hc hm
theorem Own.below {w w' : World} {base : Nat} {T : TypeId} {k : IntKind} {v : Value} {xs : List Int} (h : Own w base T k v xs) (hb : Below w.heap.size w w') : Own w' base T k v xs := h.fr (S := fun _ => False) (Fr.of_below hb _) (fun _ _ h => h)
theorem Own.alloc {w : World} {base : Nat} {T : TypeId} {k : IntKind} {v : Value} {xs : List Int} (h : Own w base T k v xs) (o : Obj) : Own (w.alloc o) base T k v xs := World.ownsRow.alloc h o
theorem Own.drewN {w : World} {base : Nat} {T : TypeId} {k : IntKind} {v : Value} {xs : List Int} (h : Own w base T k v xs) (n : Nat) : Own (w.drewN n) base T k v xs := h
theorem Own.lower {w : World} {base base' : Nat} {T : TypeId} {k : IntKind} {v : Value} {xs : List Int} (h : Own w base T k v xs) (hb : base' ≤ base) : Own w base' T k v xs := by
  rcases h.form with ⟨rfl, rfl⟩ | ⟨g, c, rest, rfl, hg, hB, hc, hm⟩
  · exact Own.nil _ _ _ _
  · exact Own.mk (by omega) hB hc hm
theorem Own.base_le {w : World} {base : Nat} {T : TypeId} {k : IntKind} {v : Value} {xs : List Int} (h : Own w base T k v xs) {g : Nat} (hg : v.ownBlock = some g) : base ≤ g ∧ g < w.heap.size := World.ownsRow.lt h g hg

/-- append(v, x): the goal's world is the one in which the new element's box lies. -/
theorem wpList_push {P : Program} (w : World) {W : World} {ops : Array Oper} {rest : List Oper} {o : Oper} {a : Act} {Q : Exit → Act → World → Prop} (hgd : o.guard = none) (s x : Operand) (t : TypeId)
    (ho : o.op = Op.call { callee := Callee.builtin Builtin.append, args := #[s, x], argTypes := #[t, t] })
    (base : Nat) (e : TypeId) (k : IntKind) (bytes : Nat) (ht : P.underlying t = some (.slice e)) (hinfo : (P.info? e).map (fun i => (i.zero, i.size, i.bytes)) = some (some (.int k 0), 1, bytes))
    (y : Int) (hW : W = w.alloc (.cells #[.int k y] e)) (v : Value) (xs : List Int) (hs : a.eval s = v) (hx : a.eval x = .slice (some ⟨w.heap.size, 0, none⟩) 1 1) (hown : Own w base e k v xs)
    (hbytes : (xs.length + 1) * bytes ≤ 140737488355328) (hb0 : 0 < bytes) (hbase : base ≤ w.heap.size)
    (h : ∀ v' w', Own w' base e k v' (xs ++ [y]) → Fr (fun g => v.ownBlock = some g) w w' → wpList P ops Q rest (a.put o.dst v') w') :
    wpList P ops Q (o :: rest) a W := by
  subst hW
  obtain ⟨i0, hi, hz0, hz1, hz2⟩ := info_parts hinfo
  have hlen : xs.length + 1 ≤ 140737488355328 := Nat.le_trans (Nat.le_mul_of_pos_right _ hb0) hbytes
  refine wpList_append_own (w.alloc (.cells #[.int k y] e)) hgd s x t ho base e i0 (.int k 0) 1 bytes ht hi hz0 hz1 hz2 rfl (by decide) v xs.length (xs.map (Value.int k)) hs (hown.alloc _) ⟨w.heap.size, 0, none⟩ 1 1 [.int k y] hx rfl
    (fun j u hu => ?_) (fun u hu => by simp at hu; subst hu; rfl) (by unfold maxLen; omega) hbytes (by simp; omega) (fun v' w' hown' hgrow _ => h v' w' ?_ ?_)
  · cases j with
    | zero =>
      have hn := Blk.new w e [.int k y]
      have := hn.cell 0
      simp at hu
      subst hu
      rw [show (⟨w.heap.size, 0, none⟩ : Addr).add 0 = ⟨w.heap.size, 0, none⟩ from rfl]
      exact this
    | succ j => simp at hu
  · unfold Own; simpa using hown'
  · exact ((Fr.refl _ w).alloc _).grown hgrow (fun g hg => .inl hg)
/-- append(v, x) at a step of a region that draws. -/
theorem step_push {P : Program} (w : World) {W : World} {ops : Array Oper} {o : Oper} {a : Act} {K : Act → World → Prop} {Q : Exit → Act → World → Prop} {E : Prop} (hgd : o.guard = none) (s x : Operand) (t : TypeId)
    (ho : o.op = Op.call { callee := Callee.builtin Builtin.append, args := #[s, x], argTypes := #[t, t] })
    (base : Nat) (e : TypeId) (k : IntKind) (bytes : Nat) (ht : P.underlying t = some (.slice e)) (hinfo : (P.info? e).map (fun i => (i.zero, i.size, i.bytes)) = some (some (.int k 0), 1, bytes))
    (y : Int) (hW : W = w.alloc (.cells #[.int k y] e)) (v : Value) (xs : List Int) (hs : a.eval s = v) (hx : a.eval x = .slice (some ⟨w.heap.size, 0, none⟩) 1 1) (hown : Own w base e k v xs)
    (hbytes : (xs.length + 1) * bytes ≤ 140737488355328) (hb0 : 0 < bytes) (hbase : base ≤ w.heap.size)
    (h : ∀ v' w', Own w' base e k v' (xs ++ [y]) → Fr (fun g => v.ownBlock = some g) w w' → K (a.put o.dst v') w') :
    if Region.wanted o (yielded ops a.tmps) = true then Oper.wp P o a W K Q else E := by
  have hw : Region.wanted o (yielded ops a.tmps) = true := by simp [Region.wanted, hgd]
  rw [if_pos hw]
  subst hW
  obtain ⟨i0, hi, hz0, hz1, hz2⟩ := info_parts hinfo
  have hlen : xs.length + 1 ≤ 140737488355328 := Nat.le_trans (Nat.le_mul_of_pos_right _ hb0) hbytes
  refine wp_append_own (w.alloc (.cells #[.int k y] e)) s x t ho base e i0 (.int k 0) 1 bytes ht hi hz0 hz1 hz2 rfl (by decide) v xs.length (xs.map (Value.int k)) hs (hown.alloc _) ⟨w.heap.size, 0, none⟩ 1 1 [.int k y] hx rfl
    (fun j u hu => ?_) (fun u hu => by simp at hu; subst hu; rfl) (by unfold maxLen; omega) hbytes (by simp; omega) (fun v' w' hown' hgrow _ => h v' w' ?_ ?_)
  · cases j with
    | zero =>
      have hn := Blk.new w e [.int k y]
      have := hn.cell 0
      simp at hu
      subst hu
      rw [show (⟨w.heap.size, 0, none⟩ : Addr).add 0 = ⟨w.heap.size, 0, none⟩ from rfl]
      exact this
    | succ j => simp at hu
  · unfold Own; simpa using hown'
  · exact ((Fr.refl _ w).alloc _).grown hgrow (fun g hg => .inl hg)
theorem Rd.draws {w : World} {k : IntKind} {A : Option Addr} {xs : List Int} (h : Rd w k A xs) (n : Nat) : Rd (w.drewN n) k A xs := h
end Go.Proofs.Ytcfbaildcocnhaa

/-
  Rows of things (a key and a place: two cells each), owned and read.
-/
import Derived.Test.YtpglocgfdonmaaaHl
import Derived.Test.YtpglocgfdonmaaaGw
import Derived.Test.YtpglocgfdonmaaaSq
set_option linter.unusedVariables false
set_option linter.unusedSimpArgs false
namespace Go.Proofs.Ytpglocgfdonmaaa
open Go.RowKit Go.Shelf

section
variable (KS : Nat → ByteArray) (PV : Nat → Int)
/-- The cells of the things of these numbers. -/
def thF : List Nat → List Value
  | [] => []
  | p :: ps => .string (KS p) :: .int .i64 (PV p) :: thF ps
theorem thF_len : ∀ ps, (thF KS PV ps).length = ps.length * 2
  | [] => rfl
  | p :: ps => by simp only [thF, List.length_cons, thF_len ps]; omega
theorem thF_app : ∀ (ps qs : List Nat), thF KS PV (ps ++ qs) = thF KS PV ps ++ thF KS PV qs
  | [], qs => rfl
  | p :: ps, qs => by simp only [List.cons_append, thF, thF_app ps qs]
theorem thF_snoc (ps : List Nat) (p : Nat) : thF KS PV (ps ++ [p]) = thF KS PV ps ++ [.string (KS p), .int .i64 (PV p)] := thF_app KS PV ps [p]
theorem thF_at : ∀ (ps : List Nat) (i : Nat), i < ps.length → (thF KS PV ps)[i * 2]? = some (.string (KS (ps.getD i 0))) ∧ (thF KS PV ps)[i * 2 + 1]? = some (.int .i64 (PV (ps.getD i 0)))
  | [], i, h => by simp at h
  | p :: ps, 0, h => by simp [thF]
  | p :: ps, i + 1, h => by
    have := thF_at ps i (by simpa using h)
    rw [show (i + 1) * 2 = i * 2 + 2 from by omega, show i * 2 + 2 + 1 = i * 2 + 1 + 2 from by omega]
    simpa [thF] using this
theorem thF_set : ∀ (ps : List Nat) (i q : Nat), i < ps.length → ((thF KS PV ps).set (i * 2) (.string (KS q))).set (i * 2 + 1) (.int .i64 (PV q)) = thF KS PV (ps.set i q)
  | [], i, q, h => by simp at h
  | p :: ps, 0, q, h => by simp [thF]
  | p :: ps, i + 1, q, h => by
    have := thF_set ps i q (by simpa using h)
    rw [show (i + 1) * 2 = i * 2 + 2 from by omega, show i * 2 + 2 + 1 = i * 2 + 1 + 2 from by omega]
    simpa [thF] using this
theorem thF_one : ∀ (ps : List Nat), ∀ u ∈ thF KS PV ps, u.oneCell' = true
  | [], u, h => by simp [thF] at h
  | p :: ps, u, h => by
    simp only [thF, List.mem_cons] at h
    rcases h with rfl | rfl | h
    · rfl
    · rfl
    · exact thF_one ps u h
def OwnT (w : World) (base : Nat) (v : Value) (ps : List Nat) : Prop := w.ownsRow base 54 2 v ps.length (thF KS PV ps)
def RdT (w : World) (A : Option Addr) (ps : List Nat) : Prop := ∀ i, i < ps.length → ∃ b off, A = some ⟨b, off, none⟩ ∧ b < w.heap.size ∧
  w.cell? ⟨b, off + i * 2, none⟩ = some (.string (KS (ps.getD i 0))) ∧ w.cell? ⟨b, off + i * 2 + 1, none⟩ = some (.int .i64 (PV (ps.getD i 0)))
end
variable {KS : Nat → ByteArray} {PV : Nat → Int}
theorem OwnT.nil (w : World) (base : Nat) : OwnT KS PV w base (.slice none 0 0) [] := World.ownsRow_nil _ _ _ _
theorem RdT.below {w w' : World} {A : Option Addr} {ps : List Nat} (h : RdT KS PV w A ps) (hb : Below w.heap.size w w') : RdT KS PV w' A ps := fun i hi => by
  obtain ⟨b, off, hA, hlt, h0, h1⟩ := h i hi
  exact ⟨b, off, hA, Nat.lt_of_lt_of_le hlt hb.size, (hb.cell (p := ⟨b, _, none⟩) hlt).trans h0, (hb.cell (p := ⟨b, _, none⟩) hlt).trans h1⟩
theorem OwnT.slice {w : World} {base : Nat} {v : Value} {ps : List Nat} (h : OwnT KS PV w base v ps) : ∃ A c, v = .slice A ps.length c ∧ RdT KS PV w A ps := by
  have hc := fun (g : Nat) (hg : v.ownBlock = some g) => World.ownsRow.cells h hg
  have hlt := World.ownsRow.lt h
  rcases h.2 with ⟨rfl, h0⟩ | ⟨g, cap, cur, rfl, _⟩
  · exact ⟨none, 0, by rw [h0], fun i hi => by omega⟩
  · refine ⟨some ⟨g, 0, none⟩, cap, rfl, fun i hi => ?_⟩
    obtain ⟨e0, e1⟩ := thF_at KS PV ps i hi
    refine ⟨g, 0, rfl, (hlt g rfl).2, ?_, ?_⟩
    · have := hc g rfl (i * 2) _ e0
      rw [addN] at this
      exact this
    · have := hc g rfl (i * 2 + 1) _ e1
      rw [addN] at this
      exact this
theorem OwnT.form {w : World} {base : Nat} {v : Value} {ps : List Nat} (h : OwnT KS PV w base v ps) :
    (v = .slice none 0 0 ∧ ps = []) ∨ ∃ g c rest, v = .slice (some ⟨g, 0, none⟩) ps.length c ∧ base ≤ g ∧ Blk w g 54 (thF KS PV ps ++ rest) ∧ ps.length * 2 + rest.length = c * 2 ∧ c ≤ maxLen := by
  obtain ⟨h1, h2⟩ := h
  rcases h2 with ⟨hv, hn⟩ | ⟨g, cap, cur, hv, hb, hg, hn, hm, hs, ht⟩
  · exact .inl ⟨hv, List.eq_nil_of_length_eq_zero hn⟩
  · refine .inr ⟨g, cap, cur.toList.drop (ps.length * 2), hv, hb, ?_, ?_, hm⟩
    · unfold Blk
      rw [hg]
      have : thF KS PV ps ++ cur.toList.drop (ps.length * 2) = cur.toList := by
        rw [← ht]; exact List.take_append_drop _ _
      rw [this]
    · simp; omega
theorem OwnT.mk {w : World} {base : Nat} {g c : Nat} {ps : List Nat} {rest : List Value} (hb : base ≤ g) (hB : Blk w g 54 (thF KS PV ps ++ rest)) (hc : ps.length * 2 + rest.length = c * 2) (hm : c ≤ maxLen) :
    OwnT KS PV w base (.slice (some ⟨g, 0, none⟩) ps.length c) ps :=
  ⟨thF_len KS PV ps, .inr ⟨g, c, _, rfl, hb, hB, by omega, hm, by simp [thF_len]; omega, by simp [thF_len]⟩⟩
theorem OwnT.fr {S : Nat → Prop} {w w' : World} {base : Nat} {v : Value} {ps : List Nat} (h : OwnT KS PV w base v ps) (hf : Fr S w w') (hS : ∀ g, v.ownBlock = some g → ¬ S g) : OwnT KS PV w' base v ps := by
  have hlt := World.ownsRow.lt h
  refine ⟨h.1, ?_⟩
  rcases h.2 with hn | ⟨g, cap, cur, rfl, hb, hgg, rest⟩
  · exact .inl hn
  · exact .inr ⟨g, cap, cur, rfl, hb, (hf.block g (hlt g rfl).2 (hS g rfl)).trans hgg, rest⟩
theorem OwnT.below {w w' : World} {base : Nat} {v : Value} {ps : List Nat} (h : OwnT KS PV w base v ps) (hb : Below w.heap.size w w') : OwnT KS PV w' base v ps := h.fr (S := fun _ => False) (Fr.of_below hb _) (fun _ _ h => h)
theorem OwnT.alloc {w : World} {base : Nat} {v : Value} {ps : List Nat} (h : OwnT KS PV w base v ps) (o : Obj) : OwnT KS PV (w.alloc o) base v ps := World.ownsRow.alloc h o
theorem OwnT.drew {w : World} {base : Nat} {v : Value} {ps : List Nat} (h : OwnT KS PV w base v ps) : OwnT KS PV w.drew base v ps := h
theorem OwnT.base_le {w : World} {base : Nat} {v : Value} {ps : List Nat} (h : OwnT KS PV w base v ps) {g : Nat} (hg : v.ownBlock = some g) : base ≤ g ∧ g < w.heap.size := World.ownsRow.lt h g hg
theorem OwnT.lower {w : World} {base base' : Nat} {v : Value} {ps : List Nat} (h : OwnT KS PV w base v ps) (hb : base' ≤ base) : OwnT KS PV w base' v ps := by
  rcases h.form with ⟨rfl, rfl⟩ | ⟨g, c, rest, rfl, hg, hB, hc, hm⟩
  · exact OwnT.nil _ _
  · exact OwnT.mk (by omega) hB hc hm
theorem OwnT.own {β : Type} (base : Nat) (v : Value) (f : β → List Nat) : Go.Own (fun s W => OwnT KS PV W base v (f s)) := fun s X Y row hs hg hrow => by
  rcases OwnT.form hs with ⟨h1, h2⟩ | ⟨g, c, rest, h1, hb, hB, hc, hm⟩
  · subst h1; show OwnT KS PV Y base _ (f s); rw [h2]; exact OwnT.nil _ _
  · have h3 := blk_own g 54 (fun (_ : Unit) => thF KS PV (f s) ++ rest) () X Y row hB hg hrow
    subst h1
    exact OwnT.mk hb h3 hc hm
theorem info54 : (Try.prog.info? 54).map (fun i => (i.zero, i.size, i.bytes)) = some (some (.agg #[.string ByteArray.empty, .int .i64 0]), 2, 24) := by kernel_rfl
/-- append(v, x). -/
theorem wpList_pushT (w : World) {W : World} {ops : Array Oper} {rest : List Oper} {o : Oper} {a : Act} {Q : Exit → Act → World → Prop} (hgd : o.guard = none) (s x : Operand)
    (ho : o.op = Op.call { callee := Callee.builtin Builtin.append, args := #[s, x], argTypes := #[52, 52] })
    (base : Nat) (p : Nat) (hW : W = w.alloc (.cells #[.string (KS p), .int .i64 (PV p)] 54)) (v : Value) (ps : List Nat) (hs : a.eval s = v) (hx : a.eval x = .slice (some ⟨w.heap.size, 0, none⟩) 1 1) (hown : OwnT KS PV w base v ps)
    (hlen : (ps.length + 1) * 24 ≤ 140737488355328) (hbase : base ≤ w.heap.size)
    (h : ∀ v' w', OwnT KS PV w' base v' (ps ++ [p]) → Fr (fun g => v.ownBlock = some g) w w' → wpList Try.prog ops Q rest (a.put o.dst v') w') :
    wpList Try.prog ops Q (o :: rest) a W := by
  subst hW
  obtain ⟨i0, hi, hz0, hz1, hz2⟩ := info_parts info54
  refine wpList_append_own (w.alloc (.cells #[.string (KS p), .int .i64 (PV p)] 54)) hgd s x 52 ho base 54 i0 _ 2 24 Try.underlying52 hi hz0 hz1 hz2 rfl (by decide) v ps.length (thF KS PV ps) hs (World.ownsRow.alloc hown _) ⟨w.heap.size, 0, none⟩ 1 1 [.string (KS p), .int .i64 (PV p)] hx rfl
    (fun j u hu => ?_) (fun u hu => by simp at hu; rcases hu with rfl | rfl <;> rfl) (by unfold maxLen; omega) hlen (by simp; omega) (fun v' w' hown' hgrow _ => h v' w' ?_ ?_)
  · have hn := Blk.new w 54 [.string (KS p), .int .i64 (PV p)]
    rw [addN, Nat.zero_add]
    exact (hn.cell j).trans hu
  · unfold OwnT; rw [thF_snoc, List.length_append]; exact hown'
  · exact ((Fr.refl _ w).alloc _).grown hgrow (fun g hg => .inl hg)
/-- append(nil, l...), in code that ranges over functions. -/
theorem wpListIn_copyT {F : Fence} {nF : Nat} (w : World) {ops : Array Oper} {rest : List Oper} {o : Oper} {a : Act} {Q : Exit → Act → World → Prop} (hgd : o.guard = none) (s x : Operand)
    (ho : o.op = Op.call { callee := Callee.builtin Builtin.append, args := #[s, x], argTypes := #[52, 52] })
    (hs : a.eval s = .slice none 0 0) (A : Option Addr) (m c : Nat) (ps : List Nat) (hx : a.eval x = .slice A m c) (hm : m = ps.length) (hr : RdT KS PV w A ps) (hl : ps.length * 24 ≤ 140737488355328)
    (h : ∀ v' w', OwnT KS PV w' w.heap.size v' ps → Below w.heap.size w w' → wpListIn F nF Try.prog ops Q rest (a.put o.dst v') w') :
    wpListIn F nF Try.prog ops Q (o :: rest) a w := by
  subst hm
  obtain ⟨i0, hi, hz0, hz1, hz2⟩ := info_parts info54
  by_cases h0 : ps.length = 0
  · obtain rfl : ps = [] := List.eq_nil_of_length_eq_zero h0
    rw [List.length_nil] at hx
    have hrun := run_append_empty (P := Try.prog) w w.heap.size 52 o.type 54 i0 2 Try.underlying52 hi (.slice none 0 0) 0 [] (World.ownsRow_nil _ _ _ _) A c
    have hn := h _ w (OwnT.nil _ _) (Below.refl _ _)
    refine wpListIn_plain hgd fun K hK' => ?_
    unfold Oper.wpIn
    refine ⟨?_, ?_⟩
    · simp [Oper.about, ho, resolve, Target.leads, Sem.run_pure]
    · rw [Oper.semAt_plain F _ _ (by rw [ho]; intro c hc'; cases hc')]
      simp [execOp, ho, resolve, invoke, builtin, hs, hx, hrun, Result.andThen]
      exact hK' _ _ hn
  · obtain ⟨b, off, rfl, hb, _⟩ := hr 0 (by omega)
    refine wpListIn_append_own w hgd s x 52 ho w.heap.size 54 i0 _ 2 24 Try.underlying52 hi hz0 hz1 hz2 rfl (by decide) (.slice none 0 0) 0 [] hs (World.ownsRow_nil _ _ _ _) ⟨b, off, none⟩ ps.length c (thF KS PV ps) hx (thF_len _ _ _)
      (fun j u hu => ?_) (thF_one KS PV ps) (by unfold maxLen; omega) (by omega) (Nat.le_refl _) (fun v' w' hown' hgrow _ => h v' w' ?_ ?_)
    · have hj2 : j < ps.length * 2 := by
        have := (List.getElem?_eq_some_iff.1 hu).1
        rwa [thF_len] at this
      obtain ⟨b', off', hA, hlt, hc0, hc1⟩ := hr (j / 2) (by omega)
      injection hA with hA
      injection hA with h1 h2
      subst h1 h2
      obtain ⟨e0, e1⟩ := thF_at KS PV ps (j / 2) (by omega)
      rw [addN]
      have hjj : j = j / 2 * 2 ∨ j = j / 2 * 2 + 1 := by omega
      rcases hjj with hjj | hjj
      · rw [← hjj] at hc0 e0
        rw [hc0, ← e0, hu]
      · rw [show off + j / 2 * 2 + 1 = off + j from by omega] at hc1
        rw [← hjj] at e1
        rw [hc1, ← e1, hu]
    · unfold OwnT; simpa using hown'
    · exact (Fr.refl (fun _ => False) w).grown hgrow (fun g hg => by cases hg) |>.below (Nat.le_refl _) (fun _ h => h.elim)
theorem blkT_set {w : World} {g : Nat} {P : List Nat} {rest : List Value} (h : Blk w g 54 (thF KS PV P ++ rest)) (i q : Nat) (hi : i < P.length) :
    Blk ((w.setCell ⟨g, i * 2, none⟩ (.string (KS q))).setCell ⟨g, i * 2 + 1, none⟩ (.int .i64 (PV q))) g 54 (thF KS PV (P.set i q) ++ rest) := by
  have h1 := (Blk.set h (i * 2) (.string (KS q))).set (i * 2 + 1) (.int .i64 (PV q))
  rw [List.set_append_left _ _ (by rw [thF_len]; omega), List.set_append_left _ _ (by rw [List.length_set, thF_len]; omega), thF_set KS PV P i q hi] at h1
  exact h1
theorem blkT_cell {w : World} {g : Nat} {P : List Nat} {rest : List Value} (h : Blk w g 54 (thF KS PV P ++ rest)) (i p : Nat) (hp : P[i]? = some p) :
    w.cell? ⟨g, i * 2, none⟩ = some (.string (KS p)) ∧ w.cell? ⟨g, i * 2 + 1, none⟩ = some (.int .i64 (PV p)) := by
  have hi : i < P.length := (List.getElem?_eq_some_iff.1 hp).1
  obtain ⟨e0, e1⟩ := thF_at KS PV P i hi
  rw [List.getD_eq_getElem?_getD, hp, Option.getD_some] at e0 e1
  rw [h.cell, h.cell, List.getElem?_append_left (by rw [thF_len]; omega), List.getElem?_append_left (by rw [thF_len]; omega)]
  exact ⟨e0, e1⟩
end Go.Proofs.Ytpglocgfdonmaaa

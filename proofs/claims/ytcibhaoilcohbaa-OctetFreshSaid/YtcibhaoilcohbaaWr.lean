/-
  Walks: a writer of the program, and one of the document.
-/
import Derived.Test.YtcibhaoilcohbaaSt
set_option linter.unusedVariables false
set_option linter.unusedSimpArgs false
namespace Go.Proofs.Ytcibhaoilcohbaa
open Go.RowKit

/-- append(v, xs...), with what it does to the blocks. -/
theorem run_pushes_grew {P : Program} (w : World) (base : Nat) (t ty e : TypeId) (k : IntKind) (bytes : Nat) (ht : P.underlying t = some (.slice e)) (hinfo : (P.info? e).map (fun i => (i.zero, i.size, i.bytes)) = some (some (.int k 0), 1, bytes))
    (v : Value) (xs : List Int) (hown : Own w base e k v xs) (A : Option Addr) (m c : Nat) (ys : List Int) (hm : m = ys.length) (hr : Rd w k A ys)
    (hbytes : (xs.length + ys.length) * bytes ≤ 140737488355328) (hb0 : 0 < bytes) (hbase : base ≤ w.heap.size) :
    ∃ v' w', (Builtin.append_ #[t, t] ty #[v, .slice A m c]).run P w = .ok v' w' ∧ Own w' base e k v' (xs ++ ys) ∧ Grew w w' v v' := by
  subst hm
  obtain ⟨i0, hi, hz0, hz1, hz2⟩ := info_parts hinfo
  have hlen : xs.length + ys.length ≤ 140737488355328 := Nat.le_trans (Nat.le_mul_of_pos_right _ hb0) hbytes
  by_cases h0 : ys.length = 0
  · obtain rfl : ys = [] := List.eq_nil_of_length_eq_zero h0
    exact ⟨v, w, run_append_empty (P := P) w base t ty e i0 1 ht hi v xs.length (xs.map (Value.int k)) hown A c, by simpa using hown, Fr.refl _ _, .inl rfl⟩
  · obtain ⟨b, off, rfl, _⟩ := hr 0 (by omega)
    obtain ⟨v', w', h1, h2, h3⟩ := run_pushes_own (P := P) w base t ty e i0 (.int k 0) bytes ht hi hz0 hz1 hz2 rfl v (xs.map (Value.int k)) hown.toV ⟨b, off, none⟩ c (ys.map (Value.int k))
      (fun j u hu => by
        have hj2 : j < ys.length := by
          have := (List.getElem?_eq_some_iff.1 hu).1
          simpa using this
        obtain ⟨b', off', hA, hc⟩ := hr j hj2
        injection hA with hA
        injection hA with h1 h2
        subst h1 h2
        have hv : u = .int k (ys.getD j 0) := by
          simp [List.getD, hj2] at hu ⊢; exact hu.symm
        rw [hv, ← hc]
        by_cases hz : j = 0
        · subst hz; simp [Addr.add]
        · simp [Addr.add, hz]) (fun u hu => by obtain ⟨z, _, rfl⟩ := List.mem_map.1 hu; rfl) (by simp; omega) (by simp; unfold maxLen; omega) (by simpa using hbytes) hbase
    rw [List.length_map] at h1
    exact ⟨v', w', h1, OwnV.toOwn (by rw [List.map_append]; exact h2), h3⟩

theorem wpList_pushes_grew {P : Program} (w : World) {ops : Array Oper} {rest : List Oper} {o : Oper} {a : Act} {Q : Exit → Act → World → Prop} (hgd : o.guard = none) (s x : Operand) (t : TypeId)
    (ho : o.op = Op.call { callee := Callee.builtin Builtin.append, args := #[s, x], argTypes := #[t, t] })
    (base : Nat) (e : TypeId) (k : IntKind) (bytes : Nat) (ht : P.underlying t = some (.slice e)) (hinfo : (P.info? e).map (fun i => (i.zero, i.size, i.bytes)) = some (some (.int k 0), 1, bytes))
    (v : Value) (xs : List Int) (hs : a.eval s = v) (hown : Own w base e k v xs) (A : Option Addr) (m c : Nat) (ys : List Int) (hx : a.eval x = .slice A m c) (hm : m = ys.length) (hr : Rd w k A ys)
    (hbytes : (xs.length + ys.length) * bytes ≤ 140737488355328) (hb0 : 0 < bytes) (hbase : base ≤ w.heap.size)
    (h : ∀ v' w', Own w' base e k v' (xs ++ ys) → Grew w w' v v' → wpList P ops Q rest (a.put o.dst v') w') :
    wpList P ops Q (o :: rest) a w :=
  wpList_plain hgd fun K hK => by
    obtain ⟨v', w', h1, h2, h3⟩ := run_pushes_grew (P := P) w base t o.type e k bytes ht hinfo v xs hown A m c ys hm hr hbytes hb0 hbase
    have hn := h v' w' h2 h3
    unfold Oper.wp execOp
    simp only [ho, resolve, invoke, builtin, Sem.run_bind, Sem.run_pure, Result.andThen_ok, List.map_toArray, List.map_cons, List.map_nil, hs, hx, h1]
    exact hK _ _ hn

/-- A writer of that type at p, its row in block g: so many bytes, those laid, and its error. -/
def Wtr (T : TypeId) (w : World) (p g z : Nat) (bs : List Int) (e : Int) : Prop :=
  ∃ v, Blk w p T [.int .i64 z, v, .int .i64 e] ∧ Own w 0 5 .u8 v bs ∧ (∀ j, v.ownBlock = some j → j = g) ∧ (v.ownBlock ≠ some p) ∧ g < w.heap.size
theorem Wtr.lt {T : TypeId} {w : World} {p g z : Nat} {bs : List Int} {e : Int} (h : Wtr T w p g z bs e) : p < w.heap.size ∧ g < w.heap.size := by
  obtain ⟨v, hB, _, _, _, hg⟩ := h
  exact ⟨hB.lt, hg⟩
theorem Wtr.fr {T : TypeId} {S : Nat → Prop} {w w' : World} {p g z : Nat} {bs : List Int} {e : Int} (h : Wtr T w p g z bs e) (hf : Fr S w w') (hp : ¬ S p) (hg : ¬ S g) : Wtr T w' p g z bs e := by
  obtain ⟨v, hB, hO, h1, h2, h3⟩ := h
  exact ⟨v, hB.fr hf hp, hO.fr hf (fun j hj hk => hg (h1 j hj ▸ hk)), h1, h2, Nat.lt_of_lt_of_le h3 hf.size⟩
theorem Wtr.below {T : TypeId} {w w' : World} {p g z : Nat} {bs : List Int} {e : Int} (h : Wtr T w p g z bs e) (hb : Below w.heap.size w w') : Wtr T w' p g z bs e :=
  h.fr (S := fun _ => False) (Fr.of_below hb _) (fun h => h) (fun h => h)
theorem Wtr.drewN {T : TypeId} {w : World} {p g z : Nat} {bs : List Int} {e : Int} (h : Wtr T w p g z bs e) (q : Nat) : Wtr T (w.drewN q) p g z bs e := h
/-- What bytes laid do. -/
def wL (z : Nat) (bs : List Int) (e : Int) (ys : List Int) : List Int := if e = 0 ∧ ys.length + bs.length ≤ z then bs ++ ys else bs
def wE (z : Nat) (bs : List Int) (e : Int) (ys : List Int) : Int := if e = 0 then (if ys.length + bs.length ≤ z then 0 else 21) else e
/-- Behind a step of a writer. -/
def Wrote (T : TypeId) (w : World) (p g z : Nat) (bs : List Int) (e : Int) (w' : World) : Prop :=
  ∃ g', Wtr T w' p g' z bs e ∧ (g' = g ∨ w.heap.size ≤ g') ∧ Fr (fun j => j = p ∨ j = g) w w'

theorem wrote_mk {T : TypeId} {w w' : World} {p g z : Nat} {bs : List Int} {e : Int} {v : Value} (hB : Blk w' p T [.int .i64 z, v, .int .i64 e]) (hO : Own w' 0 5 .u8 v bs) (hp : v.ownBlock ≠ some p) (hf : Fr (fun j => j = p ∨ j = g) w w')
    (hv : ∀ j, v.ownBlock = some j → j = g ∨ w.heap.size ≤ j) (hg : g < w.heap.size) : Wrote T w p g z bs e w' := by
  cases hvb : v.ownBlock with
  | none => exact ⟨g, ⟨v, hB, hO, (fun j hj => by rw [hvb] at hj; cases hj), hp, Nat.lt_of_lt_of_le hg hf.size⟩, .inl rfl, hf⟩
  | some j => exact ⟨j, ⟨v, hB, hO, (fun i hi => by rw [hvb] at hi; injection hi with hi; exact hi.symm), hp, (hO.base_le hvb).2⟩, hv j hvb, hf⟩
theorem wrote_refl {T : TypeId} {w w' : World} {p g z : Nat} {bs : List Int} {e : Int} (h : Wtr T w p g z bs e) (hf : Fr (fun j => False) w w') : Wrote T w p g z bs e w' :=
  ⟨g, h.fr hf id id, .inl rfl, hf.mono (fun _ h => h.elim)⟩

set_option maxHeartbeats 1000000 in
theorem wbytes_any (p g z : Nat) (bs : List Int) (e : Int) (A : Option Addr) (n c : Nat) (ys : List Int) (w : World) (h : Wtr 111 w p g z bs e) (hn : n = ys.length) (hr : Rd w .u8 A ys) (hz : z ≤ 2000000) (hbs : bs.length ≤ z) (hl : n ≤ 140737488355328) :
    Calls Try.prog 45 #[.pointer (some ⟨p, 0, none⟩), .slice A n c] w fun e' w' => (∃ u, e' = .returned u) ∧ Hid (Wrote 111 w p g z (wL z bs e ys) (wE z bs e ys) w') := by
  have H := Lib.hid h
  obtain ⟨v, hB, hO, h1, h2, h3⟩ := h
  have c0 : w.cell? ⟨p, 0, none⟩ = some (.int .i64 z) := hB.cell 0
  have c1 : w.cell? ⟨p, 1, none⟩ = some v := hB.cell 1
  have c2 : w.cell? ⟨p, 2, none⟩ = some (.int .i64 e) := hB.cell 2
  have f1 := hB.frozen 1
  have f2 := hB.frozen 2
  have HB := Lib.hid hB
  have HO := Lib.hid hO
  have HG := Lib.hid h1
  have HP := Lib.hid h2
  have HGL := Lib.hid h3
  have HN := Lib.hid hn
  have HR := Lib.hid hr
  have HLB := Lib.hid hbs
  clear hB hO h1 h2 h3 hn hr hbs
  by_cases he : e = 0
  · subst he
    obtain ⟨l, hl'⟩ : ∃ l, l = bs.length := ⟨_, rfl⟩
    obtain ⟨A0, c9, hv, -, -, -, -⟩ := HO.out.slice
    have HV := Lib.hid hv
    rw [← hl'] at hv
    subst hv
    have HL := Lib.hid hl'
    clear hl'
    have HLZ : l ≤ z := by have := HLB.out; have := HL.out; omega
    have w1 : IntKind.i64.wrap ((z : Int) - (l : Int)) = (z : Int) - (l : Int) := by simp [IntKind.wrap, IntKind.bits, IntKind.signed]; omega
    go_enter Try.func45, Try.ntmps45
    go_wp2_with fail
    by_cases hfit : n + l ≤ z
    · have d1 : decide ((z : Int) - (l : Int) < (n : Int)) = false := decide_eq_false (by omega)
      go_quiet (fail)
      have HB' := Lib.hid (HB.out.drewN nq)
      have HO' := Lib.hid (HO.out.drewN nq)
      have HR' := Lib.hid (HR.out.draws nq)
      have HF' : Hid (Fr (fun j => j = p ∨ j = g) w (w.drewN nq)) := Lib.hid ((Fr.refl _ w).drewN nq)
      have b1 : (w.drewN nq).cell? ⟨p, 1, none⟩ = some (.slice A0 l c9) := HB'.out.cell 1
      generalize w.drewN nq = wa at HB' HO' HR' HF' b1
      clear c0 c1 c2 f1 f2 HB HO HR
      have HBY : Hid ((bs.length + ys.length) * 1 ≤ 140737488355328) := Lib.hid (by have := HLB.out; have := HN.out; have := HL.out; omega)
      go_wp2_with (show wpList _ _ _ ({ dst := some 35, op := _, type := _, pos := _, after := _, guard := _ } :: _) _ _; refine wpList_pushes_grew wa rfl (.tmp 33) (.tmp 34) 22 rfl 0 5 .u8 1 Try.underlying22 info5 (.slice A0 l c9) bs rfl HO'.out A n c ys rfl HN.out HR'.out HBY.out (by decide) (Nat.zero_le _) ?_; intro v' w' hown hgrew; obtain ⟨A2, c2, hv2, -, -, -, -⟩ := hown.slice; subst hv2; have HOW := Lib.hid hown; have HGR := Lib.hid hgrew; have HBW : Hid (Blk w' p 111 [.int .i64 z, .slice A0 l c9, .int .i64 0]) := Lib.hid (HB'.out.fr hgrew.1 HP.out); have k1 : w'.cell? ⟨p, 1, none⟩ = some (.slice A0 l c9) := HBW.out.cell 1; have kf1 := HBW.out.frozen 1; clear hown hgrew)
      first | go_end0 | refine bodyPost_ret (results_none rfl _ _ _) rfl ?_
      have hsz := HF'.out.size
      refine ⟨⟨_, rfl⟩, Lib.hid ?_⟩
      rw [show wL z bs 0 ys = bs ++ ys from if_pos ⟨rfl, by have := HN.out; have := HL.out; omega⟩, show wE z bs 0 ys = 0 from by unfold wE; rw [if_pos rfl, if_pos (by have := HN.out; have := HL.out; omega)]]
      have hp' : (Value.slice A2 (bs ++ ys).length c2).ownBlock ≠ some p := by
        rcases HGR.out.2 with h | ⟨j, h, hj⟩
        · rw [h]; exact HP.out
        · rw [h]; intro he; injection he with he; have := HB'.out.lt; omega
      exact wrote_mk (v := .slice A2 (bs ++ ys).length c2) (by rw [List.length_append]; exact HBW.out.set 1 _) (HOW.out.fr (fr_set _ p 1 _) (fun j hj hk => hp' (hk ▸ hj))) hp' (HF'.out.trans ((HGR.out.1.mono (fun j hj => .inr (HG.out j hj))).trans ((fr_set _ p 1 _).mono (fun j hj => .inl hj))))
        (fun j hj => by
          rcases HGR.out.2 with h | ⟨i, h, hi⟩
          · rw [h] at hj; exact .inl (HG.out j hj)
          · rw [h] at hj; injection hj with hj; right; omega) HGL.out
    · have d1 : decide ((z : Int) - (l : Int) < (n : Int)) = true := decide_eq_true (by omega)
      go_quiet (fail)
      go_wp2_with fail
      first | go_end0 | refine bodyPost_ret (results_none rfl _ _ _) rfl ?_
      refine ⟨⟨_, rfl⟩, Lib.hid ?_⟩
      rw [show wL z bs 0 ys = bs from if_neg (by have := HN.out; have := HL.out; omega), show wE z bs 0 ys = 21 from by unfold wE; rw [if_pos rfl, if_neg (by have := HN.out; have := HL.out; omega)]]
      exact wrote_mk (v := .slice A0 l c9) ((HB.out.drewN nq).set 2 _) ((HO.out.drewN nq).fr (fr_set _ p 2 _) (fun j hj hk => HP.out (hk ▸ hj))) HP.out (((Fr.refl _ w).drewN nq).trans ((fr_set _ p 2 _).mono (fun j hj => .inl hj))) (fun j hj => .inl (HG.out j hj)) HGL.out
  · go_enter Try.func45, Try.ntmps45
    go_wp2_with fail
    first | go_end0 | refine bodyPost_ret (results_none rfl _ _ _) rfl ?_
    refine ⟨⟨_, rfl⟩, Lib.hid ?_⟩
    rw [show wL z bs e ys = bs from if_neg (fun h => he h.1), show wE z bs e ys = e from if_neg he]
    exact wrote_refl H.out (Fr.refl _ _)
end Go.Proofs.Ytcibhaoilcohbaa

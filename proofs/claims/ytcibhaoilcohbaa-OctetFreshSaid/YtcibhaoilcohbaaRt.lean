/-
  Walks: the document's reader.
-/
import Derived.Test.YtcibhaoilcohbaaRs
import Derived.StillTailTactics
set_option linter.unusedVariables false
set_option linter.unusedSimpArgs false
namespace Go.Proofs.Ytcibhaoilcohbaa
open Go.RowKit

/-- The document's reader at p: its bytes, in block g, its place and its error. -/
def Rdf (w : World) (p g : Nat) (bs : List Int) (at_ : Nat) (e : Int) : Prop :=
  ∃ A c, Blk w p 107 [.slice A bs.length c, .int .i64 (at_ : Int), .int .i64 e] ∧ bs.length ≤ c ∧ c ≤ 9223372036854775807 ∧ Rd w .u8 A bs ∧ (∀ a, A = some a → a.block = g) ∧ (∀ a, A = some a → ¬ a.block = p) ∧ at_ ≤ bs.length ∧ g < w.heap.size
theorem Rdf.lt {w : World} {p g : Nat} {bs : List Int} {at_ : Nat} {e : Int} (h : Rdf w p g bs at_ e) : p < w.heap.size := by
  obtain ⟨A, c, hB, _⟩ := h
  exact hB.lt
theorem Rdf.fr {S : Nat → Prop} {w w' : World} {p g : Nat} {bs : List Int} {at_ : Nat} {e : Int} (h : Rdf w p g bs at_ e) (hf : Fr S w w') (hp : ¬ S p) (hg : ¬ S g) : Rdf w' p g bs at_ e := by
  obtain ⟨A, c, hB, h1, h2, hr, hn, h3, h4, h5⟩ := h
  exact ⟨A, c, hB.fr hf hp, h1, h2, hr.fr hf (fun a ha hk => hg (hn a ha ▸ hk)), hn, h3, h4, Nat.lt_of_lt_of_le h5 hf.size⟩
theorem Rdf.below {w w' : World} {p g : Nat} {bs : List Int} {at_ : Nat} {e : Int} (h : Rdf w p g bs at_ e) (hb : Below w.heap.size w w') : Rdf w' p g bs at_ e :=
  h.fr (S := fun _ => False) (Fr.of_below hb _) (fun h => h) (fun h => h)
theorem Rdf.drewN {w : World} {p g : Nat} {bs : List Int} {at_ : Nat} {e : Int} (h : Rdf w p g bs at_ e) (q : Nat) : Rdf (w.drewN q) p g bs at_ e := h
def okR (xs : List Int) (n e : Int) : Bool := decide (e = 0 ∧ 0 ≤ n ∧ n ≤ xs.length)

theorem Rdf.pne {w : World} {base : Nat} {k : IntKind} {v : Value} {xs : List Int} (o : Own w base 5 k v xs) {p : Nat} {cs : List Value} (hB : Blk w p 107 cs) : ∀ g, v.ownBlock = some g → g ≠ p := by
  rintro g hg rfl
  rcases o.form with ⟨rfl, rfl⟩ | ⟨g', c, rest, rfl, _, hB', _, _⟩
  · cases hg
  · injection hg with e
    subst e
    exact hB.ne hB' (by decide) rfl
theorem rtake_own {w : World} {base : Nat} {k : IntKind} {v : Value} {xs : List Int} (o : Own w base 5 k v xs) {p j : Nat} (hp : ∀ g, v.ownBlock = some g → g ≠ p) (u : Value) : Own (w.setCell ⟨p, j, none⟩ u) base 5 k v xs :=
  o.fr (fr_set w p j u) (fun g hg h => hp g hg h)
set_option maxRecDepth 100000 in
set_option maxHeartbeats 2000000 in
theorem rtake_any (p g : Nat) (n : Int) (bs : List Int) (t : Nat) (e : Int) (w : World) (h : Rdf w p g bs t e) (hn : -9223372036854775808 ≤ n ∧ n ≤ 9223372036854775807) (hl : bs.length ≤ 140737488355328) :
    Calls Try.prog 102 #[.pointer (some ⟨p, 0, none⟩), .int .i64 n] w fun e' w' => ∃ v, e' = .returned (.tuple #[v, .bool (okR (bs.drop t) n e)]) ∧ Hid (Own w' w.heap.size 5 .u8 v (tkL (bs.drop t) n e)) ∧ Hid (Rdf w' p g bs (t + (tkL (bs.drop t) n e).length) (erR (bs.drop t) n e)) ∧ Hid (Fr (fun j => j = p) w w') := by
  obtain ⟨A, c, hB, h1, h2, hr, hng, hgp, htl, hgl⟩ := h
  have HGL := Lib.hid hgl
  clear hgl
  have c0 : w.cell? ⟨p, 0, none⟩ = some (.slice A bs.length c) := hB.cell 0
  have c1 : w.cell? ⟨p, 1, none⟩ = some (.int .i64 (t : Int)) := hB.cell 1
  have c2 : w.cell? ⟨p, 2, none⟩ = some (.int .i64 e) := hB.cell 2
  have z1 := hB.frozen 1
  have z2 := hB.frozen 2
  have HR := Lib.hid hr
  have HB := Lib.hid hB
  have HNG := Lib.hid hng
  have HGP := Lib.hid hgp
  obtain ⟨l, hl'⟩ : ∃ l, l = bs.length := ⟨_, rfl⟩
  have HL := Lib.hid hl'
  have HD : Hid ((bs.drop t).length = l - t) := Lib.hid (by rw [List.length_drop, ← hl'])
  rw [← hl'] at c0 h1 htl hl
  have hne : Hid (∀ a, A = some a → ¬ a.block = p) := Lib.hid hgp
  clear hr hB hng hl' hgp
  by_cases he : e = 0
  · subst he
    by_cases hn0 : n < 0
    · have e1 : Hid (tkL (bs.drop t) n 0 = [] ∧ okR (bs.drop t) n 0 = false ∧ erR (bs.drop t) n 0 = 2) := Lib.hid ⟨by unfold tkL; rw [if_neg (by omega)], by unfold okR; simp; omega, by unfold erR; rw [if_pos rfl, if_pos hn0]⟩
      go_enter Try.func102, Try.ntmps102
      go_wp2_with fail
      go_ret2
      rw [e1.out.1, e1.out.2.1, e1.out.2.2]
      have hf := fr_set w p 2 (.int .i64 2)
      have hb2 := HB.out.set 2 (.int .i64 2)
      exact ⟨.slice none 0 0, rfl, Lib.hid (Own.nil _ _ _ _), Lib.hid ⟨A, c, hb2, by rw [← HL.out]; exact h1, h2, HR.out.fr hf hne.out, HNG.out, HGP.out, (by rw [← HL.out]; simpa using htl), Nat.lt_of_lt_of_le HGL.out hf.size⟩, Lib.hid hf⟩
    · have hn1 : 0 ≤ n := by omega
      by_cases hlt : (l : Int) - (t : Int) < n
      · have e1 : Hid (tkL (bs.drop t) n 0 = [] ∧ okR (bs.drop t) n 0 = false ∧ erR (bs.drop t) n 0 = 20) := Lib.hid ⟨by unfold tkL; rw [if_neg (by have := HD.out; omega)], decide_eq_false (by have := HD.out; omega), by unfold erR; rw [if_pos rfl, if_neg hn0, if_pos (by have := HD.out; omega)]⟩
        clear hn0
        go_enter Try.func102, Try.ntmps102
        go_wp2_with fail
        go_quiet (fail)
        go_wp2_with fail
        go_ret2
        rw [e1.out.1, e1.out.2.1, e1.out.2.2]
        have hf : Fr (fun i => i = p) w ((w.drewN nq).setCell ⟨p, 2, none⟩ (.int .i64 20)) := ((Fr.refl _ w).drewN nq).trans (fr_set (w.drewN nq) p 2 (.int .i64 20))
        have hb2 := (HB.out.drewN nq).set 2 (.int .i64 20)
        exact ⟨.slice none 0 0, rfl, Lib.hid (Own.nil _ _ _ _), Lib.hid ⟨A, c, hb2, by rw [← HL.out]; exact h1, h2, HR.out.fr hf hne.out, HNG.out, HGP.out, (by rw [← HL.out]; simpa using htl), Nat.lt_of_lt_of_le HGL.out hf.size⟩, Lib.hid hf⟩
      · obtain ⟨k, rfl⟩ := Int.eq_ofNat_of_zero_le hn1
        have hkl : t + k ≤ l := by omega
        have e1 : Hid (tkL (bs.drop t) k 0 = (bs.drop t).take k ∧ okR (bs.drop t) k 0 = true ∧ erR (bs.drop t) k 0 = 0) := Lib.hid ⟨by unfold tkL; rw [if_pos (by have := HD.out; omega), Int.toNat_natCast], decide_eq_true (by have := HD.out; omega), by unfold erR; rw [if_pos rfl, if_neg hn0, if_neg (by have := HD.out; omega)]⟩
        have hs1 := fun W => run_cut_mid (P := Try.prog) W 22 5 Try.underlying22 size5' A l c t (t + k) .i64 .i64 (t : Int) ((t : Int) + (k : Int)) rfl rfl (by omega) (by omega)
        rw [show t + k - t = k from by omega] at hs1
        have HTK : Hid (k = ((bs.drop t).take k).length) := Lib.hid (by rw [List.length_take, HD.out]; omega)
        have HRC : Hid (Rd w .u8 (cutA A t c) ((bs.drop t).take k)) := Lib.hid ((HR.out.cutA t c (by rw [← HL.out]; exact h1)).take k)
        have hby : (([] : List Int).length + ((bs.drop t).take k).length) * 1 ≤ 140737488355328 := by rw [← HTK.out]; simp; omega
        have HBY := Lib.hid hby
        have O0 : Hid (Own w w.heap.size 5 .u8 (.slice none 0 0) []) := Lib.hid (Own.nil _ _ _ _)
        clear hn0 hlt hby
        go_enter Try.func102, Try.ntmps102
        go_wp2_with fail
        go_quiet (fail)
        go_wp2_with fail
        have q0 : (w.drewN nq).cell? ⟨p, 0, none⟩ = some (.slice A l c) := c0
        have q1 : (w.drewN nq).cell? ⟨p, 1, none⟩ = some (.int .i64 (t : Int)) := c1
        have FQ : Hid (Fr (fun _ => False) w (w.drewN nq)) := Lib.hid ((Fr.refl _ w).drewN nq)
        have RQ : Hid (Rd (w.drewN nq) .u8 (cutA A t c) ((bs.drop t).take k)) := Lib.hid (HRC.out.draws nq)
        have BQ : Hid (Blk (w.drewN nq) p 107 [.slice A l c, .int .i64 (t : Int), .int .i64 0]) := Lib.hid (by rw [HL.out]; exact HB.out)
        generalize w.drewN nq = wz at q0 q1 FQ RQ BQ
        clear c0 c1 c2 z1 z2
        have hwr : IntKind.i64.wrap ((t : Int) + (k : Int)) = (t : Int) + (k : Int) := by simp [IntKind.wrap, IntKind.bits, IntKind.signed]; omega
        go_still_tail 16, (by kernel_rfl)
        change wpList _ _ _ _ _ wz.drew
        have F1 : Hid (Fr (fun _ => False) w wz.drew) := Lib.hid FQ.out.drew
        have HR1 : Hid (Rd wz.drew .u8 (cutA A t c) ((bs.drop t).take k)) := Lib.hid (RQ.out.draws 1)
        have HB1 : Hid (Blk wz.drew p 107 [.slice A l c, .int .i64 (t : Int), .int .i64 0]) := Lib.hid BQ.out
        generalize wz.drew = w1 at F1 HR1 HB1
        clear q0 q1
        have hsz := F1.out.size
        have hkk : ∀ (v' : Value) (w' : World), Own w' w.heap.size 5 .u8 v' ([] ++ (bs.drop t).take k) → Fr (fun g => (Value.slice none 0 0).ownBlock = some g) w1 w' → w'.cell? ⟨p, 1, none⟩ = some (.int .i64 (t : Int)) ∧ w'.frozen? ⟨p, 1, none⟩ = false := fun v' w' _ hf => by
          have hb := HB1.out.fr hf (fun h => by cases h)
          exact ⟨hb.cell 1, hb.frozen 1⟩
        have HKK := Lib.hid hkk
        clear hkk hs1 hwr
        go_wp2_with (refine wpList_pushes_any w1 rfl _ _ 22 rfl w.heap.size 5 .u8 1 Try.underlying22 info5 (.slice none 0 0) [] rfl (Own.nil _ _ _ _) (cutA A t c) k (c - t) ((bs.drop t).take k) rfl HTK.out HR1.out HBY.out (by decide) hsz ?_; intro v2 w2 hown hfr; have d1 := (HKK.out v2 w2 hown hfr).1; have d2 := (HKK.out v2 w2 hown hfr).2; have OW := Lib.hid hown; have FW := Lib.hid hfr; clear hown hfr)
        go_ret2
        rw [e1.out.1, e1.out.2.1, e1.out.2.2]
        have B2 := HB1.out.fr FW.out (fun h => by cases h)
        have F2 : Fr (fun i => i = p) w w2 := (F1.out.mono (fun _ h => h.elim)).trans (FW.out.mono (fun _ h => by cases h))
        have R2 := HR.out.fr F2 hne.out
        have E1 : ((t : Int) + (k : Int)) = ((t + ((bs.drop t).take k).length : Nat) : Int) := by rw [← HTK.out]; omega
        exact ⟨v2, rfl, Lib.hid (by first | exact rtake_own OW.out (Rdf.pne OW.out B2) _ | exact rtake_own (OW.out.drewN _) (Rdf.pne OW.out B2) _), Lib.hid ⟨A, c, by rw [← E1, ← HL.out]; first | exact B2.set 1 _ | exact (B2.drewN _).set 1 _, by rw [← HL.out]; exact h1, h2, R2.fr (by first | exact fr_set w2 p 1 _ | exact ((Fr.refl _ w2).drewN _).trans (fr_set _ p 1 _)) hne.out, HNG.out, HGP.out, (by rw [← HTK.out, ← HL.out]; omega), Nat.lt_of_lt_of_le HGL.out (by simpa using F2.size)⟩, Lib.hid (F2.trans (by first | exact fr_set w2 p 1 _ | exact ((Fr.refl _ w2).drewN _).trans (fr_set _ p 1 _)))⟩
  · have e1 : Hid (tkL (bs.drop t) n e = [] ∧ okR (bs.drop t) n e = false ∧ erR (bs.drop t) n e = e) := Lib.hid ⟨by unfold tkL; rw [if_neg (by omega)], by unfold okR; simp; omega, by unfold erR; rw [if_neg he]⟩
    have hb : (e == 0) = false := by simpa using he
    have hb' : (e != 0) = true := by simpa using he
    go_enter Try.func102, Try.ntmps102
    go_wp2_with fail
    go_ret2
    rw [e1.out.1, e1.out.2.1, e1.out.2.2]
    exact ⟨.slice none 0 0, rfl, Lib.hid (Own.nil _ _ _ _), Lib.hid ⟨A, c, HL.out ▸ HB.out, HL.out ▸ h1, h2, HR.out, HNG.out, HGP.out, (by rw [← HL.out]; simpa using htl), HGL.out⟩, Lib.hid (Fr.refl _ _)⟩
end Go.Proofs.Ytcibhaoilcohbaa

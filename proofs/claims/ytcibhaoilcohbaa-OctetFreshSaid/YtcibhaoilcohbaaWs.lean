/-
  Walks: a writer of the document; what is left, and what is done.
-/
import Derived.Test.YtcibhaoilcohbaaWr
set_option linter.unusedVariables false
set_option linter.unusedSimpArgs false
namespace Go.Proofs.Ytcibhaoilcohbaa
open Go.RowKit

set_option maxHeartbeats 1000000 in
theorem qbytes_any (p g z : Nat) (bs : List Int) (e : Int) (A : Option Addr) (n c : Nat) (ys : List Int) (w : World) (h : Wtr 113 w p g z bs e) (hn : n = ys.length) (hr : Rd w .u8 A ys) (hz : z ≤ 2000000) (hbs : bs.length ≤ z) (hl : n ≤ 140737488355328) :
    Calls Try.prog 85 #[.pointer (some ⟨p, 0, none⟩), .slice A n c] w fun e' w' => (∃ u, e' = .returned u) ∧ Hid (Wrote 113 w p g z (wL z bs e ys) (wE z bs e ys) w') := by
  have H := Lib.hid h
  obtain ⟨v, hB, hO, h1, h2, h3⟩ := h
  have c0 : w.cell? ⟨p, 0, none⟩ = some (.int .i64 z) := hB.cell 0
  have c1 : w.cell? ⟨p, 1, none⟩ = some v := hB.cell 1
  have c2 : w.cell? ⟨p, 2, none⟩ = some (.int .i64 e) := hB.cell 2
  have f1 := hB.frozen 1
  have f2 := hB.frozen 2
  have HB := Lib.hid hB
  have HO := Lib.hid hO
  have HG := Lib.hid h1
  have HP := Lib.hid h2
  have HGL := Lib.hid h3
  have HN := Lib.hid hn
  have HR := Lib.hid hr
  have HLB := Lib.hid hbs
  clear hB hO h1 h2 h3 hn hr hbs
  by_cases he : e = 0
  · subst he
    obtain ⟨l, hl'⟩ : ∃ l, l = bs.length := ⟨_, rfl⟩
    obtain ⟨A0, c9, hv, -, -, -, -⟩ := HO.out.slice
    have HV := Lib.hid hv
    rw [← hl'] at hv
    subst hv
    have HL := Lib.hid hl'
    clear hl'
    have HLZ : l ≤ z := by have := HLB.out; have := HL.out; omega
    have w1 : IntKind.i64.wrap ((z : Int) - (l : Int)) = (z : Int) - (l : Int) := by simp [IntKind.wrap, IntKind.bits, IntKind.signed]; omega
    go_enter Try.func85, Try.ntmps85
    go_wp2_with fail
    by_cases hfit : n + l ≤ z
    · have d1 : decide ((z : Int) - (l : Int) < (n : Int)) = false := decide_eq_false (by omega)
      go_quiet (fail)
      have HB' := Lib.hid (HB.out.drewN nq)
      have HO' := Lib.hid (HO.out.drewN nq)
      have HR' := Lib.hid (HR.out.draws nq)
      have HF' : Hid (Fr (fun j => j = p ∨ j = g) w (w.drewN nq)) := Lib.hid ((Fr.refl _ w).drewN nq)
      have b1 : (w.drewN nq).cell? ⟨p, 1, none⟩ = some (.slice A0 l c9) := HB'.out.cell 1
      generalize w.drewN nq = wa at HB' HO' HR' HF' b1
      clear c0 c1 c2 f1 f2 HB HO HR
      have HBY : Hid ((bs.length + ys.length) * 1 ≤ 140737488355328) := Lib.hid (by have := HLB.out; have := HN.out; have := HL.out; omega)
      go_wp2_with (show wpList _ _ _ ({ dst := some 31, op := _, type := _, pos := _, after := _, guard := _ } :: _) _ _; refine wpList_pushes_grew wa rfl (.tmp 29) (.tmp 30) 22 rfl 0 5 .u8 1 Try.underlying22 info5 (.slice A0 l c9) bs rfl HO'.out A n c ys rfl HN.out HR'.out HBY.out (by decide) (Nat.zero_le _) ?_; intro v' w' hown hgrew; obtain ⟨A2, c2, hv2, -, -, -, -⟩ := hown.slice; subst hv2; have HOW := Lib.hid hown; have HGR := Lib.hid hgrew; have HBW : Hid (Blk w' p 113 [.int .i64 z, .slice A0 l c9, .int .i64 0]) := Lib.hid (HB'.out.fr hgrew.1 HP.out); have k1 : w'.cell? ⟨p, 1, none⟩ = some (.slice A0 l c9) := HBW.out.cell 1; have kf1 := HBW.out.frozen 1; clear hown hgrew)
      first | go_end0 | refine bodyPost_ret (results_none rfl _ _ _) rfl ?_
      have hsz := HF'.out.size
      refine ⟨⟨_, rfl⟩, Lib.hid ?_⟩
      rw [show wL z bs 0 ys = bs ++ ys from if_pos ⟨rfl, by have := HN.out; have := HL.out; omega⟩, show wE z bs 0 ys = 0 from by unfold wE; rw [if_pos rfl, if_pos (by have := HN.out; have := HL.out; omega)]]
      have hp' : (Value.slice A2 (bs ++ ys).length c2).ownBlock ≠ some p := by
        rcases HGR.out.2 with h | ⟨j, h, hj⟩
        · rw [h]; exact HP.out
        · rw [h]; intro he; injection he with he; have := HB'.out.lt; omega
      exact wrote_mk (v := .slice A2 (bs ++ ys).length c2) (by rw [List.length_append]; exact HBW.out.set 1 _) (HOW.out.fr (fr_set _ p 1 _) (fun j hj hk => hp' (hk ▸ hj))) hp' (HF'.out.trans ((HGR.out.1.mono (fun j hj => .inr (HG.out j hj))).trans ((fr_set _ p 1 _).mono (fun j hj => .inl hj))))
        (fun j hj => by
          rcases HGR.out.2 with h | ⟨i, h, hi⟩
          · rw [h] at hj; exact .inl (HG.out j hj)
          · rw [h] at hj; injection hj with hj; right; omega) HGL.out
    · have d1 : decide ((z : Int) - (l : Int) < (n : Int)) = true := decide_eq_true (by omega)
      go_quiet (fail)
      go_wp2_with fail
      first | go_end0 | refine bodyPost_ret (results_none rfl _ _ _) rfl ?_
      refine ⟨⟨_, rfl⟩, Lib.hid ?_⟩
      rw [show wL z bs 0 ys = bs from if_neg (by have := HN.out; have := HL.out; omega), show wE z bs 0 ys = 21 from by unfold wE; rw [if_pos rfl, if_neg (by have := HN.out; have := HL.out; omega)]]
      exact wrote_mk (v := .slice A0 l c9) ((HB.out.drewN nq).set 2 _) ((HO.out.drewN nq).fr (fr_set _ p 2 _) (fun j hj hk => HP.out (hk ▸ hj))) HP.out (((Fr.refl _ w).drewN nq).trans ((fr_set _ p 2 _).mono (fun j hj => .inl hj))) (fun j hj => .inl (HG.out j hj)) HGL.out
  · go_enter Try.func85, Try.ntmps85
    go_wp2_with fail
    first | go_end0 | refine bodyPost_ret (results_none rfl _ _ _) rfl ?_
    refine ⟨⟨_, rfl⟩, Lib.hid ?_⟩
    rw [show wL z bs e ys = bs from if_neg (fun h => he h.1), show wE z bs e ys = e from if_neg he]
    exact wrote_refl H.out (Fr.refl _ _)

set_option maxHeartbeats 1000000 in
theorem wleft_any (p g z : Nat) (bs : List Int) (e : Int) (w : World) (h : Wtr 111 w p g z bs e) (hz : z ≤ 2000000) (hbs : bs.length ≤ z) :
    Calls Try.prog 42 #[.pointer (some ⟨p, 0, none⟩)] w fun e' w' => e' = .returned (.int .i64 ((z - bs.length : Nat) : Int)) ∧ ∃ q, w' = w.drewN q := by
  obtain ⟨v, hB, hO, h1, h2, h3⟩ := h
  have c0 : w.cell? ⟨p, 0, none⟩ = some (.int .i64 z) := hB.cell 0
  have c1 : w.cell? ⟨p, 1, none⟩ = some v := hB.cell 1
  obtain ⟨l, hl⟩ : ∃ l, l = bs.length := ⟨_, rfl⟩
  obtain ⟨A0, c9, hv, -, -, -, -⟩ := hO.slice
  rw [← hl] at hv hbs ⊢
  subst hv
  clear hB hO h1 h2 h3 hl
  have w1 : IntKind.i64.wrap ((z : Int) - (l : Int)) = ((z - l : Nat) : Int) := by simp [IntKind.wrap, IntKind.bits, IntKind.signed]; omega
  go_enter Try.func42, Try.ntmps42
  go_wp2_with fail
  go_quiet (fail)
  go_wp2_with fail
  go_ret
  exact ⟨rfl, _, rfl⟩

set_option maxHeartbeats 1000000 in
theorem qleft_any (p g z : Nat) (bs : List Int) (e : Int) (w : World) (h : Wtr 113 w p g z bs e) (hz : z ≤ 2000000) (hbs : bs.length ≤ z) :
    Calls Try.prog 43 #[.pointer (some ⟨p, 0, none⟩)] w fun e' w' => e' = .returned (.int .i64 ((z - bs.length : Nat) : Int)) ∧ ∃ q, w' = w.drewN q := by
  obtain ⟨v, hB, hO, h1, h2, h3⟩ := h
  have c0 : w.cell? ⟨p, 0, none⟩ = some (.int .i64 z) := hB.cell 0
  have c1 : w.cell? ⟨p, 1, none⟩ = some v := hB.cell 1
  obtain ⟨l, hl⟩ : ∃ l, l = bs.length := ⟨_, rfl⟩
  obtain ⟨A0, c9, hv, -, -, -, -⟩ := hO.slice
  rw [← hl] at hv hbs ⊢
  subst hv
  clear hB hO h1 h2 h3 hl
  have w1 : IntKind.i64.wrap ((z : Int) - (l : Int)) = ((z - l : Nat) : Int) := by simp [IntKind.wrap, IntKind.bits, IntKind.signed]; omega
  go_enter Try.func43, Try.ntmps43
  go_wp2_with fail
  go_quiet (fail)
  go_wp2_with fail
  go_ret
  exact ⟨rfl, _, rfl⟩

def dnL (z : Nat) (bs : List Int) (e : Int) : List Int := if e = 0 ∧ z ≤ bs.length then bs else []
def dnE (z : Nat) (bs : List Int) (e : Int) : Int := if e = 0 then (if bs.length < z then 20 else 0) else e

set_option maxHeartbeats 1000000 in
theorem wdone_any (p g z : Nat) (bs : List Int) (e : Int) (w : World) (h : Wtr 111 w p g z bs e) (hz : z ≤ 2000000) (hbs : bs.length ≤ z) :
    Calls Try.prog 46 #[.pointer (some ⟨p, 0, none⟩)] w fun e' w' => ∃ v, e' = .returned (.tuple #[v, .int .i64 (dnE z bs e)]) ∧ Hid (Own w' w.heap.size 5 .u8 v (dnL z bs e)) ∧ Hid (Below w.heap.size w w') := by
  obtain ⟨v, hB, hO, h1, h2, h3⟩ := h
  have c0 : w.cell? ⟨p, 0, none⟩ = some (.int .i64 z) := hB.cell 0
  have c1 : w.cell? ⟨p, 1, none⟩ = some v := hB.cell 1
  have c2 : w.cell? ⟨p, 2, none⟩ = some (.int .i64 e) := hB.cell 2
  obtain ⟨l, hl⟩ : ∃ l, l = bs.length := ⟨_, rfl⟩
  obtain ⟨A0, c9, hv, -, -, hrd, -⟩ := hO.slice
  rw [← hl] at hv
  subst hv
  have HR := Lib.hid hrd
  have HL := Lib.hid hl
  have HBS := Lib.hid hbs
  have HB := Lib.hid hB
  clear hB hO h1 h2 h3 hl hrd hbs
  by_cases he : e = 0
  · subst he
    go_enter Try.func46, Try.ntmps46
    go_wp2_with fail
    by_cases hlt : l < z
    · have d1 : decide ((l : Int) < (z : Int)) = true := decide_eq_true (by omega)
      go_quiet (fail)
      go_wp2_with fail
      go_ret2
      exact ⟨.slice none 0 0, by rw [show dnE z bs 0 = 20 from by unfold dnE; rw [if_pos rfl, if_pos (by have := HL.out; omega)]]; rfl, Lib.hid (by rw [show dnL z bs 0 = [] from if_neg (by have := HL.out; omega)]; exact Own.nil _ _ _ _), Lib.hid (belowN (Below.refl _ _) _)⟩
    · have d1 : decide ((l : Int) < (z : Int)) = false := decide_eq_false (by omega)
      go_quiet (fail)
      have HB' := Lib.hid (HB.out.drewN nq)
      have HR' := Lib.hid (HR.out.draws nq)
      have HF' : Hid (Below w.heap.size w (w.drewN nq)) := Lib.hid (belowN (Below.refl _ _) _)
      have b1 : (w.drewN nq).cell? ⟨p, 1, none⟩ = some (.slice A0 l c9) := HB'.out.cell 1
      have hsz : (w.drewN nq).heap.size = w.heap.size := rfl
      generalize w.drewN nq = wa at HB' HR' HF' b1 hsz
      have HSZ := Lib.hid hsz
      clear c0 c1 c2 HB HR hsz
      have HBY : Hid ((([] : List Int).length + bs.length) * 1 ≤ 140737488355328) := Lib.hid (by simp; have := HBS.out; omega)
      go_wp2_with (show wpList _ _ _ ({ dst := some 32, op := _, type := _, pos := _, after := _, guard := _ } :: _) _ _; refine wpList_pushes_grew wa rfl (.const (.slice none 0 0)) (.tmp 31) 22 rfl wa.heap.size 5 .u8 1 Try.underlying22 info5 (.slice none 0 0) [] rfl (Own.nil _ _ _ _) A0 l c9 bs rfl HL.out HR'.out HBY.out (by decide) (Nat.le_refl _) ?_; intro v' w' hown hgrew; obtain ⟨A2, c2, hv2, -, -, -, -⟩ := hown.slice; subst hv2; have HOW := Lib.hid hown; have HGR := Lib.hid hgrew; clear hown hgrew)
      go_ret2
      exact ⟨.slice A2 ([] ++ bs).length c2, by rw [show dnE z bs 0 = 0 from by unfold dnE; rw [if_pos rfl, if_neg (by have := HL.out; omega)]]; rfl, Lib.hid (by rw [show dnL z bs 0 = bs from if_pos ⟨rfl, by have := HL.out; omega⟩]; exact HSZ.out ▸ HOW.out), Lib.hid (HF'.out.trans (HGR.out.1.below (Nat.le_of_eq HSZ.out.symm) (fun j hj => by cases hj)))⟩
  · go_enter Try.func46, Try.ntmps46
    go_wp2_with fail
    go_quiet (fail)
    go_wp2_with fail
    go_ret2
    exact ⟨.slice none 0 0, by rw [show dnE z bs e = e from if_neg he]; rfl, Lib.hid (by rw [show dnL z bs e = [] from if_neg (fun h => he h.1)]; exact Own.nil _ _ _ _), Lib.hid (belowN (Below.refl _ _) _)⟩

set_option maxHeartbeats 1000000 in
theorem qdone_any (p g z : Nat) (bs : List Int) (e : Int) (w : World) (h : Wtr 113 w p g z bs e) (hz : z ≤ 2000000) (hbs : bs.length ≤ z) :
    Calls Try.prog 86 #[.pointer (some ⟨p, 0, none⟩)] w fun e' w' => ∃ v, e' = .returned (.tuple #[v, .int .i64 (dnE z bs e)]) ∧ Hid (Own w' w.heap.size 5 .u8 v (dnL z bs e)) ∧ Hid (Below w.heap.size w w') := by
  obtain ⟨v, hB, hO, h1, h2, h3⟩ := h
  have c0 : w.cell? ⟨p, 0, none⟩ = some (.int .i64 z) := hB.cell 0
  have c1 : w.cell? ⟨p, 1, none⟩ = some v := hB.cell 1
  have c2 : w.cell? ⟨p, 2, none⟩ = some (.int .i64 e) := hB.cell 2
  obtain ⟨l, hl⟩ : ∃ l, l = bs.length := ⟨_, rfl⟩
  obtain ⟨A0, c9, hv, -, -, hrd, -⟩ := hO.slice
  rw [← hl] at hv
  subst hv
  have HR := Lib.hid hrd
  have HL := Lib.hid hl
  have HBS := Lib.hid hbs
  have HB := Lib.hid hB
  clear hB hO h1 h2 h3 hl hrd hbs
  by_cases he : e = 0
  · subst he
    go_enter Try.func86, Try.ntmps86
    go_wp2_with fail
    by_cases hlt : l < z
    · have d1 : decide ((l : Int) < (z : Int)) = true := decide_eq_true (by omega)
      go_quiet (fail)
      go_wp2_with fail
      go_ret2
      exact ⟨.slice none 0 0, by rw [show dnE z bs 0 = 20 from by unfold dnE; rw [if_pos rfl, if_pos (by have := HL.out; omega)]]; rfl, Lib.hid (by rw [show dnL z bs 0 = [] from if_neg (by have := HL.out; omega)]; exact Own.nil _ _ _ _), Lib.hid (belowN (Below.refl _ _) _)⟩
    · have d1 : decide ((l : Int) < (z : Int)) = false := decide_eq_false (by omega)
      go_quiet (fail)
      have HB' := Lib.hid (HB.out.drewN nq)
      have HR' := Lib.hid (HR.out.draws nq)
      have HF' : Hid (Below w.heap.size w (w.drewN nq)) := Lib.hid (belowN (Below.refl _ _) _)
      have b1 : (w.drewN nq).cell? ⟨p, 1, none⟩ = some (.slice A0 l c9) := HB'.out.cell 1
      have hsz : (w.drewN nq).heap.size = w.heap.size := rfl
      generalize w.drewN nq = wa at HB' HR' HF' b1 hsz
      have HSZ := Lib.hid hsz
      clear c0 c1 c2 HB HR hsz
      have HBY : Hid ((([] : List Int).length + bs.length) * 1 ≤ 140737488355328) := Lib.hid (by simp; have := HBS.out; omega)
      go_wp2_with (show wpList _ _ _ ({ dst := some 29, op := _, type := _, pos := _, after := _, guard := _ } :: _) _ _; refine wpList_pushes_grew wa rfl (.tmp 24) (.tmp 28) 22 rfl wa.heap.size 5 .u8 1 Try.underlying22 info5 (.slice none 0 0) [] rfl (Own.nil _ _ _ _) A0 l c9 bs rfl HL.out HR'.out HBY.out (by decide) (Nat.le_refl _) ?_; intro v' w' hown hgrew; obtain ⟨A2, c2, hv2, -, -, -, -⟩ := hown.slice; subst hv2; have HOW := Lib.hid hown; have HGR := Lib.hid hgrew; clear hown hgrew)
      go_ret2
      exact ⟨.slice A2 ([] ++ bs).length c2, by rw [show dnE z bs 0 = 0 from by unfold dnE; rw [if_pos rfl, if_neg (by have := HL.out; omega)]]; rfl, Lib.hid (by rw [show dnL z bs 0 = bs from if_pos ⟨rfl, by have := HL.out; omega⟩]; exact HSZ.out ▸ HOW.out), Lib.hid (HF'.out.trans (HGR.out.1.below (Nat.le_of_eq HSZ.out.symm) (fun j hj => by cases hj)))⟩
  · go_enter Try.func86, Try.ntmps86
    go_wp2_with fail
    go_quiet (fail)
    go_wp2_with fail
    go_ret2
    exact ⟨.slice none 0 0, by rw [show dnE z bs e = e from if_neg he]; rfl, Lib.hid (by rw [show dnL z bs e = [] from if_neg (fun h => he h.1)]; exact Own.nil _ _ _ _), Lib.hid (belowN (Below.refl _ _) _)⟩
end Go.Proofs.Ytcibhaoilcohbaa

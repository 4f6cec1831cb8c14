/-
  Walks: the document's reader, the others.
-/
import Derived.Test.YtcibhaoilcohbaaRt
set_option linter.unusedVariables false
set_option linter.unusedSimpArgs false
namespace Go.Proofs.Ytcibhaoilcohbaa
open Go.RowKit

set_option maxRecDepth 100000 in
set_option maxHeartbeats 1000000 in
theorem rnew_any (A : Option Addr) (n c : Nat) (xs : List Int) (w : World) (hn : n = xs.length) (hr : Rd w .u8 A xs) (hl : xs.length ≤ 140737488355328) :
    Calls Try.prog 33 #[.slice A n c] w fun e w' => ∃ p g, e = .returned (.pointer (some ⟨p, 0, none⟩)) ∧ Hid (w.heap.size ≤ p ∧ w.heap.size ≤ g) ∧ Hid (Rdf w' p g xs 0 0) ∧ Hid (Below w.heap.size w w') := by
  have HR := Lib.hid hr
  have HN := Lib.hid hn
  have HL := Lib.hid hl
  have hby : (([] : List Int).length + xs.length) * 1 ≤ 140737488355328 := by simp; omega
  have HBY := Lib.hid hby
  clear hr hn hby
  go_enter Try.func33, Try.ntmps33
  have W0 : Hid (Below w.heap.size w (w.alloc (.cells #[.slice none 0 0, .int .i64 0, .int .i64 0] 107))) := Lib.hid ((Below.refl w.heap.size w).alloc (Nat.le_refl _) _)
  have B0 : Hid (Blk (w.alloc (.cells #[.slice none 0 0, .int .i64 0, .int .i64 0] 107)) w.heap.size 107 [.slice none 0 0, .int .i64 0, .int .i64 0]) := Lib.hid (Blk.new w 107 [.slice none 0 0, .int .i64 0, .int .i64 0])
  have RX := Lib.hid (HR.out.below W0.out)
  have hkk : ∀ (v' : Value) (w' : World), Fr (fun g => (Value.slice none 0 0).ownBlock = some g) (w.alloc (.cells #[.slice none 0 0, .int .i64 0, .int .i64 0] 107)) w' → w'.cell? ⟨w.heap.size, 0, none⟩ = some (.slice none 0 0) ∧ w'.frozen? ⟨w.heap.size, 0, none⟩ = false := fun v' w' hf => by
    have hb := B0.out.fr hf (fun h => by cases h)
    exact ⟨hb.cell 0, hb.frozen 0⟩
  have HKK := Lib.hid hkk
  clear hkk
  go_wp2_with (refine wpList_pushes_any (w.alloc (.cells #[.slice none 0 0, .int .i64 0, .int .i64 0] 107)) rfl _ _ 22 rfl (w.alloc (.cells #[.slice none 0 0, .int .i64 0, .int .i64 0] 107)).heap.size 5 .u8 1 Try.underlying22 info5 (.slice none 0 0) [] rfl (Own.nil _ _ _ _) A n c xs rfl HN.out RX.out HBY.out (by decide) (Nat.le_refl _) ?_; intro v2 w2 hown hfr; have d1 := (HKK.out v2 w2 hfr).1; have d2 := (HKK.out v2 w2 hfr).2; obtain ⟨A2, c2, rfl, hc2, hm2, hr2, hb2⟩ := hown.slice; have OW := Lib.hid hown; have FW := Lib.hid hfr; have HC2 := Lib.hid hc2; have HM2 := Lib.hid hm2; have HR2 := Lib.hid hr2; have HB2 := Lib.hid hb2; clear hown hfr hc2 hm2 hr2 hb2)
  go_ret
  have B2 := B0.out.fr FW.out (fun h => by cases h)
  have F2 : Fr (fun _ => False) (w.alloc (.cells #[.slice none 0 0, .int .i64 0, .int .i64 0] 107)) w2 := FW.out.mono (fun _ h => by cases h)
  have W2 : Below w.heap.size w w2 := W0.out.trans (F2.below (by simp) (fun _ h => h.elim))
  have hs1 : (w.alloc (.cells #[.slice none 0 0, .int .i64 0, .int .i64 0] 107)).heap.size = w.heap.size + 1 := by simp
  have hne : ∀ a, A2 = some a → ¬ a.block = w.heap.size := fun a ha hk => by have := HB2.out a ha; omega
  have hf3 := fr_set w2 w.heap.size 0 (.slice A2 ([] ++ xs).length c2)
  refine ⟨w.heap.size, (match A2 with | some a => a.block | none => w.heap.size), rfl, Lib.hid ⟨Nat.le_refl _, ?_⟩, Lib.hid ⟨A2, c2, B2.set 0 _, HC2.out, by have := HM2.out; unfold maxLen at this; omega, HR2.out.fr hf3 hne, ?_, hne, Nat.zero_le _, ?_⟩, Lib.hid (W2.setCell (p := ⟨w.heap.size, 0, none⟩) (Nat.le_refl _) _)⟩
  · cases A2 with
    | none => exact Nat.le_refl _
    | some a => have := HB2.out a rfl; show w.heap.size ≤ a.block; omega
  · intro a ha
    subst ha
    rfl
  · cases A2 with
    | none => show w.heap.size < _; have := F2.size; simp; omega
    | some a => have := (OW.out.base_le (g := a.block) rfl).2; show a.block < _; simpa using this
theorem rleft2_any (p g : Nat) (bs : List Int) (t : Nat) (e : Int) (w : World) (h : Rdf w p g bs t e) (hl : bs.length ≤ 140737488355328) : Calls Try.prog 38 #[.pointer (some ⟨p, 0, none⟩)] w fun e' w' => e' = .returned (.int .i64 ((bs.drop t).length : Nat)) ∧ ∃ q, w' = w.drewN q := by
  obtain ⟨A, c, hB, h1, h2, hr, hng, hgp, htl, hgl⟩ := h
  clear hgl
  have c0 : w.cell? ⟨p, 0, none⟩ = some (.slice A bs.length c) := hB.cell 0
  have c1 : w.cell? ⟨p, 1, none⟩ = some (.int .i64 (t : Int)) := hB.cell 1
  obtain ⟨l, hl'⟩ : ∃ l, l = bs.length := ⟨_, rfl⟩
  have HD : Hid ((l : Int) - (t : Int) = ((bs.drop t).length : Int)) := Lib.hid (by rw [List.length_drop, ← hl']; omega)
  rw [← hl'] at c0 htl hl h1
  clear hr hB hng hgp hl'
  go_enter Try.func38, Try.ntmps38
  go_wp2_with fail
  go_quiet (fail)
  go_wp2_with fail
  go_ret
  exact ⟨by rw [← HD.out]; rfl, _, rfl⟩
theorem rend2_any (p g : Nat) (bs : List Int) (t : Nat) (e : Int) (w : World) (h : Rdf w p g bs t e) (hl : bs.length ≤ 140737488355328) : Calls Try.prog 36 #[.pointer (some ⟨p, 0, none⟩)] w fun e' w' => e' = .returned (.int .i64 (enR (bs.drop t) e)) ∧ ∃ q, w' = w.drewN q := by
  obtain ⟨A, c, hB, h1, h2, hr, hng, hgp, htl, hgl⟩ := h
  clear hgl
  have c0 : w.cell? ⟨p, 0, none⟩ = some (.slice A bs.length c) := hB.cell 0
  have c1 : w.cell? ⟨p, 1, none⟩ = some (.int .i64 (t : Int)) := hB.cell 1
  have c2 : w.cell? ⟨p, 2, none⟩ = some (.int .i64 e) := hB.cell 2
  obtain ⟨l, hl'⟩ : ∃ l, l = bs.length := ⟨_, rfl⟩
  have HD : Hid ((bs.drop t).length = l - t) := Lib.hid (by rw [List.length_drop, ← hl'])
  rw [← hl'] at c0 htl hl h1
  clear hr hB hng hgp hl'
  by_cases he : e = 0
  · subst he
    by_cases hz : t < l
    · have e1 : Hid (enR (bs.drop t) 0 = 21) := Lib.hid (by unfold enR; rw [if_pos rfl, if_neg (by have := HD.out; omega)])
      have d1 : decide ((t : Int) < (l : Int)) = true := by simp; omega
      go_enter Try.func36, Try.ntmps36
      go_wp2_with fail
      go_quiet (fail)
      go_wp2_with fail
      go_ret
      exact ⟨by rw [e1.out]; rfl, _, rfl⟩
    · have e1 : Hid (enR (bs.drop t) 0 = 0) := Lib.hid (by unfold enR; rw [if_pos rfl, if_pos (by have := HD.out; omega)])
      have d1 : decide ((t : Int) < (l : Int)) = false := by simp; omega
      go_enter Try.func36, Try.ntmps36
      go_wp2_with fail
      go_quiet (fail)
      go_wp2_with fail
      go_ret
      exact ⟨by rw [e1.out]; rfl, _, rfl⟩
  · have e1 : Hid (enR (bs.drop t) e = e) := Lib.hid (by unfold enR; rw [if_neg he])
    have hb' : (e != 0) = true := by simpa using he
    go_enter Try.func36, Try.ntmps36
    go_wp2_with fail
    go_ret
    exact ⟨by rw [e1.out]; rfl, 0, rfl⟩

theorem rbytes2_any (p g : Nat) (n : Int) (bs : List Int) (t : Nat) (e : Int) (w : World) (h : Rdf w p g bs t e) (hn : -9223372036854775808 ≤ n ∧ n ≤ 9223372036854775807) (hl : bs.length ≤ 140737488355328) :
    Calls Try.prog 84 #[.pointer (some ⟨p, 0, none⟩), .int .i64 n] w fun e' w' => ∃ v, e' = .returned v ∧ Hid (Own w' w.heap.size 5 .u8 v (tkL (bs.drop t) n e)) ∧ Hid (Rdf w' p g bs (t + (tkL (bs.drop t) n e).length) (erR (bs.drop t) n e)) ∧ Hid (Fr (fun j => j = p) w w') := by
  have H := Lib.hid h
  clear h
  go_enter Try.func84, Try.ntmps84
  go_wp2_with fail
  refine (rtake_any p g n bs t e w H.out hn hl).mono ?_
  rintro e' w' ⟨v, rfl, HO, HD, HF⟩
  go_wp2_with fail
  go_ret
  exact ⟨v, rfl, HO, HD, HF⟩
theorem litR_nm {xs : List Int} (k : Nat) (h : xs.length = k) : litR xs k k = leV xs k := by unfold litR; rw [if_pos rfl]
theorem rnum2_any (p g k : Nat) (bs : List Int) (t : Nat) (e : Int) (w : World) (h : Rdf w p g bs t e) (hk : 1 ≤ k ∧ k ≤ 8) (hB : B8 bs) (hl : bs.length ≤ 140737488355328) :
    Calls Try.prog 83 #[.pointer (some ⟨p, 0, none⟩), .int .i64 (k : Int)] w fun e' w' => e' = .returned (.int .u64 (nmR (bs.drop t) k e : Nat)) ∧ Hid (Rdf w' p g bs (t + (tkL (bs.drop t) k e).length) (erR (bs.drop t) k e)) ∧ Hid (Fr (fun j => j = p) w w') := by
  have H := Lib.hid h
  have HK := Lib.hid hk
  have HBB := Lib.hid (tkL_b8 (hB.drop t) (k : Int) e)
  have HN : Hid (nmR (bs.drop t) k e = if okR (bs.drop t) k e = true then litR (tkL (bs.drop t) k e) k k else 0) := Lib.hid (by
    unfold nmR okR litR tkL
    by_cases hc : e = 0 ∧ (0 : Int) ≤ (k : Int) ∧ (k : Int) ≤ ((bs.drop t).length : Nat)
    · rw [if_pos hc, decide_eq_true hc, if_pos rfl, if_pos rfl, Int.toNat_natCast, List.length_take, Nat.min_eq_left (by omega)]
    · rw [if_neg hc, decide_eq_false hc]; rfl)
  have HLN : Hid (okR (bs.drop t) k e = true → k = (tkL (bs.drop t) k e).length) := Lib.hid (fun h => by
    unfold okR at h
    have hc := of_decide_eq_true h
    unfold tkL
    rw [if_pos hc, Int.toNat_natCast, List.length_take]
    omega)
  clear h hk
  go_enter Try.func83, Try.ntmps83
  go_wp2_with fail
  refine (rtake_any p g (k : Int) bs t e w H.out ⟨by omega, by have := HK.out; omega⟩ hl).mono ?_
  rintro e' w1 ⟨v, rfl, HO, HD, HF⟩
  cases hok : okR (bs.drop t) k e
  · have e0 : Hid (nmR (bs.drop t) k e = 0) := Lib.hid (by rw [HN.out, hok]; rfl)
    clear hok HN HLN
    go_wp2_with fail
    go_ret
    exact ⟨by rw [e0.out]; rfl, HD, HF⟩
  · have e0 : Hid (nmR (bs.drop t) k e = litR (tkL (bs.drop t) k e) k k) := Lib.hid (by rw [HN.out, hok]; rfl)
    have e1 := Lib.hid (HLN.out hok)
    clear hok HN HLN
    obtain ⟨A, c, rfl, -, -, hr, -⟩ := HO.out.slice
    have HR := Lib.hid hr
    clear hr
    rw [← e1.out]
    go_wp2_with fail
    refine (rlit_any A k c k (tkL (bs.drop t) k e) w1 e1.out HR.out HBB.out HK.out.2 HK.out.1).mono ?_
    rintro e' w' ⟨rfl, hw⟩
    obtain rfl : w1 = w' := hw.symm
    go_wp2_with fail
    go_ret
    exact ⟨by rw [e0.out]; rfl, HD, HF⟩
end Go.Proofs.Ytcibhaoilcohbaa

/-
  Walk: RecordOrders.
-/
import Derived.Test.YtedejkfhgpnhpaaRg
import Derived.Test.YtedejkfhgpnhpaaLp
set_option linter.unusedVariables false
set_option linter.unusedSimpArgs false
namespace Go.Proofs.Ytedejkfhgpnhpaa
open Go.RowKit

theorem bch0 {S : Nat} {w5 w w6 : World} (h : Hid (Below S w5 w)) (hS : S ≤ w5.heap.size) (b : Below w.heap.size w w6) : Hid (Below S w5 w6) := Lib.hid (h.out.trans (b.mono (Nat.le_trans hS h.out.size)))
theorem bch1 {S : Nat} {w5 w w6 : World} {q : Nat} (h : Hid (Below S w5 w)) (hS : S ≤ w5.heap.size) (b : Below (w.drewN q).heap.size (w.drewN q) w6) : Hid (Below S w5 w6) := Lib.hid ((belowN h.out q).trans (b.mono (Nat.le_trans hS h.out.size)))
theorem spare_set {w : World} {g : Nat} {xs : List Int} (h : Blk w g 5 ((spL xs).map (Value.int .u8))) {k : Nat} (hk : k < xs.length) (y : Int) : Blk (w.setCell ⟨g, k, none⟩ (.int .u8 y)) g 5 ((spL (xs.set k y)).map (Value.int .u8)) := by
  have := h.set k (.int .u8 y)
  rw [← List.map_set] at this
  rwa [show (spL xs).set k y = spL (xs.set k y) from by unfold spL; rw [List.set_append_left _ _ hk, List.length_set]] at this
theorem spare_rd {w : World} {g : Nat} {xs : List Int} (h : Blk w g 5 ((spL xs).map (Value.int .u8))) : Rd w .u8 (some ⟨g, 0, none⟩) xs := by
  have := (blk_rd0 h).take xs.length
  rwa [spL_take] at this
theorem B8.set {xs : List Int} (h : B8 xs) (k : Nat) {y : Int} (hy : 0 ≤ y ∧ y ≤ 255) : B8 (xs.set k y) := fun i => by
  by_cases e : k = i
  · subst e
    by_cases hk : k < xs.length
    · rw [show (xs.set k y).getD k 0 = y from by simp [List.getD, hk]]; exact hy
    · rw [show (xs.set k y).getD k 0 = 0 from by simp [List.getD, Nat.le_of_not_lt hk]]; omega
  · rw [show (xs.set k y).getD i 0 = xs.getD i 0 from by simp [List.getD, e]]; exact h i
theorem copy_at (A : Option Addr) (n c : Nat) (xs : List Int) (w : World) (hn : n = xs.length) (hr : Rd w .u8 A xs) (hl : xs.length ≤ 140737488355328) :
    Calls Try.prog 17 #[.slice A n c] w fun e w' => ∃ A' c', e = .returned (.slice A' n c') ∧ Hid (Rd w' .u8 A' xs ∧ n ≤ c' ∧ c' ≤ 9223372036854775807) ∧ Below w.heap.size w w' := by
  subst hn
  refine (copyb_any A c xs w hr hl).mono ?_
  rintro e w' ⟨v, rfl, o, b⟩
  obtain ⟨A', c', rfl, h1, h2, h3, _⟩ := o.slice
  exact ⟨A', c', rfl, Lib.hid ⟨h3, h1, by unfold maxLen at h2; omega⟩, b⟩

theorem eqb_fr (A B : Option Addr) (n m c d : Nat) (xs ys : List Int) (w : World) (hn : n = xs.length) (hm : m = ys.length) (hx : Rd w .u8 A xs) (hy : Rd w .u8 B ys) (hl : xs.length ≤ 9223372036854775807) (hl2 : ys.length ≤ 9223372036854775807) :
    Calls Try.prog 14 #[.slice A n c, .slice B m d] w fun e w' => ∃ n, e = .returned (.bool (decide (xs = ys))) ∧ w' = w.drewN n := by
  subst hn hm
  exact eqb_any A B c d xs ys w hx hy hl hl2
theorem spare_r8 {w : World} {g : Nat} {xs : List Int} (h : Blk w g 5 ((spL xs).map (Value.int .u8))) : Blk w g 5 ((spL xs).map (Value.int .u8) ++ []) := by
  rw [List.append_nil]
  exact h
theorem blkN {w : World} {g t : Nat} {cs : List Value} (h : Blk w g t cs) (q : Nat) : Blk (w.drewN q) g t cs := h.drewN q

set_option maxRecDepth 100000 in
set_option maxHeartbeats 8000000 in
theorem orders_any (A B : Option Addr) (n c m d : Nat) (xs ys : List Int) (w : World) (hn : n = xs.length) (hm : m = ys.length) (hx : Rd w .u8 A xs) (hy : Rd w .u8 B ys) (hBx : B8 xs) (hBy : B8 ys) (hl : xs.length ≤ 140737488354000) (hl2 : ys.length ≤ 140737488354000) :
    Calls Try.prog 6 #[.slice A n c, .slice B m d] w fun e w' => e = .returned (.bool true) ∧ Below w.heap.size w w' := by
  have HX := Lib.hid hx
  have HY := Lib.hid hy
  have HN := Lib.hid hn
  have HM := Lib.hid hm
  have HBX := Lib.hid hBx
  have HBY := Lib.hid hBy
  have hn63 : n ≤ 140737488354000 := by omega
  have hm63 : m ≤ 140737488354000 := by omega
  clear hx hy hn hm hBx hBy
  go_enter Try.func6, Try.ntmps6
  go_wp2_with fail
  have hs := spare_any A c xs w HX.out (by omega)
  rw [← HN.out] at hs
  refine hs.mono ?_
  rintro e w1 ⟨rfl, g1, b1⟩
  have G1 := Lib.hid g1
  have W1 := Lib.hid b1
  clear hs g1 b1
  go_wp2_with fail
  have hs := spare_any B d ys w1 (HY.out.below W1.out) (by omega)
  rw [← HM.out] at hs
  refine hs.mono ?_
  rintro e w2 ⟨rfl, g2, b2⟩
  obtain ⟨P, hP⟩ : ∃ P, P = w.heap.size := ⟨_, rfl⟩
  obtain ⟨Q, hQ⟩ : ∃ Q, Q = w1.heap.size := ⟨_, rfl⟩
  have GQ := Lib.hid g2
  have GP := Lib.hid (G1.out.below b2 G1.out.lt)
  have W2 := Lib.hid (W1.out.trans (b2.mono W1.out.size))
  have HPQ : Hid (P < Q) := Lib.hid (by rw [hP, hQ]; exact G1.out.lt)
  have HPW : Hid (w.heap.size ≤ P) := Lib.hid (by omega)
  rw [← hP] at GP
  rw [← hQ] at GQ
  rw [← hP, ← hQ]
  clear hs g2 b2 G1 W1 hP hQ
  go_wp2_with fail
  go_loopw [7] (fun z wr => ∃ (k : Nat) (us vs : List Int), k ≤ 2 ∧ z = .int .i64 k ∧ Hid (n = us.length ∧ m = vs.length) ∧ Hid (B8 us ∧ B8 vs) ∧ Hid (k = 0 → us = xs ∧ vs = ys) ∧ Hid (Blk wr P 5 ((spL us).map (Value.int .u8))) ∧ Hid (Blk wr Q 5 ((spL vs).map (Value.int .u8))) ∧ Hid (Below w.heap.size w wr)) (fun z _ => 2 - (intOf z).toNat)
  case atStart => exact ⟨0, xs, ys, Nat.zero_le _, rfl, Lib.hid ⟨HN.out, HM.out⟩, Lib.hid ⟨HBX.out, HBY.out⟩, Lib.hid (fun _ => ⟨rfl, rfl⟩), GP, GQ, W2⟩
  case round =>
    clear GP GQ W2
    obtain ⟨k, us, vs, hk, rfl, HL, HB, H0, GP, GQ, HW⟩ := hrel
    by_cases hkl : k < 2
    · go_wp2_with fail
      refine (copy_at (some ⟨P, 0, none⟩) n (n + 80) us wr HL.out.1 (spare_rd GP.out) (by have := HL.out.1; omega)).mono ?_
      rintro e w3 ⟨Ap, cp, rfl, RP, b3⟩
      have GP3 := Lib.hid (GP.out.below b3 GP.out.lt)
      have GQ3 := Lib.hid (GQ.out.below b3 GQ.out.lt)
      have W3 := Lib.hid (HW.out.trans (b3.mono HW.out.size))
      clear b3
      go_wp2_with fail
      refine (copy_at (some ⟨Q, 0, none⟩) m (m + 80) vs w3 HL.out.2 (spare_rd GQ3.out) (by have := HL.out.2; omega)).mono ?_
      rintro e w5 ⟨Aq, cq, rfl, RQ, b5⟩
      have GP5 := Lib.hid (GP3.out.below b5 GP3.out.lt)
      have GQ5 := Lib.hid (GQ3.out.below b5 GQ3.out.lt)
      have W5 := Lib.hid (W3.out.trans (b5.mono W3.out.size))
      have RP5 := Lib.hid (RP.out.1.below b5)
      have FX : Hid (∀ W, Below w5.heap.size w5 W → Rd W .u8 (some ⟨P, 0, none⟩) us) := Lib.hid (fun W hW => (spare_rd GP5.out).below hW)
      have FY : Hid (∀ W, Below w5.heap.size w5 W → Rd W .u8 (some ⟨Q, 0, none⟩) vs) := Lib.hid (fun W hW => (spare_rd GQ5.out).below hW)
      have FP : Hid (∀ W, Below w5.heap.size w5 W → Rd W .u8 Ap us) := Lib.hid (fun W hW => RP5.out.below hW)
      have FQ : Hid (∀ W, Below w5.heap.size w5 W → Rd W .u8 Aq vs) := Lib.hid (fun W hW => RQ.out.1.below hW)
      have cX : n ≤ n + 80 := by omega
      have cY : m ≤ m + 80 := by omega
      have eX : n + 80 ≤ 9223372036854775807 := by omega
      have eY : m + 80 ≤ 9223372036854775807 := by omega
      have hS : Hid (w5.heap.size ≤ w5.heap.size) := Lib.hid (Nat.le_refl _)
      have HBW : Hid (Below w5.heap.size w5 w5) := Lib.hid (Below.refl _ _)
      clear b5 GP3 GQ3 W3 GP GQ
      go_wp2_with fail
      refine (live_any _ n (n + 80) us _ HL.out.1 (FX.out _ (by first | exact HBW.out | exact belowN HBW.out _ | exact belowN (belowN HBW.out _) _)) HB.out.1).mono ?_
      rintro e w' ⟨rfl, _, rfl⟩
      go_wp2_with fail
      refine (rlive_any _ n cp us _ HL.out.1 (FP.out _ (by first | exact HBW.out | exact belowN HBW.out _ | exact belowN (belowN HBW.out _) _)) HB.out.1).mono ?_
      rintro e w' ⟨rfl, rfl⟩
      go_wp2_with fail
      refine (lmask_any _ _).mono ?_
      rintro e w' ⟨rfl, rfl⟩
      go_wp2_with fail
      refine (live_any _ m (m + 80) vs _ HL.out.2 (FY.out _ (by first | exact HBW.out | exact belowN HBW.out _ | exact belowN (belowN HBW.out _) _)) HB.out.2).mono ?_
      rintro e w' ⟨rfl, _, rfl⟩
      go_wp2_with fail
      refine (rlive_any _ m cq vs _ HL.out.2 (FQ.out _ (by first | exact HBW.out | exact belowN HBW.out _ | exact belowN (belowN HBW.out _) _)) HB.out.2).mono ?_
      rintro e w' ⟨rfl, rfl⟩
      go_wp2_with fail
      refine (lmask_any _ _).mono ?_
      rintro e w' ⟨rfl, rfl⟩
      go_wp2_with fail
      refine (tog_any _ _ n (n + 80) m (m + 80) us vs _ HL.out.1 HL.out.2 cX cY eX eY (FX.out _ (by first | exact HBW.out | exact belowN HBW.out _ | exact belowN (belowN HBW.out _) _)) (FY.out _ (by first | exact HBW.out | exact belowN HBW.out _ | exact belowN (belowN HBW.out _) _)) HB.out.1 HB.out.2).mono ?_
      rintro e wn1 ⟨rfl, bn⟩
      have HBW := (by first | exact bch0 HBW hS.out bn | exact bch1 HBW hS.out bn : Hid (Below w5.heap.size w5 wn1))
      clear bn
      go_wp2_with fail
      refine (rtog_any _ _ n cp m cq us vs _ HL.out.1 HL.out.2 RP.out.2.1 RQ.out.2.1 RP.out.2.2 RQ.out.2.2 (FP.out _ (by first | exact HBW.out | exact belowN HBW.out _ | exact belowN (belowN HBW.out _) _)) (FQ.out _ (by first | exact HBW.out | exact belowN HBW.out _ | exact belowN (belowN HBW.out _) _)) HB.out.1 HB.out.2).mono ?_
      rintro e w' ⟨rfl, _, rfl⟩
      go_wp2_with fail
      refine (lmask_any _ _).mono ?_
      rintro e w' ⟨rfl, rfl⟩
      go_wp2_with fail
      refine (tog_any _ _ m (m + 80) n (n + 80) vs us _ HL.out.2 HL.out.1 cY cX eY eX (FY.out _ (by first | exact HBW.out | exact belowN HBW.out _ | exact belowN (belowN HBW.out _) _)) (FX.out _ (by first | exact HBW.out | exact belowN HBW.out _ | exact belowN (belowN HBW.out _) _)) HB.out.2 HB.out.1).mono ?_
      rintro e wn2 ⟨rfl, bn⟩
      have HBW := (by first | exact bch0 HBW hS.out bn | exact bch1 HBW hS.out bn : Hid (Below w5.heap.size w5 wn2))
      clear bn
      go_wp2_with fail
      refine (rtog_any _ _ m cq n cp vs us _ HL.out.2 HL.out.1 RQ.out.2.1 RP.out.2.1 RQ.out.2.2 RP.out.2.2 (FQ.out _ (by first | exact HBW.out | exact belowN HBW.out _ | exact belowN (belowN HBW.out _) _)) (FP.out _ (by first | exact HBW.out | exact belowN HBW.out _ | exact belowN (belowN HBW.out _) _)) HB.out.2 HB.out.1).mono ?_
      rintro e w' ⟨rfl, _, rfl⟩
      go_wp2_with fail
      refine (lmask_any _ _).mono ?_
      rintro e w' ⟨rfl, rfl⟩
      go_wp2_with fail
      refine (byGroup_any _ _ n (n + 80) m (m + 80) us vs _ HL.out.1 HL.out.2 cX cY eX eY (FX.out _ (by first | exact HBW.out | exact belowN HBW.out _ | exact belowN (belowN HBW.out _) _)) (FY.out _ (by first | exact HBW.out | exact belowN HBW.out _ | exact belowN (belowN HBW.out _) _)) HB.out.1 HB.out.2).mono ?_
      rintro e wn3 ⟨rfl, bn⟩
      have HBW := (by first | exact bch0 HBW hS.out bn | exact bch1 HBW hS.out bn : Hid (Below w5.heap.size w5 wn3))
      clear bn
      go_wp2_with fail
      refine (rbyGroup_any _ _ n cp m cq us vs _ HL.out.1 HL.out.2 RP.out.2.1 RQ.out.2.1 RP.out.2.2 RQ.out.2.2 (FP.out _ (by first | exact HBW.out | exact belowN HBW.out _ | exact belowN (belowN HBW.out _) _)) (FQ.out _ (by first | exact HBW.out | exact belowN HBW.out _ | exact belowN (belowN HBW.out _) _)) HB.out.1 HB.out.2).mono ?_
      rintro e w' ⟨rfl, _, rfl⟩
      go_wp2_with fail
      refine (lmask_any _ _).mono ?_
      rintro e w' ⟨rfl, rfl⟩
      go_wp2_with fail
      refine (byGroup_any _ _ m (m + 80) n (n + 80) vs us _ HL.out.2 HL.out.1 cY cX eY eX (FY.out _ (by first | exact HBW.out | exact belowN HBW.out _ | exact belowN (belowN HBW.out _) _)) (FX.out _ (by first | exact HBW.out | exact belowN HBW.out _ | exact belowN (belowN HBW.out _) _)) HB.out.2 HB.out.1).mono ?_
      rintro e wn4 ⟨rfl, bn⟩
      have HBW := (by first | exact bch0 HBW hS.out bn | exact bch1 HBW hS.out bn : Hid (Below w5.heap.size w5 wn4))
      clear bn
      go_wp2_with fail
      refine (rbyGroup_any _ _ m cq n cp vs us _ HL.out.2 HL.out.1 RQ.out.2.1 RP.out.2.1 RQ.out.2.2 RP.out.2.2 (FQ.out _ (by first | exact HBW.out | exact belowN HBW.out _ | exact belowN (belowN HBW.out _) _)) (FP.out _ (by first | exact HBW.out | exact belowN HBW.out _ | exact belowN (belowN HBW.out _) _)) HB.out.2 HB.out.1).mono ?_
      rintro e w' ⟨rfl, _, rfl⟩
      go_wp2_with fail
      refine (lmask_any _ _).mono ?_
      rintro e w' ⟨rfl, rfl⟩
      go_wp2_with fail
      refine (byIndex_any _ _ n (n + 80) m (m + 80) us vs _ HL.out.1 HL.out.2 cX cY eX eY (FX.out _ (by first | exact HBW.out | exact belowN HBW.out _ | exact belowN (belowN HBW.out _) _)) (FY.out _ (by first | exact HBW.out | exact belowN HBW.out _ | exact belowN (belowN HBW.out _) _)) HB.out.1 HB.out.2).mono ?_
      rintro e w' ⟨rfl, _, rfl⟩
      go_wp2_with fail
      refine (rbyIndex_any _ _ n cp m cq us vs _ HL.out.1 HL.out.2 RP.out.2.1 RQ.out.2.1 RP.out.2.2 RQ.out.2.2 (FP.out _ (by first | exact HBW.out | exact belowN HBW.out _ | exact belowN (belowN HBW.out _) _)) (FQ.out _ (by first | exact HBW.out | exact belowN HBW.out _ | exact belowN (belowN HBW.out _) _)) HB.out.1 HB.out.2).mono ?_
      rintro e w' ⟨rfl, _, rfl⟩
      go_wp2_with fail
      refine (lmask_any _ _).mono ?_
      rintro e w' ⟨rfl, rfl⟩
      go_wp2_with fail
      refine (byIndex_any _ _ m (m + 80) n (n + 80) vs us _ HL.out.2 HL.out.1 cY cX eY eX (FY.out _ (by first | exact HBW.out | exact belowN HBW.out _ | exact belowN (belowN HBW.out _) _)) (FX.out _ (by first | exact HBW.out | exact belowN HBW.out _ | exact belowN (belowN HBW.out _) _)) HB.out.2 HB.out.1).mono ?_
      rintro e w' ⟨rfl, _, rfl⟩
      go_wp2_with fail
      refine (rbyIndex_any _ _ m cq n cp vs us _ HL.out.2 HL.out.1 RQ.out.2.1 RP.out.2.1 RQ.out.2.2 RP.out.2.2 (FQ.out _ (by first | exact HBW.out | exact belowN HBW.out _ | exact belowN (belowN HBW.out _) _)) (FP.out _ (by first | exact HBW.out | exact belowN HBW.out _ | exact belowN (belowN HBW.out _) _)) HB.out.2 HB.out.1).mono ?_
      rintro e w' ⟨rfl, _, rfl⟩
      go_wp2_with fail
      refine (lmask_any _ _).mono ?_
      rintro e w' ⟨rfl, rfl⟩
      have hul : Hid (us.length ≤ 9223372036854775807 ∧ vs.length ≤ 9223372036854775807) := Lib.hid ⟨by have := HL.out.1; omega, by have := HL.out.2; omega⟩
      go_wp2_with fail
      refine (eqb_fr _ _ n n (n + 80) cp us us _ HL.out.1 HL.out.1 (FX.out _ (by first | exact HBW.out | exact belowN HBW.out _ | exact belowN (belowN HBW.out _) _ | exact belowN (belowN (belowN HBW.out _) _) _ | exact belowN (belowN (belowN (belowN HBW.out _) _) _) _)) (FP.out _ (by first | exact HBW.out | exact belowN HBW.out _ | exact belowN (belowN HBW.out _) _ | exact belowN (belowN (belowN HBW.out _) _) _ | exact belowN (belowN (belowN (belowN HBW.out _) _) _) _)) hul.out.1 hul.out.1).mono ?_
      rintro e w' ⟨q1, rfl, rfl⟩
      rw [show decide (us = us) = true from by simp]
      go_wp2_with fail
      refine (eqb_fr _ _ m m (m + 80) cq vs vs _ HL.out.2 HL.out.2 (FY.out _ (by first | exact HBW.out | exact belowN HBW.out _ | exact belowN (belowN HBW.out _) _ | exact belowN (belowN (belowN HBW.out _) _) _ | exact belowN (belowN (belowN (belowN HBW.out _) _) _) _)) (FQ.out _ (by first | exact HBW.out | exact belowN HBW.out _ | exact belowN (belowN HBW.out _) _ | exact belowN (belowN (belowN HBW.out _) _) _ | exact belowN (belowN (belowN (belowN HBW.out _) _) _) _)) hul.out.2 hul.out.2).mono ?_
      rintro e w' ⟨q2, rfl, rfl⟩
      rw [show decide (vs = vs) = true from by simp]
      have HW4 : Hid (Below w.heap.size w wn4) := Lib.hid (W5.out.trans (HBW.out.mono W5.out.size))
      have GP4 : Hid (Blk wn4 P 5 ((spL us).map (Value.int .u8))) := Lib.hid (GP5.out.below HBW.out GP5.out.lt)
      have GQ4 : Hid (Blk wn4 Q 5 ((spL vs).map (Value.int .u8))) := Lib.hid (GQ5.out.below HBW.out GQ5.out.lt)
      have HXL := Lib.hid (show xs.length ≤ 140737488355328 ∧ xs.length + 80 ≤ n + 80 ∧ ys.length ≤ 140737488355328 ∧ ys.length + 80 ≤ m + 80 from by have := HN.out; have := HM.out; omega)
      by_cases hk0 : k = 0
      all_goals (
        first
        | (have e1 := (H0.out hk0).1
           have e2 := (H0.out hk0).2
           subst e1 e2
           go_wp2_with fail
           refine (kept_any A P (n + 80) c n n us [] _ HN.out HN.out (spare_r8 (by first | exact GP4.out | exact blkN GP4.out _ | exact blkN (blkN GP4.out _) _ | exact blkN (blkN (blkN GP4.out _) _) _ | exact blkN (blkN (blkN (blkN GP4.out _) _) _) _ | exact blkN (blkN (blkN (blkN (blkN GP4.out _) _) _) _) _)) (HX.out.below (by first | exact HW4.out | exact belowN HW4.out _ | exact belowN (belowN HW4.out _) _ | exact belowN (belowN (belowN HW4.out _) _) _ | exact belowN (belowN (belowN (belowN HW4.out _) _) _) _ | exact belowN (belowN (belowN (belowN (belowN HW4.out _) _) _) _) _)) HXL.out.1 HXL.out.2.1 eX).mono ?_
           rintro e w' ⟨q3, rfl, rfl⟩
           go_wp2_with fail
           refine (kept_any B Q (m + 80) d m m vs [] _ HM.out HM.out (spare_r8 (by first | exact GQ4.out | exact blkN GQ4.out _ | exact blkN (blkN GQ4.out _) _ | exact blkN (blkN (blkN GQ4.out _) _) _ | exact blkN (blkN (blkN (blkN GQ4.out _) _) _) _ | exact blkN (blkN (blkN (blkN (blkN GQ4.out _) _) _) _) _)) (HY.out.below (by first | exact HW4.out | exact belowN HW4.out _ | exact belowN (belowN HW4.out _) _ | exact belowN (belowN (belowN HW4.out _) _) _ | exact belowN (belowN (belowN (belowN HW4.out _) _) _) _ | exact belowN (belowN (belowN (belowN (belowN HW4.out _) _) _) _) _)) HXL.out.2.2.1 HXL.out.2.2.2 eY).mono ?_
           rintro e w' ⟨q4, rfl, rfl⟩
           go_wp2_with fail)
        | (have hkd : decide (k = 0) = false := by simpa using hk0
           go_wp2_with fail)
        go_loopw [13] (fun z wx => ∃ (i : Nat) (us' vs' : List Int), i ≤ n ∧ i ≤ m ∧ z = .int .i64 i ∧ Hid (n = us'.length ∧ m = vs'.length) ∧ Hid (B8 us' ∧ B8 vs') ∧ Hid (Blk wx P 5 ((spL us').map (Value.int .u8))) ∧ Hid (Blk wx Q 5 ((spL vs').map (Value.int .u8))) ∧ Hid (Below w.heap.size w wx)) (fun z _ => n - (intOf z).toNat)
        case atStart => exact ⟨0, us, vs, Nat.zero_le _, Nat.zero_le _, rfl, HL, HB, Lib.hid (by first | exact GP4.out | exact blkN GP4.out _ | exact blkN (blkN GP4.out _) _ | exact blkN (blkN (blkN GP4.out _) _) _ | exact blkN (blkN (blkN (blkN GP4.out _) _) _) _ | exact blkN (blkN (blkN (blkN (blkN GP4.out _) _) _) _) _), Lib.hid (by first | exact GQ4.out | exact blkN GQ4.out _ | exact blkN (blkN GQ4.out _) _ | exact blkN (blkN (blkN GQ4.out _) _) _ | exact blkN (blkN (blkN (blkN GQ4.out _) _) _) _ | exact blkN (blkN (blkN (blkN (blkN GQ4.out _) _) _) _) _), Lib.hid (by first | exact HW4.out | exact belowN HW4.out _ | exact belowN (belowN HW4.out _) _ | exact belowN (belowN (belowN HW4.out _) _) _ | exact belowN (belowN (belowN (belowN HW4.out _) _) _) _ | exact belowN (belowN (belowN (belowN (belowN HW4.out _) _) _) _) _)⟩
        case round =>
          obtain ⟨i, us', vs', hi, hi2, rfl, HLx, HBx, GPx, GQx, HWx⟩ := hrel
          by_cases hil : i < n
          · have hid1 : decide ((i : Int) < (n : Int)) = true := by simp; omega
            by_cases hil2 : i < m
            · have hid2 : decide ((i : Int) < (m : Int)) = true := by simp; omega
              obtain ⟨b1, off1, y1, hA1, hc1, HK1⟩ := (spare_rd GPx.out).at i (by have := HLx.out.1; omega)
              cases hA1
              rw [Nat.zero_add] at hc1
              obtain ⟨b2, off2, y2, hA2, hc2, HK2⟩ := (spare_rd GQx.out).at i (by have := HLx.out.2; omega)
              cases hA2
              rw [Nat.zero_add] at hc2
              have hb1 := HBx.out.1 i
              rw [← HK1.out] at hb1
              have hb2 := HBx.out.2 i
              rw [← HK2.out] at hb2
              have HB1 := Lib.hid hb1
              have HB2 := Lib.hid hb2
              have hf1 := GPx.out.frozen i
              have hf2 := GQx.out.frozen i
              clear hb1 hb2
              have hne : ¬ P = Q := by have := HPQ.out; omega
              have hne' : ¬ Q = P := by have := HPQ.out; omega
              have HPW2 : Hid (w.heap.size ≤ Q) := Lib.hid (by have := HPQ.out; have := HPW.out; omega)
              go_wp2_with fail
              go_roundw
              case rel =>
                refine ⟨i + 1, us'.set i y2, vs'.set i y1, by omega, by omega, by go_num, Lib.hid (by rw [List.length_set, List.length_set]; exact HLx.out), Lib.hid ⟨HBx.out.1.set i HB2.out, HBx.out.2.set i HB1.out⟩, Lib.hid ?_, Lib.hid ?_, Lib.hid ?_⟩
                · exact (spare_set GPx.out (by have := HLx.out.1; omega) y2).other (p := ⟨Q, i, none⟩) hne _
                · exact spare_set (GQx.out.other (p := ⟨P, i, none⟩) hne' _) (by have := HLx.out.2; omega) y1
                · exact (HWx.out.setCell (p := ⟨P, i, none⟩) HPW.out _).setCell (p := ⟨Q, i, none⟩) HPW2.out _
              case measure => simp [intOf]; omega
            · have hge : decide ((i : Int) < (m : Int)) = false := by simp; omega
              go_wp2_with fail
              go_roundw
              case rel => exact ⟨k + 1, us', vs', by omega, by go_num, HLx, HBx, Lib.hid (fun h => absurd h (Nat.succ_ne_zero _)), GPx, GQx, HWx⟩
              case measure => simp [intOf]; omega
          · have hge : decide ((i : Int) < (n : Int)) = false := by simp; omega
            go_wp2_with fail
            go_roundw
            case rel => exact ⟨k + 1, us', vs', by omega, by go_num, HLx, HBx, Lib.hid (fun h => absurd h (Nat.succ_ne_zero _)), GPx, GQx, HWx⟩
            case measure => simp [intOf]; omega)
    · obtain rfl : k = 2 := by omega
      go_wp2_with fail
      go_ret
      exact ⟨rfl, HW.out⟩
end Go.Proofs.Ytedejkfhgpnhpaa

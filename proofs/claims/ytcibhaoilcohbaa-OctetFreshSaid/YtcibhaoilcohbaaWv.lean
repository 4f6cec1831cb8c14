/-
  Walk: one step of both writers (wrote 41).
-/
import Derived.Test.YtcibhaoilcohbaaWt
set_option linter.unusedVariables false
set_option linter.unusedSimpArgs false
namespace Go.Proofs.Ytcibhaoilcohbaa
open Go.RowKit

/-- Both writers in one state. -/
def Duo (w : World) (p g p2 g2 z : Nat) (bs : List Int) (e : Int) : Prop :=
  Wtr 111 w p g z bs e ∧ Wtr 113 w p2 g2 z bs e ∧ (p ≠ p2 ∧ p ≠ g2 ∧ g ≠ p2 ∧ g ≠ g2) ∧ bs.length ≤ z ∧ z ≤ 2000000
theorem Duo.fr {S : Nat → Prop} {w w' : World} {p g p2 g2 z : Nat} {bs : List Int} {e : Int} (h : Duo w p g p2 g2 z bs e) (hf : Fr S w w') (h1 : ¬ S p) (h2 : ¬ S g) (h3 : ¬ S p2) (h4 : ¬ S g2) : Duo w' p g p2 g2 z bs e :=
  ⟨h.1.fr hf h1 h2, h.2.1.fr hf h3 h4, h.2.2⟩
theorem Duo.below {w w' : World} {p g p2 g2 z : Nat} {bs : List Int} {e : Int} (h : Duo w p g p2 g2 z bs e) (hb : Below w.heap.size w w') : Duo w' p g p2 g2 z bs e := h.fr (S := fun _ => False) (Fr.of_below hb _) id id id id
/-- Behind a step of both. -/
def DuoStep (w : World) (p g p2 g2 z : Nat) (w' : World) : Prop :=
  ∃ g' g2' bs e, Duo w' p g' p2 g2' z bs e ∧ (g' = g ∨ w.heap.size ≤ g') ∧ (g2' = g2 ∨ w.heap.size ≤ g2') ∧ Fr (fun j => j = p ∨ j = g ∨ j = p2 ∨ j = g2) w w'
theorem wL_len (z : Nat) (bs : List Int) (e : Int) (ys : List Int) (h : bs.length ≤ z) : (wL z bs e ys).length ≤ z := by
  unfold wL
  split
  · rw [List.length_append]; omega
  · exact h
theorem DuoStep.refl {w w' : World} {p g p2 g2 z : Nat} {bs : List Int} {e : Int} (h : Duo w p g p2 g2 z bs e) (hf : Fr (fun _ => False) w w') : DuoStep w p g p2 g2 z w' :=
  ⟨g, g2, bs, e, h.fr hf id id id id, .inl rfl, .inl rfl, hf.mono (fun _ h => h.elim)⟩
theorem DuoStep.after {w w1 w' : World} {p g p2 g2 z : Nat} (h : DuoStep w1 p g p2 g2 z w') (hb : Below w.heap.size w w1) : DuoStep w p g p2 g2 z w' := by
  obtain ⟨g', g2', bs, e, h1, h2, h3, h4⟩ := h
  exact ⟨g', g2', bs, e, h1, h2.imp id (Nat.le_trans hb.size), h3.imp id (Nat.le_trans hb.size), (Fr.of_below hb _).trans h4⟩
theorem duo_mid {w w1 w2 : World} {p g p2 g2 z : Nat} {bs L : List Int} {e E : Int} (h : Duo w p g p2 g2 z bs e) (h1 : Wrote 111 w p g z L E w1) (hb : Below w1.heap.size w1 w2) : Wtr 113 w2 p2 g2 z bs e := by
  obtain ⟨g', _, _, hf⟩ := h1
  exact (h.2.1.fr hf (by have := h.2.2.1; omega) (by have := h.2.2.1; omega)).below hb
theorem duo_two {w w1 w2 w3 : World} {p g p2 g2 z : Nat} {bs L : List Int} {e E : Int} (h : Duo w p g p2 g2 z bs e) (h1 : Wrote 111 w p g z L E w1) (hb : Below w1.heap.size w1 w2) (h2 : Wrote 113 w2 p2 g2 z L E w3) (hL : L.length ≤ z) : DuoStep w p g p2 g2 z w3 := by
  obtain ⟨g', a1, a2, a3⟩ := h1
  obtain ⟨g2', b1, b2, b3⟩ := h2
  have l1 := h.1.lt
  have l2 := h.2.1.lt
  have n := h.2.2.1
  have s1 := a3.size
  have s2 := hb.size
  have a4 := a1.lt
  have a5 := a1.below hb
  refine ⟨g', g2', L, E, ⟨a5.fr b3 (by omega) (by omega), b1, by omega, hL, h.2.2.2.2⟩, a2, b2.imp id (by omega), (a3.mono (fun j hj => by omega)).trans ((Fr.of_below hb _).trans (b3.mono (fun j hj => by omega)))⟩
theorem wdR_wd {d : Int} (h : 0 < wdR d) : Wd (wdR d) := by
  by_cases h1 : d = 1
  · subst h1; exact .inl rfl
  · by_cases h2 : d = 2
    · subst h2; exact .inr (.inl rfl)
    · by_cases h3 : d = 3
      · subst h3; exact .inr (.inr (.inl rfl))
      · by_cases h4 : d = 4
        · subst h4; exact .inr (.inr (.inr rfl))
        · unfold wdR at h; rw [if_neg h1, if_neg h2, if_neg h3, if_neg h4] at h; exact absurd h (by decide)
theorem lt_own {T : TypeId} {w : World} {p g z : Nat} {bs : List Int} {e : Int} (h : Wtr T w p g z bs e) : p < w.heap.size ∧ g < w.heap.size := h.lt

set_option maxHeartbeats 8000000 in
theorem wrote_any (p g p2 g2 z : Nat) (bs : List Int) (e d n : Int) (X : Nat) (A : Option Addr) (m c : Nat) (xs : List Int) (w0 w : World) (h : Duo w p g p2 g2 z bs e) (hX : X < 18446744073709551616) (hb0 : Below w0.heap.size w0 w) (hr : Rd w0 .u8 A xs) (hm : m = xs.length) (hl : xs.length ≤ 140737488354000)
    (hB : w0.heap.size ≤ p ∧ w0.heap.size ≤ g ∧ w0.heap.size ≤ p2 ∧ w0.heap.size ≤ g2) :
    Calls Try.prog 41 #[.pointer (some ⟨p, 0, none⟩), .pointer (some ⟨p2, 0, none⟩), .agg #[.int .i64 d, .int .i64 n, .int .u64 X, .slice A m c]] w fun e' w' => e' = .returned (.bool true) ∧ Hid (DuoStep w p g p2 g2 z w') := by
  have W0 := Lib.hid ((Below.refl w.heap.size w).alloc (Nat.le_refl _) (.cells #[.int .i64 d, .int .i64 n, .int .u64 X, .slice A m c] 52))
  have B0 : Hid (Blk (w.alloc (.cells #[.int .i64 d, .int .i64 n, .int .u64 X, .slice A m c] 52)) w.heap.size 52 [.int .i64 d, .int .i64 n, .int .u64 X, .slice A m c]) := Lib.hid (Blk.new w 52 _)
  have HD := Lib.hid (h.below W0.out)
  have HSZ : Hid (w.heap.size ≠ p ∧ w.heap.size ≠ p2 ∧ w.heap.size ≠ g ∧ w.heap.size ≠ g2) := Lib.hid (by
    have a1 := h.1.lt
    have a2 := h.2.1.lt
    omega)
  have HBZ := Lib.hid (show bs.length ≤ z ∧ z ≤ 2000000 from h.2.2.2)
  have HW0 := Lib.hid (hb0.trans (W0.out.mono hb0.size))
  have HR := Lib.hid hr
  have HM := Lib.hid hm
  have HLL := Lib.hid hl
  have HBB := Lib.hid hB
  clear h hr hm hl hB hb0
  by_cases hw : 0 < wdR d
  · have hw1 : (0 : Int) < (wdR d : Int) := by omega
    have hw2 : decide ((0 : Int) < (wdR d : Int)) = true := decide_eq_true hw1
    go_enter Try.func41, Try.ntmps41
    go_wp2_with fail
    generalize w.alloc (.cells #[.int .i64 d, .int .i64 n, .int .u64 X, .slice A m c] 52) = w1 at W0 B0 HD HW0
    obtain ⟨S, hS⟩ : ∃ S, S = w.heap.size := ⟨_, rfl⟩
    rw [← hS] at B0 ⊢
    have HSP : Hid (S ≠ p ∧ S ≠ p2 ∧ S ≠ g ∧ S ≠ g2) := Lib.hid (hS ▸ HSZ.out)
    have HSS := Lib.hid hS
    clear hS
    have k0 : w1.cell? ⟨S, 0, none⟩ = some (.int .i64 d) := B0.out.cell 0
    have k2 : w1.cell? ⟨S, 2, none⟩ = some (.int .u64 X) := B0.out.cell 2
    have k3 : w1.cell? ⟨S, 3, none⟩ = some (.slice A m c) := B0.out.cell 3
    go_wp2_with fail
    refine (wd_any d w1).mono ?_
    rintro e' w' ⟨rfl, hww⟩
    obtain rfl : w1 = w' := hww.symm
    go_wp2_with fail
    refine (lay_any p g z bs e d X w1 HD.out.1 hX HBZ.out.2 HBZ.out.1 hw).mono ?_
    rintro e' w2 ⟨⟨u, rfl⟩, HW1⟩
    obtain ⟨s, hs⟩ : ∃ s, s = wdR d := ⟨_, rfl⟩
    have hWd : Hid (Wd s) := Lib.hid (hs ▸ wdR_wd hw)
    rw [← hs] at HW1 ⊢
    obtain ⟨Y, hY⟩ : ∃ Y, Y = X % 256 ^ s := ⟨_, rfl⟩
    have HYB : Hid (Y < 18446744073709551616) := Lib.hid (hY ▸ hWd.out.pow X)
    have HF1 : Hid (Fr (fun j => j = p ∨ j = g) w1 w2) := Lib.hid (by obtain ⟨_, _, _, h⟩ := HW1.out; exact h)
    have B2 := Lib.hid (B0.out.fr HF1.out (by have := HSP.out; omega))
    have j2 : w2.cell? ⟨S, 2, none⟩ = some (.int .u64 X) := B2.out.cell 2
    clear k0 k2 k3 hw1 hw2 hw hs
    go_wp2_with fail
    refine (cut_any X s w2 hX hWd.out).mono ?_
    rintro e' w' ⟨rfl, hww⟩
    obtain rfl : w2 = w' := hww.symm
    rw [← hY] at HW1 ⊢
    clear hY
    go_wp2_with fail
    refine (bytes_any Y s w2 HYB.out (by have := hWd.out.le; omega)).mono ?_
    rintro e' w3 ⟨v3, rfl, o3, b3⟩
    obtain ⟨A3, c3, rfl, -, -, r3, -⟩ := o3.slice
    have R3 := Lib.hid r3
    have B3 := Lib.hid b3
    have HQ := Lib.hid (duo_mid HD.out HW1.out B3.out)
    clear o3 b3 r3
    go_wp2_with fail
    refine (qbytes_any p2 g2 z bs e A3 _ c3 (leN Y s) w3 HQ.out rfl R3.out HBZ.out.2 HBZ.out.1 (by rw [leN_len]; have := hWd.out.le; omega)).mono ?_
    rintro e' w4 ⟨⟨u4, rfl⟩, HW4⟩
    have HST := Lib.hid ((duo_two HD.out HW1.out B3.out HW4.out (wL_len _ _ _ _ HBZ.out.1)).after W0.out)
    go_wp2_with fail
    go_ret
    exact ⟨rfl, HST⟩
  · have hw0 : wdR d = 0 := by omega
    have HZ0 := Lib.hid hw0
    clear hw0 hw
    by_cases h5 : d = 5
    · subst h5
      go_enter Try.func41, Try.ntmps41
      go_wp2_with fail
      generalize w.alloc (.cells #[.int .i64 5, .int .i64 n, .int .u64 X, .slice A m c] 52) = w1 at W0 B0 HD HW0
      obtain ⟨S, hS⟩ : ∃ S, S = w.heap.size := ⟨_, rfl⟩
      rw [← hS] at B0 ⊢
      have HSP : Hid (S ≠ p ∧ S ≠ p2 ∧ S ≠ g ∧ S ≠ g2) := Lib.hid (hS ▸ HSZ.out)
      have HSS := Lib.hid hS
      clear hS
      have k0 : w1.cell? ⟨S, 0, none⟩ = some (.int .i64 5) := B0.out.cell 0
      have k2 : w1.cell? ⟨S, 2, none⟩ = some (.int .u64 X) := B0.out.cell 2
      have k3 : w1.cell? ⟨S, 3, none⟩ = some (.slice A m c) := B0.out.cell 3
      go_wp2_with fail
      refine (wd_any 5 w1).mono ?_
      rintro e' w' ⟨rfl, hww⟩
      obtain rfl : w1 = w' := hww.symm
      rw [HZ0.out]
      go_wp2_with fail
      refine (lent_any A m c xs w1 HM.out (HR.out.below HW0.out) (by have := HLL.out; omega)).mono ?_
      rintro e' w2 ⟨G, cg, rest, rfl, hG, LG, b2⟩
      have HLG := Lib.hid LG
      have B2 := Lib.hid b2
      have HGS : Hid (w1.heap.size ≤ G ∧ G < w2.heap.size ∧ S < w1.heap.size ∧ p < w1.heap.size ∧ g < w1.heap.size ∧ p2 < w1.heap.size ∧ g2 < w1.heap.size) := Lib.hid ⟨hG, LG.blk.lt, B0.out.lt, HD.out.1.lt.1, HD.out.1.lt.2, HD.out.2.1.lt.1, HD.out.2.1.lt.2⟩
      have HD2 := Lib.hid (HD.out.below b2)
      have W2 := Lib.hid (W0.out.trans (b2.mono W0.out.size))
      have HX2 := Lib.hid (HW0.out.trans (b2.mono HW0.out.size))
      have BS2 := Lib.hid (B0.out.below b2 B0.out.lt)
      clear hG LG b2 k0 k2 k3
      have j3 : w2.cell? ⟨S, 3, none⟩ = some (.slice A m c) := BS2.out.cell 3
      go_wp2_with fail
      refine (wbytes_any p g z bs e _ m cg xs w2 HD2.out.1 HM.out HLG.out.rd HBZ.out.2 HBZ.out.1 (by have := HM.out; have := HLL.out; omega)).mono ?_
      rintro e' w3 ⟨⟨u, rfl⟩, HW1⟩
      have HF1 : Hid (Fr (fun j => j = p ∨ j = g) w2 w3) := Lib.hid (by obtain ⟨_, _, _, h⟩ := HW1.out; exact h)
      have BS3 := Lib.hid (BS2.out.fr HF1.out (by have := HSP.out; omega))
      have HQ := Lib.hid (duo_mid HD2.out HW1.out (Below.refl _ _))
      have HX3 := Lib.hid (HX2.out.trans (HF1.out.below HX2.out.size (fun j hj => by have := HBB.out; omega)))
      have i3 : w3.cell? ⟨S, 3, none⟩ = some (.slice A m c) := BS3.out.cell 3
      clear j3
      go_wp2_with fail
      refine (qbytes_any p2 g2 z bs e A m c xs w3 HQ.out HM.out (HR.out.below HX3.out) HBZ.out.2 HBZ.out.1 (by have := HM.out; have := HLL.out; omega)).mono ?_
      rintro e' w4 ⟨⟨u4, rfl⟩, HW4⟩
      have HF4 : Hid (Fr (fun j => j = p2 ∨ j = g2) w3 w4) := Lib.hid (by obtain ⟨_, _, _, h⟩ := HW4.out; exact h)
      have BS4 := Lib.hid (BS3.out.fr HF4.out (by have := HSP.out; omega))
      have HX4 := Lib.hid (HX3.out.trans (HF4.out.below HX3.out.size (fun j hj => by have := HBB.out; omega)))
      have HLG4 := Lib.hid ((HLG.out.fr HF1.out (by have := HGS.out; omega)).fr HF4.out (by have := HGS.out; omega))
      have HST := Lib.hid (duo_two HD2.out HW1.out (Below.refl _ _) HW4.out (wL_len _ _ _ _ HBZ.out.1))
      have h3 : w4.cell? ⟨S, 3, none⟩ = some (.slice A m c) := BS4.out.cell 3
      clear i3
      go_wp2_with fail
      refine (still_any A G cg c m m xs rest w4 HM.out HM.out HLG4.out (HR.out.below HX4.out)).mono ?_
      rintro e' w' ⟨q1, rfl, rfl⟩
      have HLG5 := Lib.hid (HLG4.out.drewN q1)
      have HST5 : Hid (DuoStep w2 p g p2 g2 z (w4.drewN q1)) := Lib.hid (by obtain ⟨g', g2', L, E, h1, h2, h3, h4⟩ := HST.out; exact ⟨g', g2', L, E, h1.fr ((Fr.refl (fun _ => False) w4).drewN q1) id id id id, h2, h3, h4.drewN q1⟩)
      generalize w4.drewN q1 = w5 at HLG5 HST5
      obtain ⟨g', g2', L, E, hd5, hg', hg2', hf5⟩ := HST5.out
      have HD5 := Lib.hid hd5
      have HG5 : Hid ((g' = g ∨ w2.heap.size ≤ g') ∧ (g2' = g2 ∨ w2.heap.size ≤ g2')) := Lib.hid ⟨hg', hg2'⟩
      have HFR5 := Lib.hid hf5
      have hm63 : m ≤ 140737488354000 := by have := HM.out; have := HLL.out; omega
      clear hd5 hg' hg2' hf5 h3 HLG HLG4 HST HST5 HX2 HX3 HX4 BS2 BS3 BS4 HW1 HW4 HQ HD2 HF1 HF4 HD B0 HW0
      go_wp2_with fail
      go_loopw [9] (fun zz wr => ∃ (k : Nat) (zs : List Int), k ≤ m ∧ zz = .int .i64 k ∧ Hid (m = zs.length) ∧ Hid (Lent wr G cg zs rest) ∧ Hid (Fr (fun j => j = G) w5 wr)) (fun zz _ => m - (intOf zz).toNat)
      case atStart => exact ⟨0, xs, Nat.zero_le _, rfl, HM, HLG5, Lib.hid (Fr.refl _ _)⟩
      case round =>
        obtain ⟨k, zs, hk, rfl, HZ, HLZ, HF⟩ := hrel
        by_cases hlt : k < m
        · obtain ⟨b, off, y, hA, hc, HYK⟩ := HLZ.out.rd.at k (by have := HZ.out; omega)
          cases hA
          rw [Nat.zero_add] at hc
          have hfz := HLZ.out.blk.frozen k
          go_wp2_with fail
          go_roundw
          case rel => exact ⟨k + 1, zs.set k _, by omega, by go_num, Lib.hid (by rw [List.length_set]; exact HZ.out), Lib.hid (HLZ.out.set (by have := HZ.out; omega) _), Lib.hid (HF.out.setCell (p := ⟨G, k, none⟩) (.inl rfl) _)⟩
          case measure => simp [intOf]; omega
        · have hge : decide ((k : Int) < (m : Int)) = false := by simp; omega
          go_wp2_with fail
          go_ret
          have hD6 := HD5.out.fr HF.out (by have := HGS.out; omega) (by have := HGS.out; have := HG5.out; omega) (by have := HGS.out; omega) (by have := HGS.out; have := HG5.out; omega)
          have hw2s := W2.out.size
          have hfin : Fr (fun j => (j = p ∨ j = g ∨ j = p2 ∨ j = g2) ∨ w.heap.size ≤ j) w wr := ((Fr.of_below W2.out _).trans (HFR5.out.mono (fun j hj => .inl hj))).trans (HF.out.mono (fun j hj => .inr (by have := HGS.out; have := W0.out.size; omega)))
          exact ⟨rfl, Lib.hid ⟨g', g2', L, E, hD6, HG5.out.1.imp id (by omega), HG5.out.2.imp id (by omega), ⟨hfin.os, hfin.tape, hfin.output, hfin.size, fun j hj hn => hfin.block j hj (by omega)⟩⟩⟩
    · by_cases h6 : d = 6
      · subst h6
        go_enter Try.func41, Try.ntmps41
        go_wp2_with fail
        generalize w.alloc (.cells #[.int .i64 6, .int .i64 n, .int .u64 X, .slice A m c] 52) = w1 at W0 B0 HD HW0
        obtain ⟨S, hS⟩ : ∃ S, S = w.heap.size := ⟨_, rfl⟩
        rw [← hS] at B0 ⊢
        have HSP : Hid (S ≠ p ∧ S ≠ p2 ∧ S ≠ g ∧ S ≠ g2) := Lib.hid (hS ▸ HSZ.out)
        have HSS := Lib.hid hS
        clear hS
        have k0 : w1.cell? ⟨S, 0, none⟩ = some (.int .i64 6) := B0.out.cell 0
        have k2 : w1.cell? ⟨S, 2, none⟩ = some (.int .u64 X) := B0.out.cell 2
        have k3 : w1.cell? ⟨S, 3, none⟩ = some (.slice A m c) := B0.out.cell 3
        go_wp2_with fail
        refine (wd_any 6 w1).mono ?_
        rintro e' w' ⟨rfl, hww⟩
        obtain rfl : w1 = w' := hww.symm
        rw [HZ0.out]
        go_wp2_with fail
        refine (wleft_any p g z bs e w1 HD.out.1 HBZ.out.2 HBZ.out.1).mono ?_
        rintro e' w' ⟨rfl, q1, rfl⟩
        have HD2 : Hid (Duo (w1.drewN q1) p g p2 g2 z bs e) := Lib.hid (HD.out.fr ((Fr.refl (fun _ => False) w1).drewN q1) id id id id)
        have W2 := Lib.hid (belowN W0.out q1)
        generalize w1.drewN q1 = w2 at HD2 W2
        go_wp2_with fail
        refine (qleft_any p2 g2 z bs e w2 HD2.out.2.1 HBZ.out.2 HBZ.out.1).mono ?_
        rintro e' w' ⟨rfl, q2, rfl⟩
        go_wp2_with fail
        go_ret
        exact ⟨rfl, Lib.hid ((DuoStep.refl HD2.out ((Fr.refl _ _).drewN q2)).after W2.out)⟩
      · by_cases h7 : d = 7
        · subst h7
          go_enter Try.func41, Try.ntmps41
          go_wp2_with fail
          generalize w.alloc (.cells #[.int .i64 7, .int .i64 n, .int .u64 X, .slice A m c] 52) = w1 at W0 B0 HD HW0
          obtain ⟨S, hS⟩ : ∃ S, S = w.heap.size := ⟨_, rfl⟩
          rw [← hS] at B0 ⊢
          have HSP : Hid (S ≠ p ∧ S ≠ p2 ∧ S ≠ g ∧ S ≠ g2) := Lib.hid (hS ▸ HSZ.out)
          have HSS := Lib.hid hS
          clear hS
          have k0 : w1.cell? ⟨S, 0, none⟩ = some (.int .i64 7) := B0.out.cell 0
          have k2 : w1.cell? ⟨S, 2, none⟩ = some (.int .u64 X) := B0.out.cell 2
          have k3 : w1.cell? ⟨S, 3, none⟩ = some (.slice A m c) := B0.out.cell 3
          go_wp2_with fail
          refine (wd_any 7 w1).mono ?_
          rintro e' w' ⟨rfl, hww⟩
          obtain rfl : w1 = w' := hww.symm
          rw [HZ0.out]
          go_wp2_with fail
          go_ret
          exact ⟨rfl, Lib.hid ((DuoStep.refl HD.out (Fr.refl _ _)).after W0.out)⟩
        · by_cases h8 : d = 8
          · subst h8
            go_enter Try.func41, Try.ntmps41
            go_wp2_with fail
            generalize w.alloc (.cells #[.int .i64 8, .int .i64 n, .int .u64 X, .slice A m c] 52) = w1 at W0 B0 HD HW0
            obtain ⟨S, hS⟩ : ∃ S, S = w.heap.size := ⟨_, rfl⟩
            rw [← hS] at B0 ⊢
            have HSP : Hid (S ≠ p ∧ S ≠ p2 ∧ S ≠ g ∧ S ≠ g2) := Lib.hid (hS ▸ HSZ.out)
            have HSS := Lib.hid hS
            clear hS
            have k0 : w1.cell? ⟨S, 0, none⟩ = some (.int .i64 8) := B0.out.cell 0
            have k2 : w1.cell? ⟨S, 2, none⟩ = some (.int .u64 X) := B0.out.cell 2
            have k3 : w1.cell? ⟨S, 3, none⟩ = some (.slice A m c) := B0.out.cell 3
            go_wp2_with fail
            refine (wd_any 8 w1).mono ?_
            rintro e' w' ⟨rfl, hww⟩
            obtain rfl : w1 = w' := hww.symm
            rw [HZ0.out]
            go_wp2_with fail
            refine (wdone_any p g z bs e w1 HD.out.1 HBZ.out.2 HBZ.out.1).mono ?_
            rintro e' w2 ⟨v1, rfl, HO1, HB1⟩
            have HD2 := Lib.hid (HD.out.below HB1.out)
            have W2 := Lib.hid (W0.out.trans (HB1.out.mono W0.out.size))
            go_wp2_with fail
            refine (qdone_any p2 g2 z bs e w2 HD2.out.2.1 HBZ.out.2 HBZ.out.1).mono ?_
            rintro e' w3 ⟨v2, rfl, HO2, HB2⟩
            have HD3 := Lib.hid (HD2.out.below HB2.out)
            have W3 := Lib.hid (W2.out.trans (HB2.out.mono W2.out.size))
            obtain ⟨T, hT⟩ : ∃ T, T = dnL z bs e := ⟨_, rfl⟩
            obtain ⟨E, hE⟩ : ∃ E, E = dnE z bs e := ⟨_, rfl⟩
            have HTT : Hid (T.length ≤ 2000000) := Lib.hid (by rw [hT]; unfold dnL; split; have := HBZ.out; omega; simp)
            rw [← hT] at HO1 HO2 
            rw [← hE]
            clear hT hE
            have HO13 := Lib.hid (HO1.out.below HB2.out)
            have HG1 : Hid (∀ j, v1.ownBlock = some j → p ≠ j ∧ g ≠ j ∧ p2 ≠ j ∧ g2 ≠ j ∧ w.heap.size ≤ j) := Lib.hid (fun j hj => by have := (HO1.out.base_le hj).1; have := HD.out.1.lt; have := HD.out.2.1.lt; have := W0.out.size; omega)
            obtain ⟨A1, c1, rfl, -, -, r1, -⟩ := HO13.out.slice
            obtain ⟨A2, c2, rfl, -, -, r2, -⟩ := HO2.out.slice
            have R1 := Lib.hid r1
            have R2 := Lib.hid r2
            clear r1 r2 HD2 W2 HO2 HO1 HB1 HB2
            go_wp2_with fail
            refine (same_any A1 A2 _ _ c1 c2 T T w3 rfl rfl R1.out R2.out (by have := HTT.out; omega) (by have := HTT.out; omega)).mono ?_
            rintro e' w' ⟨q1, rfl, rfl⟩
            rw [show decide (T = T) = true from by simp]
            have HD4 : Hid (Duo (w3.drewN q1) p g p2 g2 z bs e) := Lib.hid (HD3.out.fr ((Fr.refl (fun _ => False) w3).drewN q1) id id id id)
            have W4 := Lib.hid (belowN W3.out q1)
            have O4 := Lib.hid (HO13.out.drewN q1)
            have LP : Hid (p < w1.heap.size ∧ g < w1.heap.size ∧ p2 < w1.heap.size ∧ g2 < w1.heap.size ∧ w.heap.size ≤ w1.heap.size) := Lib.hid ⟨HD.out.1.lt.1, HD.out.1.lt.2, HD.out.2.1.lt.1, HD.out.2.1.lt.2, W0.out.size⟩
            generalize w3.drewN q1 = w4 at HD4 W4 O4
            clear HD3 W3 HO13 R1 R2 HG1 HD B0 W0 HW0 k0 k2 k3
            have hT63 : T.length ≤ 2000000 := HTT.out
            go_wp2_with fail
            go_loopw [14] (fun zz wr => ∃ (k : Nat) (zs : List Int), k ≤ T.length ∧ zz = .int .i64 k ∧ Hid (zs.length = T.length) ∧ Hid (Own wr w1.heap.size 5 .u8 (.slice A1 T.length c1) zs) ∧ Hid (Fr (fun j => w1.heap.size ≤ j) w4 wr)) (fun zz _ => T.length - (intOf zz).toNat)
            case atStart => exact ⟨0, T, Nat.zero_le _, rfl, Lib.hid rfl, O4, Lib.hid (Fr.refl _ _)⟩
            case round =>
              obtain ⟨k, zs, hk, rfl, HZ, HOZ, HFZ⟩ := hrel
              by_cases hlt : k < T.length
              · obtain ⟨g1, c9, y, hv9, hc9, hz9⟩ := HOZ.out.cells (k := k) (by have := HZ.out; omega)
                injection hv9 with e1 e2 e3
                subst e1 e3
                go_wp2_with fail
                go_roundw
                case rel => exact ⟨k + 1, zs.set k _, by omega, by go_num, Lib.hid (by rw [List.length_set]; exact HZ.out), Lib.hid (HOZ.out.setAt (by have := HZ.out; omega) _), Lib.hid (HFZ.out.setCell (p := ⟨g1, k, none⟩) (.inl (HOZ.out.base_le rfl).1) _)⟩
                case measure => simp [intOf]; omega
              · have hge : decide ((k : Int) < ((T.length : Nat) : Int)) = false := by simp; omega
                have hge2 : decide (k < T.length) = false := by simp; omega
                go_wp2_with fail
                go_ret
                have hf := W4.out.trans (HFZ.out.below W4.out.size (fun j hj => by have := LP.out; omega))
                exact ⟨rfl, Lib.hid ⟨g, g2, bs, e, HD4.out.fr HFZ.out (by have := LP.out; omega) (by have := LP.out; omega) (by have := LP.out; omega) (by have := LP.out; omega), .inl rfl, .inl rfl, Fr.of_below hf _⟩⟩
          · have b5 : (d == 5) = false := by simpa using h5
            have b6 : (d == 6) = false := by simpa using h6
            have b7 : (d == 7) = false := by simpa using h7
            have b8 : (d == 8) = false := by simpa using h8
            clear h5 h6 h7 h8
            go_enter Try.func41, Try.ntmps41
            go_wp2_with fail
            generalize w.alloc (.cells #[.int .i64 d, .int .i64 n, .int .u64 X, .slice A m c] 52) = w1 at W0 B0 HD HW0
            obtain ⟨S, hS⟩ : ∃ S, S = w.heap.size := ⟨_, rfl⟩
            rw [← hS] at B0 ⊢
            have HSP : Hid (S ≠ p ∧ S ≠ p2 ∧ S ≠ g ∧ S ≠ g2) := Lib.hid (hS ▸ HSZ.out)
            have HSS := Lib.hid hS
            clear hS
            have k0 : w1.cell? ⟨S, 0, none⟩ = some (.int .i64 d) := B0.out.cell 0
            have k2 : w1.cell? ⟨S, 2, none⟩ = some (.int .u64 X) := B0.out.cell 2
            have k3 : w1.cell? ⟨S, 3, none⟩ = some (.slice A m c) := B0.out.cell 3
            go_wp2_with fail
            refine (wd_any d w1).mono ?_
            rintro e' w' ⟨rfl, hww⟩
            obtain rfl : w1 = w' := hww.symm
            rw [HZ0.out]
            go_wp2_with fail
            go_ret
            exact ⟨rfl, Lib.hid ((DuoStep.refl HD.out (Fr.refl _ _)).after W0.out)⟩
end Go.Proofs.Ytcibhaoilcohbaa

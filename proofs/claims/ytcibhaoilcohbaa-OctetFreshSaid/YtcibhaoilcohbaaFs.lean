/-
  Walk: the law OctetFresh.
-/
import Derived.Test.YtcibhaoilcohbaaTb
import Derived.Test.YtcibhaoilcohbaaTw
set_option linter.unusedVariables false
set_option linter.unusedSimpArgs false
namespace Go.Proofs.Ytcibhaoilcohbaa
open Go.RowKit

/-- What lives in the midst of the law: what was lent, two readers, two writers; all below B, and apart. -/
structure Fz (w : World) (B G cg : Nat) (rest : List Value) (p1 g1 : Nat) (l1 : List Int) (p2 g2 : Nat) (l2 : List Int) (p3 g3 p4 g4 M : Nat) (ys : List Int) : Prop where
  len : Lent w G cg ys rest
  r1 : Rdr w p1 g1 l1 0
  r2 : Rdr w p2 g2 l2 0
  w1 : Wtr 111 w p3 g3 M ys 0
  w2 : Wtr 111 w p4 g4 M ys 0
  below : G < B ∧ p1 < B ∧ g1 < B ∧ p2 < B ∧ g2 < B ∧ p3 < B ∧ g3 < B ∧ p4 < B ∧ g4 < B
  n1 : G ≠ p1 ∧ p2 ≠ p1 ∧ g2 ≠ p1 ∧ p3 ≠ p1 ∧ g3 ≠ p1 ∧ p4 ≠ p1 ∧ g4 ≠ p1
  n2 : G ≠ p2 ∧ p1 ≠ p2 ∧ g1 ≠ p2 ∧ p3 ≠ p2 ∧ g3 ≠ p2 ∧ p4 ≠ p2 ∧ g4 ≠ p2
  size : B ≤ w.heap.size
theorem Fz.fr {S : Nat → Prop} {w w' : World} {B G cg : Nat} {rest : List Value} {p1 g1 : Nat} {l1 : List Int} {p2 g2 : Nat} {l2 : List Int} {p3 g3 p4 g4 M : Nat} {ys : List Int} (h : Fz w B G cg rest p1 g1 l1 p2 g2 l2 p3 g3 p4 g4 M ys) (hf : Fr S w w') (hS : ∀ j, j < B → ¬ S j) : Fz w' B G cg rest p1 g1 l1 p2 g2 l2 p3 g3 p4 g4 M ys :=
  have b := h.below
  ⟨h.len.fr hf (hS _ (by omega)), h.r1.fr hf (hS _ (by omega)) (hS _ (by omega)), h.r2.fr hf (hS _ (by omega)) (hS _ (by omega)), h.w1.fr hf (hS _ (by omega)) (hS _ (by omega)), h.w2.fr hf (hS _ (by omega)) (hS _ (by omega)), b, h.n1, h.n2, Nat.le_trans h.size hf.size⟩
theorem Fz.step1 {w w' : World} {B G cg : Nat} {rest : List Value} {p1 g1 : Nat} {l1 l1' : List Int} {p2 g2 : Nat} {l2 : List Int} {p3 g3 p4 g4 M : Nat} {ys : List Int} (h : Fz w B G cg rest p1 g1 l1 p2 g2 l2 p3 g3 p4 g4 M ys) (hf : Fr (fun j => j = p1) w w') (hr : Rdr w' p1 g1 l1' 0) : Fz w' B G cg rest p1 g1 l1' p2 g2 l2 p3 g3 p4 g4 M ys :=
  have n := h.n1
  ⟨h.len.fr hf n.1, hr, h.r2.fr hf n.2.1 n.2.2.1, h.w1.fr hf n.2.2.2.1 n.2.2.2.2.1, h.w2.fr hf n.2.2.2.2.2.1 n.2.2.2.2.2.2, h.below, h.n1, h.n2, Nat.le_trans h.size hf.size⟩
theorem Fz.step2 {w w' : World} {B G cg : Nat} {rest : List Value} {p1 g1 : Nat} {l1 : List Int} {p2 g2 : Nat} {l2 l2' : List Int} {p3 g3 p4 g4 M : Nat} {ys : List Int} (h : Fz w B G cg rest p1 g1 l1 p2 g2 l2 p3 g3 p4 g4 M ys) (hf : Fr (fun j => j = p2) w w') (hr : Rdr w' p2 g2 l2' 0) : Fz w' B G cg rest p1 g1 l1 p2 g2 l2' p3 g3 p4 g4 M ys :=
  have n := h.n2
  ⟨h.len.fr hf n.1, h.r1.fr hf n.2.1 n.2.2.1, hr, h.w1.fr hf n.2.2.2.1 n.2.2.2.2.1, h.w2.fr hf n.2.2.2.2.2.1 n.2.2.2.2.2.2, h.below, h.n1, h.n2, Nat.le_trans h.size hf.size⟩
theorem rd_take {w : World} {A : Option Addr} {ys : List Int} (h : Rd w .u8 A ys) (k : Nat) : Rd w .u8 A (ys.take k) := h.take k
/-- A reader gives k bytes. -/
theorem take_step (ys : List Int) (k : Nat) (h : k ≤ ys.length) : tkL ys k 0 = ys.take k ∧ rsL ys k 0 = ys.drop k ∧ erR ys k 0 = 0 := by
  have h2 : (0 : Int) = 0 ∧ (0 : Int) ≤ (k : Int) ∧ (k : Int) ≤ (ys.length : Nat) := ⟨rfl, by omega, by omega⟩
  refine ⟨?_, ?_, ?_⟩
  · unfold tkL; rw [if_pos h2]; simp
  · unfold rsL; rw [if_pos h2]; simp
  · unfold erR; rw [if_pos rfl, if_neg (by omega), if_neg (by omega)]
/-- A row's block lies between. -/
def Rg (v : Value) (lo hi : Nat) : Prop := ∀ j, v.ownBlock = some j → lo ≤ j ∧ j < hi
theorem lt7 {i : Nat} (h : i < 7) : i = 0 ∨ i = 1 ∨ i = 2 ∨ i = 3 ∨ i = 4 ∨ i = 5 ∨ i = 6 := by omega
theorem same_qt {A B : Option Addr} {n m c d : Nat} {xs : List Int} {w : World} (y x : Nat) (hn : Hid (n = xs.length)) (hm : Hid (m = xs.length)) (hx : Hid (Rd w .u8 A xs)) (hy : Hid (Rd w .u8 B xs)) (hl : xs.length ≤ 9223372036854775807) :
    Calls Try.prog 20 #[.slice A n c, .slice B m d] (w.drewN (y + x)) fun e w'' => e = .returned (.bool true) ∧ ∃ q, w'' = w.drewN (y + q) := by
  refine (same_any A B n m c d xs xs _ hn.out hm.out (hx.out.draws _) (hy.out.draws _) hl hl).mono ?_
  rintro e w' ⟨q, rfl, rfl⟩
  exact ⟨by simp, x + q, by rw [World.drewN_drewN, Nat.add_assoc]⟩
theorem own_len {w : World} {base T : Nat} {k : IntKind} {A : Option Addr} {l c : Nat} {xs : List Int} (h : Own w base T k (.slice A xs.length c) xs) (e : l = xs.length) : Own w base T k (.slice A l c) xs := by rw [e]; exact h
theorem rg_len {A : Option Addr} {l m c lo hi : Nat} (h : Rg (.slice A m c) lo hi) (e : l = m) : Rg (.slice A l c) lo hi := by rw [e]; exact h
/-- Seven values. -/
def sev (a b c d e f g : Value) : Nat → Value := fun j => [a, b, c, d, e, f, g].getD j (.bool false)
theorem sev_all {P : Nat → Value → Prop} {a b c d e f g : Value} (h0 : P 0 a) (h1 : P 1 b) (h2 : P 2 c) (h3 : P 3 d) (h4 : P 4 e) (h5 : P 5 f) (h6 : P 6 g) : ∀ j, j < 7 → P j (sev a b c d e f g j) := fun j hj => by
  rcases lt7 hj with rfl | rfl | rfl | rfl | rfl | rfl | rfl
  · exact h0
  · exact h1
  · exact h2
  · exact h3
  · exact h4
  · exact h5
  · exact h6
/-- Rows in intervals that do not meet are apart. -/
theorem rg_dist {N : Nat} {vs : Nat → Value} {lo hi : Nat → Nat} (h : ∀ j, j < N → Rg (vs j) (lo j) (hi j)) (hd : ∀ i j, i < N → j < N → i ≠ j → hi i ≤ lo j ∨ hi j ≤ lo i) : Dist N vs := fun i j hi' hj hne g hg hg2 => by
  have h1 := h i hi' g hg
  have h2 := h j hj g hg2
  have h3 := hd i j hi' hj hne
  omega
def lo7 (a b c d e f g : Nat) : Nat → Nat := fun j => [a, b, c, d, e, f, g].getD j 0
theorem lo7_dist {s0 s1 s2 s3 s4 s5 s6 s7 : Nat} (h0 : s0 ≤ s1) (h1 : s1 ≤ s2) (h2 : s2 ≤ s3) (h3 : s3 ≤ s4) (h4 : s4 ≤ s5) (h5 : s5 ≤ s6) (h6 : s6 ≤ s7) :
    ∀ i j, i < 7 → j < 7 → i ≠ j → lo7 s4 s5 s6 s7 s1 s2 s3 i ≤ lo7 s3 s4 s5 s6 s0 s1 s2 j ∨ lo7 s4 s5 s6 s7 s1 s2 s3 j ≤ lo7 s3 s4 s5 s6 s0 s1 s2 i := fun i j hi hj hne => by
  rcases lt7 hi with rfl | rfl | rfl | rfl | rfl | rfl | rfl <;> rcases lt7 hj with rfl | rfl | rfl | rfl | rfl | rfl | rfl <;> simp [lo7] at hne ⊢ <;> omega

set_option maxRecDepth 100000 in
set_option maxHeartbeats 8000000 in
theorem fresh_ap (A : Option Addr) (n c : Nat) (xs : List Int) (z : Int) (w : World) (hn : n = xs.length) (hx : Rd w .u8 A xs) (hB : B8 xs) (hl : xs.length ≤ 140737488351232) (hc : n ≤ c ∧ c ≤ maxLen) (hbig : n ≤ 80) (k : Nat) (hk : k ≤ n) (hT : z.tmod ((n : Int) + 1) = (k : Int)) :
    Calls Try.prog 11 #[.slice A n c, .int .i64 z] w fun e w' => e = .returned (.bool true) ∧ Below w.heap.size w w' := by
  have HX := Lib.hid hx
  have HN := Lib.hid hn
  have HB := Lib.hid hB
  have HL := Lib.hid hl
  have hn63 : n ≤ 140737488351232 := by omega
  have hc1 : n ≤ c := hc.1
  have hc2 : c ≤ 9223372036854775807 := hc.2
  clear hx hn hB hl hc
  go_enter Try.func11, Try.ntmps11
  go_wp2_with fail
  refine (awake_any w).mono ?_
  rintro e w1 ⟨rfl, b1⟩
  have HB1 := Lib.hid b1
  clear b1
  have d1 : decide ((80 : Int) < (n : Int)) = false := decide_eq_false (by omega)
  have HM := HN
  have HY := HX
  have hM : n ≤ 80 := hbig
  have d2 : decide ((k : Int) < 0) = false := decide_eq_false (by omega)
  go_wp2_with fail
  refine (lent_any A n c xs w1 HM.out (HY.out.below HB1.out) (by have := HM.out; omega)).mono ?_
  rintro e w2 ⟨G, cg, rest, rfl, hG, LG, b2⟩
  have HLG := Lib.hid LG
  have HB2 := Lib.hid (HB1.out.trans (b2.mono HB1.out.size))
  have OG : Hid (w.heap.size ≤ G ∧ G < w2.heap.size) := Lib.hid ⟨Nat.le_trans HB1.out.size hG, LG.blk.lt⟩
  clear hG LG b2 HB1
  go_wp2_with fail
  refine (newReader_any _ n cg xs w2 HM.out HLG.out.rd (by have := HM.out; omega)).mono ?_
  rintro e w3 ⟨p1, g1, rfl, HP1, R1, bb3⟩
  have HLG3 := Lib.hid (HLG.out.below bb3.out)
  have HB3 := Lib.hid (HB2.out.trans (bb3.out.mono HB2.out.size))
  have O1 : Hid (w2.heap.size ≤ p1 ∧ w2.heap.size ≤ g1 ∧ p1 < w3.heap.size ∧ g1 < w3.heap.size) := Lib.hid ⟨HP1.out.1, HP1.out.2, R1.out.lt, R1.out.glt⟩
  clear bb3 HP1 HLG HB2
  go_wp2_with fail
  refine (newReader_any _ n cg xs w3 HM.out HLG3.out.rd (by have := HM.out; omega)).mono ?_
  rintro e w4 ⟨p2, g2, rfl, HP2, R2, bb4⟩
  have HLG4 := Lib.hid (HLG3.out.below bb4.out)
  have R14 := Lib.hid (R1.out.below bb4.out)
  have HB4 := Lib.hid (HB3.out.trans (bb4.out.mono HB3.out.size))
  have O2 : Hid (w3.heap.size ≤ p2 ∧ w3.heap.size ≤ g2 ∧ p2 < w4.heap.size ∧ g2 < w4.heap.size) := Lib.hid ⟨HP2.out.1, HP2.out.2, R2.out.lt, R2.out.glt⟩
  clear bb4 HP2 HLG3 HB3 R1
  go_wp2_with fail
  refine (nw_ok n w4 (by omega)).mono ?_
  rintro e w5 ⟨p3, rfl, HP3, T3, bb5⟩
  have HLG5 := Lib.hid (HLG4.out.below bb5.out)
  have R15 := Lib.hid (R14.out.below bb5.out)
  have R25 := Lib.hid (R2.out.below bb5.out)
  have HB5 := Lib.hid (HB4.out.trans (bb5.out.mono HB4.out.size))
  have O3 : Hid (w4.heap.size ≤ p3 ∧ p3 < w5.heap.size) := Lib.hid ⟨HP3.out, T3.out.lt.1⟩
  clear bb5 HP3 HLG4 HB4 R14 R2
  go_wp2_with fail
  refine (nw_ok n w5 (by omega)).mono ?_
  rintro e w6 ⟨p4, rfl, HP4, T4, bb6⟩
  have HLG6 := Lib.hid (HLG5.out.below bb6.out)
  have R16 := Lib.hid (R15.out.below bb6.out)
  have R26 := Lib.hid (R25.out.below bb6.out)
  have T36 := Lib.hid (T3.out.below bb6.out)
  have HB6 := Lib.hid (HB5.out.trans (bb6.out.mono HB5.out.size))
  have O4 : Hid (w5.heap.size ≤ p4 ∧ p4 < w6.heap.size) := Lib.hid ⟨HP4.out, T4.out.lt.1⟩
  clear bb6 HP4 HLG5 HB5 R15 R25 T3
  go_wp2_with fail
  refine (wbytes_any p3 p3 n [] 0 _ n cg xs w6 T36.out HM.out HLG6.out.rd (by omega) (Nat.zero_le _) (by omega)).mono ?_
  rintro e w7 ⟨⟨u7, rfl⟩, HW7⟩
  rw [show wL n [] 0 xs = xs from by unfold wL; rw [if_pos ⟨rfl, by have := HM.out; simp; omega⟩]; rfl, show wE n [] 0 xs = 0 from by unfold wE; rw [if_pos rfl, if_pos (by have := HM.out; simp; omega)]] at HW7
  obtain ⟨g3, t3, hg3, hf7⟩ := HW7.out
  have O5 : Hid (g3 = p3 ∨ w6.heap.size ≤ g3) := Lib.hid hg3
  have O5b : Hid (g3 < w7.heap.size ∧ w6.heap.size ≤ w7.heap.size) := Lib.hid ⟨t3.lt.2, hf7.size⟩
  have T37 := Lib.hid t3
  have HLG7 := Lib.hid (HLG6.out.fr hf7 (by have := OG.out; have := O1.out; have := O2.out; have := O3.out; omega))
  have R17 := Lib.hid (R16.out.fr hf7 (by have := O1.out; have := O2.out; have := O3.out; omega) (by have := O1.out; have := O2.out; have := O3.out; omega))
  have R27 := Lib.hid (R26.out.fr hf7 (by have := O2.out; have := O3.out; omega) (by have := O2.out; have := O3.out; omega))
  have T47 := Lib.hid (T4.out.fr hf7 (by have := O4.out; have := O3.out; omega) (by have := O4.out; have := O3.out; omega))
  have HB7 := Lib.hid (HB6.out.trans (hf7.below HB6.out.size (fun j hj => by have := O3.out; have := O2.out; have := O1.out; have := OG.out; omega)))
  clear t3 hg3 hf7 HW7 HLG6 R16 R26 T36 T4 HB6
  go_wp2_with fail
  refine (wbytes_any p4 p4 n [] 0 _ n cg xs w7 T47.out HM.out HLG7.out.rd (by omega) (Nat.zero_le _) (by omega)).mono ?_
  rintro e w8 ⟨⟨u8, rfl⟩, HW8⟩
  rw [show wL n [] 0 xs = xs from by unfold wL; rw [if_pos ⟨rfl, by have := HM.out; simp; omega⟩]; rfl, show wE n [] 0 xs = 0 from by unfold wE; rw [if_pos rfl, if_pos (by have := HM.out; simp; omega)]] at HW8
  obtain ⟨g4, t4, hg4, hf8⟩ := HW8.out
  have HB8 := Lib.hid (HB7.out.trans (hf8.below HB7.out.size (fun j hj => by have := O4.out; have := O3.out; have := O2.out; have := O1.out; have := OG.out; omega)))
  have FZ : Hid (Fz w8 w8.heap.size G cg rest p1 g1 xs p2 g2 xs p3 g3 p4 g4 n xs) := Lib.hid (by
    have a0 := OG.out
    have a1 := O1.out
    have a2 := O2.out
    have a3 := O3.out
    have a4 := O4.out
    have a5 := O5.out
    have a6 := O5b.out
    have a7 := hf8.size
    have a8 := t4.lt
    exact ⟨HLG7.out.fr hf8 (by omega), R17.out.fr hf8 (by omega) (by omega), R27.out.fr hf8 (by omega) (by omega), T37.out.fr hf8 (by omega) (by omega), t4, by omega, by omega, by omega, Nat.le_refl _⟩)
  have OB : Hid (w.heap.size ≤ p1 ∧ w.heap.size ≤ p2) := Lib.hid (by have := O2.out; have := O1.out; have := OG.out; omega)
  clear t4 hg4 hf8 HW8 HLG7 R17 R27 T37 T47 HB7 OG O1 O2 O3 O4 O5 O5b
  go_wp2_with fail
  refine (wdone_any p3 g3 n xs 0 w8 FZ.out.w1 (by omega) (by have := HM.out; omega)).mono ?_
  rintro e w9 ⟨va, rfl, Oa, bba⟩
  rw [show dnE n xs 0 = 0 from by unfold dnE; rw [if_pos rfl, if_neg (by have := HM.out; omega)]]
  rw [show dnL n xs 0 = xs from if_pos ⟨rfl, by have := HM.out; omega⟩] at Oa
  have Ga := Lib.hid (show Rg va w8.heap.size w9.heap.size from fun j hj => Oa.out.base_le hj)
  obtain ⟨Aa, ca, rfl, -, -, -, -⟩ := Oa.out.slice
  have FZa := Lib.hid (FZ.out.fr (Fr.of_below bba.out (fun _ => False)) (fun _ _ h => h))
  have HBa := Lib.hid (HB8.out.trans (bba.out.mono HB8.out.size))
  have Sa : Hid (w8.heap.size ≤ w9.heap.size) := Lib.hid bba.out.size
  clear bba FZ HB8
  rw [show xs.length = n from HM.out.symm]
  go_wp2_with fail
  refine (wdone_any p3 g3 n xs 0 w9 FZa.out.w1 (by omega) (by have := HM.out; omega)).mono ?_
  rintro e wa ⟨vb, rfl, Ob, bbb⟩
  rw [show dnE n xs 0 = 0 from by unfold dnE; rw [if_pos rfl, if_neg (by have := HM.out; omega)]]
  rw [show dnL n xs 0 = xs from if_pos ⟨rfl, by have := HM.out; omega⟩] at Ob
  have Gb := Lib.hid (show Rg vb w9.heap.size wa.heap.size from fun j hj => Ob.out.base_le hj)
  obtain ⟨Ab, cb, rfl, -, -, -, -⟩ := Ob.out.slice
  have FZb := Lib.hid (FZa.out.fr (Fr.of_below bbb.out (fun _ => False)) (fun _ _ h => h))
  have HBb := Lib.hid (HBa.out.trans (bbb.out.mono HBa.out.size))
  have Oab := Lib.hid (Oa.out.below bbb.out)
  clear Oa
  have Sb : Hid (w9.heap.size ≤ wa.heap.size) := Lib.hid bbb.out.size
  clear bbb FZa HBa
  rw [show xs.length = n from HM.out.symm]
  go_wp2_with fail
  refine (wdone_any p4 g4 n xs 0 wa FZb.out.w2 (by omega) (by have := HM.out; omega)).mono ?_
  rintro e wb ⟨vd, rfl, Od, bbd⟩
  rw [show dnE n xs 0 = 0 from by unfold dnE; rw [if_pos rfl, if_neg (by have := HM.out; omega)]]
  rw [show dnL n xs 0 = xs from if_pos ⟨rfl, by have := HM.out; omega⟩] at Od
  have Gd := Lib.hid (show Rg vd wa.heap.size wb.heap.size from fun j hj => Od.out.base_le hj)
  obtain ⟨Ad, cd, rfl, -, -, -, -⟩ := Od.out.slice
  have FZd := Lib.hid (FZb.out.fr (Fr.of_below bbd.out (fun _ => False)) (fun _ _ h => h))
  have HBd := Lib.hid (HBb.out.trans (bbd.out.mono HBb.out.size))
  have Oad := Lib.hid (Oab.out.below bbd.out)
  clear Oab
  have Obd := Lib.hid (Ob.out.below bbd.out)
  clear Ob
  have Sd : Hid (wa.heap.size ≤ wb.heap.size) := Lib.hid bbd.out.size
  clear bbd FZb HBb
  rw [show xs.length = n from HM.out.symm]
  go_wp2_with fail
  obtain ⟨K2, hK2⟩ : ∃ K2, K2 = n - k := ⟨_, rfl⟩
  have HK2 : Hid (K2 + k = n) := Lib.hid (by omega)
  have hK64 : K2 ≤ 80 := by omega
  have hwr : IntKind.i64.wrap ((n : Int) - (k : Int)) = (K2 : Int) := by simp [IntKind.wrap, IntKind.bits, IntKind.signed]; omega
  clear hK2
  have hs1 := fun W => run_cut_upto (P := Try.prog) W 22 5 Try.underlying22 size5' A n c k .i64 k rfl (by omega)
  have hs2 := fun W => run_cut_from (P := Try.prog) W 22 5 Try.underlying22 size5' A n c k .i64 k rfl hk
  have HT1 := Lib.hid (take_step xs k (by have := HM.out; omega))
  have HT2 : Hid (tkL (xs.drop k) K2 0 = xs.drop k ∧ rsL (xs.drop k) K2 0 = [] ∧ erR (xs.drop k) K2 0 = 0) := Lib.hid (by
    have h1 : K2 = (xs.drop k).length := by rw [List.length_drop]; have := HM.out; have := HK2.out; omega
    have h2 := take_step (xs.drop k) K2 (by omega)
    have h3 : (xs.drop k).take K2 = xs.drop k := List.take_of_length_le (by omega)
    have h4 : (xs.drop k).drop K2 = [] := List.drop_eq_nil_of_le (by omega)
    rw [h3, h4] at h2
    exact h2)
  refine (rbytes_any p1 g1 k xs 0 wb FZd.out.r1 (by omega) (by have := HM.out; omega)).mono ?_
  rintro e wc ⟨vr, rfl, Or, Rr, Fr⟩
  rw [HT1.out.1] at Or
  rw [HT1.out.2.1, HT1.out.2.2] at Rr
  have FZr := Lib.hid (FZd.out.step1 Fr.out Rr.out)
  have HBr := Lib.hid (HBd.out.trans (Fr.out.below HBd.out.size (fun j hj => by subst hj; exact OB.out.1)))
  have Gr := Lib.hid (show Rg vr wb.heap.size wc.heap.size from fun j hj => Or.out.base_le hj)
  have Sr : Hid (wb.heap.size ≤ wc.heap.size) := Lib.hid Fr.out.size
  obtain ⟨Ar, cr, rfl, -, -, -, -⟩ := Or.out.slice
  have Nar := Lib.hid (Oad.out.fr Fr.out (fun j hj hk => by have h1 := (Ga.out j hj).1; have h2 := FZd.out.below; have h3 := Sa.out; have h4 := Sb.out; have h5 := Sd.out; omega))
  clear Oad
  have Nbr := Lib.hid (Obd.out.fr Fr.out (fun j hj hk => by have h1 := (Gb.out j hj).1; have h2 := FZd.out.below; have h3 := Sa.out; have h4 := Sb.out; have h5 := Sd.out; omega))
  clear Obd
  have Ndr := Lib.hid (Od.out.fr Fr.out (fun j hj hk => by have h1 := (Gd.out j hj).1; have h2 := FZd.out.below; have h3 := Sa.out; have h4 := Sb.out; have h5 := Sd.out; omega))
  clear Od
  clear Rr Fr FZd HBd
  rw [show (xs.take k).length = k from by rw [List.length_take]; have := HM.out; omega]
  go_wp2_with fail
  refine (rbytes_any p1 g1 K2 (xs.drop k) 0 wc FZr.out.r1 (by omega) (by rw [List.length_drop]; have := HM.out; omega)).mono ?_
  rintro e wd ⟨vs, rfl, Os, Rs, Fs⟩
  rw [HT2.out.1] at Os
  rw [HT2.out.2.1, HT2.out.2.2] at Rs
  have FZs := Lib.hid (FZr.out.step1 Fs.out Rs.out)
  have HBs := Lib.hid (HBr.out.trans (Fs.out.below HBr.out.size (fun j hj => by subst hj; exact OB.out.1)))
  have Gs := Lib.hid (show Rg vs wc.heap.size wd.heap.size from fun j hj => Os.out.base_le hj)
  have Ss : Hid (wc.heap.size ≤ wd.heap.size) := Lib.hid Fs.out.size
  obtain ⟨As, cs, rfl, -, -, -, -⟩ := Os.out.slice
  have Nas := Lib.hid (Nar.out.fr Fs.out (fun j hj hk => by have h1 := (Ga.out j hj).1; have h2 := FZr.out.below; have h3 := Sa.out; have h4 := Sb.out; have h5 := Sd.out; have h6 := Sr.out; omega))
  clear Nar
  have Nbs := Lib.hid (Nbr.out.fr Fs.out (fun j hj hk => by have h1 := (Gb.out j hj).1; have h2 := FZr.out.below; have h3 := Sa.out; have h4 := Sb.out; have h5 := Sd.out; have h6 := Sr.out; omega))
  clear Nbr
  have Nds := Lib.hid (Ndr.out.fr Fs.out (fun j hj hk => by have h1 := (Gd.out j hj).1; have h2 := FZr.out.below; have h3 := Sa.out; have h4 := Sb.out; have h5 := Sd.out; have h6 := Sr.out; omega))
  clear Ndr
  have Nrs := Lib.hid (Or.out.fr Fs.out (fun j hj hk => by have h1 := (Gr.out j hj).1; have h2 := FZr.out.below; have h3 := Sa.out; have h4 := Sb.out; have h5 := Sd.out; have h6 := Sr.out; omega))
  clear Or
  clear Rs Fs FZr HBr
  rw [show (xs.drop k).length = K2 from by rw [List.length_drop]; have := HM.out; have := HK2.out; omega]
  go_wp2_with fail
  refine (rbytes_any p2 g2 k xs 0 wd FZs.out.r2 (by omega) (by have := HM.out; omega)).mono ?_
  rintro e we ⟨vt, rfl, Ot, Rt, Ft⟩
  rw [HT1.out.1] at Ot
  rw [HT1.out.2.1, HT1.out.2.2] at Rt
  have FZt := Lib.hid (FZs.out.step2 Ft.out Rt.out)
  have HBt := Lib.hid (HBs.out.trans (Ft.out.below HBs.out.size (fun j hj => by subst hj; exact OB.out.2)))
  have Gt := Lib.hid (show Rg vt wd.heap.size we.heap.size from fun j hj => Ot.out.base_le hj)
  have St : Hid (wd.heap.size ≤ we.heap.size) := Lib.hid Ft.out.size
  obtain ⟨At, ct, rfl, -, -, -, -⟩ := Ot.out.slice
  have Nat := Lib.hid (Nas.out.fr Ft.out (fun j hj hk => by have h1 := (Ga.out j hj).1; have h2 := FZs.out.below; have h3 := Sa.out; have h4 := Sb.out; have h5 := Sd.out; have h6 := Sr.out; have h7 := Ss.out; omega))
  clear Nas
  have Nbt := Lib.hid (Nbs.out.fr Ft.out (fun j hj hk => by have h1 := (Gb.out j hj).1; have h2 := FZs.out.below; have h3 := Sa.out; have h4 := Sb.out; have h5 := Sd.out; have h6 := Sr.out; have h7 := Ss.out; omega))
  clear Nbs
  have Ndt := Lib.hid (Nds.out.fr Ft.out (fun j hj hk => by have h1 := (Gd.out j hj).1; have h2 := FZs.out.below; have h3 := Sa.out; have h4 := Sb.out; have h5 := Sd.out; have h6 := Sr.out; have h7 := Ss.out; omega))
  clear Nds
  have Nrt := Lib.hid (Nrs.out.fr Ft.out (fun j hj hk => by have h1 := (Gr.out j hj).1; have h2 := FZs.out.below; have h3 := Sa.out; have h4 := Sb.out; have h5 := Sd.out; have h6 := Sr.out; have h7 := Ss.out; omega))
  clear Nrs
  have Nst := Lib.hid (Os.out.fr Ft.out (fun j hj hk => by have h1 := (Gs.out j hj).1; have h2 := FZs.out.below; have h3 := Sa.out; have h4 := Sb.out; have h5 := Sd.out; have h6 := Sr.out; have h7 := Ss.out; omega))
  clear Os
  clear Rt Ft FZs HBs
  rw [show (xs.take k).length = k from by rw [List.length_take]; have := HM.out; omega]
  go_wp2_with fail
  refine (rbytes_any p2 g2 K2 (xs.drop k) 0 we FZt.out.r2 (by omega) (by rw [List.length_drop]; have := HM.out; omega)).mono ?_
  rintro e wf ⟨vu, rfl, Ou, Ru, Fu⟩
  rw [HT2.out.1] at Ou
  rw [HT2.out.2.1, HT2.out.2.2] at Ru
  have FZu := Lib.hid (FZt.out.step2 Fu.out Ru.out)
  have HBu := Lib.hid (HBt.out.trans (Fu.out.below HBt.out.size (fun j hj => by subst hj; exact OB.out.2)))
  have Gu := Lib.hid (show Rg vu we.heap.size wf.heap.size from fun j hj => Ou.out.base_le hj)
  have Su : Hid (we.heap.size ≤ wf.heap.size) := Lib.hid Fu.out.size
  obtain ⟨Au, cu, rfl, -, -, -, -⟩ := Ou.out.slice
  have Nau := Lib.hid (Nat.out.fr Fu.out (fun j hj hk => by have h1 := (Ga.out j hj).1; have h2 := FZt.out.below; have h3 := Sa.out; have h4 := Sb.out; have h5 := Sd.out; have h6 := Sr.out; have h7 := Ss.out; have h8 := St.out; omega))
  clear Nat
  have Nbu := Lib.hid (Nbt.out.fr Fu.out (fun j hj hk => by have h1 := (Gb.out j hj).1; have h2 := FZt.out.below; have h3 := Sa.out; have h4 := Sb.out; have h5 := Sd.out; have h6 := Sr.out; have h7 := Ss.out; have h8 := St.out; omega))
  clear Nbt
  have Ndu := Lib.hid (Ndt.out.fr Fu.out (fun j hj hk => by have h1 := (Gd.out j hj).1; have h2 := FZt.out.below; have h3 := Sa.out; have h4 := Sb.out; have h5 := Sd.out; have h6 := Sr.out; have h7 := Ss.out; have h8 := St.out; omega))
  clear Ndt
  have Nru := Lib.hid (Nrt.out.fr Fu.out (fun j hj hk => by have h1 := (Gr.out j hj).1; have h2 := FZt.out.below; have h3 := Sa.out; have h4 := Sb.out; have h5 := Sd.out; have h6 := Sr.out; have h7 := Ss.out; have h8 := St.out; omega))
  clear Nrt
  have Nsu := Lib.hid (Nst.out.fr Fu.out (fun j hj hk => by have h1 := (Gs.out j hj).1; have h2 := FZt.out.below; have h3 := Sa.out; have h4 := Sb.out; have h5 := Sd.out; have h6 := Sr.out; have h7 := Ss.out; have h8 := St.out; omega))
  clear Nst
  have Ntu := Lib.hid (Ot.out.fr Fu.out (fun j hj hk => by have h1 := (Gt.out j hj).1; have h2 := FZt.out.below; have h3 := Sa.out; have h4 := Sb.out; have h5 := Sd.out; have h6 := Sr.out; have h7 := Ss.out; have h8 := St.out; omega))
  clear Ot
  clear Ru Fu FZt HBt
  rw [show (xs.drop k).length = K2 from by rw [List.length_drop]; have := HM.out; have := HK2.out; omega]
  go_wp2_with fail
  have BA : Hid (Blk (wf.alloc (.cells #[.slice Ar k cr, .slice As K2 cs, .slice At k ct, .slice Au K2 cu, .slice Aa n ca, .slice Ab n cb, .slice Ad n cd] 22)) wf.heap.size 22 [.slice Ar k cr, .slice As K2 cs, .slice At k ct, .slice Au K2 cu, .slice Aa n ca, .slice Ab n cb, .slice Ad n cd]) := Lib.hid (Blk.new wf 22 _)
  have bel := (Below.refl wf.heap.size wf).alloc (Nat.le_refl _) (.cells #[.slice Ar k cr, .slice As K2 cs, .slice At k ct, .slice Au K2 cu, .slice Aa n ca, .slice Ab n cb, .slice Ad n cd] 22)
  have FZg := Lib.hid (FZu.out.fr (Fr.of_below bel (fun _ => False)) (fun _ _ h => h))
  have HBg := Lib.hid (HBu.out.trans (bel.mono HBu.out.size))
  have Pr := Lib.hid (Nru.out.below bel)
  have Ps := Lib.hid (Nsu.out.below bel)
  have Pt := Lib.hid (Ntu.out.below bel)
  have Pu := Lib.hid (Ou.out.below bel)
  have Pa := Lib.hid (Nau.out.below bel)
  have Pb := Lib.hid (Nbu.out.below bel)
  have Pd := Lib.hid (Ndu.out.below bel)
  clear bel FZu HBu Nru Nsu Ntu Ou Nau Nbu Ndu
  obtain ⟨GA, hGA⟩ : ∃ GA, GA = wf.heap.size := ⟨_, rfl⟩
  rw [← hGA] at BA ⊢
  have HGA : Hid (GA = wf.heap.size) := Lib.hid hGA
  clear hGA
  generalize wf.alloc (.cells #[.slice Ar k cr, .slice As K2 cs, .slice At k ct, .slice Au K2 cu, .slice Aa n ca, .slice Ab n cb, .slice Ad n cd] 22) = wg at BA FZg HBg Pr Ps Pt Pu Pa Pb Pd
  refine wp_region_held_drew (S := fun _ => True) (by kernel_rfl) (trivial) (fun hHeld => ?_)
  have BA1 : Hid (Blk wg.drew GA 22 [.slice Ar k cr, .slice As K2 cs, .slice At k ct, .slice Au K2 cu, .slice Aa n ca, .slice Ab n cb, .slice Ad n cd]) := Lib.hid (BA.out.drewN 1)
  have FZ1 : Hid (Fz wg.drew w8.heap.size G cg rest p1 g1 [] p2 g2 [] p3 g3 p4 g4 n xs) := Lib.hid (FZg.out.fr ((Fr.refl (fun _ => False) wg).drewN 1) (fun _ _ h => h))
  have HB1 : Hid (Below w.heap.size w wg.drew) := Lib.hid (belowN HBg.out 1)
  have Qr := Lib.hid (show Own wg.drew _ 5 .u8 _ (xs.take k) from Pr.out)
  have Qs := Lib.hid (show Own wg.drew _ 5 .u8 _ (xs.drop k) from Ps.out)
  have Qt := Lib.hid (show Own wg.drew _ 5 .u8 _ (xs.take k) from Pt.out)
  have Qu := Lib.hid (show Own wg.drew _ 5 .u8 _ (xs.drop k) from Pu.out)
  have Qa := Lib.hid (show Own wg.drew _ 5 .u8 _ xs from Pa.out)
  have Qb := Lib.hid (show Own wg.drew _ 5 .u8 _ xs from Pb.out)
  have Qd := Lib.hid (show Own wg.drew _ 5 .u8 _ xs from Pd.out)
  clear BA FZg HBg Pr Ps Pt Pu Pa Pb Pd
  generalize wg.drew = wh at BA1 FZ1 HB1 hHeld Qr Qs Qt Qu Qa Qb Qd
  refine wpAnyH_take (i := 0) (oi := ⟨some 127, _, _, _, _, _⟩) (v := (.slice A n c)) rfl (by kernel_rfl) (by kernel_rfl) (by kernel_rfl) (fun _ _ _ h => h) (Or.inl ⟨by rfl, ?_⟩) (by assumption) ?_
  · intro w' hS; rfl
  simp only [Act.put, List.setIfInBounds_toArray, List.set_cons_zero, List.set_cons_succ]
  refine wpAnyH_take (i := 1) (oi := ⟨some 128, _, _, _, _, _⟩) (v := (.int .i64 (k : Int))) rfl (by kernel_rfl) (by kernel_rfl) (by kernel_rfl) (fun _ _ _ h => h) (Or.inl ⟨by rfl, ?_⟩) (by assumption) ?_
  · intro w' hS; rfl
  simp only [Act.put, List.setIfInBounds_toArray, List.set_cons_zero, List.set_cons_succ]
  refine wpAnyH_take (i := 2) (oi := ⟨some 129, _, _, _, _, _⟩) (v := (.slice A k c)) rfl (by kernel_rfl) (by kernel_rfl) (by kernel_rfl) (fun _ _ _ h => h) (Or.inl ⟨by rfl, ?_⟩) (by assumption) ?_
  · intro w' hS; go_simp; try with_reducible rfl
  simp only [Act.put, List.setIfInBounds_toArray, List.set_cons_zero, List.set_cons_succ]
  refine wpAnyH_take (i := 3) (oi := ⟨some 130, _, _, _, _, _⟩) (v := (.slice A n c)) rfl (by kernel_rfl) (by kernel_rfl) (by kernel_rfl) (fun _ _ _ h => h) (Or.inl ⟨by rfl, ?_⟩) (by assumption) ?_
  · intro w' hS; rfl
  simp only [Act.put, List.setIfInBounds_toArray, List.set_cons_zero, List.set_cons_succ]
  refine wpAnyH_take (i := 4) (oi := ⟨some 131, _, _, _, _, _⟩) (v := (.int .i64 (k : Int))) rfl (by kernel_rfl) (by kernel_rfl) (by kernel_rfl) (fun _ _ _ h => h) (Or.inl ⟨by rfl, ?_⟩) (by assumption) ?_
  · intro w' hS; rfl
  simp only [Act.put, List.setIfInBounds_toArray, List.set_cons_zero, List.set_cons_succ]
  refine wpAnyH_take (i := 5) (oi := ⟨some 132, _, _, _, _, _⟩) (v := (.slice (cutA A k c) (n - k) (c - k))) rfl (by kernel_rfl) (by kernel_rfl) (by kernel_rfl) (fun _ _ _ h => h) (Or.inl ⟨by rfl, ?_⟩) (by assumption) ?_
  · intro w' hS; go_simp; try with_reducible rfl
  simp only [Act.put, List.setIfInBounds_toArray, List.set_cons_zero, List.set_cons_succ]
  refine wpAnyH_take (i := 6) (oi := ⟨some 133, _, _, _, _, _⟩) (v := (.slice A n c)) rfl (by kernel_rfl) (by kernel_rfl) (by kernel_rfl) (fun _ _ _ h => h) (Or.inl ⟨by rfl, ?_⟩) (by assumption) ?_
  · intro w' hS; rfl
  simp only [Act.put, List.setIfInBounds_toArray, List.set_cons_zero, List.set_cons_succ]
  refine wpAnyH_take (i := 7) (oi := ⟨some 134, _, _, _, _, _⟩) (v := (.int .i64 (k : Int))) rfl (by kernel_rfl) (by kernel_rfl) (by kernel_rfl) (fun _ _ _ h => h) (Or.inl ⟨by rfl, ?_⟩) (by assumption) ?_
  · intro w' hS; rfl
  simp only [Act.put, List.setIfInBounds_toArray, List.set_cons_zero, List.set_cons_succ]
  refine wpAnyH_take (i := 8) (oi := ⟨some 135, _, _, _, _, _⟩) (v := (.slice A k c)) rfl (by kernel_rfl) (by kernel_rfl) (by kernel_rfl) (fun _ _ _ h => h) (Or.inl ⟨by rfl, ?_⟩) (by assumption) ?_
  · intro w' hS; go_simp; try with_reducible rfl
  simp only [Act.put, List.setIfInBounds_toArray, List.set_cons_zero, List.set_cons_succ]
  refine wpAnyH_take (i := 9) (oi := ⟨some 136, _, _, _, _, _⟩) (v := (.slice A n c)) rfl (by kernel_rfl) (by kernel_rfl) (by kernel_rfl) (fun _ _ _ h => h) (Or.inl ⟨by rfl, ?_⟩) (by assumption) ?_
  · intro w' hS; rfl
  simp only [Act.put, List.setIfInBounds_toArray, List.set_cons_zero, List.set_cons_succ]
  refine wpAnyH_take (i := 10) (oi := ⟨some 137, _, _, _, _, _⟩) (v := (.int .i64 (k : Int))) rfl (by kernel_rfl) (by kernel_rfl) (by kernel_rfl) (fun _ _ _ h => h) (Or.inl ⟨by rfl, ?_⟩) (by assumption) ?_
  · intro w' hS; rfl
  simp only [Act.put, List.setIfInBounds_toArray, List.set_cons_zero, List.set_cons_succ]
  refine wpAnyH_take (i := 11) (oi := ⟨some 138, _, _, _, _, _⟩) (v := (.slice (cutA A k c) (n - k) (c - k))) rfl (by kernel_rfl) (by kernel_rfl) (by kernel_rfl) (fun _ _ _ h => h) (Or.inl ⟨by rfl, ?_⟩) (by assumption) ?_
  · intro w' hS; go_simp; try with_reducible rfl
  simp only [Act.put, List.setIfInBounds_toArray, List.set_cons_zero, List.set_cons_succ]
  refine wpAnyH_take (i := 12) (oi := ⟨some 139, _, _, _, _, _⟩) (v := (.slice A n c)) rfl (by kernel_rfl) (by kernel_rfl) (by kernel_rfl) (fun _ _ _ h => h) (Or.inl ⟨by rfl, ?_⟩) (by assumption) ?_
  · intro w' hS; rfl
  simp only [Act.put, List.setIfInBounds_toArray, List.set_cons_zero, List.set_cons_succ]
  refine wpAnyH_take (i := 13) (oi := ⟨some 140, _, _, _, _, _⟩) (v := (.slice A n c)) rfl (by kernel_rfl) (by kernel_rfl) (by kernel_rfl) (fun _ _ _ h => h) (Or.inl ⟨by rfl, ?_⟩) (by assumption) ?_
  · intro w' hS; rfl
  simp only [Act.put, List.setIfInBounds_toArray, List.set_cons_zero, List.set_cons_succ]
  refine wpAnyH_take (i := 14) (oi := ⟨some 141, _, _, _, _, _⟩) (v := (.slice A n c)) rfl (by kernel_rfl) (by kernel_rfl) (by kernel_rfl) (fun _ _ _ h => h) (Or.inl ⟨by rfl, ?_⟩) (by assumption) ?_
  · intro w' hS; rfl
  simp only [Act.put, List.setIfInBounds_toArray, List.set_cons_zero, List.set_cons_succ]
  refine wpAnyH_ready (rs := [15]) (by kernel_rfl) (by simp) ?_
  refine AllReadyH.cons (o := ⟨some 142, _, _, _, _, _⟩) rfl (fun K hK => ?_) AllReadyH.nil
  rw [if_pos (by rfl)]
  go_simp
  have BW : Hid (Blk (wh.alloc (.cells #[.slice A k c, .slice (cutA A k c) (n - k) (c - k), .slice A k c, .slice (cutA A k c) (n - k) (c - k), .slice A n c, .slice A n c, .slice A n c] 22)) wh.heap.size 22 [.slice A k c, .slice (cutA A k c) (n - k) (c - k), .slice A k c, .slice (cutA A k c) (n - k) (c - k), .slice A n c, .slice A n c, .slice A n c]) := Lib.hid (Blk.new wh 22 _)
  have bel := (Below.refl wh.heap.size wh).alloc (Nat.le_refl _) (.cells #[.slice A k c, .slice (cutA A k c) (n - k) (c - k), .slice A k c, .slice (cutA A k c) (n - k) (c - k), .slice A n c, .slice A n c, .slice A n c] 22)
  have FZ2 := Lib.hid (FZ1.out.fr (Fr.of_below bel (fun _ => False)) (fun _ _ h => h))
  have HB2 := Lib.hid (HB1.out.trans (bel.mono HB1.out.size))
  have BA2 := Lib.hid (BA1.out.below bel BA1.out.lt)
  have HGAW : Hid (GA ≠ wh.heap.size) := Lib.hid (by have := BA1.out.lt; omega)
  have Pr := Lib.hid (Qr.out.below bel)
  have Ps := Lib.hid (Qs.out.below bel)
  have Pt := Lib.hid (Qt.out.below bel)
  have Pu := Lib.hid (Qu.out.below bel)
  have Pa := Lib.hid (Qa.out.below bel)
  have Pb := Lib.hid (Qb.out.below bel)
  have Pd := Lib.hid (Qd.out.below bel)
  clear bel BA1 FZ1 HB1 Qr Qs Qt Qu Qa Qb Qd
  obtain ⟨GB, hGB⟩ : ∃ GB, GB = wh.heap.size := ⟨_, rfl⟩
  rw [← hGB] at BW HGAW ⊢
  have HGB : Hid (GB = wh.heap.size) := Lib.hid hGB
  clear hGB
  generalize wh.alloc (.cells #[.slice A k c, .slice (cutA A k c) (n - k) (c - k), .slice A k c, .slice (cutA A k c) (n - k) (c - k), .slice A n c, .slice A n c, .slice A n c] 22) = wi at BW BA2 FZ2 HB2 Pr Ps Pt Pu Pa Pb Pd ⊢
  (try dsimp only)
  (try simp only [Act.put, List.setIfInBounds_toArray, List.set_cons_zero, List.set_cons_succ])
  refine hK.out _ _ trivial (fun hHeld => ?_)
  clear hK K
  refine wpAnyH_take (i := 16) (oi := ⟨some 19, _, _, _, _, _⟩) (v := (.slice (some ⟨GB, 0, none⟩) 7 7)) rfl (by kernel_rfl) (by kernel_rfl) (by kernel_rfl) (fun _ _ _ h => h) (Or.inl ⟨by rfl, ?_⟩) (by assumption) ?_
  · intro w' hS; rfl
  simp only [Act.put, List.setIfInBounds_toArray, List.set_cons_zero, List.set_cons_succ]
  refine wpAnyH_done (by kernel_rfl) ?_ _
  go_wp2_with fail
  have YW := Lib.hid (HY.out.below HB2.out)
  have YT := Lib.hid (YW.out.take k)
  have YD : Hid (Rd wi .u8 (cutA A k c) (xs.drop k)) := Lib.hid (YW.out.cutA k c (by have := HM.out; omega))
  have LT : Hid ((xs.take k).length = k) := Lib.hid (by rw [List.length_take]; have := HM.out; omega)
  have LD : Hid ((xs.drop k).length = n - k) := Lib.hid (by rw [List.length_drop]; have := HM.out; omega)
  have SEV : Hid (∀ i, i < 7 → ∃ A1 l1 c1 A2 l2 c2 zs, wi.cell? ⟨GA, i, none⟩ = some (.slice A1 l1 c1) ∧ wi.cell? ⟨GB, i, none⟩ = some (.slice A2 l2 c2) ∧ l1 = (zs : List Int).length ∧ l2 = zs.length ∧ Rd wi .u8 A1 zs ∧ Rd wi .u8 A2 zs ∧ zs.length ≤ 80) := Lib.hid (fun i hi => by
    rcases lt7 hi with rfl | rfl | rfl | rfl | rfl | rfl | rfl
    · exact ⟨_, _, _, _, _, _, (xs.take k), BA2.out.cell 0, BW.out.cell 0, LT.out.symm, LT.out.symm, own_rd Pr.out, YT.out, (by rw [LT.out]; omega)⟩
    · exact ⟨_, _, _, _, _, _, (xs.drop k), BA2.out.cell 1, BW.out.cell 1, (by rw [LD.out]; have := HK2.out; omega), LD.out.symm, own_rd Ps.out, YD.out, (by rw [LD.out]; omega)⟩
    · exact ⟨_, _, _, _, _, _, (xs.take k), BA2.out.cell 2, BW.out.cell 2, LT.out.symm, LT.out.symm, own_rd Pt.out, YT.out, (by rw [LT.out]; omega)⟩
    · exact ⟨_, _, _, _, _, _, (xs.drop k), BA2.out.cell 3, BW.out.cell 3, (by rw [LD.out]; have := HK2.out; omega), LD.out.symm, own_rd Pu.out, YD.out, (by rw [LD.out]; omega)⟩
    · exact ⟨_, _, _, _, _, _, xs, BA2.out.cell 4, BW.out.cell 4, HM.out, HM.out, own_rd Pa.out, YW.out, (by rw [← HM.out]; omega)⟩
    · exact ⟨_, _, _, _, _, _, xs, BA2.out.cell 5, BW.out.cell 5, HM.out, HM.out, own_rd Pb.out, YW.out, (by rw [← HM.out]; omega)⟩
    · exact ⟨_, _, _, _, _, _, xs, BA2.out.cell 6, BW.out.cell 6, HM.out, HM.out, own_rd Pd.out, YW.out, (by rw [← HM.out]; omega)⟩)
  go_loopw [20] (fun zz wx => ∃ i q : Nat, i ≤ 7 ∧ zz = .int .i64 i ∧ wx = wi.drewN q) (fun zz _ => 7 - (intOf zz).toNat)
  case atStart => exact ⟨0, 0, Nat.zero_le _, rfl, rfl⟩
  case round =>
    obtain ⟨i, q, hi7, rfl, rfl⟩ := hrel
    by_cases hlt : i < 7
    · have d7 : decide ((i : Int) < 7) = true := decide_eq_true (by omega)
      obtain ⟨A1, l1, c1, A2, l2, c2, zs, e1, e2, g1, g2, x1, x2, xl⟩ := SEV.out i hlt
      have X1 := Lib.hid x1
      have X2 := Lib.hid x2
      have XL := Lib.hid (show l1 = zs.length ∧ l2 = zs.length ∧ zs.length ≤ 80 from ⟨g1, g2, xl⟩)
      clear x1 x2 g1 g2 xl
      go_wp2_with fail
      have N1 := Lib.hid XL.out.1
      have N2 := Lib.hid XL.out.2.1
      have HCL : Hid (zs.length ≤ 9223372036854775807) := Lib.hid (by have := XL.out.2.2; omega)
      go_quiet (first | (go_at_call 20; exact same_qt _ _ N1 N2 X1 X2 HCL.out))
      go_wp2_with fail
      go_roundw
      case rel => exact ⟨i + 1, _, by omega, by go_num, rfl⟩
      case measure => simp [intOf]; omega
    · obtain rfl : i = 7 := by omega
      go_wp2_with fail
      have BA3 := Lib.hid (BA2.out.drewN q)
      have FZ3 : Hid (Fz (wi.drewN q) w8.heap.size G cg rest p1 g1 [] p2 g2 [] p3 g3 p4 g4 n xs) := Lib.hid (FZ2.out.fr ((Fr.refl (fun _ => False) wi).drewN q) (fun _ _ h => h))
      have HB3 := Lib.hid (belowN HB2.out q)
      have Tr := Lib.hid (show Own (wi.drewN q) _ 5 .u8 (.slice Ar k cr) (xs.take k) from own_len (Pr.out.drewN q) LT.out.symm)
      have Ts := Lib.hid (show Own (wi.drewN q) _ 5 .u8 (.slice As K2 cs) (xs.drop k) from own_len (Ps.out.drewN q) (by rw [LD.out]; have := HK2.out; omega))
      have Tt := Lib.hid (show Own (wi.drewN q) _ 5 .u8 (.slice At k ct) (xs.take k) from own_len (Pt.out.drewN q) LT.out.symm)
      have Tu := Lib.hid (show Own (wi.drewN q) _ 5 .u8 (.slice Au K2 cu) (xs.drop k) from own_len (Pu.out.drewN q) (by rw [LD.out]; have := HK2.out; omega))
      have Ta := Lib.hid (show Own (wi.drewN q) _ 5 .u8 (.slice Aa n ca) xs from own_len (Pa.out.drewN q) HM.out)
      have Tb := Lib.hid (show Own (wi.drewN q) _ 5 .u8 (.slice Ab n cb) xs from own_len (Pb.out.drewN q) HM.out)
      have Td := Lib.hid (show Own (wi.drewN q) _ 5 .u8 (.slice Ad n cd) xs from own_len (Pd.out.drewN q) HM.out)
      have Ur := Lib.hid (show Rg (.slice Ar k cr) wb.heap.size wc.heap.size from rg_len Gr.out LT.out.symm)
      have Us := Lib.hid (show Rg (.slice As K2 cs) wc.heap.size wd.heap.size from rg_len Gs.out (by rw [LD.out]; have := HK2.out; omega))
      have Ut := Lib.hid (show Rg (.slice At k ct) wd.heap.size we.heap.size from rg_len Gt.out LT.out.symm)
      have Uu := Lib.hid (show Rg (.slice Au K2 cu) we.heap.size wf.heap.size from rg_len Gu.out (by rw [LD.out]; have := HK2.out; omega))
      have Ua := Lib.hid (show Rg (.slice Aa n ca) w8.heap.size w9.heap.size from rg_len Ga.out HM.out)
      have Ub := Lib.hid (show Rg (.slice Ab n cb) w9.heap.size wa.heap.size from rg_len Gb.out HM.out)
      have Ud := Lib.hid (show Rg (.slice Ad n cd) wa.heap.size wb.heap.size from rg_len Gd.out HM.out)
      clear BW BA2 FZ2 HB2 SEV YW YT YD Pr Ps Pt Pu Pa Pb Pd Gr Gs Gt Gu Ga Gb Gd
      generalize wi.drewN q = wj at BA3 FZ3 HB3 Tr Ts Tt Tu Ta Tb Td ⊢
      have SZ : Hid (w8.heap.size ≤ w9.heap.size ∧ w9.heap.size ≤ wa.heap.size ∧ wa.heap.size ≤ wb.heap.size ∧ wb.heap.size ≤ wc.heap.size ∧ wc.heap.size ≤ wd.heap.size ∧ wd.heap.size ≤ we.heap.size ∧ we.heap.size ≤ wf.heap.size) := Lib.hid ⟨Sa.out, Sb.out, Sd.out, Sr.out, Ss.out, St.out, Su.out⟩
      have hap := apart_any w8.heap.size GA 7 7 (sev (.slice Ar k cr) (.slice As K2 cs) (.slice At k ct) (.slice Au K2 cu) (.slice Aa n ca) (.slice Ab n cb) (.slice Ad n cd)) (fun j => [k, K2, k, K2, n, n, n].getD j 0) (fun j => [xs.take k, xs.drop k, xs.take k, xs.drop k, xs, xs, xs].getD j []) wj (by decide) (fun j hj => by rcases lt7 hj with rfl | rfl | rfl | rfl | rfl | rfl | rfl; exact LT.out; exact (by show (xs.drop k).length = K2; rw [LD.out]; have := HK2.out; omega); exact LT.out; exact (by show (xs.drop k).length = K2; rw [LD.out]; have := HK2.out; omega); exact HM.out.symm; exact HM.out.symm; exact HM.out.symm)
        (sev_all (P := fun j v => Own wj w8.heap.size 5 .u8 v ((fun j => [xs.take k, xs.drop k, xs.take k, xs.drop k, xs, xs, xs].getD j []) j)) (Tr.out.lower (by have := SZ.out; omega)) (Ts.out.lower (by have := SZ.out; omega)) (Tt.out.lower (by have := SZ.out; omega)) (Tu.out.lower (by have := SZ.out; omega)) (Ta.out.lower (by have := SZ.out; omega)) (Tb.out.lower (by have := SZ.out; omega)) (Td.out.lower (by have := SZ.out; omega)))
        (rg_dist (lo := lo7 wb.heap.size wc.heap.size wd.heap.size we.heap.size w8.heap.size w9.heap.size wa.heap.size) (hi := lo7 wc.heap.size wd.heap.size we.heap.size wf.heap.size w9.heap.size wa.heap.size wb.heap.size) (fun j hj => by rcases lt7 hj with rfl | rfl | rfl | rfl | rfl | rfl | rfl; exact Ur.out; exact Us.out; exact Ut.out; exact Uu.out; exact Ua.out; exact Ub.out; exact Ud.out) (lo7_dist SZ.out.1 SZ.out.2.1 SZ.out.2.2.1 SZ.out.2.2.2.1 SZ.out.2.2.2.2.1 SZ.out.2.2.2.2.2.1 SZ.out.2.2.2.2.2.2))
        (sev_all (P := fun j v => v.ownBlock ≠ some GA) (fun h => by have h1 := (Ur.out _ h).2; have h2 := HGA.out; have h3 := SZ.out; omega) (fun h => by have h1 := (Us.out _ h).2; have h2 := HGA.out; have h3 := SZ.out; omega) (fun h => by have h1 := (Ut.out _ h).2; have h2 := HGA.out; have h3 := SZ.out; omega) (fun h => by have h1 := (Uu.out _ h).2; have h2 := HGA.out; have h3 := SZ.out; omega) (fun h => by have h1 := (Ua.out _ h).2; have h2 := HGA.out; have h3 := SZ.out; omega) (fun h => by have h1 := (Ub.out _ h).2; have h2 := HGA.out; have h3 := SZ.out; omega) (fun h => by have h1 := (Ud.out _ h).2; have h2 := HGA.out; have h3 := SZ.out; omega))
        (sev_all (P := fun j v => wj.cell? ⟨GA, j, none⟩ = some v) (BA3.out.cell 0) (BA3.out.cell 1) (BA3.out.cell 2) (BA3.out.cell 3) (BA3.out.cell 4) (BA3.out.cell 5) (BA3.out.cell 6))
        FZ3.out.size (fun j hj => by rcases lt7 hj with rfl | rfl | rfl | rfl | rfl | rfl | rfl <;> simp <;> omega)
      refine hap.mono ?_
      rintro e wk ⟨rfl, hfk⟩
      have hlow : ∀ j, Blks 7 (sev (.slice Ar k cr) (.slice As K2 cs) (.slice At k ct) (.slice Au K2 cu) (.slice Aa n ca) (.slice Ab n cb) (.slice Ad n cd)) j → w8.heap.size ≤ j := fun j ⟨i, hi, hb⟩ => by
        have := SZ.out
        rcases lt7 hi with rfl | rfl | rfl | rfl | rfl | rfl | rfl
        · have := Ur.out j hb; omega
        · have := Us.out j hb; omega
        · have := Ut.out j hb; omega
        · have := Uu.out j hb; omega
        · have := Ua.out j hb; omega
        · have := Ub.out j hb; omega
        · have := Ud.out j hb; omega
      have FZ4 := Lib.hid (FZ3.out.fr hfk (fun j hj hk => by have := hlow j hk; omega))
      have HB4 := Lib.hid (HB3.out.trans (hfk.below HB3.out.size (fun j hj => by have := hlow j hj; have := FZ3.out.below; have := OB.out; omega)))
      clear hap hfk hlow FZ3 HB3 BA3 Tr Ts Tt Tu Ta Tb Td Ur Us Ut Uu Ua Ub Ud
      go_wp2_with fail
      refine (still_any A G cg c n n xs rest wk HM.out HM.out FZ4.out.len (HY.out.below HB4.out)).mono ?_
      rintro e w' ⟨q5, rfl, rfl⟩
      have FZ5 : Hid (Fz (wk.drewN q5) w8.heap.size G cg rest p1 g1 [] p2 g2 [] p3 g3 p4 g4 n xs) := Lib.hid (FZ4.out.fr ((Fr.refl (fun _ => False) wk).drewN q5) (fun _ _ h => h))
      have HB5 := Lib.hid (belowN HB4.out q5)
      generalize wk.drewN q5 = wl at FZ5 HB5
      clear FZ4 HB4
      go_wp2_with fail
      refine (wdone_any p3 g3 n xs 0 wl FZ5.out.w1 (by omega) (by have := HM.out; omega)).mono ?_
      rintro e wm ⟨vx, rfl, Ox, bbx⟩
      rw [show dnL n xs 0 = xs from if_pos ⟨rfl, by have := HM.out; omega⟩] at Ox
      have FZ6 := Lib.hid (FZ5.out.fr (Fr.of_below bbx.out (fun _ => False)) (fun _ _ h => h))
      have HB6 := Lib.hid (HB5.out.trans (bbx.out.mono HB5.out.size))
      clear bbx FZ5 HB5
      go_wp2_with fail
      refine (wdone_any p4 g4 n xs 0 wm FZ6.out.w2 (by omega) (by have := HM.out; omega)).mono ?_
      rintro e wn ⟨vy, rfl, Oy, bby⟩
      rw [show dnL n xs 0 = xs from if_pos ⟨rfl, by have := HM.out; omega⟩] at Oy
      have FZ7 := Lib.hid (FZ6.out.fr (Fr.of_below bby.out (fun _ => False)) (fun _ _ h => h))
      have HB7 := Lib.hid (HB6.out.trans (bby.out.mono HB6.out.size))
      have Ox2 := Lib.hid (Ox.out.below bby.out)
      clear bby FZ6 HB6 Ox
      obtain ⟨Ax, cx, rfl, -, -, rx, -⟩ := Ox2.out.slice
      obtain ⟨Ay, cy, rfl, -, -, ry, -⟩ := Oy.out.slice
      have RX := Lib.hid rx
      have RY := Lib.hid ry
      have YN := Lib.hid (HY.out.below HB7.out)
      clear rx ry Ox2 Oy
      go_wp2_with fail
      refine (same_any Ax A _ n cx c xs xs wn rfl HM.out RX.out YN.out (by have := HM.out; omega) (by have := HM.out; omega)).mono ?_
      rintro e w' ⟨q6, rfl, rfl⟩
      rw [show decide (xs = xs) = true from by simp]
      go_wp2_with fail
      refine (same_any Ay A _ n cy c xs xs _ rfl HM.out (RY.out.draws _) (YN.out.draws _) (by have := HM.out; omega) (by have := HM.out; omega)).mono ?_
      rintro e w' ⟨q7, rfl, rfl⟩
      rw [show decide (xs = xs) = true from by simp]
      have R1z : Hid (Rdr ((wn.drewN q6).drewN q7) p1 g1 [] 0) := Lib.hid ((FZ7.out.r1.drewN q6).drewN q7)
      have R2z : Hid (Rdr ((wn.drewN q6).drewN q7) p2 g2 [] 0) := Lib.hid ((FZ7.out.r2.drewN q6).drewN q7)
      have HBz := Lib.hid (belowN (belowN HB7.out q6) q7)
      generalize (wn.drewN q6).drewN q7 = wz at R1z R2z HBz
      clear RX RY YN FZ7 HB7
      go_wp2_with fail
      refine (left_any p1 g1 [] 0 wz R1z.out).mono ?_
      rintro e' w' ⟨rfl, hww⟩
      obtain rfl : wz = w' := hww.symm
      go_wp2_with fail
      refine (rend_any p2 g2 [] 0 wz R2z.out).mono ?_
      rintro e' w' ⟨rfl, hww⟩
      obtain rfl : wz = w' := hww.symm
      rw [show enR [] 0 = 0 from by decide]
      go_wp2_with fail
      go_ret
      exact ⟨rfl, HBz.out⟩

set_option maxRecDepth 100000 in
set_option maxHeartbeats 8000000 in
theorem fresh_an (A : Option Addr) (n c : Nat) (xs : List Int) (z : Int) (w : World) (hn : n = xs.length) (hx : Rd w .u8 A xs) (hB : B8 xs) (hl : xs.length ≤ 140737488351232) (hc : n ≤ c ∧ c ≤ maxLen) (hbig : n ≤ 80) (k : Nat) (hk : k ≤ n) (hT : z.tmod ((n : Int) + 1) = (k : Int) - n - 1) :
    Calls Try.prog 11 #[.slice A n c, .int .i64 z] w fun e w' => e = .returned (.bool true) ∧ Below w.heap.size w w' := by
  have HX := Lib.hid hx
  have HN := Lib.hid hn
  have HB := Lib.hid hB
  have HL := Lib.hid hl
  have hn63 : n ≤ 140737488351232 := by omega
  have hc1 : n ≤ c := hc.1
  have hc2 : c ≤ 9223372036854775807 := hc.2
  clear hx hn hB hl hc
  go_enter Try.func11, Try.ntmps11
  go_wp2_with fail
  refine (awake_any w).mono ?_
  rintro e w1 ⟨rfl, b1⟩
  have HB1 := Lib.hid b1
  clear b1
  have d1 : decide ((80 : Int) < (n : Int)) = false := decide_eq_false (by omega)
  have HM := HN
  have HY := HX
  have hM : n ≤ 80 := hbig
  obtain ⟨T, hTT⟩ : ∃ T, T = z.tmod ((n : Int) + 1) := ⟨_, rfl⟩
  rw [← hTT] at hT
  have hTT' : z.tmod ((n : Int) + 1) = T := hTT.symm
  have d2 : decide (T < 0) = true := decide_eq_true (by omega)
  have w2 : IntKind.i64.wrap (T + (n : Int)) = (k : Int) - 1 := by simp [IntKind.wrap, IntKind.bits, IntKind.signed]; omega
  have w3 : IntKind.i64.wrap ((k : Int) - 1 + 1) = (k : Int) := by simp [IntKind.wrap, IntKind.bits, IntKind.signed]; omega
  clear hTT hT
  go_wp2_with fail
  refine (lent_any A n c xs w1 HM.out (HY.out.below HB1.out) (by have := HM.out; omega)).mono ?_
  rintro e w2 ⟨G, cg, rest, rfl, hG, LG, b2⟩
  have HLG := Lib.hid LG
  have HB2 := Lib.hid (HB1.out.trans (b2.mono HB1.out.size))
  have OG : Hid (w.heap.size ≤ G ∧ G < w2.heap.size) := Lib.hid ⟨Nat.le_trans HB1.out.size hG, LG.blk.lt⟩
  clear hG LG b2 HB1
  go_wp2_with fail
  refine (newReader_any _ n cg xs w2 HM.out HLG.out.rd (by have := HM.out; omega)).mono ?_
  rintro e w3 ⟨p1, g1, rfl, HP1, R1, bb3⟩
  have HLG3 := Lib.hid (HLG.out.below bb3.out)
  have HB3 := Lib.hid (HB2.out.trans (bb3.out.mono HB2.out.size))
  have O1 : Hid (w2.heap.size ≤ p1 ∧ w2.heap.size ≤ g1 ∧ p1 < w3.heap.size ∧ g1 < w3.heap.size) := Lib.hid ⟨HP1.out.1, HP1.out.2, R1.out.lt, R1.out.glt⟩
  clear bb3 HP1 HLG HB2
  go_wp2_with fail
  refine (newReader_any _ n cg xs w3 HM.out HLG3.out.rd (by have := HM.out; omega)).mono ?_
  rintro e w4 ⟨p2, g2, rfl, HP2, R2, bb4⟩
  have HLG4 := Lib.hid (HLG3.out.below bb4.out)
  have R14 := Lib.hid (R1.out.below bb4.out)
  have HB4 := Lib.hid (HB3.out.trans (bb4.out.mono HB3.out.size))
  have O2 : Hid (w3.heap.size ≤ p2 ∧ w3.heap.size ≤ g2 ∧ p2 < w4.heap.size ∧ g2 < w4.heap.size) := Lib.hid ⟨HP2.out.1, HP2.out.2, R2.out.lt, R2.out.glt⟩
  clear bb4 HP2 HLG3 HB3 R1
  go_wp2_with fail
  refine (nw_ok n w4 (by omega)).mono ?_
  rintro e w5 ⟨p3, rfl, HP3, T3, bb5⟩
  have HLG5 := Lib.hid (HLG4.out.below bb5.out)
  have R15 := Lib.hid (R14.out.below bb5.out)
  have R25 := Lib.hid (R2.out.below bb5.out)
  have HB5 := Lib.hid (HB4.out.trans (bb5.out.mono HB4.out.size))
  have O3 : Hid (w4.heap.size ≤ p3 ∧ p3 < w5.heap.size) := Lib.hid ⟨HP3.out, T3.out.lt.1⟩
  clear bb5 HP3 HLG4 HB4 R14 R2
  go_wp2_with fail
  refine (nw_ok n w5 (by omega)).mono ?_
  rintro e w6 ⟨p4, rfl, HP4, T4, bb6⟩
  have HLG6 := Lib.hid (HLG5.out.below bb6.out)
  have R16 := Lib.hid (R15.out.below bb6.out)
  have R26 := Lib.hid (R25.out.below bb6.out)
  have T36 := Lib.hid (T3.out.below bb6.out)
  have HB6 := Lib.hid (HB5.out.trans (bb6.out.mono HB5.out.size))
  have O4 : Hid (w5.heap.size ≤ p4 ∧ p4 < w6.heap.size) := Lib.hid ⟨HP4.out, T4.out.lt.1⟩
  clear bb6 HP4 HLG5 HB5 R15 R25 T3
  go_wp2_with fail
  refine (wbytes_any p3 p3 n [] 0 _ n cg xs w6 T36.out HM.out HLG6.out.rd (by omega) (Nat.zero_le _) (by omega)).mono ?_
  rintro e w7 ⟨⟨u7, rfl⟩, HW7⟩
  rw [show wL n [] 0 xs = xs from by unfold wL; rw [if_pos ⟨rfl, by have := HM.out; simp; omega⟩]; rfl, show wE n [] 0 xs = 0 from by unfold wE; rw [if_pos rfl, if_pos (by have := HM.out; simp; omega)]] at HW7
  obtain ⟨g3, t3, hg3, hf7⟩ := HW7.out
  have O5 : Hid (g3 = p3 ∨ w6.heap.size ≤ g3) := Lib.hid hg3
  have O5b : Hid (g3 < w7.heap.size ∧ w6.heap.size ≤ w7.heap.size) := Lib.hid ⟨t3.lt.2, hf7.size⟩
  have T37 := Lib.hid t3
  have HLG7 := Lib.hid (HLG6.out.fr hf7 (by have := OG.out; have := O1.out; have := O2.out; have := O3.out; omega))
  have R17 := Lib.hid (R16.out.fr hf7 (by have := O1.out; have := O2.out; have := O3.out; omega) (by have := O1.out; have := O2.out; have := O3.out; omega))
  have R27 := Lib.hid (R26.out.fr hf7 (by have := O2.out; have := O3.out; omega) (by have := O2.out; have := O3.out; omega))
  have T47 := Lib.hid (T4.out.fr hf7 (by have := O4.out; have := O3.out; omega) (by have := O4.out; have := O3.out; omega))
  have HB7 := Lib.hid (HB6.out.trans (hf7.below HB6.out.size (fun j hj => by have := O3.out; have := O2.out; have := O1.out; have := OG.out; omega)))
  clear t3 hg3 hf7 HW7 HLG6 R16 R26 T36 T4 HB6
  go_wp2_with fail
  refine (wbytes_any p4 p4 n [] 0 _ n cg xs w7 T47.out HM.out HLG7.out.rd (by omega) (Nat.zero_le _) (by omega)).mono ?_
  rintro e w8 ⟨⟨u8, rfl⟩, HW8⟩
  rw [show wL n [] 0 xs = xs from by unfold wL; rw [if_pos ⟨rfl, by have := HM.out; simp; omega⟩]; rfl, show wE n [] 0 xs = 0 from by unfold wE; rw [if_pos rfl, if_pos (by have := HM.out; simp; omega)]] at HW8
  obtain ⟨g4, t4, hg4, hf8⟩ := HW8.out
  have HB8 := Lib.hid (HB7.out.trans (hf8.below HB7.out.size (fun j hj => by have := O4.out; have := O3.out; have := O2.out; have := O1.out; have := OG.out; omega)))
  have FZ : Hid (Fz w8 w8.heap.size G cg rest p1 g1 xs p2 g2 xs p3 g3 p4 g4 n xs) := Lib.hid (by
    have a0 := OG.out
    have a1 := O1.out
    have a2 := O2.out
    have a3 := O3.out
    have a4 := O4.out
    have a5 := O5.out
    have a6 := O5b.out
    have a7 := hf8.size
    have a8 := t4.lt
    exact ⟨HLG7.out.fr hf8 (by omega), R17.out.fr hf8 (by omega) (by omega), R27.out.fr hf8 (by omega) (by omega), T37.out.fr hf8 (by omega) (by omega), t4, by omega, by omega, by omega, Nat.le_refl _⟩)
  have OB : Hid (w.heap.size ≤ p1 ∧ w.heap.size ≤ p2) := Lib.hid (by have := O2.out; have := O1.out; have := OG.out; omega)
  clear t4 hg4 hf8 HW8 HLG7 R17 R27 T37 T47 HB7 OG O1 O2 O3 O4 O5 O5b
  go_wp2_with fail
  refine (wdone_any p3 g3 n xs 0 w8 FZ.out.w1 (by omega) (by have := HM.out; omega)).mono ?_
  rintro e w9 ⟨va, rfl, Oa, bba⟩
  rw [show dnE n xs 0 = 0 from by unfold dnE; rw [if_pos rfl, if_neg (by have := HM.out; omega)]]
  rw [show dnL n xs 0 = xs from if_pos ⟨rfl, by have := HM.out; omega⟩] at Oa
  have Ga := Lib.hid (show Rg va w8.heap.size w9.heap.size from fun j hj => Oa.out.base_le hj)
  obtain ⟨Aa, ca, rfl, -, -, -, -⟩ := Oa.out.slice
  have FZa := Lib.hid (FZ.out.fr (Fr.of_below bba.out (fun _ => False)) (fun _ _ h => h))
  have HBa := Lib.hid (HB8.out.trans (bba.out.mono HB8.out.size))
  have Sa : Hid (w8.heap.size ≤ w9.heap.size) := Lib.hid bba.out.size
  clear bba FZ HB8
  rw [show xs.length = n from HM.out.symm]
  go_wp2_with fail
  refine (wdone_any p3 g3 n xs 0 w9 FZa.out.w1 (by omega) (by have := HM.out; omega)).mono ?_
  rintro e wa ⟨vb, rfl, Ob, bbb⟩
  rw [show dnE n xs 0 = 0 from by unfold dnE; rw [if_pos rfl, if_neg (by have := HM.out; omega)]]
  rw [show dnL n xs 0 = xs from if_pos ⟨rfl, by have := HM.out; omega⟩] at Ob
  have Gb := Lib.hid (show Rg vb w9.heap.size wa.heap.size from fun j hj => Ob.out.base_le hj)
  obtain ⟨Ab, cb, rfl, -, -, -, -⟩ := Ob.out.slice
  have FZb := Lib.hid (FZa.out.fr (Fr.of_below bbb.out (fun _ => False)) (fun _ _ h => h))
  have HBb := Lib.hid (HBa.out.trans (bbb.out.mono HBa.out.size))
  have Oab := Lib.hid (Oa.out.below bbb.out)
  clear Oa
  have Sb : Hid (w9.heap.size ≤ wa.heap.size) := Lib.hid bbb.out.size
  clear bbb FZa HBa
  rw [show xs.length = n from HM.out.symm]
  go_wp2_with fail
  refine (wdone_any p4 g4 n xs 0 wa FZb.out.w2 (by omega) (by have := HM.out; omega)).mono ?_
  rintro e wb ⟨vd, rfl, Od, bbd⟩
  rw [show dnE n xs 0 = 0 from by unfold dnE; rw [if_pos rfl, if_neg (by have := HM.out; omega)]]
  rw [show dnL n xs 0 = xs from if_pos ⟨rfl, by have := HM.out; omega⟩] at Od
  have Gd := Lib.hid (show Rg vd wa.heap.size wb.heap.size from fun j hj => Od.out.base_le hj)
  obtain ⟨Ad, cd, rfl, -, -, -, -⟩ := Od.out.slice
  have FZd := Lib.hid (FZb.out.fr (Fr.of_below bbd.out (fun _ => False)) (fun _ _ h => h))
  have HBd := Lib.hid (HBb.out.trans (bbd.out.mono HBb.out.size))
  have Oad := Lib.hid (Oab.out.below bbd.out)
  clear Oab
  have Obd := Lib.hid (Ob.out.below bbd.out)
  clear Ob
  have Sd : Hid (wa.heap.size ≤ wb.heap.size) := Lib.hid bbd.out.size
  clear bbd FZb HBb
  rw [show xs.length = n from HM.out.symm]
  go_wp2_with fail
  obtain ⟨K2, hK2⟩ : ∃ K2, K2 = n - k := ⟨_, rfl⟩
  have HK2 : Hid (K2 + k = n) := Lib.hid (by omega)
  have hK64 : K2 ≤ 80 := by omega
  have hwr : IntKind.i64.wrap ((n : Int) - (k : Int)) = (K2 : Int) := by simp [IntKind.wrap, IntKind.bits, IntKind.signed]; omega
  clear hK2
  have hs1 := fun W => run_cut_upto (P := Try.prog) W 22 5 Try.underlying22 size5' A n c k .i64 k rfl (by omega)
  have hs2 := fun W => run_cut_from (P := Try.prog) W 22 5 Try.underlying22 size5' A n c k .i64 k rfl hk
  have HT1 := Lib.hid (take_step xs k (by have := HM.out; omega))
  have HT2 : Hid (tkL (xs.drop k) K2 0 = xs.drop k ∧ rsL (xs.drop k) K2 0 = [] ∧ erR (xs.drop k) K2 0 = 0) := Lib.hid (by
    have h1 : K2 = (xs.drop k).length := by rw [List.length_drop]; have := HM.out; have := HK2.out; omega
    have h2 := take_step (xs.drop k) K2 (by omega)
    have h3 : (xs.drop k).take K2 = xs.drop k := List.take_of_length_le (by omega)
    have h4 : (xs.drop k).drop K2 = [] := List.drop_eq_nil_of_le (by omega)
    rw [h3, h4] at h2
    exact h2)
  refine (rbytes_any p1 g1 k xs 0 wb FZd.out.r1 (by omega) (by have := HM.out; omega)).mono ?_
  rintro e wc ⟨vr, rfl, Or, Rr, Fr⟩
  rw [HT1.out.1] at Or
  rw [HT1.out.2.1, HT1.out.2.2] at Rr
  have FZr := Lib.hid (FZd.out.step1 Fr.out Rr.out)
  have HBr := Lib.hid (HBd.out.trans (Fr.out.below HBd.out.size (fun j hj => by subst hj; exact OB.out.1)))
  have Gr := Lib.hid (show Rg vr wb.heap.size wc.heap.size from fun j hj => Or.out.base_le hj)
  have Sr : Hid (wb.heap.size ≤ wc.heap.size) := Lib.hid Fr.out.size
  obtain ⟨Ar, cr, rfl, -, -, -, -⟩ := Or.out.slice
  have Nar := Lib.hid (Oad.out.fr Fr.out (fun j hj hk => by have h1 := (Ga.out j hj).1; have h2 := FZd.out.below; have h3 := Sa.out; have h4 := Sb.out; have h5 := Sd.out; omega))
  clear Oad
  have Nbr := Lib.hid (Obd.out.fr Fr.out (fun j hj hk => by have h1 := (Gb.out j hj).1; have h2 := FZd.out.below; have h3 := Sa.out; have h4 := Sb.out; have h5 := Sd.out; omega))
  clear Obd
  have Ndr := Lib.hid (Od.out.fr Fr.out (fun j hj hk => by have h1 := (Gd.out j hj).1; have h2 := FZd.out.below; have h3 := Sa.out; have h4 := Sb.out; have h5 := Sd.out; omega))
  clear Od
  clear Rr Fr FZd HBd
  rw [show (xs.take k).length = k from by rw [List.length_take]; have := HM.out; omega]
  go_wp2_with fail
  refine (rbytes_any p1 g1 K2 (xs.drop k) 0 wc FZr.out.r1 (by omega) (by rw [List.length_drop]; have := HM.out; omega)).mono ?_
  rintro e wd ⟨vs, rfl, Os, Rs, Fs⟩
  rw [HT2.out.1] at Os
  rw [HT2.out.2.1, HT2.out.2.2] at Rs
  have FZs := Lib.hid (FZr.out.step1 Fs.out Rs.out)
  have HBs := Lib.hid (HBr.out.trans (Fs.out.below HBr.out.size (fun j hj => by subst hj; exact OB.out.1)))
  have Gs := Lib.hid (show Rg vs wc.heap.size wd.heap.size from fun j hj => Os.out.base_le hj)
  have Ss : Hid (wc.heap.size ≤ wd.heap.size) := Lib.hid Fs.out.size
  obtain ⟨As, cs, rfl, -, -, -, -⟩ := Os.out.slice
  have Nas := Lib.hid (Nar.out.fr Fs.out (fun j hj hk => by have h1 := (Ga.out j hj).1; have h2 := FZr.out.below; have h3 := Sa.out; have h4 := Sb.out; have h5 := Sd.out; have h6 := Sr.out; omega))
  clear Nar
  have Nbs := Lib.hid (Nbr.out.fr Fs.out (fun j hj hk => by have h1 := (Gb.out j hj).1; have h2 := FZr.out.below; have h3 := Sa.out; have h4 := Sb.out; have h5 := Sd.out; have h6 := Sr.out; omega))
  clear Nbr
  have Nds := Lib.hid (Ndr.out.fr Fs.out (fun j hj hk => by have h1 := (Gd.out j hj).1; have h2 := FZr.out.below; have h3 := Sa.out; have h4 := Sb.out; have h5 := Sd.out; have h6 := Sr.out; omega))
  clear Ndr
  have Nrs := Lib.hid (Or.out.fr Fs.out (fun j hj hk => by have h1 := (Gr.out j hj).1; have h2 := FZr.out.below; have h3 := Sa.out; have h4 := Sb.out; have h5 := Sd.out; have h6 := Sr.out; omega))
  clear Or
  clear Rs Fs FZr HBr
  rw [show (xs.drop k).length = K2 from by rw [List.length_drop]; have := HM.out; have := HK2.out; omega]
  go_wp2_with fail
  refine (rbytes_any p2 g2 k xs 0 wd FZs.out.r2 (by omega) (by have := HM.out; omega)).mono ?_
  rintro e we ⟨vt, rfl, Ot, Rt, Ft⟩
  rw [HT1.out.1] at Ot
  rw [HT1.out.2.1, HT1.out.2.2] at Rt
  have FZt := Lib.hid (FZs.out.step2 Ft.out Rt.out)
  have HBt := Lib.hid (HBs.out.trans (Ft.out.below HBs.out.size (fun j hj => by subst hj; exact OB.out.2)))
  have Gt := Lib.hid (show Rg vt wd.heap.size we.heap.size from fun j hj => Ot.out.base_le hj)
  have St : Hid (wd.heap.size ≤ we.heap.size) := Lib.hid Ft.out.size
  obtain ⟨At, ct, rfl, -, -, -, -⟩ := Ot.out.slice
  have Nat := Lib.hid (Nas.out.fr Ft.out (fun j hj hk => by have h1 := (Ga.out j hj).1; have h2 := FZs.out.below; have h3 := Sa.out; have h4 := Sb.out; have h5 := Sd.out; have h6 := Sr.out; have h7 := Ss.out; omega))
  clear Nas
  have Nbt := Lib.hid (Nbs.out.fr Ft.out (fun j hj hk => by have h1 := (Gb.out j hj).1; have h2 := FZs.out.below; have h3 := Sa.out; have h4 := Sb.out; have h5 := Sd.out; have h6 := Sr.out; have h7 := Ss.out; omega))
  clear Nbs
  have Ndt := Lib.hid (Nds.out.fr Ft.out (fun j hj hk => by have h1 := (Gd.out j hj).1; have h2 := FZs.out.below; have h3 := Sa.out; have h4 := Sb.out; have h5 := Sd.out; have h6 := Sr.out; have h7 := Ss.out; omega))
  clear Nds
  have Nrt := Lib.hid (Nrs.out.fr Ft.out (fun j hj hk => by have h1 := (Gr.out j hj).1; have h2 := FZs.out.below; have h3 := Sa.out; have h4 := Sb.out; have h5 := Sd.out; have h6 := Sr.out; have h7 := Ss.out; omega))
  clear Nrs
  have Nst := Lib.hid (Os.out.fr Ft.out (fun j hj hk => by have h1 := (Gs.out j hj).1; have h2 := FZs.out.below; have h3 := Sa.out; have h4 := Sb.out; have h5 := Sd.out; have h6 := Sr.out; have h7 := Ss.out; omega))
  clear Os
  clear Rt Ft FZs HBs
  rw [show (xs.take k).length = k from by rw [List.length_take]; have := HM.out; omega]
  go_wp2_with fail
  refine (rbytes_any p2 g2 K2 (xs.drop k) 0 we FZt.out.r2 (by omega) (by rw [List.length_drop]; have := HM.out; omega)).mono ?_
  rintro e wf ⟨vu, rfl, Ou, Ru, Fu⟩
  rw [HT2.out.1] at Ou
  rw [HT2.out.2.1, HT2.out.2.2] at Ru
  have FZu := Lib.hid (FZt.out.step2 Fu.out Ru.out)
  have HBu := Lib.hid (HBt.out.trans (Fu.out.below HBt.out.size (fun j hj => by subst hj; exact OB.out.2)))
  have Gu := Lib.hid (show Rg vu we.heap.size wf.heap.size from fun j hj => Ou.out.base_le hj)
  have Su : Hid (we.heap.size ≤ wf.heap.size) := Lib.hid Fu.out.size
  obtain ⟨Au, cu, rfl, -, -, -, -⟩ := Ou.out.slice
  have Nau := Lib.hid (Nat.out.fr Fu.out (fun j hj hk => by have h1 := (Ga.out j hj).1; have h2 := FZt.out.below; have h3 := Sa.out; have h4 := Sb.out; have h5 := Sd.out; have h6 := Sr.out; have h7 := Ss.out; have h8 := St.out; omega))
  clear Nat
  have Nbu := Lib.hid (Nbt.out.fr Fu.out (fun j hj hk => by have h1 := (Gb.out j hj).1; have h2 := FZt.out.below; have h3 := Sa.out; have h4 := Sb.out; have h5 := Sd.out; have h6 := Sr.out; have h7 := Ss.out; have h8 := St.out; omega))
  clear Nbt
  have Ndu := Lib.hid (Ndt.out.fr Fu.out (fun j hj hk => by have h1 := (Gd.out j hj).1; have h2 := FZt.out.below; have h3 := Sa.out; have h4 := Sb.out; have h5 := Sd.out; have h6 := Sr.out; have h7 := Ss.out; have h8 := St.out; omega))
  clear Ndt
  have Nru := Lib.hid (Nrt.out.fr Fu.out (fun j hj hk => by have h1 := (Gr.out j hj).1; have h2 := FZt.out.below; have h3 := Sa.out; have h4 := Sb.out; have h5 := Sd.out; have h6 := Sr.out; have h7 := Ss.out; have h8 := St.out; omega))
  clear Nrt
  have Nsu := Lib.hid (Nst.out.fr Fu.out (fun j hj hk => by have h1 := (Gs.out j hj).1; have h2 := FZt.out.below; have h3 := Sa.out; have h4 := Sb.out; have h5 := Sd.out; have h6 := Sr.out; have h7 := Ss.out; have h8 := St.out; omega))
  clear Nst
  have Ntu := Lib.hid (Ot.out.fr Fu.out (fun j hj hk => by have h1 := (Gt.out j hj).1; have h2 := FZt.out.below; have h3 := Sa.out; have h4 := Sb.out; have h5 := Sd.out; have h6 := Sr.out; have h7 := Ss.out; have h8 := St.out; omega))
  clear Ot
  clear Ru Fu FZt HBt
  rw [show (xs.drop k).length = K2 from by rw [List.length_drop]; have := HM.out; have := HK2.out; omega]
  go_wp2_with fail
  have BA : Hid (Blk (wf.alloc (.cells #[.slice Ar k cr, .slice As K2 cs, .slice At k ct, .slice Au K2 cu, .slice Aa n ca, .slice Ab n cb, .slice Ad n cd] 22)) wf.heap.size 22 [.slice Ar k cr, .slice As K2 cs, .slice At k ct, .slice Au K2 cu, .slice Aa n ca, .slice Ab n cb, .slice Ad n cd]) := Lib.hid (Blk.new wf 22 _)
  have bel := (Below.refl wf.heap.size wf).alloc (Nat.le_refl _) (.cells #[.slice Ar k cr, .slice As K2 cs, .slice At k ct, .slice Au K2 cu, .slice Aa n ca, .slice Ab n cb, .slice Ad n cd] 22)
  have FZg := Lib.hid (FZu.out.fr (Fr.of_below bel (fun _ => False)) (fun _ _ h => h))
  have HBg := Lib.hid (HBu.out.trans (bel.mono HBu.out.size))
  have Pr := Lib.hid (Nru.out.below bel)
  have Ps := Lib.hid (Nsu.out.below bel)
  have Pt := Lib.hid (Ntu.out.below bel)
  have Pu := Lib.hid (Ou.out.below bel)
  have Pa := Lib.hid (Nau.out.below bel)
  have Pb := Lib.hid (Nbu.out.below bel)
  have Pd := Lib.hid (Ndu.out.below bel)
  clear bel FZu HBu Nru Nsu Ntu Ou Nau Nbu Ndu
  obtain ⟨GA, hGA⟩ : ∃ GA, GA = wf.heap.size := ⟨_, rfl⟩
  rw [← hGA] at BA ⊢
  have HGA : Hid (GA = wf.heap.size) := Lib.hid hGA
  clear hGA
  generalize wf.alloc (.cells #[.slice Ar k cr, .slice As K2 cs, .slice At k ct, .slice Au K2 cu, .slice Aa n ca, .slice Ab n cb, .slice Ad n cd] 22) = wg at BA FZg HBg Pr Ps Pt Pu Pa Pb Pd
  refine wp_region_held_drew (S := fun _ => True) (by kernel_rfl) (trivial) (fun hHeld => ?_)
  have BA1 : Hid (Blk wg.drew GA 22 [.slice Ar k cr, .slice As K2 cs, .slice At k ct, .slice Au K2 cu, .slice Aa n ca, .slice Ab n cb, .slice Ad n cd]) := Lib.hid (BA.out.drewN 1)
  have FZ1 : Hid (Fz wg.drew w8.heap.size G cg rest p1 g1 [] p2 g2 [] p3 g3 p4 g4 n xs) := Lib.hid (FZg.out.fr ((Fr.refl (fun _ => False) wg).drewN 1) (fun _ _ h => h))
  have HB1 : Hid (Below w.heap.size w wg.drew) := Lib.hid (belowN HBg.out 1)
  have Qr := Lib.hid (show Own wg.drew _ 5 .u8 _ (xs.take k) from Pr.out)
  have Qs := Lib.hid (show Own wg.drew _ 5 .u8 _ (xs.drop k) from Ps.out)
  have Qt := Lib.hid (show Own wg.drew _ 5 .u8 _ (xs.take k) from Pt.out)
  have Qu := Lib.hid (show Own wg.drew _ 5 .u8 _ (xs.drop k) from Pu.out)
  have Qa := Lib.hid (show Own wg.drew _ 5 .u8 _ xs from Pa.out)
  have Qb := Lib.hid (show Own wg.drew _ 5 .u8 _ xs from Pb.out)
  have Qd := Lib.hid (show Own wg.drew _ 5 .u8 _ xs from Pd.out)
  clear BA FZg HBg Pr Ps Pt Pu Pa Pb Pd
  generalize wg.drew = wh at BA1 FZ1 HB1 hHeld Qr Qs Qt Qu Qa Qb Qd
  refine wpAnyH_take (i := 0) (oi := ⟨some 127, _, _, _, _, _⟩) (v := (.slice A n c)) rfl (by kernel_rfl) (by kernel_rfl) (by kernel_rfl) (fun _ _ _ h => h) (Or.inl ⟨by rfl, ?_⟩) (by assumption) ?_
  · intro w' hS; rfl
  simp only [Act.put, List.setIfInBounds_toArray, List.set_cons_zero, List.set_cons_succ]
  refine wpAnyH_take (i := 1) (oi := ⟨some 128, _, _, _, _, _⟩) (v := (.int .i64 (k : Int))) rfl (by kernel_rfl) (by kernel_rfl) (by kernel_rfl) (fun _ _ _ h => h) (Or.inl ⟨by rfl, ?_⟩) (by assumption) ?_
  · intro w' hS; rfl
  simp only [Act.put, List.setIfInBounds_toArray, List.set_cons_zero, List.set_cons_succ]
  refine wpAnyH_take (i := 2) (oi := ⟨some 129, _, _, _, _, _⟩) (v := (.slice A k c)) rfl (by kernel_rfl) (by kernel_rfl) (by kernel_rfl) (fun _ _ _ h => h) (Or.inl ⟨by rfl, ?_⟩) (by assumption) ?_
  · intro w' hS; go_simp; try with_reducible rfl
  simp only [Act.put, List.setIfInBounds_toArray, List.set_cons_zero, List.set_cons_succ]
  refine wpAnyH_take (i := 3) (oi := ⟨some 130, _, _, _, _, _⟩) (v := (.slice A n c)) rfl (by kernel_rfl) (by kernel_rfl) (by kernel_rfl) (fun _ _ _ h => h) (Or.inl ⟨by rfl, ?_⟩) (by assumption) ?_
  · intro w' hS; rfl
  simp only [Act.put, List.setIfInBounds_toArray, List.set_cons_zero, List.set_cons_succ]
  refine wpAnyH_take (i := 4) (oi := ⟨some 131, _, _, _, _, _⟩) (v := (.int .i64 (k : Int))) rfl (by kernel_rfl) (by kernel_rfl) (by kernel_rfl) (fun _ _ _ h => h) (Or.inl ⟨by rfl, ?_⟩) (by assumption) ?_
  · intro w' hS; rfl
  simp only [Act.put, List.setIfInBounds_toArray, List.set_cons_zero, List.set_cons_succ]
  refine wpAnyH_take (i := 5) (oi := ⟨some 132, _, _, _, _, _⟩) (v := (.slice (cutA A k c) (n - k) (c - k))) rfl (by kernel_rfl) (by kernel_rfl) (by kernel_rfl) (fun _ _ _ h => h) (Or.inl ⟨by rfl, ?_⟩) (by assumption) ?_
  · intro w' hS; go_simp; try with_reducible rfl
  simp only [Act.put, List.setIfInBounds_toArray, List.set_cons_zero, List.set_cons_succ]
  refine wpAnyH_take (i := 6) (oi := ⟨some 133, _, _, _, _, _⟩) (v := (.slice A n c)) rfl (by kernel_rfl) (by kernel_rfl) (by kernel_rfl) (fun _ _ _ h => h) (Or.inl ⟨by rfl, ?_⟩) (by assumption) ?_
  · intro w' hS; rfl
  simp only [Act.put, List.setIfInBounds_toArray, List.set_cons_zero, List.set_cons_succ]
  refine wpAnyH_take (i := 7) (oi := ⟨some 134, _, _, _, _, _⟩) (v := (.int .i64 (k : Int))) rfl (by kernel_rfl) (by kernel_rfl) (by kernel_rfl) (fun _ _ _ h => h) (Or.inl ⟨by rfl, ?_⟩) (by assumption) ?_
  · intro w' hS; rfl
  simp only [Act.put, List.setIfInBounds_toArray, List.set_cons_zero, List.set_cons_succ]
  refine wpAnyH_take (i := 8) (oi := ⟨some 135, _, _, _, _, _⟩) (v := (.slice A k c)) rfl (by kernel_rfl) (by kernel_rfl) (by kernel_rfl) (fun _ _ _ h => h) (Or.inl ⟨by rfl, ?_⟩) (by assumption) ?_
  · intro w' hS; go_simp; try with_reducible rfl
  simp only [Act.put, List.setIfInBounds_toArray, List.set_cons_zero, List.set_cons_succ]
  refine wpAnyH_take (i := 9) (oi := ⟨some 136, _, _, _, _, _⟩) (v := (.slice A n c)) rfl (by kernel_rfl) (by kernel_rfl) (by kernel_rfl) (fun _ _ _ h => h) (Or.inl ⟨by rfl, ?_⟩) (by assumption) ?_
  · intro w' hS; rfl
  simp only [Act.put, List.setIfInBounds_toArray, List.set_cons_zero, List.set_cons_succ]
  refine wpAnyH_take (i := 10) (oi := ⟨some 137, _, _, _, _, _⟩) (v := (.int .i64 (k : Int))) rfl (by kernel_rfl) (by kernel_rfl) (by kernel_rfl) (fun _ _ _ h => h) (Or.inl ⟨by rfl, ?_⟩) (by assumption) ?_
  · intro w' hS; rfl
  simp only [Act.put, List.setIfInBounds_toArray, List.set_cons_zero, List.set_cons_succ]
  refine wpAnyH_take (i := 11) (oi := ⟨some 138, _, _, _, _, _⟩) (v := (.slice (cutA A k c) (n - k) (c - k))) rfl (by kernel_rfl) (by kernel_rfl) (by kernel_rfl) (fun _ _ _ h => h) (Or.inl ⟨by rfl, ?_⟩) (by assumption) ?_
  · intro w' hS; go_simp; try with_reducible rfl
  simp only [Act.put, List.setIfInBounds_toArray, List.set_cons_zero, List.set_cons_succ]
  refine wpAnyH_take (i := 12) (oi := ⟨some 139, _, _, _, _, _⟩) (v := (.slice A n c)) rfl (by kernel_rfl) (by kernel_rfl) (by kernel_rfl) (fun _ _ _ h => h) (Or.inl ⟨by rfl, ?_⟩) (by assumption) ?_
  · intro w' hS; rfl
  simp only [Act.put, List.setIfInBounds_toArray, List.set_cons_zero, List.set_cons_succ]
  refine wpAnyH_take (i := 13) (oi := ⟨some 140, _, _, _, _, _⟩) (v := (.slice A n c)) rfl (by kernel_rfl) (by kernel_rfl) (by kernel_rfl) (fun _ _ _ h => h) (Or.inl ⟨by rfl, ?_⟩) (by assumption) ?_
  · intro w' hS; rfl
  simp only [Act.put, List.setIfInBounds_toArray, List.set_cons_zero, List.set_cons_succ]
  refine wpAnyH_take (i := 14) (oi := ⟨some 141, _, _, _, _, _⟩) (v := (.slice A n c)) rfl (by kernel_rfl) (by kernel_rfl) (by kernel_rfl) (fun _ _ _ h => h) (Or.inl ⟨by rfl, ?_⟩) (by assumption) ?_
  · intro w' hS; rfl
  simp only [Act.put, List.setIfInBounds_toArray, List.set_cons_zero, List.set_cons_succ]
  refine wpAnyH_ready (rs := [15]) (by kernel_rfl) (by simp) ?_
  refine AllReadyH.cons (o := ⟨some 142, _, _, _, _, _⟩) rfl (fun K hK => ?_) AllReadyH.nil
  rw [if_pos (by rfl)]
  go_simp
  have BW : Hid (Blk (wh.alloc (.cells #[.slice A k c, .slice (cutA A k c) (n - k) (c - k), .slice A k c, .slice (cutA A k c) (n - k) (c - k), .slice A n c, .slice A n c, .slice A n c] 22)) wh.heap.size 22 [.slice A k c, .slice (cutA A k c) (n - k) (c - k), .slice A k c, .slice (cutA A k c) (n - k) (c - k), .slice A n c, .slice A n c, .slice A n c]) := Lib.hid (Blk.new wh 22 _)
  have bel := (Below.refl wh.heap.size wh).alloc (Nat.le_refl _) (.cells #[.slice A k c, .slice (cutA A k c) (n - k) (c - k), .slice A k c, .slice (cutA A k c) (n - k) (c - k), .slice A n c, .slice A n c, .slice A n c] 22)
  have FZ2 := Lib.hid (FZ1.out.fr (Fr.of_below bel (fun _ => False)) (fun _ _ h => h))
  have HB2 := Lib.hid (HB1.out.trans (bel.mono HB1.out.size))
  have BA2 := Lib.hid (BA1.out.below bel BA1.out.lt)
  have HGAW : Hid (GA ≠ wh.heap.size) := Lib.hid (by have := BA1.out.lt; omega)
  have Pr := Lib.hid (Qr.out.below bel)
  have Ps := Lib.hid (Qs.out.below bel)
  have Pt := Lib.hid (Qt.out.below bel)
  have Pu := Lib.hid (Qu.out.below bel)
  have Pa := Lib.hid (Qa.out.below bel)
  have Pb := Lib.hid (Qb.out.below bel)
  have Pd := Lib.hid (Qd.out.below bel)
  clear bel BA1 FZ1 HB1 Qr Qs Qt Qu Qa Qb Qd
  obtain ⟨GB, hGB⟩ : ∃ GB, GB = wh.heap.size := ⟨_, rfl⟩
  rw [← hGB] at BW HGAW ⊢
  have HGB : Hid (GB = wh.heap.size) := Lib.hid hGB
  clear hGB
  generalize wh.alloc (.cells #[.slice A k c, .slice (cutA A k c) (n - k) (c - k), .slice A k c, .slice (cutA A k c) (n - k) (c - k), .slice A n c, .slice A n c, .slice A n c] 22) = wi at BW BA2 FZ2 HB2 Pr Ps Pt Pu Pa Pb Pd ⊢
  (try dsimp only)
  (try simp only [Act.put, List.setIfInBounds_toArray, List.set_cons_zero, List.set_cons_succ])
  refine hK.out _ _ trivial (fun hHeld => ?_)
  clear hK K
  refine wpAnyH_take (i := 16) (oi := ⟨some 19, _, _, _, _, _⟩) (v := (.slice (some ⟨GB, 0, none⟩) 7 7)) rfl (by kernel_rfl) (by kernel_rfl) (by kernel_rfl) (fun _ _ _ h => h) (Or.inl ⟨by rfl, ?_⟩) (by assumption) ?_
  · intro w' hS; rfl
  simp only [Act.put, List.setIfInBounds_toArray, List.set_cons_zero, List.set_cons_succ]
  refine wpAnyH_done (by kernel_rfl) ?_ _
  go_wp2_with fail
  have YW := Lib.hid (HY.out.below HB2.out)
  have YT := Lib.hid (YW.out.take k)
  have YD : Hid (Rd wi .u8 (cutA A k c) (xs.drop k)) := Lib.hid (YW.out.cutA k c (by have := HM.out; omega))
  have LT : Hid ((xs.take k).length = k) := Lib.hid (by rw [List.length_take]; have := HM.out; omega)
  have LD : Hid ((xs.drop k).length = n - k) := Lib.hid (by rw [List.length_drop]; have := HM.out; omega)
  have SEV : Hid (∀ i, i < 7 → ∃ A1 l1 c1 A2 l2 c2 zs, wi.cell? ⟨GA, i, none⟩ = some (.slice A1 l1 c1) ∧ wi.cell? ⟨GB, i, none⟩ = some (.slice A2 l2 c2) ∧ l1 = (zs : List Int).length ∧ l2 = zs.length ∧ Rd wi .u8 A1 zs ∧ Rd wi .u8 A2 zs ∧ zs.length ≤ 80) := Lib.hid (fun i hi => by
    rcases lt7 hi with rfl | rfl | rfl | rfl | rfl | rfl | rfl
    · exact ⟨_, _, _, _, _, _, (xs.take k), BA2.out.cell 0, BW.out.cell 0, LT.out.symm, LT.out.symm, own_rd Pr.out, YT.out, (by rw [LT.out]; omega)⟩
    · exact ⟨_, _, _, _, _, _, (xs.drop k), BA2.out.cell 1, BW.out.cell 1, (by rw [LD.out]; have := HK2.out; omega), LD.out.symm, own_rd Ps.out, YD.out, (by rw [LD.out]; omega)⟩
    · exact ⟨_, _, _, _, _, _, (xs.take k), BA2.out.cell 2, BW.out.cell 2, LT.out.symm, LT.out.symm, own_rd Pt.out, YT.out, (by rw [LT.out]; omega)⟩
    · exact ⟨_, _, _, _, _, _, (xs.drop k), BA2.out.cell 3, BW.out.cell 3, (by rw [LD.out]; have := HK2.out; omega), LD.out.symm, own_rd Pu.out, YD.out, (by rw [LD.out]; omega)⟩
    · exact ⟨_, _, _, _, _, _, xs, BA2.out.cell 4, BW.out.cell 4, HM.out, HM.out, own_rd Pa.out, YW.out, (by rw [← HM.out]; omega)⟩
    · exact ⟨_, _, _, _, _, _, xs, BA2.out.cell 5, BW.out.cell 5, HM.out, HM.out, own_rd Pb.out, YW.out, (by rw [← HM.out]; omega)⟩
    · exact ⟨_, _, _, _, _, _, xs, BA2.out.cell 6, BW.out.cell 6, HM.out, HM.out, own_rd Pd.out, YW.out, (by rw [← HM.out]; omega)⟩)
  go_loopw [20] (fun zz wx => ∃ i q : Nat, i ≤ 7 ∧ zz = .int .i64 i ∧ wx = wi.drewN q) (fun zz _ => 7 - (intOf zz).toNat)
  case atStart => exact ⟨0, 0, Nat.zero_le _, rfl, rfl⟩
  case round =>
    obtain ⟨i, q, hi7, rfl, rfl⟩ := hrel
    by_cases hlt : i < 7
    · have d7 : decide ((i : Int) < 7) = true := decide_eq_true (by omega)
      obtain ⟨A1, l1, c1, A2, l2, c2, zs, e1, e2, g1, g2, x1, x2, xl⟩ := SEV.out i hlt
      have X1 := Lib.hid x1
      have X2 := Lib.hid x2
      have XL := Lib.hid (show l1 = zs.length ∧ l2 = zs.length ∧ zs.length ≤ 80 from ⟨g1, g2, xl⟩)
      clear x1 x2 g1 g2 xl
      go_wp2_with fail
      have N1 := Lib.hid XL.out.1
      have N2 := Lib.hid XL.out.2.1
      have HCL : Hid (zs.length ≤ 9223372036854775807) := Lib.hid (by have := XL.out.2.2; omega)
      go_quiet (first | (go_at_call 20; exact same_qt _ _ N1 N2 X1 X2 HCL.out))
      go_wp2_with fail
      go_roundw
      case rel => exact ⟨i + 1, _, by omega, by go_num, rfl⟩
      case measure => simp [intOf]; omega
    · obtain rfl : i = 7 := by omega
      go_wp2_with fail
      have BA3 := Lib.hid (BA2.out.drewN q)
      have FZ3 : Hid (Fz (wi.drewN q) w8.heap.size G cg rest p1 g1 [] p2 g2 [] p3 g3 p4 g4 n xs) := Lib.hid (FZ2.out.fr ((Fr.refl (fun _ => False) wi).drewN q) (fun _ _ h => h))
      have HB3 := Lib.hid (belowN HB2.out q)
      have Tr := Lib.hid (show Own (wi.drewN q) _ 5 .u8 (.slice Ar k cr) (xs.take k) from own_len (Pr.out.drewN q) LT.out.symm)
      have Ts := Lib.hid (show Own (wi.drewN q) _ 5 .u8 (.slice As K2 cs) (xs.drop k) from own_len (Ps.out.drewN q) (by rw [LD.out]; have := HK2.out; omega))
      have Tt := Lib.hid (show Own (wi.drewN q) _ 5 .u8 (.slice At k ct) (xs.take k) from own_len (Pt.out.drewN q) LT.out.symm)
      have Tu := Lib.hid (show Own (wi.drewN q) _ 5 .u8 (.slice Au K2 cu) (xs.drop k) from own_len (Pu.out.drewN q) (by rw [LD.out]; have := HK2.out; omega))
      have Ta := Lib.hid (show Own (wi.drewN q) _ 5 .u8 (.slice Aa n ca) xs from own_len (Pa.out.drewN q) HM.out)
      have Tb := Lib.hid (show Own (wi.drewN q) _ 5 .u8 (.slice Ab n cb) xs from own_len (Pb.out.drewN q) HM.out)
      have Td := Lib.hid (show Own (wi.drewN q) _ 5 .u8 (.slice Ad n cd) xs from own_len (Pd.out.drewN q) HM.out)
      have Ur := Lib.hid (show Rg (.slice Ar k cr) wb.heap.size wc.heap.size from rg_len Gr.out LT.out.symm)
      have Us := Lib.hid (show Rg (.slice As K2 cs) wc.heap.size wd.heap.size from rg_len Gs.out (by rw [LD.out]; have := HK2.out; omega))
      have Ut := Lib.hid (show Rg (.slice At k ct) wd.heap.size we.heap.size from rg_len Gt.out LT.out.symm)
      have Uu := Lib.hid (show Rg (.slice Au K2 cu) we.heap.size wf.heap.size from rg_len Gu.out (by rw [LD.out]; have := HK2.out; omega))
      have Ua := Lib.hid (show Rg (.slice Aa n ca) w8.heap.size w9.heap.size from rg_len Ga.out HM.out)
      have Ub := Lib.hid (show Rg (.slice Ab n cb) w9.heap.size wa.heap.size from rg_len Gb.out HM.out)
      have Ud := Lib.hid (show Rg (.slice Ad n cd) wa.heap.size wb.heap.size from rg_len Gd.out HM.out)
      clear BW BA2 FZ2 HB2 SEV YW YT YD Pr Ps Pt Pu Pa Pb Pd Gr Gs Gt Gu Ga Gb Gd
      generalize wi.drewN q = wj at BA3 FZ3 HB3 Tr Ts Tt Tu Ta Tb Td ⊢
      have SZ : Hid (w8.heap.size ≤ w9.heap.size ∧ w9.heap.size ≤ wa.heap.size ∧ wa.heap.size ≤ wb.heap.size ∧ wb.heap.size ≤ wc.heap.size ∧ wc.heap.size ≤ wd.heap.size ∧ wd.heap.size ≤ we.heap.size ∧ we.heap.size ≤ wf.heap.size) := Lib.hid ⟨Sa.out, Sb.out, Sd.out, Sr.out, Ss.out, St.out, Su.out⟩
      have hap := apart_any w8.heap.size GA 7 7 (sev (.slice Ar k cr) (.slice As K2 cs) (.slice At k ct) (.slice Au K2 cu) (.slice Aa n ca) (.slice Ab n cb) (.slice Ad n cd)) (fun j => [k, K2, k, K2, n, n, n].getD j 0) (fun j => [xs.take k, xs.drop k, xs.take k, xs.drop k, xs, xs, xs].getD j []) wj (by decide) (fun j hj => by rcases lt7 hj with rfl | rfl | rfl | rfl | rfl | rfl | rfl; exact LT.out; exact (by show (xs.drop k).length = K2; rw [LD.out]; have := HK2.out; omega); exact LT.out; exact (by show (xs.drop k).length = K2; rw [LD.out]; have := HK2.out; omega); exact HM.out.symm; exact HM.out.symm; exact HM.out.symm)
        (sev_all (P := fun j v => Own wj w8.heap.size 5 .u8 v ((fun j => [xs.take k, xs.drop k, xs.take k, xs.drop k, xs, xs, xs].getD j []) j)) (Tr.out.lower (by have := SZ.out; omega)) (Ts.out.lower (by have := SZ.out; omega)) (Tt.out.lower (by have := SZ.out; omega)) (Tu.out.lower (by have := SZ.out; omega)) (Ta.out.lower (by have := SZ.out; omega)) (Tb.out.lower (by have := SZ.out; omega)) (Td.out.lower (by have := SZ.out; omega)))
        (rg_dist (lo := lo7 wb.heap.size wc.heap.size wd.heap.size we.heap.size w8.heap.size w9.heap.size wa.heap.size) (hi := lo7 wc.heap.size wd.heap.size we.heap.size wf.heap.size w9.heap.size wa.heap.size wb.heap.size) (fun j hj => by rcases lt7 hj with rfl | rfl | rfl | rfl | rfl | rfl | rfl; exact Ur.out; exact Us.out; exact Ut.out; exact Uu.out; exact Ua.out; exact Ub.out; exact Ud.out) (lo7_dist SZ.out.1 SZ.out.2.1 SZ.out.2.2.1 SZ.out.2.2.2.1 SZ.out.2.2.2.2.1 SZ.out.2.2.2.2.2.1 SZ.out.2.2.2.2.2.2))
        (sev_all (P := fun j v => v.ownBlock ≠ some GA) (fun h => by have h1 := (Ur.out _ h).2; have h2 := HGA.out; have h3 := SZ.out; omega) (fun h => by have h1 := (Us.out _ h).2; have h2 := HGA.out; have h3 := SZ.out; omega) (fun h => by have h1 := (Ut.out _ h).2; have h2 := HGA.out; have h3 := SZ.out; omega) (fun h => by have h1 := (Uu.out _ h).2; have h2 := HGA.out; have h3 := SZ.out; omega) (fun h => by have h1 := (Ua.out _ h).2; have h2 := HGA.out; have h3 := SZ.out; omega) (fun h => by have h1 := (Ub.out _ h).2; have h2 := HGA.out; have h3 := SZ.out; omega) (fun h => by have h1 := (Ud.out _ h).2; have h2 := HGA.out; have h3 := SZ.out; omega))
        (sev_all (P := fun j v => wj.cell? ⟨GA, j, none⟩ = some v) (BA3.out.cell 0) (BA3.out.cell 1) (BA3.out.cell 2) (BA3.out.cell 3) (BA3.out.cell 4) (BA3.out.cell 5) (BA3.out.cell 6))
        FZ3.out.size (fun j hj => by rcases lt7 hj with rfl | rfl | rfl | rfl | rfl | rfl | rfl <;> simp <;> omega)
      refine hap.mono ?_
      rintro e wk ⟨rfl, hfk⟩
      have hlow : ∀ j, Blks 7 (sev (.slice Ar k cr) (.slice As K2 cs) (.slice At k ct) (.slice Au K2 cu) (.slice Aa n ca) (.slice Ab n cb) (.slice Ad n cd)) j → w8.heap.size ≤ j := fun j ⟨i, hi, hb⟩ => by
        have := SZ.out
        rcases lt7 hi with rfl | rfl | rfl | rfl | rfl | rfl | rfl
        · have := Ur.out j hb; omega
        · have := Us.out j hb; omega
        · have := Ut.out j hb; omega
        · have := Uu.out j hb; omega
        · have := Ua.out j hb; omega
        · have := Ub.out j hb; omega
        · have := Ud.out j hb; omega
      have FZ4 := Lib.hid (FZ3.out.fr hfk (fun j hj hk => by have := hlow j hk; omega))
      have HB4 := Lib.hid (HB3.out.trans (hfk.below HB3.out.size (fun j hj => by have := hlow j hj; have := FZ3.out.below; have := OB.out; omega)))
      clear hap hfk hlow FZ3 HB3 BA3 Tr Ts Tt Tu Ta Tb Td Ur Us Ut Uu Ua Ub Ud
      go_wp2_with fail
      refine (still_any A G cg c n n xs rest wk HM.out HM.out FZ4.out.len (HY.out.below HB4.out)).mono ?_
      rintro e w' ⟨q5, rfl, rfl⟩
      have FZ5 : Hid (Fz (wk.drewN q5) w8.heap.size G cg rest p1 g1 [] p2 g2 [] p3 g3 p4 g4 n xs) := Lib.hid (FZ4.out.fr ((Fr.refl (fun _ => False) wk).drewN q5) (fun _ _ h => h))
      have HB5 := Lib.hid (belowN HB4.out q5)
      generalize wk.drewN q5 = wl at FZ5 HB5
      clear FZ4 HB4
      go_wp2_with fail
      refine (wdone_any p3 g3 n xs 0 wl FZ5.out.w1 (by omega) (by have := HM.out; omega)).mono ?_
      rintro e wm ⟨vx, rfl, Ox, bbx⟩
      rw [show dnL n xs 0 = xs from if_pos ⟨rfl, by have := HM.out; omega⟩] at Ox
      have FZ6 := Lib.hid (FZ5.out.fr (Fr.of_below bbx.out (fun _ => False)) (fun _ _ h => h))
      have HB6 := Lib.hid (HB5.out.trans (bbx.out.mono HB5.out.size))
      clear bbx FZ5 HB5
      go_wp2_with fail
      refine (wdone_any p4 g4 n xs 0 wm FZ6.out.w2 (by omega) (by have := HM.out; omega)).mono ?_
      rintro e wn ⟨vy, rfl, Oy, bby⟩
      rw [show dnL n xs 0 = xs from if_pos ⟨rfl, by have := HM.out; omega⟩] at Oy
      have FZ7 := Lib.hid (FZ6.out.fr (Fr.of_below bby.out (fun _ => False)) (fun _ _ h => h))
      have HB7 := Lib.hid (HB6.out.trans (bby.out.mono HB6.out.size))
      have Ox2 := Lib.hid (Ox.out.below bby.out)
      clear bby FZ6 HB6 Ox
      obtain ⟨Ax, cx, rfl, -, -, rx, -⟩ := Ox2.out.slice
      obtain ⟨Ay, cy, rfl, -, -, ry, -⟩ := Oy.out.slice
      have RX := Lib.hid rx
      have RY := Lib.hid ry
      have YN := Lib.hid (HY.out.below HB7.out)
      clear rx ry Ox2 Oy
      go_wp2_with fail
      refine (same_any Ax A _ n cx c xs xs wn rfl HM.out RX.out YN.out (by have := HM.out; omega) (by have := HM.out; omega)).mono ?_
      rintro e w' ⟨q6, rfl, rfl⟩
      rw [show decide (xs = xs) = true from by simp]
      go_wp2_with fail
      refine (same_any Ay A _ n cy c xs xs _ rfl HM.out (RY.out.draws _) (YN.out.draws _) (by have := HM.out; omega) (by have := HM.out; omega)).mono ?_
      rintro e w' ⟨q7, rfl, rfl⟩
      rw [show decide (xs = xs) = true from by simp]
      have R1z : Hid (Rdr ((wn.drewN q6).drewN q7) p1 g1 [] 0) := Lib.hid ((FZ7.out.r1.drewN q6).drewN q7)
      have R2z : Hid (Rdr ((wn.drewN q6).drewN q7) p2 g2 [] 0) := Lib.hid ((FZ7.out.r2.drewN q6).drewN q7)
      have HBz := Lib.hid (belowN (belowN HB7.out q6) q7)
      generalize (wn.drewN q6).drewN q7 = wz at R1z R2z HBz
      clear RX RY YN FZ7 HB7
      go_wp2_with fail
      refine (left_any p1 g1 [] 0 wz R1z.out).mono ?_
      rintro e' w' ⟨rfl, hww⟩
      obtain rfl : wz = w' := hww.symm
      go_wp2_with fail
      refine (rend_any p2 g2 [] 0 wz R2z.out).mono ?_
      rintro e' w' ⟨rfl, hww⟩
      obtain rfl : wz = w' := hww.symm
      rw [show enR [] 0 = 0 from by decide]
      go_wp2_with fail
      go_ret
      exact ⟨rfl, HBz.out⟩

set_option maxRecDepth 100000 in
set_option maxHeartbeats 8000000 in
theorem fresh_bp (A : Option Addr) (n c : Nat) (xs : List Int) (z : Int) (w : World) (hn : n = xs.length) (hx : Rd w .u8 A xs) (hB : B8 xs) (hl : xs.length ≤ 140737488351232) (hc : n ≤ c ∧ c ≤ maxLen) (hbig : ¬ n ≤ 80) (k : Nat) (hk : k ≤ 80) (hT : z.tmod 81 = (k : Int)) :
    Calls Try.prog 11 #[.slice A n c, .int .i64 z] w fun e w' => e = .returned (.bool true) ∧ Below w.heap.size w w' := by
  have HX := Lib.hid hx
  have HN := Lib.hid hn
  have HB := Lib.hid hB
  have HL := Lib.hid hl
  have hn63 : n ≤ 140737488351232 := by omega
  have hc1 : n ≤ c := hc.1
  have hc2 : c ≤ 9223372036854775807 := hc.2
  clear hx hn hB hl hc
  go_enter Try.func11, Try.ntmps11
  go_wp2_with fail
  refine (awake_any w).mono ?_
  rintro e w1 ⟨rfl, b1⟩
  have HB1 := Lib.hid b1
  clear b1
  have d1 : decide ((80 : Int) < (n : Int)) = true := decide_eq_true (by omega)
  have hc80 : 80 ≤ c := by omega
  have HM : Hid (80 = (xs.take 80).length) := Lib.hid (by rw [List.length_take]; have := HN.out; omega)
  have HY : Hid (Rd w .u8 A (xs.take 80)) := Lib.hid (HX.out.take 80)
  obtain ⟨b0, o0, hA0, _⟩ := HX.out 0 (by have := HN.out; omega)
  subst hA0
  generalize xs.take 80 = ys at HM HY
  have hM : 80 ≤ 80 := Nat.le_refl _
  have d2 : decide ((k : Int) < 0) = false := decide_eq_false (by omega)
  go_wp2_with fail
  refine (lent_any (some ⟨b0, o0, none⟩) 80 c ys w1 HM.out (HY.out.below HB1.out) (by have := HM.out; omega)).mono ?_
  rintro e w2 ⟨G, cg, rest, rfl, hG, LG, b2⟩
  have HLG := Lib.hid LG
  have HB2 := Lib.hid (HB1.out.trans (b2.mono HB1.out.size))
  have OG : Hid (w.heap.size ≤ G ∧ G < w2.heap.size) := Lib.hid ⟨Nat.le_trans HB1.out.size hG, LG.blk.lt⟩
  clear hG LG b2 HB1
  go_wp2_with fail
  refine (newReader_any _ 80 cg ys w2 HM.out HLG.out.rd (by have := HM.out; omega)).mono ?_
  rintro e w3 ⟨p1, g1, rfl, HP1, R1, bb3⟩
  have HLG3 := Lib.hid (HLG.out.below bb3.out)
  have HB3 := Lib.hid (HB2.out.trans (bb3.out.mono HB2.out.size))
  have O1 : Hid (w2.heap.size ≤ p1 ∧ w2.heap.size ≤ g1 ∧ p1 < w3.heap.size ∧ g1 < w3.heap.size) := Lib.hid ⟨HP1.out.1, HP1.out.2, R1.out.lt, R1.out.glt⟩
  clear bb3 HP1 HLG HB2
  go_wp2_with fail
  refine (newReader_any _ 80 cg ys w3 HM.out HLG3.out.rd (by have := HM.out; omega)).mono ?_
  rintro e w4 ⟨p2, g2, rfl, HP2, R2, bb4⟩
  have HLG4 := Lib.hid (HLG3.out.below bb4.out)
  have R14 := Lib.hid (R1.out.below bb4.out)
  have HB4 := Lib.hid (HB3.out.trans (bb4.out.mono HB3.out.size))
  have O2 : Hid (w3.heap.size ≤ p2 ∧ w3.heap.size ≤ g2 ∧ p2 < w4.heap.size ∧ g2 < w4.heap.size) := Lib.hid ⟨HP2.out.1, HP2.out.2, R2.out.lt, R2.out.glt⟩
  clear bb4 HP2 HLG3 HB3 R1
  go_wp2_with fail
  refine (nw_ok 80 w4 (by omega)).mono ?_
  rintro e w5 ⟨p3, rfl, HP3, T3, bb5⟩
  have HLG5 := Lib.hid (HLG4.out.below bb5.out)
  have R15 := Lib.hid (R14.out.below bb5.out)
  have R25 := Lib.hid (R2.out.below bb5.out)
  have HB5 := Lib.hid (HB4.out.trans (bb5.out.mono HB4.out.size))
  have O3 : Hid (w4.heap.size ≤ p3 ∧ p3 < w5.heap.size) := Lib.hid ⟨HP3.out, T3.out.lt.1⟩
  clear bb5 HP3 HLG4 HB4 R14 R2
  go_wp2_with fail
  refine (nw_ok 80 w5 (by omega)).mono ?_
  rintro e w6 ⟨p4, rfl, HP4, T4, bb6⟩
  have HLG6 := Lib.hid (HLG5.out.below bb6.out)
  have R16 := Lib.hid (R15.out.below bb6.out)
  have R26 := Lib.hid (R25.out.below bb6.out)
  have T36 := Lib.hid (T3.out.below bb6.out)
  have HB6 := Lib.hid (HB5.out.trans (bb6.out.mono HB5.out.size))
  have O4 : Hid (w5.heap.size ≤ p4 ∧ p4 < w6.heap.size) := Lib.hid ⟨HP4.out, T4.out.lt.1⟩
  clear bb6 HP4 HLG5 HB5 R15 R25 T3
  go_wp2_with fail
  refine (wbytes_any p3 p3 80 [] 0 _ 80 cg ys w6 T36.out HM.out HLG6.out.rd (by omega) (Nat.zero_le _) (by omega)).mono ?_
  rintro e w7 ⟨⟨u7, rfl⟩, HW7⟩
  rw [show wL 80 [] 0 ys = ys from by unfold wL; rw [if_pos ⟨rfl, by have := HM.out; simp; omega⟩]; rfl, show wE 80 [] 0 ys = 0 from by unfold wE; rw [if_pos rfl, if_pos (by have := HM.out; simp; omega)]] at HW7
  obtain ⟨g3, t3, hg3, hf7⟩ := HW7.out
  have O5 : Hid (g3 = p3 ∨ w6.heap.size ≤ g3) := Lib.hid hg3
  have O5b : Hid (g3 < w7.heap.size ∧ w6.heap.size ≤ w7.heap.size) := Lib.hid ⟨t3.lt.2, hf7.size⟩
  have T37 := Lib.hid t3
  have HLG7 := Lib.hid (HLG6.out.fr hf7 (by have := OG.out; have := O1.out; have := O2.out; have := O3.out; omega))
  have R17 := Lib.hid (R16.out.fr hf7 (by have := O1.out; have := O2.out; have := O3.out; omega) (by have := O1.out; have := O2.out; have := O3.out; omega))
  have R27 := Lib.hid (R26.out.fr hf7 (by have := O2.out; have := O3.out; omega) (by have := O2.out; have := O3.out; omega))
  have T47 := Lib.hid (T4.out.fr hf7 (by have := O4.out; have := O3.out; omega) (by have := O4.out; have := O3.out; omega))
  have HB7 := Lib.hid (HB6.out.trans (hf7.below HB6.out.size (fun j hj => by have := O3.out; have := O2.out; have := O1.out; have := OG.out; omega)))
  clear t3 hg3 hf7 HW7 HLG6 R16 R26 T36 T4 HB6
  go_wp2_with fail
  refine (wbytes_any p4 p4 80 [] 0 _ 80 cg ys w7 T47.out HM.out HLG7.out.rd (by omega) (Nat.zero_le _) (by omega)).mono ?_
  rintro e w8 ⟨⟨u8, rfl⟩, HW8⟩
  rw [show wL 80 [] 0 ys = ys from by unfold wL; rw [if_pos ⟨rfl, by have := HM.out; simp; omega⟩]; rfl, show wE 80 [] 0 ys = 0 from by unfold wE; rw [if_pos rfl, if_pos (by have := HM.out; simp; omega)]] at HW8
  obtain ⟨g4, t4, hg4, hf8⟩ := HW8.out
  have HB8 := Lib.hid (HB7.out.trans (hf8.below HB7.out.size (fun j hj => by have := O4.out; have := O3.out; have := O2.out; have := O1.out; have := OG.out; omega)))
  have FZ : Hid (Fz w8 w8.heap.size G cg rest p1 g1 ys p2 g2 ys p3 g3 p4 g4 80 ys) := Lib.hid (by
    have a0 := OG.out
    have a1 := O1.out
    have a2 := O2.out
    have a3 := O3.out
    have a4 := O4.out
    have a5 := O5.out
    have a6 := O5b.out
    have a7 := hf8.size
    have a8 := t4.lt
    exact ⟨HLG7.out.fr hf8 (by omega), R17.out.fr hf8 (by omega) (by omega), R27.out.fr hf8 (by omega) (by omega), T37.out.fr hf8 (by omega) (by omega), t4, by omega, by omega, by omega, Nat.le_refl _⟩)
  have OB : Hid (w.heap.size ≤ p1 ∧ w.heap.size ≤ p2) := Lib.hid (by have := O2.out; have := O1.out; have := OG.out; omega)
  clear t4 hg4 hf8 HW8 HLG7 R17 R27 T37 T47 HB7 OG O1 O2 O3 O4 O5 O5b
  go_wp2_with fail
  refine (wdone_any p3 g3 80 ys 0 w8 FZ.out.w1 (by omega) (by have := HM.out; omega)).mono ?_
  rintro e w9 ⟨va, rfl, Oa, bba⟩
  rw [show dnE 80 ys 0 = 0 from by unfold dnE; rw [if_pos rfl, if_neg (by have := HM.out; omega)]]
  rw [show dnL 80 ys 0 = ys from if_pos ⟨rfl, by have := HM.out; omega⟩] at Oa
  have Ga := Lib.hid (show Rg va w8.heap.size w9.heap.size from fun j hj => Oa.out.base_le hj)
  obtain ⟨Aa, ca, rfl, -, -, -, -⟩ := Oa.out.slice
  have FZa := Lib.hid (FZ.out.fr (Fr.of_below bba.out (fun _ => False)) (fun _ _ h => h))
  have HBa := Lib.hid (HB8.out.trans (bba.out.mono HB8.out.size))
  have Sa : Hid (w8.heap.size ≤ w9.heap.size) := Lib.hid bba.out.size
  clear bba FZ HB8
  rw [show ys.length = 80 from HM.out.symm]
  go_wp2_with fail
  refine (wdone_any p3 g3 80 ys 0 w9 FZa.out.w1 (by omega) (by have := HM.out; omega)).mono ?_
  rintro e wa ⟨vb, rfl, Ob, bbb⟩
  rw [show dnE 80 ys 0 = 0 from by unfold dnE; rw [if_pos rfl, if_neg (by have := HM.out; omega)]]
  rw [show dnL 80 ys 0 = ys from if_pos ⟨rfl, by have := HM.out; omega⟩] at Ob
  have Gb := Lib.hid (show Rg vb w9.heap.size wa.heap.size from fun j hj => Ob.out.base_le hj)
  obtain ⟨Ab, cb, rfl, -, -, -, -⟩ := Ob.out.slice
  have FZb := Lib.hid (FZa.out.fr (Fr.of_below bbb.out (fun _ => False)) (fun _ _ h => h))
  have HBb := Lib.hid (HBa.out.trans (bbb.out.mono HBa.out.size))
  have Oab := Lib.hid (Oa.out.below bbb.out)
  clear Oa
  have Sb : Hid (w9.heap.size ≤ wa.heap.size) := Lib.hid bbb.out.size
  clear bbb FZa HBa
  rw [show ys.length = 80 from HM.out.symm]
  go_wp2_with fail
  refine (wdone_any p4 g4 80 ys 0 wa FZb.out.w2 (by omega) (by have := HM.out; omega)).mono ?_
  rintro e wb ⟨vd, rfl, Od, bbd⟩
  rw [show dnE 80 ys 0 = 0 from by unfold dnE; rw [if_pos rfl, if_neg (by have := HM.out; omega)]]
  rw [show dnL 80 ys 0 = ys from if_pos ⟨rfl, by have := HM.out; omega⟩] at Od
  have Gd := Lib.hid (show Rg vd wa.heap.size wb.heap.size from fun j hj => Od.out.base_le hj)
  obtain ⟨Ad, cd, rfl, -, -, -, -⟩ := Od.out.slice
  have FZd := Lib.hid (FZb.out.fr (Fr.of_below bbd.out (fun _ => False)) (fun _ _ h => h))
  have HBd := Lib.hid (HBb.out.trans (bbd.out.mono HBb.out.size))
  have Oad := Lib.hid (Oab.out.below bbd.out)
  clear Oab
  have Obd := Lib.hid (Ob.out.below bbd.out)
  clear Ob
  have Sd : Hid (wa.heap.size ≤ wb.heap.size) := Lib.hid bbd.out.size
  clear bbd FZb HBb
  rw [show ys.length = 80 from HM.out.symm]
  go_wp2_with fail
  obtain ⟨K2, hK2⟩ : ∃ K2, K2 = 80 - k := ⟨_, rfl⟩
  have HK2 : Hid (K2 + k = 80) := Lib.hid (by omega)
  have hK64 : K2 ≤ 80 := by omega
  have hwr : IntKind.i64.wrap ((80 : Int) - (k : Int)) = (K2 : Int) := by simp [IntKind.wrap, IntKind.bits, IntKind.signed]; omega
  clear hK2
  have hs1 := fun W => run_cut_upto (P := Try.prog) W 22 5 Try.underlying22 size5' (some ⟨b0, o0, none⟩) 80 c k .i64 k rfl (by omega)
  have hs2 := fun W => run_cut_from (P := Try.prog) W 22 5 Try.underlying22 size5' (some ⟨b0, o0, none⟩) 80 c k .i64 k rfl hk
  have HT1 := Lib.hid (take_step ys k (by have := HM.out; omega))
  have HT2 : Hid (tkL (ys.drop k) K2 0 = ys.drop k ∧ rsL (ys.drop k) K2 0 = [] ∧ erR (ys.drop k) K2 0 = 0) := Lib.hid (by
    have h1 : K2 = (ys.drop k).length := by rw [List.length_drop]; have := HM.out; have := HK2.out; omega
    have h2 := take_step (ys.drop k) K2 (by omega)
    have h3 : (ys.drop k).take K2 = ys.drop k := List.take_of_length_le (by omega)
    have h4 : (ys.drop k).drop K2 = [] := List.drop_eq_nil_of_le (by omega)
    rw [h3, h4] at h2
    exact h2)
  refine (rbytes_any p1 g1 k ys 0 wb FZd.out.r1 (by omega) (by have := HM.out; omega)).mono ?_
  rintro e wc ⟨vr, rfl, Or, Rr, Fr⟩
  rw [HT1.out.1] at Or
  rw [HT1.out.2.1, HT1.out.2.2] at Rr
  have FZr := Lib.hid (FZd.out.step1 Fr.out Rr.out)
  have HBr := Lib.hid (HBd.out.trans (Fr.out.below HBd.out.size (fun j hj => by subst hj; exact OB.out.1)))
  have Gr := Lib.hid (show Rg vr wb.heap.size wc.heap.size from fun j hj => Or.out.base_le hj)
  have Sr : Hid (wb.heap.size ≤ wc.heap.size) := Lib.hid Fr.out.size
  obtain ⟨Ar, cr, rfl, -, -, -, -⟩ := Or.out.slice
  have Nar := Lib.hid (Oad.out.fr Fr.out (fun j hj hk => by have h1 := (Ga.out j hj).1; have h2 := FZd.out.below; have h3 := Sa.out; have h4 := Sb.out; have h5 := Sd.out; omega))
  clear Oad
  have Nbr := Lib.hid (Obd.out.fr Fr.out (fun j hj hk => by have h1 := (Gb.out j hj).1; have h2 := FZd.out.below; have h3 := Sa.out; have h4 := Sb.out; have h5 := Sd.out; omega))
  clear Obd
  have Ndr := Lib.hid (Od.out.fr Fr.out (fun j hj hk => by have h1 := (Gd.out j hj).1; have h2 := FZd.out.below; have h3 := Sa.out; have h4 := Sb.out; have h5 := Sd.out; omega))
  clear Od
  clear Rr Fr FZd HBd
  rw [show (ys.take k).length = k from by rw [List.length_take]; have := HM.out; omega]
  go_wp2_with fail
  refine (rbytes_any p1 g1 K2 (ys.drop k) 0 wc FZr.out.r1 (by omega) (by rw [List.length_drop]; have := HM.out; omega)).mono ?_
  rintro e wd ⟨vs, rfl, Os, Rs, Fs⟩
  rw [HT2.out.1] at Os
  rw [HT2.out.2.1, HT2.out.2.2] at Rs
  have FZs := Lib.hid (FZr.out.step1 Fs.out Rs.out)
  have HBs := Lib.hid (HBr.out.trans (Fs.out.below HBr.out.size (fun j hj => by subst hj; exact OB.out.1)))
  have Gs := Lib.hid (show Rg vs wc.heap.size wd.heap.size from fun j hj => Os.out.base_le hj)
  have Ss : Hid (wc.heap.size ≤ wd.heap.size) := Lib.hid Fs.out.size
  obtain ⟨As, cs, rfl, -, -, -, -⟩ := Os.out.slice
  have Nas := Lib.hid (Nar.out.fr Fs.out (fun j hj hk => by have h1 := (Ga.out j hj).1; have h2 := FZr.out.below; have h3 := Sa.out; have h4 := Sb.out; have h5 := Sd.out; have h6 := Sr.out; omega))
  clear Nar
  have Nbs := Lib.hid (Nbr.out.fr Fs.out (fun j hj hk => by have h1 := (Gb.out j hj).1; have h2 := FZr.out.below; have h3 := Sa.out; have h4 := Sb.out; have h5 := Sd.out; have h6 := Sr.out; omega))
  clear Nbr
  have Nds := Lib.hid (Ndr.out.fr Fs.out (fun j hj hk => by have h1 := (Gd.out j hj).1; have h2 := FZr.out.below; have h3 := Sa.out; have h4 := Sb.out; have h5 := Sd.out; have h6 := Sr.out; omega))
  clear Ndr
  have Nrs := Lib.hid (Or.out.fr Fs.out (fun j hj hk => by have h1 := (Gr.out j hj).1; have h2 := FZr.out.below; have h3 := Sa.out; have h4 := Sb.out; have h5 := Sd.out; have h6 := Sr.out; omega))
  clear Or
  clear Rs Fs FZr HBr
  rw [show (ys.drop k).length = K2 from by rw [List.length_drop]; have := HM.out; have := HK2.out; omega]
  go_wp2_with fail
  refine (rbytes_any p2 g2 k ys 0 wd FZs.out.r2 (by omega) (by have := HM.out; omega)).mono ?_
  rintro e we ⟨vt, rfl, Ot, Rt, Ft⟩
  rw [HT1.out.1] at Ot
  rw [HT1.out.2.1, HT1.out.2.2] at Rt
  have FZt := Lib.hid (FZs.out.step2 Ft.out Rt.out)
  have HBt := Lib.hid (HBs.out.trans (Ft.out.below HBs.out.size (fun j hj => by subst hj; exact OB.out.2)))
  have Gt := Lib.hid (show Rg vt wd.heap.size we.heap.size from fun j hj => Ot.out.base_le hj)
  have St : Hid (wd.heap.size ≤ we.heap.size) := Lib.hid Ft.out.size
  obtain ⟨At, ct, rfl, -, -, -, -⟩ := Ot.out.slice
  have Nat := Lib.hid (Nas.out.fr Ft.out (fun j hj hk => by have h1 := (Ga.out j hj).1; have h2 := FZs.out.below; have h3 := Sa.out; have h4 := Sb.out; have h5 := Sd.out; have h6 := Sr.out; have h7 := Ss.out; omega))
  clear Nas
  have Nbt := Lib.hid (Nbs.out.fr Ft.out (fun j hj hk => by have h1 := (Gb.out j hj).1; have h2 := FZs.out.below; have h3 := Sa.out; have h4 := Sb.out; have h5 := Sd.out; have h6 := Sr.out; have h7 := Ss.out; omega))
  clear Nbs
  have Ndt := Lib.hid (Nds.out.fr Ft.out (fun j hj hk => by have h1 := (Gd.out j hj).1; have h2 := FZs.out.below; have h3 := Sa.out; have h4 := Sb.out; have h5 := Sd.out; have h6 := Sr.out; have h7 := Ss.out; omega))
  clear Nds
  have Nrt := Lib.hid (Nrs.out.fr Ft.out (fun j hj hk => by have h1 := (Gr.out j hj).1; have h2 := FZs.out.below; have h3 := Sa.out; have h4 := Sb.out; have h5 := Sd.out; have h6 := Sr.out; have h7 := Ss.out; omega))
  clear Nrs
  have Nst := Lib.hid (Os.out.fr Ft.out (fun j hj hk => by have h1 := (Gs.out j hj).1; have h2 := FZs.out.below; have h3 := Sa.out; have h4 := Sb.out; have h5 := Sd.out; have h6 := Sr.out; have h7 := Ss.out; omega))
  clear Os
  clear Rt Ft FZs HBs
  rw [show (ys.take k).length = k from by rw [List.length_take]; have := HM.out; omega]
  go_wp2_with fail
  refine (rbytes_any p2 g2 K2 (ys.drop k) 0 we FZt.out.r2 (by omega) (by rw [List.length_drop]; have := HM.out; omega)).mono ?_
  rintro e wf ⟨vu, rfl, Ou, Ru, Fu⟩
  rw [HT2.out.1] at Ou
  rw [HT2.out.2.1, HT2.out.2.2] at Ru
  have FZu := Lib.hid (FZt.out.step2 Fu.out Ru.out)
  have HBu := Lib.hid (HBt.out.trans (Fu.out.below HBt.out.size (fun j hj => by subst hj; exact OB.out.2)))
  have Gu := Lib.hid (show Rg vu we.heap.size wf.heap.size from fun j hj => Ou.out.base_le hj)
  have Su : Hid (we.heap.size ≤ wf.heap.size) := Lib.hid Fu.out.size
  obtain ⟨Au, cu, rfl, -, -, -, -⟩ := Ou.out.slice
  have Nau := Lib.hid (Nat.out.fr Fu.out (fun j hj hk => by have h1 := (Ga.out j hj).1; have h2 := FZt.out.below; have h3 := Sa.out; have h4 := Sb.out; have h5 := Sd.out; have h6 := Sr.out; have h7 := Ss.out; have h8 := St.out; omega))
  clear Nat
  have Nbu := Lib.hid (Nbt.out.fr Fu.out (fun j hj hk => by have h1 := (Gb.out j hj).1; have h2 := FZt.out.below; have h3 := Sa.out; have h4 := Sb.out; have h5 := Sd.out; have h6 := Sr.out; have h7 := Ss.out; have h8 := St.out; omega))
  clear Nbt
  have Ndu := Lib.hid (Ndt.out.fr Fu.out (fun j hj hk => by have h1 := (Gd.out j hj).1; have h2 := FZt.out.below; have h3 := Sa.out; have h4 := Sb.out; have h5 := Sd.out; have h6 := Sr.out; have h7 := Ss.out; have h8 := St.out; omega))
  clear Ndt
  have Nru := Lib.hid (Nrt.out.fr Fu.out (fun j hj hk => by have h1 := (Gr.out j hj).1; have h2 := FZt.out.below; have h3 := Sa.out; have h4 := Sb.out; have h5 := Sd.out; have h6 := Sr.out; have h7 := Ss.out; have h8 := St.out; omega))
  clear Nrt
  have Nsu := Lib.hid (Nst.out.fr Fu.out (fun j hj hk => by have h1 := (Gs.out j hj).1; have h2 := FZt.out.below; have h3 := Sa.out; have h4 := Sb.out; have h5 := Sd.out; have h6 := Sr.out; have h7 := Ss.out; have h8 := St.out; omega))
  clear Nst
  have Ntu := Lib.hid (Ot.out.fr Fu.out (fun j hj hk => by have h1 := (Gt.out j hj).1; have h2 := FZt.out.below; have h3 := Sa.out; have h4 := Sb.out; have h5 := Sd.out; have h6 := Sr.out; have h7 := Ss.out; have h8 := St.out; omega))
  clear Ot
  clear Ru Fu FZt HBt
  rw [show (ys.drop k).length = K2 from by rw [List.length_drop]; have := HM.out; have := HK2.out; omega]
  go_wp2_with fail
  have BA : Hid (Blk (wf.alloc (.cells #[.slice Ar k cr, .slice As K2 cs, .slice At k ct, .slice Au K2 cu, .slice Aa 80 ca, .slice Ab 80 cb, .slice Ad 80 cd] 22)) wf.heap.size 22 [.slice Ar k cr, .slice As K2 cs, .slice At k ct, .slice Au K2 cu, .slice Aa 80 ca, .slice Ab 80 cb, .slice Ad 80 cd]) := Lib.hid (Blk.new wf 22 _)
  have bel := (Below.refl wf.heap.size wf).alloc (Nat.le_refl _) (.cells #[.slice Ar k cr, .slice As K2 cs, .slice At k ct, .slice Au K2 cu, .slice Aa 80 ca, .slice Ab 80 cb, .slice Ad 80 cd] 22)
  have FZg := Lib.hid (FZu.out.fr (Fr.of_below bel (fun _ => False)) (fun _ _ h => h))
  have HBg := Lib.hid (HBu.out.trans (bel.mono HBu.out.size))
  have Pr := Lib.hid (Nru.out.below bel)
  have Ps := Lib.hid (Nsu.out.below bel)
  have Pt := Lib.hid (Ntu.out.below bel)
  have Pu := Lib.hid (Ou.out.below bel)
  have Pa := Lib.hid (Nau.out.below bel)
  have Pb := Lib.hid (Nbu.out.below bel)
  have Pd := Lib.hid (Ndu.out.below bel)
  clear bel FZu HBu Nru Nsu Ntu Ou Nau Nbu Ndu
  obtain ⟨GA, hGA⟩ : ∃ GA, GA = wf.heap.size := ⟨_, rfl⟩
  rw [← hGA] at BA ⊢
  have HGA : Hid (GA = wf.heap.size) := Lib.hid hGA
  clear hGA
  generalize wf.alloc (.cells #[.slice Ar k cr, .slice As K2 cs, .slice At k ct, .slice Au K2 cu, .slice Aa 80 ca, .slice Ab 80 cb, .slice Ad 80 cd] 22) = wg at BA FZg HBg Pr Ps Pt Pu Pa Pb Pd
  refine wp_region_held_drew (S := fun _ => True) (by kernel_rfl) (trivial) (fun hHeld => ?_)
  have BA1 : Hid (Blk wg.drew GA 22 [.slice Ar k cr, .slice As K2 cs, .slice At k ct, .slice Au K2 cu, .slice Aa 80 ca, .slice Ab 80 cb, .slice Ad 80 cd]) := Lib.hid (BA.out.drewN 1)
  have FZ1 : Hid (Fz wg.drew w8.heap.size G cg rest p1 g1 [] p2 g2 [] p3 g3 p4 g4 80 ys) := Lib.hid (FZg.out.fr ((Fr.refl (fun _ => False) wg).drewN 1) (fun _ _ h => h))
  have HB1 : Hid (Below w.heap.size w wg.drew) := Lib.hid (belowN HBg.out 1)
  have Qr := Lib.hid (show Own wg.drew _ 5 .u8 _ (ys.take k) from Pr.out)
  have Qs := Lib.hid (show Own wg.drew _ 5 .u8 _ (ys.drop k) from Ps.out)
  have Qt := Lib.hid (show Own wg.drew _ 5 .u8 _ (ys.take k) from Pt.out)
  have Qu := Lib.hid (show Own wg.drew _ 5 .u8 _ (ys.drop k) from Pu.out)
  have Qa := Lib.hid (show Own wg.drew _ 5 .u8 _ ys from Pa.out)
  have Qb := Lib.hid (show Own wg.drew _ 5 .u8 _ ys from Pb.out)
  have Qd := Lib.hid (show Own wg.drew _ 5 .u8 _ ys from Pd.out)
  clear BA FZg HBg Pr Ps Pt Pu Pa Pb Pd
  generalize wg.drew = wh at BA1 FZ1 HB1 hHeld Qr Qs Qt Qu Qa Qb Qd
  refine wpAnyH_take (i := 0) (oi := ⟨some 127, _, _, _, _, _⟩) (v := (.slice (some ⟨b0, o0, none⟩) 80 c)) rfl (by kernel_rfl) (by kernel_rfl) (by kernel_rfl) (fun _ _ _ h => h) (Or.inl ⟨by rfl, ?_⟩) (by assumption) ?_
  · intro w' hS; rfl
  simp only [Act.put, List.setIfInBounds_toArray, List.set_cons_zero, List.set_cons_succ]
  refine wpAnyH_take (i := 1) (oi := ⟨some 128, _, _, _, _, _⟩) (v := (.int .i64 (k : Int))) rfl (by kernel_rfl) (by kernel_rfl) (by kernel_rfl) (fun _ _ _ h => h) (Or.inl ⟨by rfl, ?_⟩) (by assumption) ?_
  · intro w' hS; rfl
  simp only [Act.put, List.setIfInBounds_toArray, List.set_cons_zero, List.set_cons_succ]
  refine wpAnyH_take (i := 2) (oi := ⟨some 129, _, _, _, _, _⟩) (v := (.slice (some ⟨b0, o0, none⟩) k c)) rfl (by kernel_rfl) (by kernel_rfl) (by kernel_rfl) (fun _ _ _ h => h) (Or.inl ⟨by rfl, ?_⟩) (by assumption) ?_
  · intro w' hS; go_simp; try with_reducible rfl
  simp only [Act.put, List.setIfInBounds_toArray, List.set_cons_zero, List.set_cons_succ]
  refine wpAnyH_take (i := 3) (oi := ⟨some 130, _, _, _, _, _⟩) (v := (.slice (some ⟨b0, o0, none⟩) 80 c)) rfl (by kernel_rfl) (by kernel_rfl) (by kernel_rfl) (fun _ _ _ h => h) (Or.inl ⟨by rfl, ?_⟩) (by assumption) ?_
  · intro w' hS; rfl
  simp only [Act.put, List.setIfInBounds_toArray, List.set_cons_zero, List.set_cons_succ]
  refine wpAnyH_take (i := 4) (oi := ⟨some 131, _, _, _, _, _⟩) (v := (.int .i64 (k : Int))) rfl (by kernel_rfl) (by kernel_rfl) (by kernel_rfl) (fun _ _ _ h => h) (Or.inl ⟨by rfl, ?_⟩) (by assumption) ?_
  · intro w' hS; rfl
  simp only [Act.put, List.setIfInBounds_toArray, List.set_cons_zero, List.set_cons_succ]
  refine wpAnyH_take (i := 5) (oi := ⟨some 132, _, _, _, _, _⟩) (v := (.slice (cutA (some ⟨b0, o0, none⟩) k c) (80 - k) (c - k))) rfl (by kernel_rfl) (by kernel_rfl) (by kernel_rfl) (fun _ _ _ h => h) (Or.inl ⟨by rfl, ?_⟩) (by assumption) ?_
  · intro w' hS; go_simp; try with_reducible rfl
  simp only [Act.put, List.setIfInBounds_toArray, List.set_cons_zero, List.set_cons_succ]
  refine wpAnyH_take (i := 6) (oi := ⟨some 133, _, _, _, _, _⟩) (v := (.slice (some ⟨b0, o0, none⟩) 80 c)) rfl (by kernel_rfl) (by kernel_rfl) (by kernel_rfl) (fun _ _ _ h => h) (Or.inl ⟨by rfl, ?_⟩) (by assumption) ?_
  · intro w' hS; rfl
  simp only [Act.put, List.setIfInBounds_toArray, List.set_cons_zero, List.set_cons_succ]
  refine wpAnyH_take (i := 7) (oi := ⟨some 134, _, _, _, _, _⟩) (v := (.int .i64 (k : Int))) rfl (by kernel_rfl) (by kernel_rfl) (by kernel_rfl) (fun _ _ _ h => h) (Or.inl ⟨by rfl, ?_⟩) (by assumption) ?_
  · intro w' hS; rfl
  simp only [Act.put, List.setIfInBounds_toArray, List.set_cons_zero, List.set_cons_succ]
  refine wpAnyH_take (i := 8) (oi := ⟨some 135, _, _, _, _, _⟩) (v := (.slice (some ⟨b0, o0, none⟩) k c)) rfl (by kernel_rfl) (by kernel_rfl) (by kernel_rfl) (fun _ _ _ h => h) (Or.inl ⟨by rfl, ?_⟩) (by assumption) ?_
  · intro w' hS; go_simp; try with_reducible rfl
  simp only [Act.put, List.setIfInBounds_toArray, List.set_cons_zero, List.set_cons_succ]
  refine wpAnyH_take (i := 9) (oi := ⟨some 136, _, _, _, _, _⟩) (v := (.slice (some ⟨b0, o0, none⟩) 80 c)) rfl (by kernel_rfl) (by kernel_rfl) (by kernel_rfl) (fun _ _ _ h => h) (Or.inl ⟨by rfl, ?_⟩) (by assumption) ?_
  · intro w' hS; rfl
  simp only [Act.put, List.setIfInBounds_toArray, List.set_cons_zero, List.set_cons_succ]
  refine wpAnyH_take (i := 10) (oi := ⟨some 137, _, _, _, _, _⟩) (v := (.int .i64 (k : Int))) rfl (by kernel_rfl) (by kernel_rfl) (by kernel_rfl) (fun _ _ _ h => h) (Or.inl ⟨by rfl, ?_⟩) (by assumption) ?_
  · intro w' hS; rfl
  simp only [Act.put, List.setIfInBounds_toArray, List.set_cons_zero, List.set_cons_succ]
  refine wpAnyH_take (i := 11) (oi := ⟨some 138, _, _, _, _, _⟩) (v := (.slice (cutA (some ⟨b0, o0, none⟩) k c) (80 - k) (c - k))) rfl (by kernel_rfl) (by kernel_rfl) (by kernel_rfl) (fun _ _ _ h => h) (Or.inl ⟨by rfl, ?_⟩) (by assumption) ?_
  · intro w' hS; go_simp; try with_reducible rfl
  simp only [Act.put, List.setIfInBounds_toArray, List.set_cons_zero, List.set_cons_succ]
  refine wpAnyH_take (i := 12) (oi := ⟨some 139, _, _, _, _, _⟩) (v := (.slice (some ⟨b0, o0, none⟩) 80 c)) rfl (by kernel_rfl) (by kernel_rfl) (by kernel_rfl) (fun _ _ _ h => h) (Or.inl ⟨by rfl, ?_⟩) (by assumption) ?_
  · intro w' hS; rfl
  simp only [Act.put, List.setIfInBounds_toArray, List.set_cons_zero, List.set_cons_succ]
  refine wpAnyH_take (i := 13) (oi := ⟨some 140, _, _, _, _, _⟩) (v := (.slice (some ⟨b0, o0, none⟩) 80 c)) rfl (by kernel_rfl) (by kernel_rfl) (by kernel_rfl) (fun _ _ _ h => h) (Or.inl ⟨by rfl, ?_⟩) (by assumption) ?_
  · intro w' hS; rfl
  simp only [Act.put, List.setIfInBounds_toArray, List.set_cons_zero, List.set_cons_succ]
  refine wpAnyH_take (i := 14) (oi := ⟨some 141, _, _, _, _, _⟩) (v := (.slice (some ⟨b0, o0, none⟩) 80 c)) rfl (by kernel_rfl) (by kernel_rfl) (by kernel_rfl) (fun _ _ _ h => h) (Or.inl ⟨by rfl, ?_⟩) (by assumption) ?_
  · intro w' hS; rfl
  simp only [Act.put, List.setIfInBounds_toArray, List.set_cons_zero, List.set_cons_succ]
  refine wpAnyH_ready (rs := [15]) (by kernel_rfl) (by simp) ?_
  refine AllReadyH.cons (o := ⟨some 142, _, _, _, _, _⟩) rfl (fun K hK => ?_) AllReadyH.nil
  rw [if_pos (by rfl)]
  go_simp
  have BW : Hid (Blk (wh.alloc (.cells #[.slice (some ⟨b0, o0, none⟩) k c, .slice (cutA (some ⟨b0, o0, none⟩) k c) (80 - k) (c - k), .slice (some ⟨b0, o0, none⟩) k c, .slice (cutA (some ⟨b0, o0, none⟩) k c) (80 - k) (c - k), .slice (some ⟨b0, o0, none⟩) 80 c, .slice (some ⟨b0, o0, none⟩) 80 c, .slice (some ⟨b0, o0, none⟩) 80 c] 22)) wh.heap.size 22 [.slice (some ⟨b0, o0, none⟩) k c, .slice (cutA (some ⟨b0, o0, none⟩) k c) (80 - k) (c - k), .slice (some ⟨b0, o0, none⟩) k c, .slice (cutA (some ⟨b0, o0, none⟩) k c) (80 - k) (c - k), .slice (some ⟨b0, o0, none⟩) 80 c, .slice (some ⟨b0, o0, none⟩) 80 c, .slice (some ⟨b0, o0, none⟩) 80 c]) := Lib.hid (Blk.new wh 22 _)
  have bel := (Below.refl wh.heap.size wh).alloc (Nat.le_refl _) (.cells #[.slice (some ⟨b0, o0, none⟩) k c, .slice (cutA (some ⟨b0, o0, none⟩) k c) (80 - k) (c - k), .slice (some ⟨b0, o0, none⟩) k c, .slice (cutA (some ⟨b0, o0, none⟩) k c) (80 - k) (c - k), .slice (some ⟨b0, o0, none⟩) 80 c, .slice (some ⟨b0, o0, none⟩) 80 c, .slice (some ⟨b0, o0, none⟩) 80 c] 22)
  have FZ2 := Lib.hid (FZ1.out.fr (Fr.of_below bel (fun _ => False)) (fun _ _ h => h))
  have HB2 := Lib.hid (HB1.out.trans (bel.mono HB1.out.size))
  have BA2 := Lib.hid (BA1.out.below bel BA1.out.lt)
  have HGAW : Hid (GA ≠ wh.heap.size) := Lib.hid (by have := BA1.out.lt; omega)
  have Pr := Lib.hid (Qr.out.below bel)
  have Ps := Lib.hid (Qs.out.below bel)
  have Pt := Lib.hid (Qt.out.below bel)
  have Pu := Lib.hid (Qu.out.below bel)
  have Pa := Lib.hid (Qa.out.below bel)
  have Pb := Lib.hid (Qb.out.below bel)
  have Pd := Lib.hid (Qd.out.below bel)
  clear bel BA1 FZ1 HB1 Qr Qs Qt Qu Qa Qb Qd
  obtain ⟨GB, hGB⟩ : ∃ GB, GB = wh.heap.size := ⟨_, rfl⟩
  rw [← hGB] at BW HGAW ⊢
  have HGB : Hid (GB = wh.heap.size) := Lib.hid hGB
  clear hGB
  generalize wh.alloc (.cells #[.slice (some ⟨b0, o0, none⟩) k c, .slice (cutA (some ⟨b0, o0, none⟩) k c) (80 - k) (c - k), .slice (some ⟨b0, o0, none⟩) k c, .slice (cutA (some ⟨b0, o0, none⟩) k c) (80 - k) (c - k), .slice (some ⟨b0, o0, none⟩) 80 c, .slice (some ⟨b0, o0, none⟩) 80 c, .slice (some ⟨b0, o0, none⟩) 80 c] 22) = wi at BW BA2 FZ2 HB2 Pr Ps Pt Pu Pa Pb Pd ⊢
  (try dsimp only)
  (try simp only [Act.put, List.setIfInBounds_toArray, List.set_cons_zero, List.set_cons_succ])
  refine hK.out _ _ trivial (fun hHeld => ?_)
  clear hK K
  refine wpAnyH_take (i := 16) (oi := ⟨some 19, _, _, _, _, _⟩) (v := (.slice (some ⟨GB, 0, none⟩) 7 7)) rfl (by kernel_rfl) (by kernel_rfl) (by kernel_rfl) (fun _ _ _ h => h) (Or.inl ⟨by rfl, ?_⟩) (by assumption) ?_
  · intro w' hS; rfl
  simp only [Act.put, List.setIfInBounds_toArray, List.set_cons_zero, List.set_cons_succ]
  refine wpAnyH_done (by kernel_rfl) ?_ _
  go_wp2_with fail
  have YW := Lib.hid (HY.out.below HB2.out)
  have YT := Lib.hid (YW.out.take k)
  have YD : Hid (Rd wi .u8 (cutA (some ⟨b0, o0, none⟩) k c) (ys.drop k)) := Lib.hid (YW.out.cutA k c (by have := HM.out; omega))
  have LT : Hid ((ys.take k).length = k) := Lib.hid (by rw [List.length_take]; have := HM.out; omega)
  have LD : Hid ((ys.drop k).length = 80 - k) := Lib.hid (by rw [List.length_drop]; have := HM.out; omega)
  have SEV : Hid (∀ i, i < 7 → ∃ A1 l1 c1 A2 l2 c2 zs, wi.cell? ⟨GA, i, none⟩ = some (.slice A1 l1 c1) ∧ wi.cell? ⟨GB, i, none⟩ = some (.slice A2 l2 c2) ∧ l1 = (zs : List Int).length ∧ l2 = zs.length ∧ Rd wi .u8 A1 zs ∧ Rd wi .u8 A2 zs ∧ zs.length ≤ 80) := Lib.hid (fun i hi => by
    rcases lt7 hi with rfl | rfl | rfl | rfl | rfl | rfl | rfl
    · exact ⟨_, _, _, _, _, _, (ys.take k), BA2.out.cell 0, BW.out.cell 0, LT.out.symm, LT.out.symm, own_rd Pr.out, YT.out, (by rw [LT.out]; omega)⟩
    · exact ⟨_, _, _, _, _, _, (ys.drop k), BA2.out.cell 1, BW.out.cell 1, (by rw [LD.out]; have := HK2.out; omega), LD.out.symm, own_rd Ps.out, YD.out, (by rw [LD.out]; omega)⟩
    · exact ⟨_, _, _, _, _, _, (ys.take k), BA2.out.cell 2, BW.out.cell 2, LT.out.symm, LT.out.symm, own_rd Pt.out, YT.out, (by rw [LT.out]; omega)⟩
    · exact ⟨_, _, _, _, _, _, (ys.drop k), BA2.out.cell 3, BW.out.cell 3, (by rw [LD.out]; have := HK2.out; omega), LD.out.symm, own_rd Pu.out, YD.out, (by rw [LD.out]; omega)⟩
    · exact ⟨_, _, _, _, _, _, ys, BA2.out.cell 4, BW.out.cell 4, HM.out, HM.out, own_rd Pa.out, YW.out, (by rw [← HM.out]; omega)⟩
    · exact ⟨_, _, _, _, _, _, ys, BA2.out.cell 5, BW.out.cell 5, HM.out, HM.out, own_rd Pb.out, YW.out, (by rw [← HM.out]; omega)⟩
    · exact ⟨_, _, _, _, _, _, ys, BA2.out.cell 6, BW.out.cell 6, HM.out, HM.out, own_rd Pd.out, YW.out, (by rw [← HM.out]; omega)⟩)
  go_loopw [20] (fun zz wx => ∃ i q : Nat, i ≤ 7 ∧ zz = .int .i64 i ∧ wx = wi.drewN q) (fun zz _ => 7 - (intOf zz).toNat)
  case atStart => exact ⟨0, 0, Nat.zero_le _, rfl, rfl⟩
  case round =>
    obtain ⟨i, q, hi7, rfl, rfl⟩ := hrel
    by_cases hlt : i < 7
    · have d7 : decide ((i : Int) < 7) = true := decide_eq_true (by omega)
      obtain ⟨A1, l1, c1, A2, l2, c2, zs, e1, e2, g1, g2, x1, x2, xl⟩ := SEV.out i hlt
      have X1 := Lib.hid x1
      have X2 := Lib.hid x2
      have XL := Lib.hid (show l1 = zs.length ∧ l2 = zs.length ∧ zs.length ≤ 80 from ⟨g1, g2, xl⟩)
      clear x1 x2 g1 g2 xl
      go_wp2_with fail
      have N1 := Lib.hid XL.out.1
      have N2 := Lib.hid XL.out.2.1
      have HCL : Hid (zs.length ≤ 9223372036854775807) := Lib.hid (by have := XL.out.2.2; omega)
      go_quiet (first | (go_at_call 20; exact same_qt _ _ N1 N2 X1 X2 HCL.out))
      go_wp2_with fail
      go_roundw
      case rel => exact ⟨i + 1, _, by omega, by go_num, rfl⟩
      case measure => simp [intOf]; omega
    · obtain rfl : i = 7 := by omega
      go_wp2_with fail
      have BA3 := Lib.hid (BA2.out.drewN q)
      have FZ3 : Hid (Fz (wi.drewN q) w8.heap.size G cg rest p1 g1 [] p2 g2 [] p3 g3 p4 g4 80 ys) := Lib.hid (FZ2.out.fr ((Fr.refl (fun _ => False) wi).drewN q) (fun _ _ h => h))
      have HB3 := Lib.hid (belowN HB2.out q)
      have Tr := Lib.hid (show Own (wi.drewN q) _ 5 .u8 (.slice Ar k cr) (ys.take k) from own_len (Pr.out.drewN q) LT.out.symm)
      have Ts := Lib.hid (show Own (wi.drewN q) _ 5 .u8 (.slice As K2 cs) (ys.drop k) from own_len (Ps.out.drewN q) (by rw [LD.out]; have := HK2.out; omega))
      have Tt := Lib.hid (show Own (wi.drewN q) _ 5 .u8 (.slice At k ct) (ys.take k) from own_len (Pt.out.drewN q) LT.out.symm)
      have Tu := Lib.hid (show Own (wi.drewN q) _ 5 .u8 (.slice Au K2 cu) (ys.drop k) from own_len (Pu.out.drewN q) (by rw [LD.out]; have := HK2.out; omega))
      have Ta := Lib.hid (show Own (wi.drewN q) _ 5 .u8 (.slice Aa 80 ca) ys from own_len (Pa.out.drewN q) HM.out)
      have Tb := Lib.hid (show Own (wi.drewN q) _ 5 .u8 (.slice Ab 80 cb) ys from own_len (Pb.out.drewN q) HM.out)
      have Td := Lib.hid (show Own (wi.drewN q) _ 5 .u8 (.slice Ad 80 cd) ys from own_len (Pd.out.drewN q) HM.out)
      have Ur := Lib.hid (show Rg (.slice Ar k cr) wb.heap.size wc.heap.size from rg_len Gr.out LT.out.symm)
      have Us := Lib.hid (show Rg (.slice As K2 cs) wc.heap.size wd.heap.size from rg_len Gs.out (by rw [LD.out]; have := HK2.out; omega))
      have Ut := Lib.hid (show Rg (.slice At k ct) wd.heap.size we.heap.size from rg_len Gt.out LT.out.symm)
      have Uu := Lib.hid (show Rg (.slice Au K2 cu) we.heap.size wf.heap.size from rg_len Gu.out (by rw [LD.out]; have := HK2.out; omega))
      have Ua := Lib.hid (show Rg (.slice Aa 80 ca) w8.heap.size w9.heap.size from rg_len Ga.out HM.out)
      have Ub := Lib.hid (show Rg (.slice Ab 80 cb) w9.heap.size wa.heap.size from rg_len Gb.out HM.out)
      have Ud := Lib.hid (show Rg (.slice Ad 80 cd) wa.heap.size wb.heap.size from rg_len Gd.out HM.out)
      clear BW BA2 FZ2 HB2 SEV YW YT YD Pr Ps Pt Pu Pa Pb Pd Gr Gs Gt Gu Ga Gb Gd
      generalize wi.drewN q = wj at BA3 FZ3 HB3 Tr Ts Tt Tu Ta Tb Td ⊢
      have SZ : Hid (w8.heap.size ≤ w9.heap.size ∧ w9.heap.size ≤ wa.heap.size ∧ wa.heap.size ≤ wb.heap.size ∧ wb.heap.size ≤ wc.heap.size ∧ wc.heap.size ≤ wd.heap.size ∧ wd.heap.size ≤ we.heap.size ∧ we.heap.size ≤ wf.heap.size) := Lib.hid ⟨Sa.out, Sb.out, Sd.out, Sr.out, Ss.out, St.out, Su.out⟩
      have hap := apart_any w8.heap.size GA 7 7 (sev (.slice Ar k cr) (.slice As K2 cs) (.slice At k ct) (.slice Au K2 cu) (.slice Aa 80 ca) (.slice Ab 80 cb) (.slice Ad 80 cd)) (fun j => [k, K2, k, K2, 80, 80, 80].getD j 0) (fun j => [ys.take k, ys.drop k, ys.take k, ys.drop k, ys, ys, ys].getD j []) wj (by decide) (fun j hj => by rcases lt7 hj with rfl | rfl | rfl | rfl | rfl | rfl | rfl; exact LT.out; exact (by show (ys.drop k).length = K2; rw [LD.out]; have := HK2.out; omega); exact LT.out; exact (by show (ys.drop k).length = K2; rw [LD.out]; have := HK2.out; omega); exact HM.out.symm; exact HM.out.symm; exact HM.out.symm)
        (sev_all (P := fun j v => Own wj w8.heap.size 5 .u8 v ((fun j => [ys.take k, ys.drop k, ys.take k, ys.drop k, ys, ys, ys].getD j []) j)) (Tr.out.lower (by have := SZ.out; omega)) (Ts.out.lower (by have := SZ.out; omega)) (Tt.out.lower (by have := SZ.out; omega)) (Tu.out.lower (by have := SZ.out; omega)) (Ta.out.lower (by have := SZ.out; omega)) (Tb.out.lower (by have := SZ.out; omega)) (Td.out.lower (by have := SZ.out; omega)))
        (rg_dist (lo := lo7 wb.heap.size wc.heap.size wd.heap.size we.heap.size w8.heap.size w9.heap.size wa.heap.size) (hi := lo7 wc.heap.size wd.heap.size we.heap.size wf.heap.size w9.heap.size wa.heap.size wb.heap.size) (fun j hj => by rcases lt7 hj with rfl | rfl | rfl | rfl | rfl | rfl | rfl; exact Ur.out; exact Us.out; exact Ut.out; exact Uu.out; exact Ua.out; exact Ub.out; exact Ud.out) (lo7_dist SZ.out.1 SZ.out.2.1 SZ.out.2.2.1 SZ.out.2.2.2.1 SZ.out.2.2.2.2.1 SZ.out.2.2.2.2.2.1 SZ.out.2.2.2.2.2.2))
        (sev_all (P := fun j v => v.ownBlock ≠ some GA) (fun h => by have h1 := (Ur.out _ h).2; have h2 := HGA.out; have h3 := SZ.out; omega) (fun h => by have h1 := (Us.out _ h).2; have h2 := HGA.out; have h3 := SZ.out; omega) (fun h => by have h1 := (Ut.out _ h).2; have h2 := HGA.out; have h3 := SZ.out; omega) (fun h => by have h1 := (Uu.out _ h).2; have h2 := HGA.out; have h3 := SZ.out; omega) (fun h => by have h1 := (Ua.out _ h).2; have h2 := HGA.out; have h3 := SZ.out; omega) (fun h => by have h1 := (Ub.out _ h).2; have h2 := HGA.out; have h3 := SZ.out; omega) (fun h => by have h1 := (Ud.out _ h).2; have h2 := HGA.out; have h3 := SZ.out; omega))
        (sev_all (P := fun j v => wj.cell? ⟨GA, j, none⟩ = some v) (BA3.out.cell 0) (BA3.out.cell 1) (BA3.out.cell 2) (BA3.out.cell 3) (BA3.out.cell 4) (BA3.out.cell 5) (BA3.out.cell 6))
        FZ3.out.size (fun j hj => by rcases lt7 hj with rfl | rfl | rfl | rfl | rfl | rfl | rfl <;> simp <;> omega)
      refine hap.mono ?_
      rintro e wk ⟨rfl, hfk⟩
      have hlow : ∀ j, Blks 7 (sev (.slice Ar k cr) (.slice As K2 cs) (.slice At k ct) (.slice Au K2 cu) (.slice Aa 80 ca) (.slice Ab 80 cb) (.slice Ad 80 cd)) j → w8.heap.size ≤ j := fun j ⟨i, hi, hb⟩ => by
        have := SZ.out
        rcases lt7 hi with rfl | rfl | rfl | rfl | rfl | rfl | rfl
        · have := Ur.out j hb; omega
        · have := Us.out j hb; omega
        · have := Ut.out j hb; omega
        · have := Uu.out j hb; omega
        · have := Ua.out j hb; omega
        · have := Ub.out j hb; omega
        · have := Ud.out j hb; omega
      have FZ4 := Lib.hid (FZ3.out.fr hfk (fun j hj hk => by have := hlow j hk; omega))
      have HB4 := Lib.hid (HB3.out.trans (hfk.below HB3.out.size (fun j hj => by have := hlow j hj; have := FZ3.out.below; have := OB.out; omega)))
      clear hap hfk hlow FZ3 HB3 BA3 Tr Ts Tt Tu Ta Tb Td Ur Us Ut Uu Ua Ub Ud
      go_wp2_with fail
      refine (still_any (some ⟨b0, o0, none⟩) G cg c 80 80 ys rest wk HM.out HM.out FZ4.out.len (HY.out.below HB4.out)).mono ?_
      rintro e w' ⟨q5, rfl, rfl⟩
      have FZ5 : Hid (Fz (wk.drewN q5) w8.heap.size G cg rest p1 g1 [] p2 g2 [] p3 g3 p4 g4 80 ys) := Lib.hid (FZ4.out.fr ((Fr.refl (fun _ => False) wk).drewN q5) (fun _ _ h => h))
      have HB5 := Lib.hid (belowN HB4.out q5)
      generalize wk.drewN q5 = wl at FZ5 HB5
      clear FZ4 HB4
      go_wp2_with fail
      refine (wdone_any p3 g3 80 ys 0 wl FZ5.out.w1 (by omega) (by have := HM.out; omega)).mono ?_
      rintro e wm ⟨vx, rfl, Ox, bbx⟩
      rw [show dnL 80 ys 0 = ys from if_pos ⟨rfl, by have := HM.out; omega⟩] at Ox
      have FZ6 := Lib.hid (FZ5.out.fr (Fr.of_below bbx.out (fun _ => False)) (fun _ _ h => h))
      have HB6 := Lib.hid (HB5.out.trans (bbx.out.mono HB5.out.size))
      clear bbx FZ5 HB5
      go_wp2_with fail
      refine (wdone_any p4 g4 80 ys 0 wm FZ6.out.w2 (by omega) (by have := HM.out; omega)).mono ?_
      rintro e wn ⟨vy, rfl, Oy, bby⟩
      rw [show dnL 80 ys 0 = ys from if_pos ⟨rfl, by have := HM.out; omega⟩] at Oy
      have FZ7 := Lib.hid (FZ6.out.fr (Fr.of_below bby.out (fun _ => False)) (fun _ _ h => h))
      have HB7 := Lib.hid (HB6.out.trans (bby.out.mono HB6.out.size))
      have Ox2 := Lib.hid (Ox.out.below bby.out)
      clear bby FZ6 HB6 Ox
      obtain ⟨Ax, cx, rfl, -, -, rx, -⟩ := Ox2.out.slice
      obtain ⟨Ay, cy, rfl, -, -, ry, -⟩ := Oy.out.slice
      have RX := Lib.hid rx
      have RY := Lib.hid ry
      have YN := Lib.hid (HY.out.below HB7.out)
      clear rx ry Ox2 Oy
      go_wp2_with fail
      refine (same_any Ax (some ⟨b0, o0, none⟩) _ 80 cx c ys ys wn rfl HM.out RX.out YN.out (by have := HM.out; omega) (by have := HM.out; omega)).mono ?_
      rintro e w' ⟨q6, rfl, rfl⟩
      rw [show decide (ys = ys) = true from by simp]
      go_wp2_with fail
      refine (same_any Ay (some ⟨b0, o0, none⟩) _ 80 cy c ys ys _ rfl HM.out (RY.out.draws _) (YN.out.draws _) (by have := HM.out; omega) (by have := HM.out; omega)).mono ?_
      rintro e w' ⟨q7, rfl, rfl⟩
      rw [show decide (ys = ys) = true from by simp]
      have R1z : Hid (Rdr ((wn.drewN q6).drewN q7) p1 g1 [] 0) := Lib.hid ((FZ7.out.r1.drewN q6).drewN q7)
      have R2z : Hid (Rdr ((wn.drewN q6).drewN q7) p2 g2 [] 0) := Lib.hid ((FZ7.out.r2.drewN q6).drewN q7)
      have HBz := Lib.hid (belowN (belowN HB7.out q6) q7)
      generalize (wn.drewN q6).drewN q7 = wz at R1z R2z HBz
      clear RX RY YN FZ7 HB7
      go_wp2_with fail
      refine (left_any p1 g1 [] 0 wz R1z.out).mono ?_
      rintro e' w' ⟨rfl, hww⟩
      obtain rfl : wz = w' := hww.symm
      go_wp2_with fail
      refine (rend_any p2 g2 [] 0 wz R2z.out).mono ?_
      rintro e' w' ⟨rfl, hww⟩
      obtain rfl : wz = w' := hww.symm
      rw [show enR [] 0 = 0 from by decide]
      go_wp2_with fail
      go_ret
      exact ⟨rfl, HBz.out⟩

set_option maxRecDepth 100000 in
set_option maxHeartbeats 8000000 in
theorem fresh_bn (A : Option Addr) (n c : Nat) (xs : List Int) (z : Int) (w : World) (hn : n = xs.length) (hx : Rd w .u8 A xs) (hB : B8 xs) (hl : xs.length ≤ 140737488351232) (hc : n ≤ c ∧ c ≤ maxLen) (hbig : ¬ n ≤ 80) (k : Nat) (hk : k ≤ 80) (hT : z.tmod 81 = (k : Int) - 80 - 1) :
    Calls Try.prog 11 #[.slice A n c, .int .i64 z] w fun e w' => e = .returned (.bool true) ∧ Below w.heap.size w w' := by
  have HX := Lib.hid hx
  have HN := Lib.hid hn
  have HB := Lib.hid hB
  have HL := Lib.hid hl
  have hn63 : n ≤ 140737488351232 := by omega
  have hc1 : n ≤ c := hc.1
  have hc2 : c ≤ 9223372036854775807 := hc.2
  clear hx hn hB hl hc
  go_enter Try.func11, Try.ntmps11
  go_wp2_with fail
  refine (awake_any w).mono ?_
  rintro e w1 ⟨rfl, b1⟩
  have HB1 := Lib.hid b1
  clear b1
  have d1 : decide ((80 : Int) < (n : Int)) = true := decide_eq_true (by omega)
  have hc80 : 80 ≤ c := by omega
  have HM : Hid (80 = (xs.take 80).length) := Lib.hid (by rw [List.length_take]; have := HN.out; omega)
  have HY : Hid (Rd w .u8 A (xs.take 80)) := Lib.hid (HX.out.take 80)
  obtain ⟨b0, o0, hA0, _⟩ := HX.out 0 (by have := HN.out; omega)
  subst hA0
  generalize xs.take 80 = ys at HM HY
  have hM : 80 ≤ 80 := Nat.le_refl _
  obtain ⟨T, hTT⟩ : ∃ T, T = z.tmod 81 := ⟨_, rfl⟩
  rw [← hTT] at hT
  have hTT' : z.tmod 81 = T := hTT.symm
  have d2 : decide (T < 0) = true := decide_eq_true (by omega)
  have w2 : IntKind.i64.wrap (T + 80) = (k : Int) - 1 := by simp [IntKind.wrap, IntKind.bits, IntKind.signed]; omega
  have w3 : IntKind.i64.wrap ((k : Int) - 1 + 1) = (k : Int) := by simp [IntKind.wrap, IntKind.bits, IntKind.signed]; omega
  clear hTT hT
  go_wp2_with fail
  refine (lent_any (some ⟨b0, o0, none⟩) 80 c ys w1 HM.out (HY.out.below HB1.out) (by have := HM.out; omega)).mono ?_
  rintro e w2 ⟨G, cg, rest, rfl, hG, LG, b2⟩
  have HLG := Lib.hid LG
  have HB2 := Lib.hid (HB1.out.trans (b2.mono HB1.out.size))
  have OG : Hid (w.heap.size ≤ G ∧ G < w2.heap.size) := Lib.hid ⟨Nat.le_trans HB1.out.size hG, LG.blk.lt⟩
  clear hG LG b2 HB1
  go_wp2_with fail
  refine (newReader_any _ 80 cg ys w2 HM.out HLG.out.rd (by have := HM.out; omega)).mono ?_
  rintro e w3 ⟨p1, g1, rfl, HP1, R1, bb3⟩
  have HLG3 := Lib.hid (HLG.out.below bb3.out)
  have HB3 := Lib.hid (HB2.out.trans (bb3.out.mono HB2.out.size))
  have O1 : Hid (w2.heap.size ≤ p1 ∧ w2.heap.size ≤ g1 ∧ p1 < w3.heap.size ∧ g1 < w3.heap.size) := Lib.hid ⟨HP1.out.1, HP1.out.2, R1.out.lt, R1.out.glt⟩
  clear bb3 HP1 HLG HB2
  go_wp2_with fail
  refine (newReader_any _ 80 cg ys w3 HM.out HLG3.out.rd (by have := HM.out; omega)).mono ?_
  rintro e w4 ⟨p2, g2, rfl, HP2, R2, bb4⟩
  have HLG4 := Lib.hid (HLG3.out.below bb4.out)
  have R14 := Lib.hid (R1.out.below bb4.out)
  have HB4 := Lib.hid (HB3.out.trans (bb4.out.mono HB3.out.size))
  have O2 : Hid (w3.heap.size ≤ p2 ∧ w3.heap.size ≤ g2 ∧ p2 < w4.heap.size ∧ g2 < w4.heap.size) := Lib.hid ⟨HP2.out.1, HP2.out.2, R2.out.lt, R2.out.glt⟩
  clear bb4 HP2 HLG3 HB3 R1
  go_wp2_with fail
  refine (nw_ok 80 w4 (by omega)).mono ?_
  rintro e w5 ⟨p3, rfl, HP3, T3, bb5⟩
  have HLG5 := Lib.hid (HLG4.out.below bb5.out)
  have R15 := Lib.hid (R14.out.below bb5.out)
  have R25 := Lib.hid (R2.out.below bb5.out)
  have HB5 := Lib.hid (HB4.out.trans (bb5.out.mono HB4.out.size))
  have O3 : Hid (w4.heap.size ≤ p3 ∧ p3 < w5.heap.size) := Lib.hid ⟨HP3.out, T3.out.lt.1⟩
  clear bb5 HP3 HLG4 HB4 R14 R2
  go_wp2_with fail
  refine (nw_ok 80 w5 (by omega)).mono ?_
  rintro e w6 ⟨p4, rfl, HP4, T4, bb6⟩
  have HLG6 := Lib.hid (HLG5.out.below bb6.out)
  have R16 := Lib.hid (R15.out.below bb6.out)
  have R26 := Lib.hid (R25.out.below bb6.out)
  have T36 := Lib.hid (T3.out.below bb6.out)
  have HB6 := Lib.hid (HB5.out.trans (bb6.out.mono HB5.out.size))
  have O4 : Hid (w5.heap.size ≤ p4 ∧ p4 < w6.heap.size) := Lib.hid ⟨HP4.out, T4.out.lt.1⟩
  clear bb6 HP4 HLG5 HB5 R15 R25 T3
  go_wp2_with fail
  refine (wbytes_any p3 p3 80 [] 0 _ 80 cg ys w6 T36.out HM.out HLG6.out.rd (by omega) (Nat.zero_le _) (by omega)).mono ?_
  rintro e w7 ⟨⟨u7, rfl⟩, HW7⟩
  rw [show wL 80 [] 0 ys = ys from by unfold wL; rw [if_pos ⟨rfl, by have := HM.out; simp; omega⟩]; rfl, show wE 80 [] 0 ys = 0 from by unfold wE; rw [if_pos rfl, if_pos (by have := HM.out; simp; omega)]] at HW7
  obtain ⟨g3, t3, hg3, hf7⟩ := HW7.out
  have O5 : Hid (g3 = p3 ∨ w6.heap.size ≤ g3) := Lib.hid hg3
  have O5b : Hid (g3 < w7.heap.size ∧ w6.heap.size ≤ w7.heap.size) := Lib.hid ⟨t3.lt.2, hf7.size⟩
  have T37 := Lib.hid t3
  have HLG7 := Lib.hid (HLG6.out.fr hf7 (by have := OG.out; have := O1.out; have := O2.out; have := O3.out; omega))
  have R17 := Lib.hid (R16.out.fr hf7 (by have := O1.out; have := O2.out; have := O3.out; omega) (by have := O1.out; have := O2.out; have := O3.out; omega))
  have R27 := Lib.hid (R26.out.fr hf7 (by have := O2.out; have := O3.out; omega) (by have := O2.out; have := O3.out; omega))
  have T47 := Lib.hid (T4.out.fr hf7 (by have := O4.out; have := O3.out; omega) (by have := O4.out; have := O3.out; omega))
  have HB7 := Lib.hid (HB6.out.trans (hf7.below HB6.out.size (fun j hj => by have := O3.out; have := O2.out; have := O1.out; have := OG.out; omega)))
  clear t3 hg3 hf7 HW7 HLG6 R16 R26 T36 T4 HB6
  go_wp2_with fail
  refine (wbytes_any p4 p4 80 [] 0 _ 80 cg ys w7 T47.out HM.out HLG7.out.rd (by omega) (Nat.zero_le _) (by omega)).mono ?_
  rintro e w8 ⟨⟨u8, rfl⟩, HW8⟩
  rw [show wL 80 [] 0 ys = ys from by unfold wL; rw [if_pos ⟨rfl, by have := HM.out; simp; omega⟩]; rfl, show wE 80 [] 0 ys = 0 from by unfold wE; rw [if_pos rfl, if_pos (by have := HM.out; simp; omega)]] at HW8
  obtain ⟨g4, t4, hg4, hf8⟩ := HW8.out
  have HB8 := Lib.hid (HB7.out.trans (hf8.below HB7.out.size (fun j hj => by have := O4.out; have := O3.out; have := O2.out; have := O1.out; have := OG.out; omega)))
  have FZ : Hid (Fz w8 w8.heap.size G cg rest p1 g1 ys p2 g2 ys p3 g3 p4 g4 80 ys) := Lib.hid (by
    have a0 := OG.out
    have a1 := O1.out
    have a2 := O2.out
    have a3 := O3.out
    have a4 := O4.out
    have a5 := O5.out
    have a6 := O5b.out
    have a7 := hf8.size
    have a8 := t4.lt
    exact ⟨HLG7.out.fr hf8 (by omega), R17.out.fr hf8 (by omega) (by omega), R27.out.fr hf8 (by omega) (by omega), T37.out.fr hf8 (by omega) (by omega), t4, by omega, by omega, by omega, Nat.le_refl _⟩)
  have OB : Hid (w.heap.size ≤ p1 ∧ w.heap.size ≤ p2) := Lib.hid (by have := O2.out; have := O1.out; have := OG.out; omega)
  clear t4 hg4 hf8 HW8 HLG7 R17 R27 T37 T47 HB7 OG O1 O2 O3 O4 O5 O5b
  go_wp2_with fail
  refine (wdone_any p3 g3 80 ys 0 w8 FZ.out.w1 (by omega) (by have := HM.out; omega)).mono ?_
  rintro e w9 ⟨va, rfl, Oa, bba⟩
  rw [show dnE 80 ys 0 = 0 from by unfold dnE; rw [if_pos rfl, if_neg (by have := HM.out; omega)]]
  rw [show dnL 80 ys 0 = ys from if_pos ⟨rfl, by have := HM.out; omega⟩] at Oa
  have Ga := Lib.hid (show Rg va w8.heap.size w9.heap.size from fun j hj => Oa.out.base_le hj)
  obtain ⟨Aa, ca, rfl, -, -, -, -⟩ := Oa.out.slice
  have FZa := Lib.hid (FZ.out.fr (Fr.of_below bba.out (fun _ => False)) (fun _ _ h => h))
  have HBa := Lib.hid (HB8.out.trans (bba.out.mono HB8.out.size))
  have Sa : Hid (w8.heap.size ≤ w9.heap.size) := Lib.hid bba.out.size
  clear bba FZ HB8
  rw [show ys.length = 80 from HM.out.symm]
  go_wp2_with fail
  refine (wdone_any p3 g3 80 ys 0 w9 FZa.out.w1 (by omega) (by have := HM.out; omega)).mono ?_
  rintro e wa ⟨vb, rfl, Ob, bbb⟩
  rw [show dnE 80 ys 0 = 0 from by unfold dnE; rw [if_pos rfl, if_neg (by have := HM.out; omega)]]
  rw [show dnL 80 ys 0 = ys from if_pos ⟨rfl, by have := HM.out; omega⟩] at Ob
  have Gb := Lib.hid (show Rg vb w9.heap.size wa.heap.size from fun j hj => Ob.out.base_le hj)
  obtain ⟨Ab, cb, rfl, -, -, -, -⟩ := Ob.out.slice
  have FZb := Lib.hid (FZa.out.fr (Fr.of_below bbb.out (fun _ => False)) (fun _ _ h => h))
  have HBb := Lib.hid (HBa.out.trans (bbb.out.mono HBa.out.size))
  have Oab := Lib.hid (Oa.out.below bbb.out)
  clear Oa
  have Sb : Hid (w9.heap.size ≤ wa.heap.size) := Lib.hid bbb.out.size
  clear bbb FZa HBa
  rw [show ys.length = 80 from HM.out.symm]
  go_wp2_with fail
  refine (wdone_any p4 g4 80 ys 0 wa FZb.out.w2 (by omega) (by have := HM.out; omega)).mono ?_
  rintro e wb ⟨vd, rfl, Od, bbd⟩
  rw [show dnE 80 ys 0 = 0 from by unfold dnE; rw [if_pos rfl, if_neg (by have := HM.out; omega)]]
  rw [show dnL 80 ys 0 = ys from if_pos ⟨rfl, by have := HM.out; omega⟩] at Od
  have Gd := Lib.hid (show Rg vd wa.heap.size wb.heap.size from fun j hj => Od.out.base_le hj)
  obtain ⟨Ad, cd, rfl, -, -, -, -⟩ := Od.out.slice
  have FZd := Lib.hid (FZb.out.fr (Fr.of_below bbd.out (fun _ => False)) (fun _ _ h => h))
  have HBd := Lib.hid (HBb.out.trans (bbd.out.mono HBb.out.size))
  have Oad := Lib.hid (Oab.out.below bbd.out)
  clear Oab
  have Obd := Lib.hid (Ob.out.below bbd.out)
  clear Ob
  have Sd : Hid (wa.heap.size ≤ wb.heap.size) := Lib.hid bbd.out.size
  clear bbd FZb HBb
  rw [show ys.length = 80 from HM.out.symm]
  go_wp2_with fail
  obtain ⟨K2, hK2⟩ : ∃ K2, K2 = 80 - k := ⟨_, rfl⟩
  have HK2 : Hid (K2 + k = 80) := Lib.hid (by omega)
  have hK64 : K2 ≤ 80 := by omega
  have hwr : IntKind.i64.wrap ((80 : Int) - (k : Int)) = (K2 : Int) := by simp [IntKind.wrap, IntKind.bits, IntKind.signed]; omega
  clear hK2
  have hs1 := fun W => run_cut_upto (P := Try.prog) W 22 5 Try.underlying22 size5' (some ⟨b0, o0, none⟩) 80 c k .i64 k rfl (by omega)
  have hs2 := fun W => run_cut_from (P := Try.prog) W 22 5 Try.underlying22 size5' (some ⟨b0, o0, none⟩) 80 c k .i64 k rfl hk
  have HT1 := Lib.hid (take_step ys k (by have := HM.out; omega))
  have HT2 : Hid (tkL (ys.drop k) K2 0 = ys.drop k ∧ rsL (ys.drop k) K2 0 = [] ∧ erR (ys.drop k) K2 0 = 0) := Lib.hid (by
    have h1 : K2 = (ys.drop k).length := by rw [List.length_drop]; have := HM.out; have := HK2.out; omega
    have h2 := take_step (ys.drop k) K2 (by omega)
    have h3 : (ys.drop k).take K2 = ys.drop k := List.take_of_length_le (by omega)
    have h4 : (ys.drop k).drop K2 = [] := List.drop_eq_nil_of_le (by omega)
    rw [h3, h4] at h2
    exact h2)
  refine (rbytes_any p1 g1 k ys 0 wb FZd.out.r1 (by omega) (by have := HM.out; omega)).mono ?_
  rintro e wc ⟨vr, rfl, Or, Rr, Fr⟩
  rw [HT1.out.1] at Or
  rw [HT1.out.2.1, HT1.out.2.2] at Rr
  have FZr := Lib.hid (FZd.out.step1 Fr.out Rr.out)
  have HBr := Lib.hid (HBd.out.trans (Fr.out.below HBd.out.size (fun j hj => by subst hj; exact OB.out.1)))
  have Gr := Lib.hid (show Rg vr wb.heap.size wc.heap.size from fun j hj => Or.out.base_le hj)
  have Sr : Hid (wb.heap.size ≤ wc.heap.size) := Lib.hid Fr.out.size
  obtain ⟨Ar, cr, rfl, -, -, -, -⟩ := Or.out.slice
  have Nar := Lib.hid (Oad.out.fr Fr.out (fun j hj hk => by have h1 := (Ga.out j hj).1; have h2 := FZd.out.below; have h3 := Sa.out; have h4 := Sb.out; have h5 := Sd.out; omega))
  clear Oad
  have Nbr := Lib.hid (Obd.out.fr Fr.out (fun j hj hk => by have h1 := (Gb.out j hj).1; have h2 := FZd.out.below; have h3 := Sa.out; have h4 := Sb.out; have h5 := Sd.out; omega))
  clear Obd
  have Ndr := Lib.hid (Od.out.fr Fr.out (fun j hj hk => by have h1 := (Gd.out j hj).1; have h2 := FZd.out.below; have h3 := Sa.out; have h4 := Sb.out; have h5 := Sd.out; omega))
  clear Od
  clear Rr Fr FZd HBd
  rw [show (ys.take k).length = k from by rw [List.length_take]; have := HM.out; omega]
  go_wp2_with fail
  refine (rbytes_any p1 g1 K2 (ys.drop k) 0 wc FZr.out.r1 (by omega) (by rw [List.length_drop]; have := HM.out; omega)).mono ?_
  rintro e wd ⟨vs, rfl, Os, Rs, Fs⟩
  rw [HT2.out.1] at Os
  rw [HT2.out.2.1, HT2.out.2.2] at Rs
  have FZs := Lib.hid (FZr.out.step1 Fs.out Rs.out)
  have HBs := Lib.hid (HBr.out.trans (Fs.out.below HBr.out.size (fun j hj => by subst hj; exact OB.out.1)))
  have Gs := Lib.hid (show Rg vs wc.heap.size wd.heap.size from fun j hj => Os.out.base_le hj)
  have Ss : Hid (wc.heap.size ≤ wd.heap.size) := Lib.hid Fs.out.size
  obtain ⟨As, cs, rfl, -, -, -, -⟩ := Os.out.slice
  have Nas := Lib.hid (Nar.out.fr Fs.out (fun j hj hk => by have h1 := (Ga.out j hj).1; have h2 := FZr.out.below; have h3 := Sa.out; have h4 := Sb.out; have h5 := Sd.out; have h6 := Sr.out; omega))
  clear Nar
  have Nbs := Lib.hid (Nbr.out.fr Fs.out (fun j hj hk => by have h1 := (Gb.out j hj).1; have h2 := FZr.out.below; have h3 := Sa.out; have h4 := Sb.out; have h5 := Sd.out; have h6 := Sr.out; omega))
  clear Nbr
  have Nds := Lib.hid (Ndr.out.fr Fs.out (fun j hj hk => by have h1 := (Gd.out j hj).1; have h2 := FZr.out.below; have h3 := Sa.out; have h4 := Sb.out; have h5 := Sd.out; have h6 := Sr.out; omega))
  clear Ndr
  have Nrs := Lib.hid (Or.out.fr Fs.out (fun j hj hk => by have h1 := (Gr.out j hj).1; have h2 := FZr.out.below; have h3 := Sa.out; have h4 := Sb.out; have h5 := Sd.out; have h6 := Sr.out; omega))
  clear Or
  clear Rs Fs FZr HBr
  rw [show (ys.drop k).length = K2 from by rw [List.length_drop]; have := HM.out; have := HK2.out; omega]
  go_wp2_with fail
  refine (rbytes_any p2 g2 k ys 0 wd FZs.out.r2 (by omega) (by have := HM.out; omega)).mono ?_
  rintro e we ⟨vt, rfl, Ot, Rt, Ft⟩
  rw [HT1.out.1] at Ot
  rw [HT1.out.2.1, HT1.out.2.2] at Rt
  have FZt := Lib.hid (FZs.out.step2 Ft.out Rt.out)
  have HBt := Lib.hid (HBs.out.trans (Ft.out.below HBs.out.size (fun j hj => by subst hj; exact OB.out.2)))
  have Gt := Lib.hid (show Rg vt wd.heap.size we.heap.size from fun j hj => Ot.out.base_le hj)
  have St : Hid (wd.heap.size ≤ we.heap.size) := Lib.hid Ft.out.size
  obtain ⟨At, ct, rfl, -, -, -, -⟩ := Ot.out.slice
  have Nat := Lib.hid (Nas.out.fr Ft.out (fun j hj hk => by have h1 := (Ga.out j hj).1; have h2 := FZs.out.below; have h3 := Sa.out; have h4 := Sb.out; have h5 := Sd.out; have h6 := Sr.out; have h7 := Ss.out; omega))
  clear Nas
  have Nbt := Lib.hid (Nbs.out.fr Ft.out (fun j hj hk => by have h1 := (Gb.out j hj).1; have h2 := FZs.out.below; have h3 := Sa.out; have h4 := Sb.out; have h5 := Sd.out; have h6 := Sr.out; have h7 := Ss.out; omega))
  clear Nbs
  have Ndt := Lib.hid (Nds.out.fr Ft.out (fun j hj hk => by have h1 := (Gd.out j hj).1; have h2 := FZs.out.below; have h3 := Sa.out; have h4 := Sb.out; have h5 := Sd.out; have h6 := Sr.out; have h7 := Ss.out; omega))
  clear Nds
  have Nrt := Lib.hid (Nrs.out.fr Ft.out (fun j hj hk => by have h1 := (Gr.out j hj).1; have h2 := FZs.out.below; have h3 := Sa.out; have h4 := Sb.out; have h5 := Sd.out; have h6 := Sr.out; have h7 := Ss.out; omega))
  clear Nrs
  have Nst := Lib.hid (Os.out.fr Ft.out (fun j hj hk => by have h1 := (Gs.out j hj).1; have h2 := FZs.out.below; have h3 := Sa.out; have h4 := Sb.out; have h5 := Sd.out; have h6 := Sr.out; have h7 := Ss.out; omega))
  clear Os
  clear Rt Ft FZs HBs
  rw [show (ys.take k).length = k from by rw [List.length_take]; have := HM.out; omega]
  go_wp2_with fail
  refine (rbytes_any p2 g2 K2 (ys.drop k) 0 we FZt.out.r2 (by omega) (by rw [List.length_drop]; have := HM.out; omega)).mono ?_
  rintro e wf ⟨vu, rfl, Ou, Ru, Fu⟩
  rw [HT2.out.1] at Ou
  rw [HT2.out.2.1, HT2.out.2.2] at Ru
  have FZu := Lib.hid (FZt.out.step2 Fu.out Ru.out)
  have HBu := Lib.hid (HBt.out.trans (Fu.out.below HBt.out.size (fun j hj => by subst hj; exact OB.out.2)))
  have Gu := Lib.hid (show Rg vu we.heap.size wf.heap.size from fun j hj => Ou.out.base_le hj)
  have Su : Hid (we.heap.size ≤ wf.heap.size) := Lib.hid Fu.out.size
  obtain ⟨Au, cu, rfl, -, -, -, -⟩ := Ou.out.slice
  have Nau := Lib.hid (Nat.out.fr Fu.out (fun j hj hk => by have h1 := (Ga.out j hj).1; have h2 := FZt.out.below; have h3 := Sa.out; have h4 := Sb.out; have h5 := Sd.out; have h6 := Sr.out; have h7 := Ss.out; have h8 := St.out; omega))
  clear Nat
  have Nbu := Lib.hid (Nbt.out.fr Fu.out (fun j hj hk => by have h1 := (Gb.out j hj).1; have h2 := FZt.out.below; have h3 := Sa.out; have h4 := Sb.out; have h5 := Sd.out; have h6 := Sr.out; have h7 := Ss.out; have h8 := St.out; omega))
  clear Nbt
  have Ndu := Lib.hid (Ndt.out.fr Fu.out (fun j hj hk => by have h1 := (Gd.out j hj).1; have h2 := FZt.out.below; have h3 := Sa.out; have h4 := Sb.out; have h5 := Sd.out; have h6 := Sr.out; have h7 := Ss.out; have h8 := St.out; omega))
  clear Ndt
  have Nru := Lib.hid (Nrt.out.fr Fu.out (fun j hj hk => by have h1 := (Gr.out j hj).1; have h2 := FZt.out.below; have h3 := Sa.out; have h4 := Sb.out; have h5 := Sd.out; have h6 := Sr.out; have h7 := Ss.out; have h8 := St.out; omega))
  clear Nrt
  have Nsu := Lib.hid (Nst.out.fr Fu.out (fun j hj hk => by have h1 := (Gs.out j hj).1; have h2 := FZt.out.below; have h3 := Sa.out; have h4 := Sb.out; have h5 := Sd.out; have h6 := Sr.out; have h7 := Ss.out; have h8 := St.out; omega))
  clear Nst
  have Ntu := Lib.hid (Ot.out.fr Fu.out (fun j hj hk => by have h1 := (Gt.out j hj).1; have h2 := FZt.out.below; have h3 := Sa.out; have h4 := Sb.out; have h5 := Sd.out; have h6 := Sr.out; have h7 := Ss.out; have h8 := St.out; omega))
  clear Ot
  clear Ru Fu FZt HBt
  rw [show (ys.drop k).length = K2 from by rw [List.length_drop]; have := HM.out; have := HK2.out; omega]
  go_wp2_with fail
  have BA : Hid (Blk (wf.alloc (.cells #[.slice Ar k cr, .slice As K2 cs, .slice At k ct, .slice Au K2 cu, .slice Aa 80 ca, .slice Ab 80 cb, .slice Ad 80 cd] 22)) wf.heap.size 22 [.slice Ar k cr, .slice As K2 cs, .slice At k ct, .slice Au K2 cu, .slice Aa 80 ca, .slice Ab 80 cb, .slice Ad 80 cd]) := Lib.hid (Blk.new wf 22 _)
  have bel := (Below.refl wf.heap.size wf).alloc (Nat.le_refl _) (.cells #[.slice Ar k cr, .slice As K2 cs, .slice At k ct, .slice Au K2 cu, .slice Aa 80 ca, .slice Ab 80 cb, .slice Ad 80 cd] 22)
  have FZg := Lib.hid (FZu.out.fr (Fr.of_below bel (fun _ => False)) (fun _ _ h => h))
  have HBg := Lib.hid (HBu.out.trans (bel.mono HBu.out.size))
  have Pr := Lib.hid (Nru.out.below bel)
  have Ps := Lib.hid (Nsu.out.below bel)
  have Pt := Lib.hid (Ntu.out.below bel)
  have Pu := Lib.hid (Ou.out.below bel)
  have Pa := Lib.hid (Nau.out.below bel)
  have Pb := Lib.hid (Nbu.out.below bel)
  have Pd := Lib.hid (Ndu.out.below bel)
  clear bel FZu HBu Nru Nsu Ntu Ou Nau Nbu Ndu
  obtain ⟨GA, hGA⟩ : ∃ GA, GA = wf.heap.size := ⟨_, rfl⟩
  rw [← hGA] at BA ⊢
  have HGA : Hid (GA = wf.heap.size) := Lib.hid hGA
  clear hGA
  generalize wf.alloc (.cells #[.slice Ar k cr, .slice As K2 cs, .slice At k ct, .slice Au K2 cu, .slice Aa 80 ca, .slice Ab 80 cb, .slice Ad 80 cd] 22) = wg at BA FZg HBg Pr Ps Pt Pu Pa Pb Pd
  refine wp_region_held_drew (S := fun _ => True) (by kernel_rfl) (trivial) (fun hHeld => ?_)
  have BA1 : Hid (Blk wg.drew GA 22 [.slice Ar k cr, .slice As K2 cs, .slice At k ct, .slice Au K2 cu, .slice Aa 80 ca, .slice Ab 80 cb, .slice Ad 80 cd]) := Lib.hid (BA.out.drewN 1)
  have FZ1 : Hid (Fz wg.drew w8.heap.size G cg rest p1 g1 [] p2 g2 [] p3 g3 p4 g4 80 ys) := Lib.hid (FZg.out.fr ((Fr.refl (fun _ => False) wg).drewN 1) (fun _ _ h => h))
  have HB1 : Hid (Below w.heap.size w wg.drew) := Lib.hid (belowN HBg.out 1)
  have Qr := Lib.hid (show Own wg.drew _ 5 .u8 _ (ys.take k) from Pr.out)
  have Qs := Lib.hid (show Own wg.drew _ 5 .u8 _ (ys.drop k) from Ps.out)
  have Qt := Lib.hid (show Own wg.drew _ 5 .u8 _ (ys.take k) from Pt.out)
  have Qu := Lib.hid (show Own wg.drew _ 5 .u8 _ (ys.drop k) from Pu.out)
  have Qa := Lib.hid (show Own wg.drew _ 5 .u8 _ ys from Pa.out)
  have Qb := Lib.hid (show Own wg.drew _ 5 .u8 _ ys from Pb.out)
  have Qd := Lib.hid (show Own wg.drew _ 5 .u8 _ ys from Pd.out)
  clear BA FZg HBg Pr Ps Pt Pu Pa Pb Pd
  generalize wg.drew = wh at BA1 FZ1 HB1 hHeld Qr Qs Qt Qu Qa Qb Qd
  refine wpAnyH_take (i := 0) (oi := ⟨some 127, _, _, _, _, _⟩) (v := (.slice (some ⟨b0, o0, none⟩) 80 c)) rfl (by kernel_rfl) (by kernel_rfl) (by kernel_rfl) (fun _ _ _ h => h) (Or.inl ⟨by rfl, ?_⟩) (by assumption) ?_
  · intro w' hS; rfl
  simp only [Act.put, List.setIfInBounds_toArray, List.set_cons_zero, List.set_cons_succ]
  refine wpAnyH_take (i := 1) (oi := ⟨some 128, _, _, _, _, _⟩) (v := (.int .i64 (k : Int))) rfl (by kernel_rfl) (by kernel_rfl) (by kernel_rfl) (fun _ _ _ h => h) (Or.inl ⟨by rfl, ?_⟩) (by assumption) ?_
  · intro w' hS; rfl
  simp only [Act.put, List.setIfInBounds_toArray, List.set_cons_zero, List.set_cons_succ]
  refine wpAnyH_take (i := 2) (oi := ⟨some 129, _, _, _, _, _⟩) (v := (.slice (some ⟨b0, o0, none⟩) k c)) rfl (by kernel_rfl) (by kernel_rfl) (by kernel_rfl) (fun _ _ _ h => h) (Or.inl ⟨by rfl, ?_⟩) (by assumption) ?_
  · intro w' hS; go_simp; try with_reducible rfl
  simp only [Act.put, List.setIfInBounds_toArray, List.set_cons_zero, List.set_cons_succ]
  refine wpAnyH_take (i := 3) (oi := ⟨some 130, _, _, _, _, _⟩) (v := (.slice (some ⟨b0, o0, none⟩) 80 c)) rfl (by kernel_rfl) (by kernel_rfl) (by kernel_rfl) (fun _ _ _ h => h) (Or.inl ⟨by rfl, ?_⟩) (by assumption) ?_
  · intro w' hS; rfl
  simp only [Act.put, List.setIfInBounds_toArray, List.set_cons_zero, List.set_cons_succ]
  refine wpAnyH_take (i := 4) (oi := ⟨some 131, _, _, _, _, _⟩) (v := (.int .i64 (k : Int))) rfl (by kernel_rfl) (by kernel_rfl) (by kernel_rfl) (fun _ _ _ h => h) (Or.inl ⟨by rfl, ?_⟩) (by assumption) ?_
  · intro w' hS; rfl
  simp only [Act.put, List.setIfInBounds_toArray, List.set_cons_zero, List.set_cons_succ]
  refine wpAnyH_take (i := 5) (oi := ⟨some 132, _, _, _, _, _⟩) (v := (.slice (cutA (some ⟨b0, o0, none⟩) k c) (80 - k) (c - k))) rfl (by kernel_rfl) (by kernel_rfl) (by kernel_rfl) (fun _ _ _ h => h) (Or.inl ⟨by rfl, ?_⟩) (by assumption) ?_
  · intro w' hS; go_simp; try with_reducible rfl
  simp only [Act.put, List.setIfInBounds_toArray, List.set_cons_zero, List.set_cons_succ]
  refine wpAnyH_take (i := 6) (oi := ⟨some 133, _, _, _, _, _⟩) (v := (.slice (some ⟨b0, o0, none⟩) 80 c)) rfl (by kernel_rfl) (by kernel_rfl) (by kernel_rfl) (fun _ _ _ h => h) (Or.inl ⟨by rfl, ?_⟩) (by assumption) ?_
  · intro w' hS; rfl
  simp only [Act.put, List.setIfInBounds_toArray, List.set_cons_zero, List.set_cons_succ]
  refine wpAnyH_take (i := 7) (oi := ⟨some 134, _, _, _, _, _⟩) (v := (.int .i64 (k : Int))) rfl (by kernel_rfl) (by kernel_rfl) (by kernel_rfl) (fun _ _ _ h => h) (Or.inl ⟨by rfl, ?_⟩) (by assumption) ?_
  · intro w' hS; rfl
  simp only [Act.put, List.setIfInBounds_toArray, List.set_cons_zero, List.set_cons_succ]
  refine wpAnyH_take (i := 8) (oi := ⟨some 135, _, _, _, _, _⟩) (v := (.slice (some ⟨b0, o0, none⟩) k c)) rfl (by kernel_rfl) (by kernel_rfl) (by kernel_rfl) (fun _ _ _ h => h) (Or.inl ⟨by rfl, ?_⟩) (by assumption) ?_
  · intro w' hS; go_simp; try with_reducible rfl
  simp only [Act.put, List.setIfInBounds_toArray, List.set_cons_zero, List.set_cons_succ]
  refine wpAnyH_take (i := 9) (oi := ⟨some 136, _, _, _, _, _⟩) (v := (.slice (some ⟨b0, o0, none⟩) 80 c)) rfl (by kernel_rfl) (by kernel_rfl) (by kernel_rfl) (fun _ _ _ h => h) (Or.inl ⟨by rfl, ?_⟩) (by assumption) ?_
  · intro w' hS; rfl
  simp only [Act.put, List.setIfInBounds_toArray, List.set_cons_zero, List.set_cons_succ]
  refine wpAnyH_take (i := 10) (oi := ⟨some 137, _, _, _, _, _⟩) (v := (.int .i64 (k : Int))) rfl (by kernel_rfl) (by kernel_rfl) (by kernel_rfl) (fun _ _ _ h => h) (Or.inl ⟨by rfl, ?_⟩) (by assumption) ?_
  · intro w' hS; rfl
  simp only [Act.put, List.setIfInBounds_toArray, List.set_cons_zero, List.set_cons_succ]
  refine wpAnyH_take (i := 11) (oi := ⟨some 138, _, _, _, _, _⟩) (v := (.slice (cutA (some ⟨b0, o0, none⟩) k c) (80 - k) (c - k))) rfl (by kernel_rfl) (by kernel_rfl) (by kernel_rfl) (fun _ _ _ h => h) (Or.inl ⟨by rfl, ?_⟩) (by assumption) ?_
  · intro w' hS; go_simp; try with_reducible rfl
  simp only [Act.put, List.setIfInBounds_toArray, List.set_cons_zero, List.set_cons_succ]
  refine wpAnyH_take (i := 12) (oi := ⟨some 139, _, _, _, _, _⟩) (v := (.slice (some ⟨b0, o0, none⟩) 80 c)) rfl (by kernel_rfl) (by kernel_rfl) (by kernel_rfl) (fun _ _ _ h => h) (Or.inl ⟨by rfl, ?_⟩) (by assumption) ?_
  · intro w' hS; rfl
  simp only [Act.put, List.setIfInBounds_toArray, List.set_cons_zero, List.set_cons_succ]
  refine wpAnyH_take (i := 13) (oi := ⟨some 140, _, _, _, _, _⟩) (v := (.slice (some ⟨b0, o0, none⟩) 80 c)) rfl (by kernel_rfl) (by kernel_rfl) (by kernel_rfl) (fun _ _ _ h => h) (Or.inl ⟨by rfl, ?_⟩) (by assumption) ?_
  · intro w' hS; rfl
  simp only [Act.put, List.setIfInBounds_toArray, List.set_cons_zero, List.set_cons_succ]
  refine wpAnyH_take (i := 14) (oi := ⟨some 141, _, _, _, _, _⟩) (v := (.slice (some ⟨b0, o0, none⟩) 80 c)) rfl (by kernel_rfl) (by kernel_rfl) (by kernel_rfl) (fun _ _ _ h => h) (Or.inl ⟨by rfl, ?_⟩) (by assumption) ?_
  · intro w' hS; rfl
  simp only [Act.put, List.setIfInBounds_toArray, List.set_cons_zero, List.set_cons_succ]
  refine wpAnyH_ready (rs := [15]) (by kernel_rfl) (by simp) ?_
  refine AllReadyH.cons (o := ⟨some 142, _, _, _, _, _⟩) rfl (fun K hK => ?_) AllReadyH.nil
  rw [if_pos (by rfl)]
  go_simp
  have BW : Hid (Blk (wh.alloc (.cells #[.slice (some ⟨b0, o0, none⟩) k c, .slice (cutA (some ⟨b0, o0, none⟩) k c) (80 - k) (c - k), .slice (some ⟨b0, o0, none⟩) k c, .slice (cutA (some ⟨b0, o0, none⟩) k c) (80 - k) (c - k), .slice (some ⟨b0, o0, none⟩) 80 c, .slice (some ⟨b0, o0, none⟩) 80 c, .slice (some ⟨b0, o0, none⟩) 80 c] 22)) wh.heap.size 22 [.slice (some ⟨b0, o0, none⟩) k c, .slice (cutA (some ⟨b0, o0, none⟩) k c) (80 - k) (c - k), .slice (some ⟨b0, o0, none⟩) k c, .slice (cutA (some ⟨b0, o0, none⟩) k c) (80 - k) (c - k), .slice (some ⟨b0, o0, none⟩) 80 c, .slice (some ⟨b0, o0, none⟩) 80 c, .slice (some ⟨b0, o0, none⟩) 80 c]) := Lib.hid (Blk.new wh 22 _)
  have bel := (Below.refl wh.heap.size wh).alloc (Nat.le_refl _) (.cells #[.slice (some ⟨b0, o0, none⟩) k c, .slice (cutA (some ⟨b0, o0, none⟩) k c) (80 - k) (c - k), .slice (some ⟨b0, o0, none⟩) k c, .slice (cutA (some ⟨b0, o0, none⟩) k c) (80 - k) (c - k), .slice (some ⟨b0, o0, none⟩) 80 c, .slice (some ⟨b0, o0, none⟩) 80 c, .slice (some ⟨b0, o0, none⟩) 80 c] 22)
  have FZ2 := Lib.hid (FZ1.out.fr (Fr.of_below bel (fun _ => False)) (fun _ _ h => h))
  have HB2 := Lib.hid (HB1.out.trans (bel.mono HB1.out.size))
  have BA2 := Lib.hid (BA1.out.below bel BA1.out.lt)
  have HGAW : Hid (GA ≠ wh.heap.size) := Lib.hid (by have := BA1.out.lt; omega)
  have Pr := Lib.hid (Qr.out.below bel)
  have Ps := Lib.hid (Qs.out.below bel)
  have Pt := Lib.hid (Qt.out.below bel)
  have Pu := Lib.hid (Qu.out.below bel)
  have Pa := Lib.hid (Qa.out.below bel)
  have Pb := Lib.hid (Qb.out.below bel)
  have Pd := Lib.hid (Qd.out.below bel)
  clear bel BA1 FZ1 HB1 Qr Qs Qt Qu Qa Qb Qd
  obtain ⟨GB, hGB⟩ : ∃ GB, GB = wh.heap.size := ⟨_, rfl⟩
  rw [← hGB] at BW HGAW ⊢
  have HGB : Hid (GB = wh.heap.size) := Lib.hid hGB
  clear hGB
  generalize wh.alloc (.cells #[.slice (some ⟨b0, o0, none⟩) k c, .slice (cutA (some ⟨b0, o0, none⟩) k c) (80 - k) (c - k), .slice (some ⟨b0, o0, none⟩) k c, .slice (cutA (some ⟨b0, o0, none⟩) k c) (80 - k) (c - k), .slice (some ⟨b0, o0, none⟩) 80 c, .slice (some ⟨b0, o0, none⟩) 80 c, .slice (some ⟨b0, o0, none⟩) 80 c] 22) = wi at BW BA2 FZ2 HB2 Pr Ps Pt Pu Pa Pb Pd ⊢
  (try dsimp only)
  (try simp only [Act.put, List.setIfInBounds_toArray, List.set_cons_zero, List.set_cons_succ])
  refine hK.out _ _ trivial (fun hHeld => ?_)
  clear hK K
  refine wpAnyH_take (i := 16) (oi := ⟨some 19, _, _, _, _, _⟩) (v := (.slice (some ⟨GB, 0, none⟩) 7 7)) rfl (by kernel_rfl) (by kernel_rfl) (by kernel_rfl) (fun _ _ _ h => h) (Or.inl ⟨by rfl, ?_⟩) (by assumption) ?_
  · intro w' hS; rfl
  simp only [Act.put, List.setIfInBounds_toArray, List.set_cons_zero, List.set_cons_succ]
  refine wpAnyH_done (by kernel_rfl) ?_ _
  go_wp2_with fail
  have YW := Lib.hid (HY.out.below HB2.out)
  have YT := Lib.hid (YW.out.take k)
  have YD : Hid (Rd wi .u8 (cutA (some ⟨b0, o0, none⟩) k c) (ys.drop k)) := Lib.hid (YW.out.cutA k c (by have := HM.out; omega))
  have LT : Hid ((ys.take k).length = k) := Lib.hid (by rw [List.length_take]; have := HM.out; omega)
  have LD : Hid ((ys.drop k).length = 80 - k) := Lib.hid (by rw [List.length_drop]; have := HM.out; omega)
  have SEV : Hid (∀ i, i < 7 → ∃ A1 l1 c1 A2 l2 c2 zs, wi.cell? ⟨GA, i, none⟩ = some (.slice A1 l1 c1) ∧ wi.cell? ⟨GB, i, none⟩ = some (.slice A2 l2 c2) ∧ l1 = (zs : List Int).length ∧ l2 = zs.length ∧ Rd wi .u8 A1 zs ∧ Rd wi .u8 A2 zs ∧ zs.length ≤ 80) := Lib.hid (fun i hi => by
    rcases lt7 hi with rfl | rfl | rfl | rfl | rfl | rfl | rfl
    · exact ⟨_, _, _, _, _, _, (ys.take k), BA2.out.cell 0, BW.out.cell 0, LT.out.symm, LT.out.symm, own_rd Pr.out, YT.out, (by rw [LT.out]; omega)⟩
    · exact ⟨_, _, _, _, _, _, (ys.drop k), BA2.out.cell 1, BW.out.cell 1, (by rw [LD.out]; have := HK2.out; omega), LD.out.symm, own_rd Ps.out, YD.out, (by rw [LD.out]; omega)⟩
    · exact ⟨_, _, _, _, _, _, (ys.take k), BA2.out.cell 2, BW.out.cell 2, LT.out.symm, LT.out.symm, own_rd Pt.out, YT.out, (by rw [LT.out]; omega)⟩
    · exact ⟨_, _, _, _, _, _, (ys.drop k), BA2.out.cell 3, BW.out.cell 3, (by rw [LD.out]; have := HK2.out; omega), LD.out.symm, own_rd Pu.out, YD.out, (by rw [LD.out]; omega)⟩
    · exact ⟨_, _, _, _, _, _, ys, BA2.out.cell 4, BW.out.cell 4, HM.out, HM.out, own_rd Pa.out, YW.out, (by rw [← HM.out]; omega)⟩
    · exact ⟨_, _, _, _, _, _, ys, BA2.out.cell 5, BW.out.cell 5, HM.out, HM.out, own_rd Pb.out, YW.out, (by rw [← HM.out]; omega)⟩
    · exact ⟨_, _, _, _, _, _, ys, BA2.out.cell 6, BW.out.cell 6, HM.out, HM.out, own_rd Pd.out, YW.out, (by rw [← HM.out]; omega)⟩)
  go_loopw [20] (fun zz wx => ∃ i q : Nat, i ≤ 7 ∧ zz = .int .i64 i ∧ wx = wi.drewN q) (fun zz _ => 7 - (intOf zz).toNat)
  case atStart => exact ⟨0, 0, Nat.zero_le _, rfl, rfl⟩
  case round =>
    obtain ⟨i, q, hi7, rfl, rfl⟩ := hrel
    by_cases hlt : i < 7
    · have d7 : decide ((i : Int) < 7) = true := decide_eq_true (by omega)
      obtain ⟨A1, l1, c1, A2, l2, c2, zs, e1, e2, g1, g2, x1, x2, xl⟩ := SEV.out i hlt
      have X1 := Lib.hid x1
      have X2 := Lib.hid x2
      have XL := Lib.hid (show l1 = zs.length ∧ l2 = zs.length ∧ zs.length ≤ 80 from ⟨g1, g2, xl⟩)
      clear x1 x2 g1 g2 xl
      go_wp2_with fail
      have N1 := Lib.hid XL.out.1
      have N2 := Lib.hid XL.out.2.1
      have HCL : Hid (zs.length ≤ 9223372036854775807) := Lib.hid (by have := XL.out.2.2; omega)
      go_quiet (first | (go_at_call 20; exact same_qt _ _ N1 N2 X1 X2 HCL.out))
      go_wp2_with fail
      go_roundw
      case rel => exact ⟨i + 1, _, by omega, by go_num, rfl⟩
      case measure => simp [intOf]; omega
    · obtain rfl : i = 7 := by omega
      go_wp2_with fail
      have BA3 := Lib.hid (BA2.out.drewN q)
      have FZ3 : Hid (Fz (wi.drewN q) w8.heap.size G cg rest p1 g1 [] p2 g2 [] p3 g3 p4 g4 80 ys) := Lib.hid (FZ2.out.fr ((Fr.refl (fun _ => False) wi).drewN q) (fun _ _ h => h))
      have HB3 := Lib.hid (belowN HB2.out q)
      have Tr := Lib.hid (show Own (wi.drewN q) _ 5 .u8 (.slice Ar k cr) (ys.take k) from own_len (Pr.out.drewN q) LT.out.symm)
      have Ts := Lib.hid (show Own (wi.drewN q) _ 5 .u8 (.slice As K2 cs) (ys.drop k) from own_len (Ps.out.drewN q) (by rw [LD.out]; have := HK2.out; omega))
      have Tt := Lib.hid (show Own (wi.drewN q) _ 5 .u8 (.slice At k ct) (ys.take k) from own_len (Pt.out.drewN q) LT.out.symm)
      have Tu := Lib.hid (show Own (wi.drewN q) _ 5 .u8 (.slice Au K2 cu) (ys.drop k) from own_len (Pu.out.drewN q) (by rw [LD.out]; have := HK2.out; omega))
      have Ta := Lib.hid (show Own (wi.drewN q) _ 5 .u8 (.slice Aa 80 ca) ys from own_len (Pa.out.drewN q) HM.out)
      have Tb := Lib.hid (show Own (wi.drewN q) _ 5 .u8 (.slice Ab 80 cb) ys from own_len (Pb.out.drewN q) HM.out)
      have Td := Lib.hid (show Own (wi.drewN q) _ 5 .u8 (.slice Ad 80 cd) ys from own_len (Pd.out.drewN q) HM.out)
      have Ur := Lib.hid (show Rg (.slice Ar k cr) wb.heap.size wc.heap.size from rg_len Gr.out LT.out.symm)
      have Us := Lib.hid (show Rg (.slice As K2 cs) wc.heap.size wd.heap.size from rg_len Gs.out (by rw [LD.out]; have := HK2.out; omega))
      have Ut := Lib.hid (show Rg (.slice At k ct) wd.heap.size we.heap.size from rg_len Gt.out LT.out.symm)
      have Uu := Lib.hid (show Rg (.slice Au K2 cu) we.heap.size wf.heap.size from rg_len Gu.out (by rw [LD.out]; have := HK2.out; omega))
      have Ua := Lib.hid (show Rg (.slice Aa 80 ca) w8.heap.size w9.heap.size from rg_len Ga.out HM.out)
      have Ub := Lib.hid (show Rg (.slice Ab 80 cb) w9.heap.size wa.heap.size from rg_len Gb.out HM.out)
      have Ud := Lib.hid (show Rg (.slice Ad 80 cd) wa.heap.size wb.heap.size from rg_len Gd.out HM.out)
      clear BW BA2 FZ2 HB2 SEV YW YT YD Pr Ps Pt Pu Pa Pb Pd Gr Gs Gt Gu Ga Gb Gd
      generalize wi.drewN q = wj at BA3 FZ3 HB3 Tr Ts Tt Tu Ta Tb Td ⊢
      have SZ : Hid (w8.heap.size ≤ w9.heap.size ∧ w9.heap.size ≤ wa.heap.size ∧ wa.heap.size ≤ wb.heap.size ∧ wb.heap.size ≤ wc.heap.size ∧ wc.heap.size ≤ wd.heap.size ∧ wd.heap.size ≤ we.heap.size ∧ we.heap.size ≤ wf.heap.size) := Lib.hid ⟨Sa.out, Sb.out, Sd.out, Sr.out, Ss.out, St.out, Su.out⟩
      have hap := apart_any w8.heap.size GA 7 7 (sev (.slice Ar k cr) (.slice As K2 cs) (.slice At k ct) (.slice Au K2 cu) (.slice Aa 80 ca) (.slice Ab 80 cb) (.slice Ad 80 cd)) (fun j => [k, K2, k, K2, 80, 80, 80].getD j 0) (fun j => [ys.take k, ys.drop k, ys.take k, ys.drop k, ys, ys, ys].getD j []) wj (by decide) (fun j hj => by rcases lt7 hj with rfl | rfl | rfl | rfl | rfl | rfl | rfl; exact LT.out; exact (by show (ys.drop k).length = K2; rw [LD.out]; have := HK2.out; omega); exact LT.out; exact (by show (ys.drop k).length = K2; rw [LD.out]; have := HK2.out; omega); exact HM.out.symm; exact HM.out.symm; exact HM.out.symm)
        (sev_all (P := fun j v => Own wj w8.heap.size 5 .u8 v ((fun j => [ys.take k, ys.drop k, ys.take k, ys.drop k, ys, ys, ys].getD j []) j)) (Tr.out.lower (by have := SZ.out; omega)) (Ts.out.lower (by have := SZ.out; omega)) (Tt.out.lower (by have := SZ.out; omega)) (Tu.out.lower (by have := SZ.out; omega)) (Ta.out.lower (by have := SZ.out; omega)) (Tb.out.lower (by have := SZ.out; omega)) (Td.out.lower (by have := SZ.out; omega)))
        (rg_dist (lo := lo7 wb.heap.size wc.heap.size wd.heap.size we.heap.size w8.heap.size w9.heap.size wa.heap.size) (hi := lo7 wc.heap.size wd.heap.size we.heap.size wf.heap.size w9.heap.size wa.heap.size wb.heap.size) (fun j hj => by rcases lt7 hj with rfl | rfl | rfl | rfl | rfl | rfl | rfl; exact Ur.out; exact Us.out; exact Ut.out; exact Uu.out; exact Ua.out; exact Ub.out; exact Ud.out) (lo7_dist SZ.out.1 SZ.out.2.1 SZ.out.2.2.1 SZ.out.2.2.2.1 SZ.out.2.2.2.2.1 SZ.out.2.2.2.2.2.1 SZ.out.2.2.2.2.2.2))
        (sev_all (P := fun j v => v.ownBlock ≠ some GA) (fun h => by have h1 := (Ur.out _ h).2; have h2 := HGA.out; have h3 := SZ.out; omega) (fun h => by have h1 := (Us.out _ h).2; have h2 := HGA.out; have h3 := SZ.out; omega) (fun h => by have h1 := (Ut.out _ h).2; have h2 := HGA.out; have h3 := SZ.out; omega) (fun h => by have h1 := (Uu.out _ h).2; have h2 := HGA.out; have h3 := SZ.out; omega) (fun h => by have h1 := (Ua.out _ h).2; have h2 := HGA.out; have h3 := SZ.out; omega) (fun h => by have h1 := (Ub.out _ h).2; have h2 := HGA.out; have h3 := SZ.out; omega) (fun h => by have h1 := (Ud.out _ h).2; have h2 := HGA.out; have h3 := SZ.out; omega))
        (sev_all (P := fun j v => wj.cell? ⟨GA, j, none⟩ = some v) (BA3.out.cell 0) (BA3.out.cell 1) (BA3.out.cell 2) (BA3.out.cell 3) (BA3.out.cell 4) (BA3.out.cell 5) (BA3.out.cell 6))
        FZ3.out.size (fun j hj => by rcases lt7 hj with rfl | rfl | rfl | rfl | rfl | rfl | rfl <;> simp <;> omega)
      refine hap.mono ?_
      rintro e wk ⟨rfl, hfk⟩
      have hlow : ∀ j, Blks 7 (sev (.slice Ar k cr) (.slice As K2 cs) (.slice At k ct) (.slice Au K2 cu) (.slice Aa 80 ca) (.slice Ab 80 cb) (.slice Ad 80 cd)) j → w8.heap.size ≤ j := fun j ⟨i, hi, hb⟩ => by
        have := SZ.out
        rcases lt7 hi with rfl | rfl | rfl | rfl | rfl | rfl | rfl
        · have := Ur.out j hb; omega
        · have := Us.out j hb; omega
        · have := Ut.out j hb; omega
        · have := Uu.out j hb; omega
        · have := Ua.out j hb; omega
        · have := Ub.out j hb; omega
        · have := Ud.out j hb; omega
      have FZ4 := Lib.hid (FZ3.out.fr hfk (fun j hj hk => by have := hlow j hk; omega))
      have HB4 := Lib.hid (HB3.out.trans (hfk.below HB3.out.size (fun j hj => by have := hlow j hj; have := FZ3.out.below; have := OB.out; omega)))
      clear hap hfk hlow FZ3 HB3 BA3 Tr Ts Tt Tu Ta Tb Td Ur Us Ut Uu Ua Ub Ud
      go_wp2_with fail
      refine (still_any (some ⟨b0, o0, none⟩) G cg c 80 80 ys rest wk HM.out HM.out FZ4.out.len (HY.out.below HB4.out)).mono ?_
      rintro e w' ⟨q5, rfl, rfl⟩
      have FZ5 : Hid (Fz (wk.drewN q5) w8.heap.size G cg rest p1 g1 [] p2 g2 [] p3 g3 p4 g4 80 ys) := Lib.hid (FZ4.out.fr ((Fr.refl (fun _ => False) wk).drewN q5) (fun _ _ h => h))
      have HB5 := Lib.hid (belowN HB4.out q5)
      generalize wk.drewN q5 = wl at FZ5 HB5
      clear FZ4 HB4
      go_wp2_with fail
      refine (wdone_any p3 g3 80 ys 0 wl FZ5.out.w1 (by omega) (by have := HM.out; omega)).mono ?_
      rintro e wm ⟨vx, rfl, Ox, bbx⟩
      rw [show dnL 80 ys 0 = ys from if_pos ⟨rfl, by have := HM.out; omega⟩] at Ox
      have FZ6 := Lib.hid (FZ5.out.fr (Fr.of_below bbx.out (fun _ => False)) (fun _ _ h => h))
      have HB6 := Lib.hid (HB5.out.trans (bbx.out.mono HB5.out.size))
      clear bbx FZ5 HB5
      go_wp2_with fail
      refine (wdone_any p4 g4 80 ys 0 wm FZ6.out.w2 (by omega) (by have := HM.out; omega)).mono ?_
      rintro e wn ⟨vy, rfl, Oy, bby⟩
      rw [show dnL 80 ys 0 = ys from if_pos ⟨rfl, by have := HM.out; omega⟩] at Oy
      have FZ7 := Lib.hid (FZ6.out.fr (Fr.of_below bby.out (fun _ => False)) (fun _ _ h => h))
      have HB7 := Lib.hid (HB6.out.trans (bby.out.mono HB6.out.size))
      have Ox2 := Lib.hid (Ox.out.below bby.out)
      clear bby FZ6 HB6 Ox
      obtain ⟨Ax, cx, rfl, -, -, rx, -⟩ := Ox2.out.slice
      obtain ⟨Ay, cy, rfl, -, -, ry, -⟩ := Oy.out.slice
      have RX := Lib.hid rx
      have RY := Lib.hid ry
      have YN := Lib.hid (HY.out.below HB7.out)
      clear rx ry Ox2 Oy
      go_wp2_with fail
      refine (same_any Ax (some ⟨b0, o0, none⟩) _ 80 cx c ys ys wn rfl HM.out RX.out YN.out (by have := HM.out; omega) (by have := HM.out; omega)).mono ?_
      rintro e w' ⟨q6, rfl, rfl⟩
      rw [show decide (ys = ys) = true from by simp]
      go_wp2_with fail
      refine (same_any Ay (some ⟨b0, o0, none⟩) _ 80 cy c ys ys _ rfl HM.out (RY.out.draws _) (YN.out.draws _) (by have := HM.out; omega) (by have := HM.out; omega)).mono ?_
      rintro e w' ⟨q7, rfl, rfl⟩
      rw [show decide (ys = ys) = true from by simp]
      have R1z : Hid (Rdr ((wn.drewN q6).drewN q7) p1 g1 [] 0) := Lib.hid ((FZ7.out.r1.drewN q6).drewN q7)
      have R2z : Hid (Rdr ((wn.drewN q6).drewN q7) p2 g2 [] 0) := Lib.hid ((FZ7.out.r2.drewN q6).drewN q7)
      have HBz := Lib.hid (belowN (belowN HB7.out q6) q7)
      generalize (wn.drewN q6).drewN q7 = wz at R1z R2z HBz
      clear RX RY YN FZ7 HB7
      go_wp2_with fail
      refine (left_any p1 g1 [] 0 wz R1z.out).mono ?_
      rintro e' w' ⟨rfl, hww⟩
      obtain rfl : wz = w' := hww.symm
      go_wp2_with fail
      refine (rend_any p2 g2 [] 0 wz R2z.out).mono ?_
      rintro e' w' ⟨rfl, hww⟩
      obtain rfl : wz = w' := hww.symm
      rw [show enR [] 0 = 0 from by decide]
      go_wp2_with fail
      go_ret
      exact ⟨rfl, HBz.out⟩
end Go.Proofs.Ytcibhaoilcohbaa

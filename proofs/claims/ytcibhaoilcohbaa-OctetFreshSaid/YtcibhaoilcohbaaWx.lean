/-
  Walk: the law OctetWrites.
-/
import Derived.Test.YtcibhaoilcohbaaWw
set_option linter.unusedVariables false
set_option linter.unusedSimpArgs false
namespace Go.Proofs.Ytcibhaoilcohbaa
open Go.RowKit

theorem st_drewN {w0 : World} {a b : Bool} {p p2 z p3 p4 y : Nat} {w : World} (h : St w0 a b p p2 z p3 p4 y w) (q : Nat) : St w0 a b p p2 z p3 p4 y (w.drewN q) := h.fr ((Fr.refl _ w).drewN q)
theorem st_below {w0 : World} {a b : Bool} {p p2 z p3 p4 y : Nat} {w : World} (h : St w0 a b p p2 z p3 p4 y w) : Below w0.heap.size w0 w := by
  obtain ⟨g, g2, g3, g4, h1, h2, h3, h4⟩ := h
  exact h4
theorem st_new1 {w0 : World} {b : Bool} {p p2 z p3 p4 y : Nat} {w : World} (h : St w0 true b p p2 z p3 p4 y w) (o : Obj) :
    Calls Try.prog 41 #[.pointer (some ⟨p, 0, none⟩), .pointer (some ⟨p2, 0, none⟩), .agg #[.int .i64 8, .int .i64 0, .int .u64 0, .slice none 0 0]] (w.alloc o) fun e w' => e = .returned (.bool true) ∧ Hid (St w0 true b p p2 z p3 p4 y w') ∧ Hid (Fr (fun j => j < w.heap.size) (w.alloc o) w') := by
  obtain ⟨g, g2, bs, e, hD, hB, hb0, hall⟩ := st_use1 h
  have ha := (Below.refl w.heap.size w).alloc (Nat.le_refl _) o
  exact (wrote_any p g p2 g2 z bs e 8 0 0 none 0 0 [] w0 (w.alloc o) (hD.below ha) (by decide) (hb0.trans (ha.mono hb0.size)) (Rd.nil _ _ _) rfl (by simp) hB).mono fun e' w' ⟨h1, h2⟩ => ⟨h1, Lib.hid (hall w' (h2.out.after ha)), Lib.hid (by
    obtain ⟨_, _, _, _, _, _, _, hf⟩ := h2.out
    exact hf.mono (fun j hj => hD.lt hj))⟩
theorem st_new2 {w0 : World} {a : Bool} {p p2 z p3 p4 y : Nat} {w : World} (h : St w0 a true p p2 z p3 p4 y w) (o : Obj) :
    Calls Try.prog 41 #[.pointer (some ⟨p3, 0, none⟩), .pointer (some ⟨p4, 0, none⟩), .agg #[.int .i64 8, .int .i64 0, .int .u64 0, .slice none 0 0]] (w.alloc o) fun e w' => e = .returned (.bool true) ∧ Hid (St w0 a true p p2 z p3 p4 y w') ∧ Hid (Fr (fun j => j < w.heap.size) (w.alloc o) w') := by
  obtain ⟨g, g2, bs, e, hD, hB, hb0, hall⟩ := st_use2 h
  have ha := (Below.refl w.heap.size w).alloc (Nat.le_refl _) o
  exact (wrote_any p3 g p4 g2 y bs e 8 0 0 none 0 0 [] w0 (w.alloc o) (hD.below ha) (by decide) (hb0.trans (ha.mono hb0.size)) (Rd.nil _ _ _) rfl (by simp) hB).mono fun e' w' ⟨h1, h2⟩ => ⟨h1, Lib.hid (hall w' (h2.out.after ha)), Lib.hid (by
    obtain ⟨_, _, _, _, _, _, _, hf⟩ := h2.out
    exact hf.mono (fun j hj => hD.lt hj))⟩
theorem duo_new {w w' : World} {p p2 z : Nat} (h1 : Wtr 111 w p p z [] 0) (h2 : Wtr 113 w p2 p2 z [] 0) (hn : p ≠ p2) (hz : z ≤ 1048576) : Duo w p p p2 p2 z [] 0 := ⟨h1, h2, ⟨hn, hn, hn, hn⟩, Nat.zero_le _, by omega⟩

set_option maxRecDepth 100000 in
set_option maxHeartbeats 8000000 in
theorem writes_yy (z : Nat) (hz : z ≤ 1048576) (y : Nat) (hy : y ≤ 1048576) (S1 : Option Addr) (k1 c1 : Nat) (f1 : Nat → Stp) (S2 : Option Addr) (k2 c2 : Nat) (f2 : Nat → Stp) (w : World)
    (hs1 : RdS w S1 f1 k1) (hs2 : RdS w S2 f2 k2) (ho1 : NumOk f1 k1) (ho2 : NumOk f2 k2) (hd1 : DataOk w f1 k1) (hd2 : DataOk w f2 k2) (hk1 : k1 ≤ 140737488354000) (hk2 : k2 ≤ 140737488354000) :
    Calls Try.prog 7 #[.agg #[.int .i64 z, .int .i64 y, .slice S1 k1 c1, .slice S2 k2 c2]] w fun e w' => e = .returned (.bool true) ∧ Below w.heap.size w w' := by
  have HS1 := Lib.hid hs1
  have HS2 := Lib.hid hs2
  have HO1 := Lib.hid ho1
  have HO2 := Lib.hid ho2
  have HD1 := Lib.hid hd1
  have HD2 := Lib.hid hd2
  have HZ := Lib.hid hz
  have HY := Lib.hid hy
  have W0 := Lib.hid ((Below.refl w.heap.size w).alloc (Nat.le_refl _) (.cells #[.int .i64 z, .int .i64 y, .slice S1 k1 c1, .slice S2 k2 c2] 57))
  have B0 := Blk.new w 57 [.int .i64 z, .int .i64 y, .slice S1 k1 c1, .slice S2 k2 c2]
  have q0 : (w.alloc (.cells #[.int .i64 z, .int .i64 y, .slice S1 k1 c1, .slice S2 k2 c2] 57)).cell? ⟨w.heap.size, 0, none⟩ = some (.int .i64 z) := B0.cell 0
  have q1 : (w.alloc (.cells #[.int .i64 z, .int .i64 y, .slice S1 k1 c1, .slice S2 k2 c2] 57)).cell? ⟨w.heap.size, 1, none⟩ = some (.int .i64 y) := B0.cell 1
  have q2 : (w.alloc (.cells #[.int .i64 z, .int .i64 y, .slice S1 k1 c1, .slice S2 k2 c2] 57)).cell? ⟨w.heap.size, 2, none⟩ = some (.slice S1 k1 c1) := B0.cell 2
  have q3 : (w.alloc (.cells #[.int .i64 z, .int .i64 y, .slice S1 k1 c1, .slice S2 k2 c2] 57)).cell? ⟨w.heap.size, 3, none⟩ = some (.slice S2 k2 c2) := B0.cell 3
  clear hs1 hs2 ho1 ho2 hd1 hd2 B0 hz hy
  go_enter Try.func7, Try.ntmps7
  go_wp2_with fail
  generalize w.alloc (.cells #[.int .i64 z, .int .i64 y, .slice S1 k1 c1, .slice S2 k2 c2] 57) = wz at W0 q0 q1 q2 q3
  go_quiet (fail)
  have W1 := Lib.hid (belowN W0.out nq)
  generalize wz.drewN nq = w1 at W1
  clear W0 q0 q1 q2 q3
  go_wp2_with fail
  refine (nw_ok z w1 HZ.out).mono ?_
  rintro e w2 ⟨p, rfl, R1P, R1, R1B⟩
  go_wp2_with fail
  refine (nq_ok z w2 HZ.out).mono ?_
  rintro e w3 ⟨p2, rfl, R2P, R2, R2B⟩
  have DA : Hid (Duo w3 p p p2 p2 z [] 0) := Lib.hid (duo_new (w' := w3) (R1.out.below R2B.out) R2.out (by have := R1.out.lt; have := R2P.out; omega) HZ.out)
  have DAP : Hid (w.heap.size ≤ p ∧ w.heap.size ≤ p2 ∧ w1.heap.size ≤ p ∧ w1.heap.size ≤ p2) := Lib.hid (by have := R1P.out; have := R2P.out; have := W1.out.size; have := R1B.out.size; omega)
  have W3 := Lib.hid ((W1.out.trans (R1B.out.mono W1.out.size)).trans (R2B.out.mono (W1.out.trans (R1B.out.mono W1.out.size)).size))
  have DAB : Hid (Below w1.heap.size w1 w3) := Lib.hid (R1B.out.trans (R2B.out.mono R1B.out.size))
  clear R1P R1 R1B R2P R2 R2B W1
  go_wp2_with fail
  refine (nw_ok y w3 HY.out).mono ?_
  rintro e w4 ⟨p3, rfl, R3P, R3, R3B⟩
  go_wp2_with fail
  refine (nq_ok y w4 HY.out).mono ?_
  rintro e w5 ⟨p4, rfl, R4P, R4, R4B⟩
  have DB : Hid (Duo w5 p3 p3 p4 p4 y [] 0) := Lib.hid (duo_new (w' := w5) (R3.out.below R4B.out) R4.out (by have := R3.out.lt; have := R4P.out; omega) HY.out)
  have DBP : Hid (w.heap.size ≤ p3 ∧ w.heap.size ≤ p4 ∧ w3.heap.size ≤ p3 ∧ w3.heap.size ≤ p4) := Lib.hid (by have := R3P.out; have := R4P.out; have := W3.out.size; have := R3B.out.size; omega)
  have W5 := Lib.hid ((W3.out.trans (R3B.out.mono W3.out.size)).trans (R4B.out.mono (W3.out.trans (R3B.out.mono W3.out.size)).size))
  have DBB : Hid (Below w3.heap.size w3 w5) := Lib.hid (R3B.out.trans (R4B.out.mono R3B.out.size))
  clear R3P R3 R3B R4P R4 R4B W3
  go_wp2_with fail
  have ST : Hid (St w true true p p2 z p3 p4 y w5) := Lib.hid (⟨p, p2, p3, p4, (fun _ => ⟨⟨[], 0, DA.out.below DBB.out⟩, (by have := DAP.out; omega)⟩), (fun _ => ⟨⟨[], 0, DB.out⟩, (by have := DBP.out; omega)⟩), (fun _ _ j hj hj3 => by have h1 := DA.out.1.lt; have h2 := DA.out.2.1.lt; have h3 := DBP.out; unfold In4 at hj hj3; omega), W5.out⟩)
  clear DA DAP DAB DB DBP DBB
  go_loopw [15] (fun zz wx => ∃ k : Nat, zz = .int .i64 k ∧ Hid (k ≤ k1 ∨ k ≤ k2) ∧ Hid (St w true true p p2 z p3 p4 y wx)) (fun zz _ => k1 + k2 - (intOf zz).toNat)
  case atStart => exact ⟨0, rfl, Lib.hid (.inl (Nat.zero_le _)), ST⟩
  case round =>
    clear ST
    obtain ⟨i, rfl, HI, SR⟩ := hrel
    have hi0 : i ≤ 140737488354000 := by have := HI.out; omega
    by_cases hi1 : i < k1
    · have d1 : decide ((i : Int) < (k1 : Int)) = true := by simp; omega
      by_cases hi2 : i < k2
      · have d2 : decide ((i : Int) < (k2 : Int)) = true := by simp; omega
        obtain ⟨b1, o1, hA1, hbl1, a0, a1, a2, a3⟩ := (HS1.out.below (st_below SR.out)) i hi1
        subst hA1
        obtain ⟨b2, o2, hA2, hbl2, c0, c1, c2, c3⟩ := (HS2.out.below (st_below SR.out)) i hi2
        subst hA2
        go_wp2_with fail
        refine (st_call1 (w := wr) SR.out f1 k1 i hi1 HO1.out HD1.out).mono ?_
        rintro e wy ⟨rfl, SY⟩
        clear SR a0 a1 a2 a3 hbl1 c0 c1 c2 c3 hbl2
        obtain ⟨b3, o3, hA2, hbl2, c0, c1, c2, c3⟩ := (HS2.out.below (st_below SY.out)) i hi2
        cases hA2
        go_wp2_with fail
        refine (st_call2 (w := wy) SY.out f2 k2 i hi2 HO2.out HD2.out).mono ?_
        rintro e wx ⟨rfl, SX⟩
        clear SY c0 c1 c2 c3 hbl2
        go_wp2_with fail
        go_roundw
        case rel => exact ⟨i + 1, by go_num, Lib.hid (by omega), SX⟩
        case measure => simp [intOf]; omega
      · have d2 : decide ((i : Int) < (k2 : Int)) = false := by simp; omega
        obtain ⟨b1, o1, hA1, hbl1, a0, a1, a2, a3⟩ := (HS1.out.below (st_below SR.out)) i hi1
        subst hA1
        go_wp2_with fail
        refine (st_call1 (w := wr) SR.out f1 k1 i hi1 HO1.out HD1.out).mono ?_
        rintro e wx ⟨rfl, SX⟩
        clear SR a0 a1 a2 a3 hbl1
        go_wp2_with fail
        go_roundw
        case rel => exact ⟨i + 1, by go_num, Lib.hid (by omega), SX⟩
        case measure => simp [intOf]; omega
    · have d1 : decide ((i : Int) < (k1 : Int)) = false := by simp; omega
      by_cases hi2 : i < k2
      · have d2 : decide ((i : Int) < (k2 : Int)) = true := by simp; omega
        obtain ⟨b2, o2, hA2, hbl2, c0, c1, c2, c3⟩ := (HS2.out.below (st_below SR.out)) i hi2
        subst hA2
        go_wp2_with fail
        refine (st_call2 (w := wr) SR.out f2 k2 i hi2 HO2.out HD2.out).mono ?_
        rintro e wx ⟨rfl, SX⟩
        clear SR c0 c1 c2 c3 hbl2
        go_wp2_with fail
        go_roundw
        case rel => exact ⟨i + 1, by go_num, Lib.hid (by omega), SX⟩
        case measure => simp [intOf]; omega
      · have d2 : decide ((i : Int) < (k2 : Int)) = false := by simp; omega
        go_wp2_with fail
        refine (st_new1 (w := wr) SR.out _).mono ?_
        rintro e wl1 ⟨rfl, SL1, FL⟩
        have BL : Hid (Blk wl1 wr.heap.size 52 [.int .i64 8, .int .i64 0, .int .u64 0, .slice none 0 0]) := Lib.hid ((Blk.new wr 52 _).fr FL.out (Nat.lt_irrefl _))
        clear FL
        go_wp2_with fail
        obtain ⟨r1, hc1⟩ := st_left1 SL1.out
        have HC1 := Lib.hid hc1
        clear hc1
        refine HC1.out.1.mono ?_
        rintro e w' ⟨rfl, q1, rfl⟩
        go_wp2_with fail
        refine (HC1.out.2 q1).mono ?_
        rintro e w' ⟨rfl, q2, rfl⟩
        have SM1 := Lib.hid (st_drewN (st_drewN SL1.out q1) q2)
        have BM : Hid (Blk ((wl1.drewN q1).drewN q2) wr.heap.size 52 [.int .i64 8, .int .i64 0, .int .u64 0, .slice none 0 0]) := Lib.hid ((BL.out.drewN q1).drewN q2)
        generalize (wl1.drewN q1).drewN q2 = wm1 at SM1 BM
        have l0 : wm1.cell? ⟨wr.heap.size, 0, none⟩ = some (.int .i64 8) := BM.out.cell 0
        have l1 : wm1.cell? ⟨wr.heap.size, 1, none⟩ = some (.int .i64 0) := BM.out.cell 1
        have l2 : wm1.cell? ⟨wr.heap.size, 2, none⟩ = some (.int .u64 0) := BM.out.cell 2
        have l3 : wm1.cell? ⟨wr.heap.size, 3, none⟩ = some (.slice none 0 0) := BM.out.cell 3
        clear SL1 HC1 SR
        go_wp2_with fail
        refine (st_last2 (w := wm1) SM1.out).mono ?_
        rintro e wl2 ⟨rfl, SL2⟩
        go_wp2_with fail
        obtain ⟨r2, hc2⟩ := st_left2 SL2.out
        have HC2 := Lib.hid hc2
        clear hc2
        refine HC2.out.1.mono ?_
        rintro e w' ⟨rfl, q1, rfl⟩
        go_wp2_with fail
        refine (HC2.out.2 q1).mono ?_
        rintro e w' ⟨rfl, q2, rfl⟩
        have SM2 := Lib.hid (st_drewN (st_drewN SL2.out q1) q2)
        generalize (wl2.drewN q1).drewN q2 = wm2 at SM2
        clear SL2 HC2 SM1
        go_wp2_with fail
        go_ret
        exact ⟨rfl, st_below SM2.out⟩

set_option maxRecDepth 100000 in
set_option maxHeartbeats 8000000 in
theorem writes_yn (z : Nat) (hz : z ≤ 1048576) (y : Int) (hy : y < 0 ∨ 1048576 < y) (S1 : Option Addr) (k1 c1 : Nat) (f1 : Nat → Stp) (S2 : Option Addr) (k2 c2 : Nat) (f2 : Nat → Stp) (w : World)
    (hs1 : RdS w S1 f1 k1) (hs2 : RdS w S2 f2 k2) (ho1 : NumOk f1 k1) (ho2 : NumOk f2 k2) (hd1 : DataOk w f1 k1) (hd2 : DataOk w f2 k2) (hk1 : k1 ≤ 140737488354000) (hk2 : k2 ≤ 140737488354000) :
    Calls Try.prog 7 #[.agg #[.int .i64 z, .int .i64 y, .slice S1 k1 c1, .slice S2 k2 c2]] w fun e w' => e = .returned (.bool true) ∧ Below w.heap.size w w' := by
  have HS1 := Lib.hid hs1
  have HS2 := Lib.hid hs2
  have HO1 := Lib.hid ho1
  have HO2 := Lib.hid ho2
  have HD1 := Lib.hid hd1
  have HD2 := Lib.hid hd2
  have HZ := Lib.hid hz
  have HY := Lib.hid hy
  have W0 := Lib.hid ((Below.refl w.heap.size w).alloc (Nat.le_refl _) (.cells #[.int .i64 z, .int .i64 y, .slice S1 k1 c1, .slice S2 k2 c2] 57))
  have B0 := Blk.new w 57 [.int .i64 z, .int .i64 y, .slice S1 k1 c1, .slice S2 k2 c2]
  have q0 : (w.alloc (.cells #[.int .i64 z, .int .i64 y, .slice S1 k1 c1, .slice S2 k2 c2] 57)).cell? ⟨w.heap.size, 0, none⟩ = some (.int .i64 z) := B0.cell 0
  have q1 : (w.alloc (.cells #[.int .i64 z, .int .i64 y, .slice S1 k1 c1, .slice S2 k2 c2] 57)).cell? ⟨w.heap.size, 1, none⟩ = some (.int .i64 y) := B0.cell 1
  have q2 : (w.alloc (.cells #[.int .i64 z, .int .i64 y, .slice S1 k1 c1, .slice S2 k2 c2] 57)).cell? ⟨w.heap.size, 2, none⟩ = some (.slice S1 k1 c1) := B0.cell 2
  have q3 : (w.alloc (.cells #[.int .i64 z, .int .i64 y, .slice S1 k1 c1, .slice S2 k2 c2] 57)).cell? ⟨w.heap.size, 3, none⟩ = some (.slice S2 k2 c2) := B0.cell 3
  clear hs1 hs2 ho1 ho2 hd1 hd2 B0 hz hy
  go_enter Try.func7, Try.ntmps7
  go_wp2_with fail
  generalize w.alloc (.cells #[.int .i64 z, .int .i64 y, .slice S1 k1 c1, .slice S2 k2 c2] 57) = wz at W0 q0 q1 q2 q3
  go_quiet (fail)
  have W1 := Lib.hid (belowN W0.out nq)
  generalize wz.drewN nq = w1 at W1
  clear W0 q0 q1 q2 q3
  go_wp2_with fail
  refine (nw_ok z w1 HZ.out).mono ?_
  rintro e w2 ⟨p, rfl, R1P, R1, R1B⟩
  go_wp2_with fail
  refine (nq_ok z w2 HZ.out).mono ?_
  rintro e w3 ⟨p2, rfl, R2P, R2, R2B⟩
  have DA : Hid (Duo w3 p p p2 p2 z [] 0) := Lib.hid (duo_new (w' := w3) (R1.out.below R2B.out) R2.out (by have := R1.out.lt; have := R2P.out; omega) HZ.out)
  have DAP : Hid (w.heap.size ≤ p ∧ w.heap.size ≤ p2 ∧ w1.heap.size ≤ p ∧ w1.heap.size ≤ p2) := Lib.hid (by have := R1P.out; have := R2P.out; have := W1.out.size; have := R1B.out.size; omega)
  have W3 := Lib.hid ((W1.out.trans (R1B.out.mono W1.out.size)).trans (R2B.out.mono (W1.out.trans (R1B.out.mono W1.out.size)).size))
  have DAB : Hid (Below w1.heap.size w1 w3) := Lib.hid (R1B.out.trans (R2B.out.mono R1B.out.size))
  clear R1P R1 R1B R2P R2 R2B W1
  go_wp2_with fail
  refine (nw_no y w3 HY.out).mono ?_
  rintro e' w' ⟨rfl, hww⟩
  obtain rfl : w3 = w' := hww.symm
  go_wp2_with fail
  refine (nq_no y w3 HY.out).mono ?_
  rintro e' w' ⟨rfl, hww⟩
  obtain rfl : w3 = w' := hww.symm
  have W5 := W3
  clear W3
  go_wp2_with fail
  have ST : Hid (St w true false p p2 z 0 0 0 w3) := Lib.hid (⟨p, p2, 0, 0, (fun _ => ⟨⟨[], 0, DA.out⟩, (by have := DAP.out; omega)⟩), (fun h => by cases h), (fun _ h => by cases h), W5.out⟩)
  clear DA DAP DAB 
  go_loopw [15] (fun zz wx => ∃ k : Nat, zz = .int .i64 k ∧ Hid (k ≤ k1 ∨ k ≤ k2) ∧ Hid (St w true false p p2 z 0 0 0 wx)) (fun zz _ => k1 + k2 - (intOf zz).toNat)
  case atStart => exact ⟨0, rfl, Lib.hid (.inl (Nat.zero_le _)), ST⟩
  case round =>
    clear ST
    obtain ⟨i, rfl, HI, SR⟩ := hrel
    have hi0 : i ≤ 140737488354000 := by have := HI.out; omega
    by_cases hi1 : i < k1
    · have d1 : decide ((i : Int) < (k1 : Int)) = true := by simp; omega
      by_cases hi2 : i < k2
      · have d2 : decide ((i : Int) < (k2 : Int)) = true := by simp; omega
        obtain ⟨b1, o1, hA1, hbl1, a0, a1, a2, a3⟩ := (HS1.out.below (st_below SR.out)) i hi1
        subst hA1
        go_wp2_with fail
        refine (st_call1 (w := wr) SR.out f1 k1 i hi1 HO1.out HD1.out).mono ?_
        rintro e wx ⟨rfl, SX⟩
        clear SR a0 a1 a2 a3 hbl1
        go_wp2_with fail
        go_roundw
        case rel => exact ⟨i + 1, by go_num, Lib.hid (by omega), SX⟩
        case measure => simp [intOf]; omega
      · have d2 : decide ((i : Int) < (k2 : Int)) = false := by simp; omega
        obtain ⟨b1, o1, hA1, hbl1, a0, a1, a2, a3⟩ := (HS1.out.below (st_below SR.out)) i hi1
        subst hA1
        go_wp2_with fail
        refine (st_call1 (w := wr) SR.out f1 k1 i hi1 HO1.out HD1.out).mono ?_
        rintro e wx ⟨rfl, SX⟩
        clear SR a0 a1 a2 a3 hbl1
        go_wp2_with fail
        go_roundw
        case rel => exact ⟨i + 1, by go_num, Lib.hid (by omega), SX⟩
        case measure => simp [intOf]; omega
    · have d1 : decide ((i : Int) < (k1 : Int)) = false := by simp; omega
      by_cases hi2 : i < k2
      · have d2 : decide ((i : Int) < (k2 : Int)) = true := by simp; omega
        go_wp2_with fail
        go_roundw
        case rel => exact ⟨i + 1, by go_num, Lib.hid (by omega), SR⟩
        case measure => simp [intOf]; omega
      · have d2 : decide ((i : Int) < (k2 : Int)) = false := by simp; omega
        go_wp2_with fail
        refine (st_new1 (w := wr) SR.out _).mono ?_
        rintro e wl1 ⟨rfl, SL1, FL⟩
        have BL : Hid (Blk wl1 wr.heap.size 52 [.int .i64 8, .int .i64 0, .int .u64 0, .slice none 0 0]) := Lib.hid ((Blk.new wr 52 _).fr FL.out (Nat.lt_irrefl _))
        clear FL
        go_wp2_with fail
        obtain ⟨r1, hc1⟩ := st_left1 SL1.out
        have HC1 := Lib.hid hc1
        clear hc1
        refine HC1.out.1.mono ?_
        rintro e w' ⟨rfl, q1, rfl⟩
        go_wp2_with fail
        refine (HC1.out.2 q1).mono ?_
        rintro e w' ⟨rfl, q2, rfl⟩
        have SM1 := Lib.hid (st_drewN (st_drewN SL1.out q1) q2)
        have BM : Hid (Blk ((wl1.drewN q1).drewN q2) wr.heap.size 52 [.int .i64 8, .int .i64 0, .int .u64 0, .slice none 0 0]) := Lib.hid ((BL.out.drewN q1).drewN q2)
        generalize (wl1.drewN q1).drewN q2 = wm1 at SM1 BM
        have l0 : wm1.cell? ⟨wr.heap.size, 0, none⟩ = some (.int .i64 8) := BM.out.cell 0
        have l1 : wm1.cell? ⟨wr.heap.size, 1, none⟩ = some (.int .i64 0) := BM.out.cell 1
        have l2 : wm1.cell? ⟨wr.heap.size, 2, none⟩ = some (.int .u64 0) := BM.out.cell 2
        have l3 : wm1.cell? ⟨wr.heap.size, 3, none⟩ = some (.slice none 0 0) := BM.out.cell 3
        clear SL1 HC1 SR
        go_wp2_with fail
        go_ret
        exact ⟨rfl, st_below SM1.out⟩

set_option maxRecDepth 100000 in
set_option maxHeartbeats 8000000 in
theorem writes_ny (z : Int) (hz : z < 0 ∨ 1048576 < z) (y : Nat) (hy : y ≤ 1048576) (S1 : Option Addr) (k1 c1 : Nat) (f1 : Nat → Stp) (S2 : Option Addr) (k2 c2 : Nat) (f2 : Nat → Stp) (w : World)
    (hs1 : RdS w S1 f1 k1) (hs2 : RdS w S2 f2 k2) (ho1 : NumOk f1 k1) (ho2 : NumOk f2 k2) (hd1 : DataOk w f1 k1) (hd2 : DataOk w f2 k2) (hk1 : k1 ≤ 140737488354000) (hk2 : k2 ≤ 140737488354000) :
    Calls Try.prog 7 #[.agg #[.int .i64 z, .int .i64 y, .slice S1 k1 c1, .slice S2 k2 c2]] w fun e w' => e = .returned (.bool true) ∧ Below w.heap.size w w' := by
  have HS1 := Lib.hid hs1
  have HS2 := Lib.hid hs2
  have HO1 := Lib.hid ho1
  have HO2 := Lib.hid ho2
  have HD1 := Lib.hid hd1
  have HD2 := Lib.hid hd2
  have HZ := Lib.hid hz
  have HY := Lib.hid hy
  have W0 := Lib.hid ((Below.refl w.heap.size w).alloc (Nat.le_refl _) (.cells #[.int .i64 z, .int .i64 y, .slice S1 k1 c1, .slice S2 k2 c2] 57))
  have B0 := Blk.new w 57 [.int .i64 z, .int .i64 y, .slice S1 k1 c1, .slice S2 k2 c2]
  have q0 : (w.alloc (.cells #[.int .i64 z, .int .i64 y, .slice S1 k1 c1, .slice S2 k2 c2] 57)).cell? ⟨w.heap.size, 0, none⟩ = some (.int .i64 z) := B0.cell 0
  have q1 : (w.alloc (.cells #[.int .i64 z, .int .i64 y, .slice S1 k1 c1, .slice S2 k2 c2] 57)).cell? ⟨w.heap.size, 1, none⟩ = some (.int .i64 y) := B0.cell 1
  have q2 : (w.alloc (.cells #[.int .i64 z, .int .i64 y, .slice S1 k1 c1, .slice S2 k2 c2] 57)).cell? ⟨w.heap.size, 2, none⟩ = some (.slice S1 k1 c1) := B0.cell 2
  have q3 : (w.alloc (.cells #[.int .i64 z, .int .i64 y, .slice S1 k1 c1, .slice S2 k2 c2] 57)).cell? ⟨w.heap.size, 3, none⟩ = some (.slice S2 k2 c2) := B0.cell 3
  clear hs1 hs2 ho1 ho2 hd1 hd2 B0 hz hy
  go_enter Try.func7, Try.ntmps7
  go_wp2_with fail
  generalize w.alloc (.cells #[.int .i64 z, .int .i64 y, .slice S1 k1 c1, .slice S2 k2 c2] 57) = wz at W0 q0 q1 q2 q3
  go_quiet (fail)
  have W1 := Lib.hid (belowN W0.out nq)
  generalize wz.drewN nq = w1 at W1
  clear W0 q0 q1 q2 q3
  go_wp2_with fail
  refine (nw_no z w1 HZ.out).mono ?_
  rintro e' w' ⟨rfl, hww⟩
  obtain rfl : w1 = w' := hww.symm
  go_wp2_with fail
  refine (nq_no z w1 HZ.out).mono ?_
  rintro e' w' ⟨rfl, hww⟩
  obtain rfl : w1 = w' := hww.symm
  have W3 := W1
  clear W1
  go_wp2_with fail
  refine (nw_ok y w1 HY.out).mono ?_
  rintro e w4 ⟨p3, rfl, R3P, R3, R3B⟩
  go_wp2_with fail
  refine (nq_ok y w4 HY.out).mono ?_
  rintro e w5 ⟨p4, rfl, R4P, R4, R4B⟩
  have DB : Hid (Duo w5 p3 p3 p4 p4 y [] 0) := Lib.hid (duo_new (w' := w5) (R3.out.below R4B.out) R4.out (by have := R3.out.lt; have := R4P.out; omega) HY.out)
  have DBP : Hid (w.heap.size ≤ p3 ∧ w.heap.size ≤ p4 ∧ w1.heap.size ≤ p3 ∧ w1.heap.size ≤ p4) := Lib.hid (by have := R3P.out; have := R4P.out; have := W3.out.size; have := R3B.out.size; omega)
  have W5 := Lib.hid ((W3.out.trans (R3B.out.mono W3.out.size)).trans (R4B.out.mono (W3.out.trans (R3B.out.mono W3.out.size)).size))
  have DBB : Hid (Below w1.heap.size w1 w5) := Lib.hid (R3B.out.trans (R4B.out.mono R3B.out.size))
  clear R3P R3 R3B R4P R4 R4B W3
  go_wp2_with fail
  have ST : Hid (St w false true 0 0 0 p3 p4 y w5) := Lib.hid (⟨0, 0, p3, p4, (fun h => by cases h), (fun _ => ⟨⟨[], 0, DB.out⟩, (by have := DBP.out; omega)⟩), (fun h => by cases h), W5.out⟩)
  clear DB DBP DBB
  go_loopw [15] (fun zz wx => ∃ k : Nat, zz = .int .i64 k ∧ Hid (k ≤ k1 ∨ k ≤ k2) ∧ Hid (St w false true 0 0 0 p3 p4 y wx)) (fun zz _ => k1 + k2 - (intOf zz).toNat)
  case atStart => exact ⟨0, rfl, Lib.hid (.inl (Nat.zero_le _)), ST⟩
  case round =>
    clear ST
    obtain ⟨i, rfl, HI, SR⟩ := hrel
    have hi0 : i ≤ 140737488354000 := by have := HI.out; omega
    by_cases hi1 : i < k1
    · have d1 : decide ((i : Int) < (k1 : Int)) = true := by simp; omega
      by_cases hi2 : i < k2
      · have d2 : decide ((i : Int) < (k2 : Int)) = true := by simp; omega
        obtain ⟨b2, o2, hA2, hbl2, c0, c1, c2, c3⟩ := (HS2.out.below (st_below SR.out)) i hi2
        subst hA2
        go_wp2_with fail
        refine (st_call2 (w := wr) SR.out f2 k2 i hi2 HO2.out HD2.out).mono ?_
        rintro e wx ⟨rfl, SX⟩
        clear SR c0 c1 c2 c3 hbl2
        go_wp2_with fail
        go_roundw
        case rel => exact ⟨i + 1, by go_num, Lib.hid (by omega), SX⟩
        case measure => simp [intOf]; omega
      · have d2 : decide ((i : Int) < (k2 : Int)) = false := by simp; omega
        go_wp2_with fail
        go_roundw
        case rel => exact ⟨i + 1, by go_num, Lib.hid (by omega), SR⟩
        case measure => simp [intOf]; omega
    · have d1 : decide ((i : Int) < (k1 : Int)) = false := by simp; omega
      by_cases hi2 : i < k2
      · have d2 : decide ((i : Int) < (k2 : Int)) = true := by simp; omega
        obtain ⟨b2, o2, hA2, hbl2, c0, c1, c2, c3⟩ := (HS2.out.below (st_below SR.out)) i hi2
        subst hA2
        go_wp2_with fail
        refine (st_call2 (w := wr) SR.out f2 k2 i hi2 HO2.out HD2.out).mono ?_
        rintro e wx ⟨rfl, SX⟩
        clear SR c0 c1 c2 c3 hbl2
        go_wp2_with fail
        go_roundw
        case rel => exact ⟨i + 1, by go_num, Lib.hid (by omega), SX⟩
        case measure => simp [intOf]; omega
      · have d2 : decide ((i : Int) < (k2 : Int)) = false := by simp; omega
        go_wp2_with fail
        refine (st_new2 (w := wr) SR.out _).mono ?_
        rintro e wl2 ⟨rfl, SL2, FL⟩
        have BL : Hid (Blk wl2 wr.heap.size 52 [.int .i64 8, .int .i64 0, .int .u64 0, .slice none 0 0]) := Lib.hid ((Blk.new wr 52 _).fr FL.out (Nat.lt_irrefl _))
        clear FL
        go_wp2_with fail
        obtain ⟨r2, hc2⟩ := st_left2 SL2.out
        have HC2 := Lib.hid hc2
        clear hc2
        refine HC2.out.1.mono ?_
        rintro e w' ⟨rfl, q1, rfl⟩
        go_wp2_with fail
        refine (HC2.out.2 q1).mono ?_
        rintro e w' ⟨rfl, q2, rfl⟩
        have SM2 := Lib.hid (st_drewN (st_drewN SL2.out q1) q2)
        have BM : Hid (Blk ((wl2.drewN q1).drewN q2) wr.heap.size 52 [.int .i64 8, .int .i64 0, .int .u64 0, .slice none 0 0]) := Lib.hid ((BL.out.drewN q1).drewN q2)
        generalize (wl2.drewN q1).drewN q2 = wm2 at SM2 BM
        have l0 : wm2.cell? ⟨wr.heap.size, 0, none⟩ = some (.int .i64 8) := BM.out.cell 0
        have l1 : wm2.cell? ⟨wr.heap.size, 1, none⟩ = some (.int .i64 0) := BM.out.cell 1
        have l2 : wm2.cell? ⟨wr.heap.size, 2, none⟩ = some (.int .u64 0) := BM.out.cell 2
        have l3 : wm2.cell? ⟨wr.heap.size, 3, none⟩ = some (.slice none 0 0) := BM.out.cell 3
        clear SL2 HC2 SR
        go_wp2_with fail
        go_ret
        exact ⟨rfl, st_below SM2.out⟩

set_option maxRecDepth 100000 in
set_option maxHeartbeats 8000000 in
theorem writes_nn (z : Int) (hz : z < 0 ∨ 1048576 < z) (y : Int) (hy : y < 0 ∨ 1048576 < y) (S1 : Option Addr) (k1 c1 : Nat) (f1 : Nat → Stp) (S2 : Option Addr) (k2 c2 : Nat) (f2 : Nat → Stp) (w : World)
    (hs1 : RdS w S1 f1 k1) (hs2 : RdS w S2 f2 k2) (ho1 : NumOk f1 k1) (ho2 : NumOk f2 k2) (hd1 : DataOk w f1 k1) (hd2 : DataOk w f2 k2) (hk1 : k1 ≤ 140737488354000) (hk2 : k2 ≤ 140737488354000) :
    Calls Try.prog 7 #[.agg #[.int .i64 z, .int .i64 y, .slice S1 k1 c1, .slice S2 k2 c2]] w fun e w' => e = .returned (.bool true) ∧ Below w.heap.size w w' := by
  have HS1 := Lib.hid hs1
  have HS2 := Lib.hid hs2
  have HO1 := Lib.hid ho1
  have HO2 := Lib.hid ho2
  have HD1 := Lib.hid hd1
  have HD2 := Lib.hid hd2
  have HZ := Lib.hid hz
  have HY := Lib.hid hy
  have W0 := Lib.hid ((Below.refl w.heap.size w).alloc (Nat.le_refl _) (.cells #[.int .i64 z, .int .i64 y, .slice S1 k1 c1, .slice S2 k2 c2] 57))
  have B0 := Blk.new w 57 [.int .i64 z, .int .i64 y, .slice S1 k1 c1, .slice S2 k2 c2]
  have q0 : (w.alloc (.cells #[.int .i64 z, .int .i64 y, .slice S1 k1 c1, .slice S2 k2 c2] 57)).cell? ⟨w.heap.size, 0, none⟩ = some (.int .i64 z) := B0.cell 0
  have q1 : (w.alloc (.cells #[.int .i64 z, .int .i64 y, .slice S1 k1 c1, .slice S2 k2 c2] 57)).cell? ⟨w.heap.size, 1, none⟩ = some (.int .i64 y) := B0.cell 1
  have q2 : (w.alloc (.cells #[.int .i64 z, .int .i64 y, .slice S1 k1 c1, .slice S2 k2 c2] 57)).cell? ⟨w.heap.size, 2, none⟩ = some (.slice S1 k1 c1) := B0.cell 2
  have q3 : (w.alloc (.cells #[.int .i64 z, .int .i64 y, .slice S1 k1 c1, .slice S2 k2 c2] 57)).cell? ⟨w.heap.size, 3, none⟩ = some (.slice S2 k2 c2) := B0.cell 3
  clear hs1 hs2 ho1 ho2 hd1 hd2 B0 hz hy
  go_enter Try.func7, Try.ntmps7
  go_wp2_with fail
  generalize w.alloc (.cells #[.int .i64 z, .int .i64 y, .slice S1 k1 c1, .slice S2 k2 c2] 57) = wz at W0 q0 q1 q2 q3
  go_quiet (fail)
  have W1 := Lib.hid (belowN W0.out nq)
  generalize wz.drewN nq = w1 at W1
  clear W0 q0 q1 q2 q3
  go_wp2_with fail
  refine (nw_no z w1 HZ.out).mono ?_
  rintro e' w' ⟨rfl, hww⟩
  obtain rfl : w1 = w' := hww.symm
  go_wp2_with fail
  refine (nq_no z w1 HZ.out).mono ?_
  rintro e' w' ⟨rfl, hww⟩
  obtain rfl : w1 = w' := hww.symm
  have W3 := W1
  clear W1
  go_wp2_with fail
  refine (nw_no y w1 HY.out).mono ?_
  rintro e' w' ⟨rfl, hww⟩
  obtain rfl : w1 = w' := hww.symm
  go_wp2_with fail
  refine (nq_no y w1 HY.out).mono ?_
  rintro e' w' ⟨rfl, hww⟩
  obtain rfl : w1 = w' := hww.symm
  have W5 := W3
  clear W3
  go_wp2_with fail
  have ST : Hid (St w false false 0 0 0 0 0 0 w1) := Lib.hid (⟨0, 0, 0, 0, (fun h => by cases h), (fun h => by cases h), (fun h => by cases h), W5.out⟩)
  skip
  go_loopw [15] (fun zz wx => ∃ k : Nat, zz = .int .i64 k ∧ Hid (k ≤ k1 ∨ k ≤ k2) ∧ Hid (St w false false 0 0 0 0 0 0 wx)) (fun zz _ => k1 + k2 - (intOf zz).toNat)
  case atStart => exact ⟨0, rfl, Lib.hid (.inl (Nat.zero_le _)), ST⟩
  case round =>
    clear ST
    obtain ⟨i, rfl, HI, SR⟩ := hrel
    have hi0 : i ≤ 140737488354000 := by have := HI.out; omega
    by_cases hi1 : i < k1
    · have d1 : decide ((i : Int) < (k1 : Int)) = true := by simp; omega
      by_cases hi2 : i < k2
      · have d2 : decide ((i : Int) < (k2 : Int)) = true := by simp; omega
        go_wp2_with fail
        go_roundw
        case rel => exact ⟨i + 1, by go_num, Lib.hid (by omega), SR⟩
        case measure => simp [intOf]; omega
      · have d2 : decide ((i : Int) < (k2 : Int)) = false := by simp; omega
        go_wp2_with fail
        go_roundw
        case rel => exact ⟨i + 1, by go_num, Lib.hid (by omega), SR⟩
        case measure => simp [intOf]; omega
    · have d1 : decide ((i : Int) < (k1 : Int)) = false := by simp; omega
      by_cases hi2 : i < k2
      · have d2 : decide ((i : Int) < (k2 : Int)) = true := by simp; omega
        go_wp2_with fail
        go_roundw
        case rel => exact ⟨i + 1, by go_num, Lib.hid (by omega), SR⟩
        case measure => simp [intOf]; omega
      · have d2 : decide ((i : Int) < (k2 : Int)) = false := by simp; omega
        go_wp2_with fail
        go_ret
        exact ⟨rfl, (st_below SR.out).alloc (st_below SR.out).size _⟩
end Go.Proofs.Ytcibhaoilcohbaa

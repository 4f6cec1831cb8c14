/-
  Walk: the law OctetReads.
-/
import Derived.Test.YtcibhaoilcohbaaRv
set_option linter.unusedVariables false
set_option linter.unusedSimpArgs false
namespace Go.Proofs.Ytcibhaoilcohbaa
open Go.RowKit

/-- A step as its cells tell it. -/
structure Stp where
  d : Int
  n : Int
  v : Int
  s : Value
/-- A row of steps. -/
def RdS (w : World) (A : Option Addr) (ss : Nat → Stp) (m : Nat) : Prop := ∀ i, i < m → ∃ b off, A = some ⟨b, off, none⟩ ∧ b < w.heap.size ∧
  w.cell? ⟨b, off + i * 4, none⟩ = some (.int .i64 (ss i).d) ∧ w.cell? ⟨b, off + i * 4 + 1, none⟩ = some (.int .i64 (ss i).n) ∧ w.cell? ⟨b, off + i * 4 + 2, none⟩ = some (.int .u64 (ss i).v) ∧ w.cell? ⟨b, off + i * 4 + 3, none⟩ = some (ss i).s
def StpOk (ss : Nat → Stp) (m : Nat) : Prop := ∀ i, i < m → -9223372036854775808 ≤ (ss i).n ∧ (ss i).n ≤ 9223372036854775807
theorem RdS.below {w w' : World} {A : Option Addr} {ss : Nat → Stp} {m : Nat} (h : RdS w A ss m) (hb : Below w.heap.size w w') : RdS w' A ss m := fun i hi => by
  obtain ⟨b, off, hA, hlt, h0, h1, h2, h3⟩ := h i hi
  exact ⟨b, off, hA, Nat.lt_of_lt_of_le hlt hb.size, (hb.cell (p := ⟨b, _, none⟩) hlt).trans h0, (hb.cell (p := ⟨b, _, none⟩) hlt).trans h1, (hb.cell (p := ⟨b, _, none⟩) hlt).trans h2, (hb.cell (p := ⟨b, _, none⟩) hlt).trans h3⟩
theorem Both.fr {S : Nat → Prop} {w w' : World} {p g p2 g2 : Nat} {bs : List Int} (h : Both w p g p2 g2 bs) (hf : Fr S w w') (h1 : ¬ S p) (h2 : ¬ S g) (h3 : ¬ S p2) (h4 : ¬ S g2) : Both w' p g p2 g2 bs := by
  obtain ⟨⟨t, e, ht, hr, hd⟩, n1, n2, n3⟩ := h
  exact ⟨⟨t, e, ht, hr.fr hf h1 h2, hd.fr hf h3 h4⟩, n1, n2, n3⟩

set_option maxRecDepth 100000 in
set_option maxHeartbeats 8000000 in
theorem reads_any (A : Option Addr) (n c : Nat) (xs : List Int) (B : Option Addr) (m d : Nat) (ys : List Int) (S1 : Option Addr) (k1 c1 : Nat) (f1 : Nat → Stp) (S2 : Option Addr) (k2 c2 : Nat) (f2 : Nat → Stp) (w : World)
    (hn : n = xs.length) (hm : m = ys.length) (hx : Rd w .u8 A xs) (hy : Rd w .u8 B ys) (hBx : B8 xs) (hBy : B8 ys) (hs1 : RdS w S1 f1 k1) (hs2 : RdS w S2 f2 k2) (ho1 : StpOk f1 k1) (ho2 : StpOk f2 k2)
    (hxl : xs.length ≤ 140737488354000) (hyl : ys.length ≤ 140737488354000) (hk1 : k1 ≤ 140737488354000) (hk2 : k2 ≤ 140737488354000) :
    Calls Try.prog 6 #[.agg #[.slice A n c, .slice B m d, .slice S1 k1 c1, .slice S2 k2 c2]] w fun e w' => e = .returned (.bool true) ∧ Below w.heap.size w w' := by
  have HX := Lib.hid hx
  have HY := Lib.hid hy
  have HN := Lib.hid hn
  have HM := Lib.hid hm
  have HBX := Lib.hid hBx
  have HBY := Lib.hid hBy
  have HS1 := Lib.hid hs1
  have HS2 := Lib.hid hs2
  have HO1 := Lib.hid ho1
  have HO2 := Lib.hid ho2
  have hn63 : n ≤ 140737488354000 := by omega
  have hm63 : m ≤ 140737488354000 := by omega
  have W0 := Lib.hid ((Below.refl w.heap.size w).alloc (Nat.le_refl _) (.cells #[.slice A n c, .slice B m d, .slice S1 k1 c1, .slice S2 k2 c2] 45))
  clear hx hy hn hm hBx hBy hs1 hs2 ho1 ho2
  go_enter Try.func6, Try.ntmps6
  go_wp2_with fail
  have B0 := Blk.new w 45 [.slice A n c, .slice B m d, .slice S1 k1 c1, .slice S2 k2 c2]
  have q0 : (w.alloc (.cells #[.slice A n c, .slice B m d, .slice S1 k1 c1, .slice S2 k2 c2] 45)).cell? ⟨w.heap.size, 0, none⟩ = some (.slice A n c) := B0.cell 0
  have q1 : (w.alloc (.cells #[.slice A n c, .slice B m d, .slice S1 k1 c1, .slice S2 k2 c2] 45)).cell? ⟨w.heap.size, 1, none⟩ = some (.slice B m d) := B0.cell 1
  have q2 : (w.alloc (.cells #[.slice A n c, .slice B m d, .slice S1 k1 c1, .slice S2 k2 c2] 45)).cell? ⟨w.heap.size, 2, none⟩ = some (.slice S1 k1 c1) := B0.cell 2
  have q3 : (w.alloc (.cells #[.slice A n c, .slice B m d, .slice S1 k1 c1, .slice S2 k2 c2] 45)).cell? ⟨w.heap.size, 3, none⟩ = some (.slice S2 k2 c2) := B0.cell 3
  generalize w.alloc (.cells #[.slice A n c, .slice B m d, .slice S1 k1 c1, .slice S2 k2 c2] 45) = w0 at W0 q0 q1 q2 q3
  clear B0
  go_quiet (fail)
  have W1 := Lib.hid (belowN W0.out nq)
  generalize w0.drewN nq = w1 at W1
  clear W0 q0 q1 q2 q3
  go_wp2_with fail
  refine (lent_any A n c xs w1 HN.out (HX.out.below W1.out) (by have := HN.out; omega)).mono ?_
  rintro e w2 ⟨G1, cg1, rest1, rfl, hG1, L1, b2⟩
  have W2 := Lib.hid (W1.out.trans (b2.mono W1.out.size))
  have OG1 : Hid (w.heap.size ≤ G1 ∧ G1 < w2.heap.size) := Lib.hid ⟨Nat.le_trans W1.out.size hG1, L1.blk.lt⟩
  have LA := Lib.hid L1
  clear hG1 L1 b2 W1
  go_wp2_with fail
  refine (lent_any B m d ys w2 HM.out (HY.out.below W2.out) (by have := HM.out; omega)).mono ?_
  rintro e w3 ⟨G2, cg2, rest2, rfl, hG2, L2, b3⟩
  have W3 := Lib.hid (W2.out.trans (b3.mono W2.out.size))
  have OG2 : Hid (G1 < G2 ∧ G2 < w3.heap.size) := Lib.hid ⟨Nat.lt_of_lt_of_le OG1.out.2 hG2, L2.blk.lt⟩
  have LB := Lib.hid L2
  have LA3 := Lib.hid (LA.out.below b3)
  clear hG2 L2 b3 W2 LA
  go_wp2_with fail
  refine (newReader_any _ n cg1 xs w3 HN.out LA3.out.rd (by have := HN.out; omega)).mono ?_
  rintro e w4 ⟨p1, g1, rfl, HP1, R1, bb4⟩
  have b4 := bb4.out
  have W4 := Lib.hid (W3.out.trans (b4.mono W3.out.size))
  have O1 : Hid (G2 < p1 ∧ G2 < g1 ∧ p1 < w4.heap.size ∧ g1 < w4.heap.size) := Lib.hid ⟨Nat.lt_of_lt_of_le OG2.out.2 HP1.out.1, Nat.lt_of_lt_of_le OG2.out.2 HP1.out.2, R1.out.lt, R1.out.glt⟩
  have LA4 := Lib.hid (LA3.out.below b4)
  have LB4 := Lib.hid (LB.out.below b4)
  clear b4 bb4 W3 LA3 LB HP1
  go_wp2_with fail
  refine (newReader_any _ m cg2 ys w4 HM.out LB4.out.rd (by have := HM.out; omega)).mono ?_
  rintro e w5 ⟨p3, g3, rfl, HP3, R3, bb5⟩
  have b5 := bb5.out
  have W5 := Lib.hid (W4.out.trans (b5.mono W4.out.size))
  have O3 : Hid (w4.heap.size ≤ p3 ∧ w4.heap.size ≤ g3 ∧ p3 < w5.heap.size ∧ g3 < w5.heap.size) := Lib.hid ⟨HP3.out.1, HP3.out.2, R3.out.lt, R3.out.glt⟩
  have LA5 := Lib.hid (LA4.out.below b5)
  have LB5 := Lib.hid (LB4.out.below b5)
  have R15 := Lib.hid (R1.out.below b5)
  clear b5 bb5 W4 LA4 LB4 HP3 R1
  go_wp2_with fail
  refine (rnew_any A n c xs w5 HN.out (HX.out.below W5.out) (by have := HN.out; omega)).mono ?_
  rintro e w6 ⟨p2, g2, rfl, HP2, R2, bb6⟩
  have b6 := bb6.out
  have W6 := Lib.hid (W5.out.trans (b6.mono W5.out.size))
  have O2 : Hid (w5.heap.size ≤ p2 ∧ w5.heap.size ≤ g2 ∧ p2 < w6.heap.size ∧ g2 < w6.heap.size) := Lib.hid ⟨HP2.out.1, HP2.out.2, R2.out.lt, R2.out.glt⟩
  have LA6 := Lib.hid (LA5.out.below b6)
  have LB6 := Lib.hid (LB5.out.below b6)
  have R16 := Lib.hid (R15.out.below b6)
  have R36 := Lib.hid (R3.out.below b6)
  clear b6 bb6 W5 LA5 LB5 HP2 R15 R3
  go_wp2_with fail
  refine (rnew_any B m d ys w6 HM.out (HY.out.below W6.out) (by have := HM.out; omega)).mono ?_
  rintro e w7 ⟨p4, g4, rfl, HP4, R4, bb7⟩
  have b7 := bb7.out
  have W7 := Lib.hid (W6.out.trans (b7.mono W6.out.size))
  have ORD : Hid (w.heap.size ≤ G1 ∧ G1 < G2 ∧ (G2 < p1 ∧ G2 < g1) ∧ (p1 < p3 ∧ p1 < g3 ∧ g1 < p3 ∧ g1 < g3) ∧ (p3 < p2 ∧ p3 < g2 ∧ g3 < p2 ∧ g3 < g2) ∧ (p2 < p4 ∧ p2 < g4 ∧ g2 < p4 ∧ g2 < g4)) := Lib.hid (by
    have h1 := OG1.out; have h2 := OG2.out; have h3 := O1.out; have h4 := O3.out; have h5 := O2.out; have h6 := HP4.out
    omega)
  have LA7 := Lib.hid (LA6.out.below b7)
  have LB7 := Lib.hid (LB6.out.below b7)
  have BA : Hid (Both w7 p1 g1 p2 g2 xs) := Lib.hid ⟨⟨0, 0, Nat.zero_le _, R16.out.below b7, R2.out.below b7⟩, by have := ORD.out; omega, by have := ORD.out; omega, by have := ORD.out; omega⟩
  have BB : Hid (Both w7 p3 g3 p4 g4 ys) := Lib.hid ⟨⟨0, 0, Nat.zero_le _, R36.out.below b7, R4.out⟩, by have := ORD.out; omega, by have := ORD.out; omega, by have := ORD.out; omega⟩
  clear b7 bb7 W6 LA6 LB6 HP4 R16 R36 R2 R4 OG1 OG2 O1 O2 O3
  go_wp2_with fail
  refine (still_any A G1 cg1 c n n xs rest1 w7 HN.out HN.out LA7.out (HX.out.below W7.out)).mono ?_
  rintro e w' ⟨q1, rfl, rfl⟩
  go_wp2_with fail
  refine (still_any B G2 cg2 d m m ys rest2 _ HM.out HM.out (LB7.out.drewN q1) ((HY.out.below W7.out).draws q1)).mono ?_
  rintro e w' ⟨q2, rfl, rfl⟩
  have W8 : Hid (Below w.heap.size w ((w7.drewN q1).drewN q2)) := Lib.hid (belowN (belowN W7.out q1) q2)
  have LA8 : Hid (Lent ((w7.drewN q1).drewN q2) G1 cg1 xs rest1) := Lib.hid ((LA7.out.drewN q1).drewN q2)
  have LB8 : Hid (Lent ((w7.drewN q1).drewN q2) G2 cg2 ys rest2) := Lib.hid ((LB7.out.drewN q1).drewN q2)
  have BA8 : Hid (Both ((w7.drewN q1).drewN q2) p1 g1 p2 g2 xs) := Lib.hid (BA.out.fr (((Fr.refl (fun _ => False) w7).drewN q1).drewN q2) id id id id)
  have BB8 : Hid (Both ((w7.drewN q1).drewN q2) p3 g3 p4 g4 ys) := Lib.hid (BB.out.fr (((Fr.refl (fun _ => False) w7).drewN q1).drewN q2) id id id id)
  generalize (w7.drewN q1).drewN q2 = w8 at W8 LA8 LB8 BA8 BB8
  clear W7 LA7 LB7 BA BB
  go_wp2_with fail
  go_loopw [13] (fun z wr => ∃ (k : Nat) (zs : List Int), k ≤ n ∧ z = .int .i64 k ∧ Hid (n = zs.length) ∧ Hid (Lent wr G1 cg1 zs rest1) ∧ Hid (Fr (fun j => j = G1) w8 wr)) (fun z _ => n - (intOf z).toNat)
  case atStart => exact ⟨0, xs, Nat.zero_le _, rfl, HN, LA8, Lib.hid (Fr.refl _ _)⟩
  case round =>
    obtain ⟨k, zs, hk, rfl, HZ, HLZ, HF⟩ := hrel
    by_cases hlt : k < n
    · obtain ⟨b, off, y, hA, hc, HYK⟩ := HLZ.out.rd.at k (by have := HZ.out; omega)
      cases hA
      rw [Nat.zero_add] at hc
      have hfz := HLZ.out.blk.frozen k
      go_wp2_with fail
      go_roundw
      case rel => exact ⟨k + 1, zs.set k _, by omega, by go_num, Lib.hid (by rw [List.length_set]; exact HZ.out), Lib.hid (HLZ.out.set (by have := HZ.out; omega) _), Lib.hid (HF.out.setCell (p := ⟨G1, k, none⟩) (.inl rfl) _)⟩
      case measure => simp [intOf]; omega
    · have hge : decide ((k : Int) < (n : Int)) = false := by simp; omega
      have O8 : Hid (G1 < w8.heap.size ∧ G2 < w8.heap.size) := Lib.hid ⟨LA8.out.blk.lt, LB8.out.blk.lt⟩
      have W9 := Lib.hid (W8.out.trans (HF.out.below W8.out.size (fun j hj => by have := ORD.out; omega)))
      have LB9 := Lib.hid (LB8.out.fr HF.out (by have := ORD.out; omega))
      have BA9 := Lib.hid (BA8.out.fr HF.out (by have := ORD.out; omega) (by have := ORD.out; omega) (by have := ORD.out; omega) (by have := ORD.out; omega))
      have BB9 := Lib.hid (BB8.out.fr HF.out (by have := ORD.out; omega) (by have := ORD.out; omega) (by have := ORD.out; omega) (by have := ORD.out; omega))
      clear HLZ HZ LA8 LB8 W8 BA8 BB8 HF hk zs O8
      go_wp2_with fail
      obtain ⟨w9, rfl⟩ : ∃ w9 : World, w9 = wr := ⟨_, rfl⟩
      go_loopw [14] (fun z wx => ∃ (k : Nat) (zs : List Int), k ≤ m ∧ z = .int .i64 k ∧ Hid (m = zs.length) ∧ Hid (Lent wx G2 cg2 zs rest2) ∧ Hid (Fr (fun j => j = G2) w9 wx)) (fun z _ => m - (intOf z).toNat)
      case atStart => exact ⟨0, ys, Nat.zero_le _, rfl, HM, LB9, Lib.hid (Fr.refl _ _)⟩
      case round =>
        obtain ⟨kk, zs, hk2, rfl, HZ, HLZ, HF⟩ := hrel
        by_cases hlt2 : kk < m
        · have hfz := HLZ.out.blk.frozen kk
          obtain ⟨b, off, y, hA, hc, HYK⟩ := HLZ.out.rd.at kk (by have := HZ.out; omega)
          cases hA
          rw [Nat.zero_add] at hc
          go_wp2_with fail
          go_roundw
          case rel => exact ⟨kk + 1, zs.set kk _, by omega, by go_num, Lib.hid (by rw [List.length_set]; exact HZ.out), Lib.hid (HLZ.out.set (by have := HZ.out; omega) _), Lib.hid (HF.out.setCell (p := ⟨G2, kk, none⟩) (.inl rfl) _)⟩
          case measure => simp [intOf]; omega
        · have hge2 : decide ((kk : Int) < (m : Int)) = false := by simp; omega
          have WA := Lib.hid (W9.out.trans (HF.out.below W9.out.size (fun j hj => by have := ORD.out; omega)))
          have BA := Lib.hid (BA9.out.fr HF.out (by have := ORD.out; omega) (by have := ORD.out; omega) (by have := ORD.out; omega) (by have := ORD.out; omega))
          have BB := Lib.hid (BB9.out.fr HF.out (by have := ORD.out; omega) (by have := ORD.out; omega) (by have := ORD.out; omega) (by have := ORD.out; omega))
          clear HLZ HZ LB9 W9 BA9 BB9 HF hk2 zs
          go_wp2_with fail
          obtain ⟨wa, rfl⟩ : ∃ wa : World, wa = wr := ⟨_, rfl⟩
          go_loopw [15] (fun z wx => ∃ k : Nat, z = .int .i64 k ∧ Hid (k ≤ k1 ∨ k ≤ k2) ∧ Hid (Below w.heap.size w wx) ∧ Hid (Both wx p1 g1 p2 g2 xs) ∧ Hid (Both wx p3 g3 p4 g4 ys)) (fun z _ => k1 + k2 - (intOf z).toNat)
          case atStart => exact ⟨0, rfl, Lib.hid (.inl (Nat.zero_le _)), WA, BA, BB⟩
          case round =>
            clear WA BA BB
            obtain ⟨i, rfl, HI, WA, BA, BB⟩ := hrel
            have hi0 : i ≤ 140737488354000 := by have := HI.out; omega
            by_cases hi1 : i < k1
            · have d1 : decide ((i : Int) < (k1 : Int)) = true := by simp; omega
              by_cases hi2 : i < k2
              · have d2 : decide ((i : Int) < (k2 : Int)) = true := by simp; omega
                obtain ⟨b, off, hA1, hbl1, a0, a1, a2, a3⟩ := (HS1.out.below WA.out) i hi1
                subst hA1
                obtain ⟨b', off', hA2, hbl2, b0, b1, b2, b3⟩ := (HS2.out.below WA.out) i hi2
                subst hA2
                go_wp2_with fail
                refine (read_any p1 g1 p2 g2 xs _ _ _ _ wr BA.out HBX.out (HO1.out i hi1) (by omega)).mono ?_
                rintro e wy ⟨rfl, BAY, hf⟩
                have BBY := Lib.hid (BB.out.fr hf.out (by have := ORD.out; omega) (by have := ORD.out; omega) (by have := ORD.out; omega) (by have := ORD.out; omega))
                have WY := Lib.hid (WA.out.trans (hf.out.below WA.out.size (fun j hj => by have := ORD.out; omega)))
                clear hf WA BA BB a0 a1 a2 a3 b0 b1 b2 b3 hbl1 hbl2
                obtain ⟨b9, off9, hA9, hbl2, b0, b1, b2, b3⟩ := (HS2.out.below WY.out) i hi2
                cases hA9
                go_wp2_with fail
                refine (read_any p3 g3 p4 g4 ys _ _ _ _ wy BBY.out HBY.out (HO2.out i hi2) (by omega)).mono ?_
                rintro e wx ⟨rfl, BBX, hf⟩
                have BAX := Lib.hid (BAY.out.fr hf.out (by have := ORD.out; omega) (by have := ORD.out; omega) (by have := ORD.out; omega) (by have := ORD.out; omega))
                have WX := Lib.hid (WY.out.trans (hf.out.below WY.out.size (fun j hj => by have := ORD.out; omega)))
                clear hf WY BAY BBY b0 b1 b2 b3 hbl2
                go_wp2_with fail
                go_roundw
                case rel => exact ⟨i + 1, by go_num, Lib.hid (by omega), WX, BAX, BBX⟩
                case measure => simp [intOf]; omega
              · have d2 : decide ((i : Int) < (k2 : Int)) = false := by simp; omega
                obtain ⟨b, off, hA1, hbl1, a0, a1, a2, a3⟩ := (HS1.out.below WA.out) i hi1
                subst hA1
                go_wp2_with fail
                refine (read_any p1 g1 p2 g2 xs _ _ _ _ wr BA.out HBX.out (HO1.out i hi1) (by omega)).mono ?_
                rintro e wx ⟨rfl, BAX, hf⟩
                have BBX := Lib.hid (BB.out.fr hf.out (by have := ORD.out; omega) (by have := ORD.out; omega) (by have := ORD.out; omega) (by have := ORD.out; omega))
                have WX := Lib.hid (WA.out.trans (hf.out.below WA.out.size (fun j hj => by have := ORD.out; omega)))
                clear hf WA BA BB a0 a1 a2 a3 hbl1
                go_wp2_with fail
                go_roundw
                case rel => exact ⟨i + 1, by go_num, Lib.hid (by omega), WX, BAX, BBX⟩
                case measure => simp [intOf]; omega
            · have d1 : decide ((i : Int) < (k1 : Int)) = false := by simp; omega
              by_cases hi2 : i < k2
              · have d2 : decide ((i : Int) < (k2 : Int)) = true := by simp; omega
                obtain ⟨b', off', hA2, hbl2, b0, b1, b2, b3⟩ := (HS2.out.below WA.out) i hi2
                subst hA2
                go_wp2_with fail
                refine (read_any p3 g3 p4 g4 ys _ _ _ _ wr BB.out HBY.out (HO2.out i hi2) (by omega)).mono ?_
                rintro e wx ⟨rfl, BBX, hf⟩
                have BAX := Lib.hid (BA.out.fr hf.out (by have := ORD.out; omega) (by have := ORD.out; omega) (by have := ORD.out; omega) (by have := ORD.out; omega))
                have WX := Lib.hid (WA.out.trans (hf.out.below WA.out.size (fun j hj => by have := ORD.out; omega)))
                clear hf WA BA BB b0 b1 b2 b3 hbl2
                go_wp2_with fail
                go_roundw
                case rel => exact ⟨i + 1, by go_num, Lib.hid (by omega), WX, BAX, BBX⟩
                case measure => simp [intOf]; omega
              · have d2 : decide ((i : Int) < (k2 : Int)) = false := by simp; omega
                obtain ⟨⟨t1, e1, ht1, r1, f1'⟩, -, -, -⟩ := BA.out
                obtain ⟨⟨t2, e2, ht2, r2, f2'⟩, -, -, -⟩ := BB.out
                have R1 := Lib.hid r1
                have F1 := Lib.hid f1'
                have R2 := Lib.hid r2
                have F2 := Lib.hid f2'
                clear r1 f1' r2 f2' BA BB
                go_wp2_with fail
                refine (rend_any p1 g1 (xs.drop t1) e1 wr R1.out).mono ?_
                rintro e' w' ⟨rfl, hww⟩
                obtain rfl : wr = w' := hww.symm
                go_wp2_with fail
                refine (rend2_any p2 g2 xs t1 e1 wr F1.out (by omega)).mono ?_
                rintro e' w' ⟨rfl, qq, rfl⟩
                have R1' := Lib.hid (R1.out.drewN qq)
                have F1' := Lib.hid (F1.out.drewN qq)
                have R2' := Lib.hid (R2.out.drewN qq)
                have F2' := Lib.hid (F2.out.drewN qq)
                have W1' := Lib.hid (belowN WA.out qq)
                clear R1 F1 R2 F2 WA
                generalize wr.drewN qq = w21 at R1' F1' R2' F2' W1'
                have R1 := R1'; have F1 := F1'; have R2 := R2'; have F2 := F2'; have WA := W1'
                clear R1' F1' R2' F2' W1'
                go_wp2_with fail
                refine (left_any p1 g1 (xs.drop t1) e1 w21 R1.out).mono ?_
                rintro e' w' ⟨rfl, hww⟩
                obtain rfl : w21 = w' := hww.symm
                go_wp2_with fail
                refine (rleft2_any p2 g2 xs t1 e1 w21 F1.out (by omega)).mono ?_
                rintro e' w' ⟨rfl, qq, rfl⟩
                have R1' := Lib.hid (R1.out.drewN qq)
                have F1' := Lib.hid (F1.out.drewN qq)
                have R2' := Lib.hid (R2.out.drewN qq)
                have F2' := Lib.hid (F2.out.drewN qq)
                have W1' := Lib.hid (belowN WA.out qq)
                clear R1 F1 R2 F2 WA
                generalize w21.drewN qq = w22 at R1' F1' R2' F2' W1'
                have R1 := R1'; have F1 := F1'; have R2 := R2'; have F2 := F2'; have WA := W1'
                clear R1' F1' R2' F2' W1'
                go_wp2_with fail
                refine (rend_any p3 g3 (ys.drop t2) e2 w22 R2.out).mono ?_
                rintro e' w' ⟨rfl, hww⟩
                obtain rfl : w22 = w' := hww.symm
                go_wp2_with fail
                refine (rend2_any p4 g4 ys t2 e2 w22 F2.out (by omega)).mono ?_
                rintro e' w' ⟨rfl, qq, rfl⟩
                have R1' := Lib.hid (R1.out.drewN qq)
                have F1' := Lib.hid (F1.out.drewN qq)
                have R2' := Lib.hid (R2.out.drewN qq)
                have F2' := Lib.hid (F2.out.drewN qq)
                have W1' := Lib.hid (belowN WA.out qq)
                clear R1 F1 R2 F2 WA
                generalize w22.drewN qq = w23 at R1' F1' R2' F2' W1'
                have R1 := R1'; have F1 := F1'; have R2 := R2'; have F2 := F2'; have WA := W1'
                clear R1' F1' R2' F2' W1'
                go_wp2_with fail
                refine (left_any p3 g3 (ys.drop t2) e2 w23 R2.out).mono ?_
                rintro e' w' ⟨rfl, hww⟩
                obtain rfl : w23 = w' := hww.symm
                go_wp2_with fail
                refine (rleft2_any p4 g4 ys t2 e2 w23 F2.out (by omega)).mono ?_
                rintro e' w' ⟨rfl, qq, rfl⟩
                have R1' := Lib.hid (R1.out.drewN qq)
                have F1' := Lib.hid (F1.out.drewN qq)
                have R2' := Lib.hid (R2.out.drewN qq)
                have F2' := Lib.hid (F2.out.drewN qq)
                have W1' := Lib.hid (belowN WA.out qq)
                clear R1 F1 R2 F2 WA
                generalize w23.drewN qq = w24 at R1' F1' R2' F2' W1'
                have R1 := R1'; have F1 := F1'; have R2 := R2'; have F2 := F2'; have WA := W1'
                clear R1' F1' R2' F2' W1'
                go_wp2_with fail
                go_ret
                exact ⟨rfl, WA.out⟩
end Go.Proofs.Ytcibhaoilcohbaa

/-
  Walk: the law RecordParses.
-/
import Derived.Test.YtedejkfhgpnhpaaEh
import Derived.Test.YtedejkfhgpnhpaaLo
set_option linter.unusedVariables false
set_option linter.unusedSimpArgs false
namespace Go.Proofs.Ytedejkfhgpnhpaa
open Go.RowKit

theorem Rd.some_of {w : World} {k : IntKind} {A : Option Addr} {xs : List Int} (h : Rd w k A xs) (h0 : 0 < xs.length) : ∃ b off, A = some ⟨b, off, none⟩ := by
  obtain ⟨b, off, hA, _⟩ := h 0 h0
  exact ⟨b, off, hA⟩
/-- What Parse tells. -/
def pH (xs : List Int) (n : Nat) : Array Value := if isR xs n then hdr xs else hArr 0 0 0 0 z0
def pB (xs : List Int) (n : Nat) : List Int := if isR xs n then xs.drop 26 else []
def pE (xs : List Int) (n : Nat) : Int := if isR xs n then 0 else 140
theorem eq_pH {xs : List Int} (hB : B8 xs) (n : Nat) (w : World) : (Op.equalIn 10000 26 (.agg (pH xs n)) (.agg (pH xs n))).run Try.prog w = .ok true w := by
  unfold pH
  split
  · exact eq_hdr hB w
  · exact eq_head 0 0 0 0 z0 w (fun k => by unfold z0; omega)
theorem pH_size (xs : List Int) (n : Nat) : (Try.prog.info? 26).map (·.size) = some (pH xs n).size := by
  unfold pH
  split
  · exact hdr_size xs
  · exact size26' _ _ _ _ _
theorem pH_sz (xs : List Int) (n : Nat) : (#[.int .u8 0, .int .u8 0, .int .u32 0, .int .u32 0, .int .u8 0, .int .u8 0, .int .u8 0, .int .u8 0, .int .u8 0, .int .u8 0, .int .u8 0, .int .u8 0, .int .u8 0, .int .u8 0, .int .u8 0, .int .u8 0, .int .u8 0, .int .u8 0, .int .u8 0, .int .u8 0] : Array Value).size = (pH xs n).size := by
  unfold pH
  split
  · exact (hArr_size2 _ _ _ _ _).symm
  · exact (hArr_size2 _ _ _ _ _).symm
theorem pH_cells (xs : List Int) (n : Nat) : (pH xs n).all (·.oneCell') = true := by
  unfold pH
  split
  · exact hdr_cells xs
  · exact hArr_cells _ _ _ _ _
/-- A head laid into a new box. -/
theorem boxed (w : World) (Z H : Array Value) : Hd ((w.alloc (.cells Z 26)).setRow w.heap.size H) w.heap.size H ∧ Below w.heap.size w ((w.alloc (.cells Z 26)).setRow w.heap.size H) :=
  ⟨setRow_heap _ _ _ H _ _ (heap_alloc_new w _), below_setRow ((Below.refl _ w).alloc (Nat.le_refl _) _) (Nat.le_refl _) H⟩
theorem own_rd {w : World} {base T : Nat} {k : IntKind} {A : Option Addr} {c : Nat} {xs : List Int} (h : Own w base T k (.slice A xs.length c) xs) : Rd w k A xs := by
  obtain ⟨A', c', e, _, _, r, _⟩ := h.slice
  injection e with e1 _ _
  subst e1
  exact r
theorem wpList_load_rowG {P : Program} {ops : Array Oper} {rest : List Oper} {o : Oper} {a : Act} {w : World} {Q : Exit → Act → World → Prop} (hw : Region.wanted o (yielded ops a.tmps) = true) (ty : TypeId) (x : Operand) (ho : o.op = .load ty x) (g : Nat) (hx : a.eval x = .pointer (some ⟨g, 0, none⟩)) (t : TypeId) (cs : Array Value) (fr : Nat × Nat) (d : TypeDesc) (hg : w.heap[g]? = some (.cells cs t fr))
    (hu : P.underlying ty = some d) (hd : (match d with | .struct _ | .array _ _ => true | _ => false) = true) (hi : (P.info? ty).map (·.size) = some cs.size) (h : wpList P ops Q rest (a.put o.dst (.agg cs)) w) : wpList P ops Q (o :: rest) a w :=
  wpList_step fun K hK => by
    rw [if_pos hw]
    unfold Oper.wp
    rw [exec_load_row ty x ho g hx t cs fr d hg hu hd hi]
    exact hK _ _ h
theorem xor8 (Y Z : Nat) (hY : Y < 256) (hZ : Z < 256) : 0 ≤ bits .xor .u8 (Y : Int) (Z : Int) ∧ bits .xor .u8 (Y : Int) (Z : Int) ≤ 255 := by
  rw [u8_xor_nat Y Z hY hZ]
  have := Nat.xor_lt_two_pow (n := 8) hY hZ
  omega
theorem pB_len (xs : List Int) (n : Nat) : (pB xs n).length ≤ xs.length := by
  unfold pB
  split <;> simp
theorem parse_any (A : Option Addr) (n c : Nat) (xs : List Int) (w : World) (hn : n = xs.length) (hnc : n ≤ c) (hc63 : c ≤ 9223372036854775807) (hl : xs.length ≤ 140737488355328) (hr : Rd w .u8 A xs) (hB : B8 xs) :
    Calls Try.prog 21 #[.slice A n c] w fun e w' => ∃ v, e = .returned (.tuple #[.agg (pH xs n), v, .int .i64 (pE xs n)]) ∧ Own w' w.heap.size 5 .u8 v (pB xs n) ∧ Below w.heap.size w w' := by
  unfold pH pB pE
  cases hI : isR xs n
  · refine (parse_no A n c xs w hn hr hB hI).mono ?_
    rintro e w' ⟨rfl, b⟩
    exact ⟨_, rfl, Own.nil _ _ _ _, b⟩
  · have h26 := isR_26 hI
    obtain ⟨b, off, rfl⟩ := hr.some_of (by omega)
    exact parse_yes b off n c xs w hn hnc hc63 hl hr hB hI h26
theorem rparse_any (A : Option Addr) (n c : Nat) (xs : List Int) (w : World) (hn : n = xs.length) (hnc : n ≤ c) (hc63 : c ≤ 9223372036854775807) (hl : xs.length ≤ 140737488355328) (hr : Rd w .u8 A xs) (hB : B8 xs) :
    Calls Try.prog 20 #[.slice A n c] w fun e w' => ∃ v, e = .returned (.tuple #[.agg (pH xs n), v, .bool (isR xs n)]) ∧ Own w' w.heap.size 5 .u8 v (pB xs n) ∧ Below w.heap.size w w' := by
  unfold pH pB
  cases hI : isR xs n
  · refine (rparse_no A n c xs w hn hr hB hI).mono ?_
    rintro e w' ⟨rfl, b⟩
    exact ⟨_, rfl, Own.nil _ _ _ _, b⟩
  · have h26 := isR_26 hI
    obtain ⟨b, off, rfl⟩ := hr.some_of (by omega)
    exact rparse_yes b off n c xs w hn hnc hc63 hl hr hB hI h26

set_option maxRecDepth 100000 in
set_option maxHeartbeats 8000000 in
theorem parses_any (A : Option Addr) (n c : Nat) (xs : List Int) (w : World) (hn : n = xs.length) (hx : Rd w .u8 A xs) (hBx : B8 xs) (hl : xs.length ≤ 140737488354000) :
    Calls Try.prog 5 #[.slice A n c] w fun e w' => e = .returned (.bool true) ∧ Below w.heap.size w w' := by
  have HX := Lib.hid hx
  have HN := Lib.hid hn
  have HBX := Lib.hid hBx
  have hn63 : n ≤ 140737488354000 := by omega
  clear hx hn hBx
  go_enter Try.func5, Try.ntmps5
  go_wp2_with fail
  have hs := spare_any A c xs w HX.out (by omega)
  rw [← HN.out] at hs
  refine hs.mono ?_
  rintro e w1 ⟨rfl, g1, b1⟩
  obtain ⟨P, hP⟩ : ∃ P, P = w.heap.size := ⟨_, rfl⟩
  have GP := Lib.hid g1
  have W1 := Lib.hid b1
  have HPW : Hid (w.heap.size ≤ P) := Lib.hid (by omega)
  have HP1 : Hid (P < w1.heap.size) := Lib.hid (hP ▸ g1.lt)
  rw [← hP] at GP ⊢
  clear hs g1 b1 hP
  go_wp2_with fail
  go_loopw [4] (fun z wr => ∃ (k : Nat) (us : List Int), k ≤ 2 ∧ z = .int .i64 k ∧ Hid (n = us.length) ∧ Hid (B8 us) ∧ Hid (k = 0 → us = xs) ∧ Hid (Blk wr P 5 ((spL us).map (Value.int .u8))) ∧ Hid (Below w.heap.size w wr)) (fun z _ => 2 - (intOf z).toNat)
  case atStart => exact ⟨0, xs, Nat.zero_le _, rfl, HN, HBX, Lib.hid (fun _ => rfl), GP, W1⟩
  case round =>
    clear GP W1 HP1
    obtain ⟨k, us, hk, rfl, HL, HB, H0, GP, HW⟩ := hrel
    by_cases hkl : k < 2
    · go_wp2_with fail
      refine (copy_at (some ⟨P, 0, none⟩) n (n + 80) us wr HL.out (spare_rd GP.out) (by have := HL.out; omega)).mono ?_
      rintro e w3 ⟨Ap, cp, rfl, RP, b3⟩
      have GP3 := Lib.hid (GP.out.below b3 GP.out.lt)
      have W3 := Lib.hid (HW.out.trans (b3.mono HW.out.size))
      clear b3 GP HW
      go_wp2_with fail
      refine (rparse_any Ap n cp us w3 HL.out RP.out.2.1 RP.out.2.2 (by have := HL.out; omega) RP.out.1 HB.out).mono ?_
      rintro e w4 ⟨vr, rfl, or_, b4⟩
      obtain ⟨Ar, cr, rfl, -, -, rdr, -⟩ := or_.slice
      have RR := Lib.hid rdr
      have RP4 := Lib.hid (RP.out.1.below b4)
      have GP4 := Lib.hid (GP3.out.below b4 GP3.out.lt)
      have W4 := Lib.hid (W3.out.trans (b4.mono W3.out.size))
      clear b4 or_ rdr GP3 W3
      go_wp2_with (refine wpList_store_row rfl 26 _ _ rfl w4.heap.size (pH us n) rfl rfl 26 _ (heap_alloc_new _ _) (pH_size us n) (pH_sz us n) (pH_cells us n) ?_)
      have hbx := boxed w4 #[.int .u8 0, .int .u8 0, .int .u32 0, .int .u32 0, .int .u8 0, .int .u8 0, .int .u8 0, .int .u8 0, .int .u8 0, .int .u8 0, .int .u8 0, .int .u8 0, .int .u8 0, .int .u8 0, .int .u8 0, .int .u8 0, .int .u8 0, .int .u8 0, .int .u8 0, .int .u8 0] (pH us n)
      generalize ((w4.alloc (.cells #[.int .u8 0, .int .u8 0, .int .u32 0, .int .u32 0, .int .u8 0, .int .u8 0, .int .u8 0, .int .u8 0, .int .u8 0, .int .u8 0, .int .u8 0, .int .u8 0, .int .u8 0, .int .u8 0, .int .u8 0, .int .u8 0, .int .u8 0, .int .u8 0, .int .u8 0, .int .u8 0] 26)).setRow w4.heap.size (pH us n)) = w5 at hbx ⊢
      obtain ⟨Dh, hDh⟩ : ∃ D, D = w4.heap.size := ⟨_, rfl⟩
      rw [← hDh] at hbx ⊢
      have hbb : Below w4.heap.size w4 w5 := hDh ▸ hbx.2
      have BH := Lib.hid hbx.1
      have RR5 := Lib.hid (RR.out.below hbb)
      have RP5 := Lib.hid (RP4.out.below hbb)
      have GP5 := Lib.hid (GP4.out.below hbb GP4.out.lt)
      have W5 := Lib.hid (W4.out.trans (hbb.mono W4.out.size))
      have SW5 : Hid (w.heap.size ≤ w5.heap.size) := Lib.hid W5.out.size
      clear hbx hbb hDh W4 RR RP4 GP4
      refine (parse_any (some ⟨P, 0, none⟩) n (n + 80) us w5 HL.out (by omega) (by omega) (by have := HL.out; omega) (spare_rd GP5.out) HB.out).mono ?_
      rintro e w6 ⟨va, rfl, oa, b6⟩
      have OA := Lib.hid oa
      have BH6 := Lib.hid (BH.out.below BH.out.lt b6)
      have RR6 := Lib.hid (RR5.out.below b6)
      have RP6 := Lib.hid (RP5.out.below b6)
      have GP6 := Lib.hid (GP5.out.below b6 GP5.out.lt)
      have W6 := Lib.hid (W5.out.trans (b6.mono W5.out.size))
      have S56 := Lib.hid b6.size
      have LP5 : Hid (P < w5.heap.size) := Lib.hid GP5.out.lt
      obtain ⟨Aa, ca, hva, hca, hcm, rda, -⟩ := oa.slice
      subst hva
      have B56 := Lib.hid b6
      clear b6 oa BH rda hca hcm
      go_wp2_with (refine wpList_store_row rfl 26 _ _ rfl w6.heap.size (pH us n) rfl rfl 26 _ (heap_alloc_new _ _) (pH_size us n) (pH_sz us n) (pH_cells us n) ?_)
      have hbx := boxed w6 #[.int .u8 0, .int .u8 0, .int .u32 0, .int .u32 0, .int .u8 0, .int .u8 0, .int .u8 0, .int .u8 0, .int .u8 0, .int .u8 0, .int .u8 0, .int .u8 0, .int .u8 0, .int .u8 0, .int .u8 0, .int .u8 0, .int .u8 0, .int .u8 0, .int .u8 0, .int .u8 0] (pH us n)
      generalize ((w6.alloc (.cells #[.int .u8 0, .int .u8 0, .int .u32 0, .int .u32 0, .int .u8 0, .int .u8 0, .int .u8 0, .int .u8 0, .int .u8 0, .int .u8 0, .int .u8 0, .int .u8 0, .int .u8 0, .int .u8 0, .int .u8 0, .int .u8 0, .int .u8 0, .int .u8 0, .int .u8 0, .int .u8 0] 26)).setRow w6.heap.size (pH us n)) = w7 at hbx ⊢
      obtain ⟨Dp, hDp⟩ : ∃ D, D = w6.heap.size := ⟨_, rfl⟩
      rw [← hDp] at hbx ⊢
      have hbb : Below w6.heap.size w6 w7 := hDp ▸ hbx.2
      have BP := Lib.hid hbx.1
      have BH7 := Lib.hid (BH6.out.below BH6.out.lt hbb)
      have OA7 := Lib.hid (OA.out.below hbb)
      have RR7 := Lib.hid (RR6.out.below hbb)
      have RP7 := Lib.hid (RP6.out.below hbb)
      have GP7 := Lib.hid (GP6.out.below hbb GP6.out.lt)
      have W7 := Lib.hid (W6.out.trans (hbb.mono W6.out.size))
      have S57 : Hid (w5.heap.size ≤ w7.heap.size) := Lib.hid (Nat.le_trans S56.out hbb.size)
      have B57 := Lib.hid (B56.out.trans (hbb.mono S56.out))
      clear hbx hbb hDp OA W6 RR6 RP6 GP6 BH6 S56 B56
      refine (parse_any (some ⟨P, 0, none⟩) n (n + 80) us w7 HL.out (by omega) (by omega) (by have := HL.out; omega) (spare_rd GP7.out) HB.out).mono ?_
      rintro e w8 ⟨vb, rfl, ob, b8⟩
      have OA8 := Lib.hid (OA7.out.below b8)
      have HNE : Hid (∀ g, (Value.slice Aa (pB us n).length ca).ownBlock = some g → vb.ownBlock ≠ some g) := Lib.hid (fun g h1 h2 => by have := (OA7.out.base_le h1).2; have := (ob.base_le h2).1; omega)
      have OB := Lib.hid (ob.lower S57.out)
      have BP8 := Lib.hid (BP.out.below BP.out.lt b8)
      have BH8 := Lib.hid (BH7.out.below BH7.out.lt b8)
      have RR8 := Lib.hid (RR7.out.below b8)
      have RP8 := Lib.hid (RP7.out.below b8)
      have GP8 := Lib.hid (GP7.out.below b8 GP7.out.lt)
      have W8 := Lib.hid (W7.out.trans (b8.mono W7.out.size))
      have S58 : Hid (w5.heap.size ≤ w8.heap.size) := Lib.hid (Nat.le_trans S57.out b8.size)
      obtain ⟨Ab, cb, hvb, hcb, hcn, rdb, -⟩ := ob.slice
      subst hvb
      have B58 := Lib.hid (B57.out.trans (b8.mono S57.out))
      clear b8 ob OA7 GP7 W7 RR7 RP7 BH7 BP rdb hcb hcn S57 B57
      go_upto_region 9 with (refine wpList_store_row rfl 26 _ _ rfl w8.heap.size (pH us n) rfl rfl 26 _ (heap_alloc_new _ _) (pH_size us n) (pH_sz us n) (pH_cells us n) ?_)
      have hbx := boxed w8 #[.int .u8 0, .int .u8 0, .int .u32 0, .int .u32 0, .int .u8 0, .int .u8 0, .int .u8 0, .int .u8 0, .int .u8 0, .int .u8 0, .int .u8 0, .int .u8 0, .int .u8 0, .int .u8 0, .int .u8 0, .int .u8 0, .int .u8 0, .int .u8 0, .int .u8 0, .int .u8 0] (pH us n)
      generalize ((w8.alloc (.cells #[.int .u8 0, .int .u8 0, .int .u32 0, .int .u32 0, .int .u8 0, .int .u8 0, .int .u8 0, .int .u8 0, .int .u8 0, .int .u8 0, .int .u8 0, .int .u8 0, .int .u8 0, .int .u8 0, .int .u8 0, .int .u8 0, .int .u8 0, .int .u8 0, .int .u8 0, .int .u8 0] 26)).setRow w8.heap.size (pH us n)) = w9 at hbx ⊢
      obtain ⟨Dq, hDq⟩ : ∃ D, D = w8.heap.size := ⟨_, rfl⟩
      rw [← hDq] at hbx ⊢
      have hbb : Below w8.heap.size w8 w9 := hDq ▸ hbx.2
      have BQ := Lib.hid hbx.1
      have BH9 := Lib.hid (BH8.out.below BH8.out.lt hbb)
      have BP9 := Lib.hid (BP8.out.below BP8.out.lt hbb)
      have OA9 := Lib.hid (OA8.out.below hbb)
      have OB9 := Lib.hid (OB.out.below hbb)
      have RR9 := Lib.hid (RR8.out.below hbb)
      have RP9 := Lib.hid (RP8.out.below hbb)
      have GP9 := Lib.hid (GP8.out.below hbb GP8.out.lt)
      have W9 := Lib.hid (W8.out.trans (hbb.mono W8.out.size))
      have S59 : Hid (w5.heap.size ≤ w9.heap.size) := Lib.hid (Nat.le_trans S58.out hbb.size)
      have RA := Lib.hid (own_rd OA9.out)
      have RB := Lib.hid (own_rd OB9.out)
      have B59 := Lib.hid (B58.out.trans (hbb.mono S58.out))
      clear hbx hbb hDq OA8 OB W8 RR8 RP8 GP8 BH8 BP8 S58 B58
      have HPL : Hid ((pB us n).length ≤ 9223372036854775807 ∧ (pB us n).length + 71 ≤ 140737488355328) := Lib.hid (by have := pB_len us n; have := HL.out; omega)
      have hneq := fun W => neq_head (H := pH us n) W (eq_pH HB.out n W)
      have hsz := pH_size us n
      have hpe : Hid (pE us n = if isR us n = true then 0 else 140) := Lib.hid (by unfold pE; rfl)
      have HBH : Hid (w9.heap[Dh]? = some (.cells (pH us n) 26 (0, 0))) := BH9
      have HBP : Hid (w9.heap[Dp]? = some (.cells (pH us n) 26 (0, 0))) := BP9
      have HBQ : Hid (w9.heap[Dq]? = some (.cells (pH us n) 26 (0, 0))) := BQ
      clear BH9 BP9 BQ
      generalize pH us n = HH at hneq hsz HBH HBP HBQ ⊢
      have HSZ := Lib.hid hsz
      clear hsz
      generalize pE us n = EE at hpe ⊢
      cases hI : isR us n
      all_goals (
        rw [hI] at hpe
        obtain rfl : EE = _ := hpe.out
        clear hpe
        have HII := Lib.hid hI
        clear hI
        go_wp2_with (first
          | (refine wpList_load_row rfl 26 _ rfl Dp rfl 26 HH (0, 0) _ HBP.out Try.underlying26 rfl HSZ.out ?_)
          | (refine wpList_load_row rfl 26 _ rfl Dh rfl 26 HH (0, 0) _ HBH.out Try.underlying26 rfl HSZ.out ?_)
          | (refine wpList_load_rowG rfl 26 _ rfl Dq rfl 26 HH (0, 0) _ HBQ.out Try.underlying26 rfl HSZ.out ?_)
          | (refine wpList_load_rowG rfl 26 _ rfl Dh rfl 26 HH (0, 0) _ HBH.out Try.underlying26 rfl HSZ.out ?_))
        refine (eqb_any Aa Ar ca cr (pB us n) (pB us n) w9 RA.out RR9.out HPL.out.1 HPL.out.1).mono ?_
        rintro e w' ⟨q1, rfl, rfl⟩
        rw [show decide (pB us n = pB us n) = true from by simp]
        go_wp2_with fail
        refine (eqb_any Ab Ar cb cr (pB us n) (pB us n) _ (RB.out.draws _) (RR9.out.draws _) HPL.out.1 HPL.out.1).mono ?_
        rintro e w' ⟨q2, rfl, rfl⟩
        rw [show decide (pB us n = pB us n) = true from by simp]
        go_wp2_with fail
        refine (apart_two (OA9.out.drewN _) (OB9.out.drewN _) HNE.out S59.out HPL.out.2 HPL.out.2).mono ?_
        rintro e w10 ⟨rfl, hf⟩
        have F10 : Hid (Fr (fun g => w5.heap.size ≤ g) w9 w10) := Lib.hid ((Fr.refl (fun g => w5.heap.size ≤ g) w9).drewN _ |>.trans hf)
        have B10 : Hid (Below w5.heap.size w5 w10) := Lib.hid (B59.out.trans (F10.out.below S59.out (fun k hk => hk)))
        have GP10 := Lib.hid (GP5.out.below B10.out GP5.out.lt)
        have RP10 := Lib.hid (RP5.out.below B10.out)
        have W10 := Lib.hid (W5.out.trans (B10.out.mono W5.out.size))
        clear hf F10 OA9 OB9 RR9 RP9 GP9 W9 RA RB HBH HBP HBQ B59 HNE S59
        have hul : Hid (us.length ≤ 9223372036854775807) := Lib.hid (by have := HL.out; omega)
        go_wp2_with fail
        refine (eqb_fr _ _ n n (n + 80) cp us us _ HL.out HL.out (spare_rd GP10.out) RP10.out hul.out hul.out).mono ?_
        rintro e w' ⟨q3, rfl, rfl⟩
        rw [show decide (us = us) = true from by simp]
        by_cases hk0 : k = 0
        all_goals (
          first
          | (have e1 := H0.out hk0
             have HE1 := Lib.hid e1
             clear e1
             go_wp2_with fail
             refine (kept_any A P (n + 80) c n n xs [] _ HN.out HN.out (spare_r8 (blkN (HE1.out ▸ GP10.out) _)) ((HX.out.below W10.out).draws _) (by omega) (by have := HN.out; omega) (by omega)).mono ?_
             rintro e w' ⟨q4, rfl, rfl⟩
             go_wp2_with fail)
          | (have hkd : decide (k = 0) = false := by simpa using hk0
             go_wp2_with fail)
          refine (parse_any (some ⟨P, 0, none⟩) n (n + 80) us _ HL.out (by omega) (by omega) (by have := HL.out; omega) (spare_rd (by first | exact blkN GP10.out _ | exact blkN (blkN GP10.out _) _)) HB.out).mono ?_
          rintro e w11 ⟨vc, rfl, -, b11⟩
          have GP11 : Hid (Blk w11 P 5 ((spL us).map (Value.int .u8))) := Lib.hid (by first | exact (blkN GP10.out _).below b11 GP10.out.lt | exact (blkN (blkN GP10.out _) _).below b11 GP10.out.lt)
          have W11 : Hid (Below w.heap.size w w11) := Lib.hid (by first | exact (belowN W10.out _).trans (b11.mono W10.out.size) | exact (belowN (belowN W10.out _) _).trans (b11.mono W10.out.size))
          clear b11 GP10 RP10 W10 B10
          go_wp2_with fail
          go_loopw [15] (fun z wx => ∃ (i : Nat) (zs : List Int), i ≤ n ∧ z = .int .i64 i ∧ Hid (n = zs.length) ∧ Hid (B8 zs) ∧ Hid (Blk wx P 5 ((spL zs).map (Value.int .u8))) ∧ Hid (Below w.heap.size w wx)) (fun z _ => n - (intOf z).toNat)
          case atStart => exact ⟨0, us, Nat.zero_le _, rfl, HL, HB, GP11, W11⟩
          case round =>
            obtain ⟨i, zs, hi, rfl, HZ, HBZ, GZ, WZ⟩ := hrel
            by_cases hil : i < n
            · obtain ⟨b, off, y, hA, hc, HYK⟩ := (spare_rd GZ.out).at i (by have := HZ.out; omega)
              cases hA
              rw [Nat.zero_add] at hc
              obtain ⟨Y, hY⟩ : ∃ Y : Nat, y = (Y : Int) := ⟨y.toNat, by have := HBZ.out i; have := HYK.out; omega⟩
              have hY8 : Y < 256 := by have := HBZ.out i; have := HYK.out; omega
              subst hY
              have hfz := GZ.out.frozen i
              obtain ⟨Z, hZ⟩ : ∃ Z, Z = 1 + i % 2 := ⟨_, rfl⟩
              have hZ8 : Z < 256 := by omega
              have hw2 : IntKind.u8.wrap (1 + (i : Int) % 2) = (Z : Int) := by rw [hZ]; simp [IntKind.wrap, IntKind.bits, IntKind.signed]; omega
              have hm0 : 0 ≤ (i : Int) % 2 := by omega
              have hm1 : (i : Int) % 2 ≤ 1 := by omega
              have HX8 := Lib.hid (xor8 Y Z hY8 hZ8)
              clear hZ
              go_wp2_with fail
              go_roundw
              case rel => exact ⟨i + 1, zs.set i (bits .xor .u8 (Y : Int) (Z : Int)), by omega, by go_num, Lib.hid (by rw [List.length_set]; exact HZ.out), Lib.hid (HBZ.out.set i HX8.out), Lib.hid (spare_set GZ.out (by have := HZ.out; omega) _), Lib.hid (WZ.out.setCell (p := ⟨P, i, none⟩) HPW.out _)⟩
              case measure => simp [intOf]; omega
            · have hge : decide ((i : Int) < (n : Int)) = false := by simp; omega
              go_wp2_with fail
              go_roundw
              case rel => exact ⟨k + 1, zs, by omega, by go_num, HZ, HBZ, Lib.hid (fun h => absurd h (Nat.succ_ne_zero _)), GZ, WZ⟩
              case measure => simp [intOf]; omega))
    · obtain rfl : k = 2 := by omega
      go_wp2_with fail
      go_ret
      exact ⟨rfl, HW.out⟩
end Go.Proofs.Ytedejkfhgpnhpaa

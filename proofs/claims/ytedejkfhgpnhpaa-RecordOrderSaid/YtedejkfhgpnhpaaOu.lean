/-
  Walk: the law RecordOrder.
-/
import Derived.Test.YtedejkfhgpnhpaaRp
import Derived.Test.YtedejkfhgpnhpaaOa
import Derived.Test.YtedejkfhgpnhpaaOc
import Derived.Test.YtedejkfhgpnhpaaLk
import Derived.Deep.MidRow
set_option linter.unusedVariables false
set_option linter.unusedSimpArgs false
namespace Go.Proofs.Ytedejkfhgpnhpaa
open Go.RowKit

theorem exec_load_mid {P : Program} {o : Oper} {a : Act} {w : World} (ty : TypeId) (x : Operand) (ho : o.op = .load ty x) (b off : Nat) (hx : a.eval x = .pointer (some ⟨b, off, none⟩)) (cs : List Value) (d : TypeDesc) (hc : w.rangeAt b off cs)
    (hu : P.underlying ty = some d) (hd : d.isRow = true) (hi : (P.info? ty).map (·.size) = some cs.length) : (execOp a.eval o).run P w = .ok (.value (.agg cs.toArray)) w := by
  unfold execOp
  simp only [ho, hx, Instr.loadAt, Instr.sureAddr, Sem.run_bind, Sem.run_pure, Result.andThen_ok, run_loadVar_mid w b off ty cs d hc hu hd hi]
theorem hdl {w : World} {D : Nat} {xs : List Int} (h : Hd w D (hdr xs)) {l : Nat} (L : Int) (e : (xs.getD 0 0).toNat = l) (hL : (l : Int) = L) : w.cell? ⟨D, 0, none⟩ = some (.int .u8 L) := by
  have h2 : Blk w D 26 (hlist (xs.getD 0 0).toNat (xs.getD 1 0).toNat (numR xs 2) (numR xs 6) (fun j => xs.getD (10 + j) 0)) := by unfold hdr hArr at h; exact h
  have := h2.cell 0
  rw [this, ← hL, ← e]; rfl
theorem hdi {w : World} {D : Nat} {xs : List Int} (h : Hd w D (hdr xs)) : w.cell? ⟨D, 2, none⟩ = some (.int .u32 (numR xs 2 : Nat)) := by
  have h2 : Blk w D 26 (hlist (xs.getD 0 0).toNat (xs.getD 1 0).toNat (numR xs 2) (numR xs 6) (fun j => xs.getD (10 + j) 0)) := by unfold hdr hArr at h; exact h
  exact h2.cell 2
theorem hdg {w : World} {D : Nat} {xs : List Int} (h : Hd w D (hdr xs)) (hl : 26 ≤ xs.length) : w.rangeAt D 4 ((gcut xs).map (Value.int .u8)) := by
  have h2 : Blk w D 26 (hlist (xs.getD 0 0).toNat (xs.getD 1 0).toNat (numR xs 2) (numR xs 6) (fun j => xs.getD (10 + j) 0)) := by unfold hdr hArr at h; exact h
  intro j v hv
  have hg : (gcut xs).map (Value.int .u8) = (List.range 16).map (fun j => Value.int .u8 (xs.getD (10 + j) 0)) := grp16 xs hl
  rw [hg] at hv
  rw [← hv]
  refine (h2.cell (4 + j)).trans ?_
  have : hlist (xs.getD 0 0).toNat (xs.getD 1 0).toNat (numR xs 2) (numR xs 6) (fun j => xs.getD (10 + j) 0) = [.int .u8 ((xs.getD 0 0).toNat : Nat), .int .u8 ((xs.getD 1 0).toNat : Nat), .int .u32 (numR xs 2 : Nat), .int .u32 (numR xs 6 : Nat)] ++ (List.range 16).map (fun j => Value.int .u8 (xs.getD (10 + j) 0)) := rfl
  rw [this, List.getElem?_append_right (by simp)]
  simp
theorem eq_group {a b : List Int} (ha : B8 a) (hb : B8 b) (la : a.length = 16) (lb : b.length = 16) (v : Bool) (hv : decide (a = b) = v) (w : World) : (Op.equalIn 10000 24 (.agg (a.map (Value.int .u8)).toArray) (.agg (b.map (Value.int .u8)).toArray)).run Try.prog w = .ok v w := by
  have h := run_equalIn_bytes (P := Try.prog) w 9998 24 5 16 Try.underlying24 Try.underlying5 size5w (ub a) (ub b) (by simp [ub, la]) (by simp [ub, lb])
  rw [ub_cell ha, ub_cell hb, ub_eq ha hb] at h
  rw [← hv]
  exact h
theorem B8.cut {xs : List Int} (h : B8 xs) (k m : Nat) : B8 ((xs.drop k).take m) := (h.drop k).take m
theorem lv_one {xs : List Int} {n : Nat} (h : isR xs n = true) : (xs.getD 0 0).toNat = 0 ∨ (xs.getD 0 0).toNat = 1 := by
  unfold isR at h
  simp only [Bool.and_eq_true, decide_eq_true_eq] at h
  omega
theorem lv_is {xs : List Int} {n : Nat} (h : isR xs n = true) (v : Bool) (hv : decide ((xs.getD 0 0).toNat = 1) = v) : lvR xs n = v := by
  unfold lvR
  rw [h, hv]; rfl

set_option maxRecDepth 100000 in
set_option maxHeartbeats 8000000 in
theorem orders_law (A : Option Addr) (n c : Nat) (xs : List Int) (B : Option Addr) (m d : Nat) (ys : List Int) (C : Option Addr) (k e : Nat) (zs : List Int) (w : World) (hn : n = xs.length) (hm : m = ys.length) (hk : k = zs.length)
    (hnc : n ≤ c) (hmd : m ≤ d) (hke : k ≤ e) (hc : c ≤ 9223372036854775807) (hd : d ≤ 9223372036854775807) (he : e ≤ 9223372036854775807) (hx : Rd w .u8 A xs) (hy : Rd w .u8 B ys) (hz : Rd w .u8 C zs) (hBx : B8 xs) (hBy : B8 ys) (hBz : B8 zs) (hl : xs.length ≤ 140737488354000) (hl2 : ys.length ≤ 140737488354000) (hl3 : zs.length ≤ 140737488354000) :
    Calls Try.prog 10 #[.slice A n c, .slice B m d, .slice C k e] w fun e' w' => e' = .returned (.bool true) ∧ Below w.heap.size w w' := by
  have HX := Lib.hid hx
  have HY := Lib.hid hy
  have HZ := Lib.hid hz
  have HN := Lib.hid hn
  have HM := Lib.hid hm
  have HK := Lib.hid hk
  have HBX := Lib.hid hBx
  have HBY := Lib.hid hBy
  have HBZ := Lib.hid hBz
  clear hx hy hz hn hm hk hBx hBy hBz
  go_enter Try.func10, Try.ntmps10
  go_wp2_with fail
  refine (awake_any w).mono ?_
  rintro e' w1 ⟨rfl, b1⟩
  have W1 := Lib.hid b1
  clear b1
  go_wp2_with fail
  refine (byGroup_any A B n c m d xs ys w1 HN.out HM.out hnc hmd hc hd (HX.out.below W1.out) (HY.out.below W1.out) HBX.out HBY.out).mono ?_
  rintro e' w2 ⟨rfl, bb⟩
  have W2 := Lib.hid (W1.out.trans (bb.mono W1.out.size))
  clear bb W1
  go_wp2_with fail
  refine (byGroup_any B A m d n c ys xs w2 HM.out HN.out hmd hnc hd hc (HY.out.below W2.out) (HX.out.below W2.out) HBY.out HBX.out).mono ?_
  rintro e' w3 ⟨rfl, bb⟩
  have W3 := Lib.hid (W2.out.trans (bb.mono W2.out.size))
  clear bb W2
  go_wp2_with fail
  refine (byGroup_any B C m d k e ys zs w3 HM.out HK.out hmd hke hd he (HY.out.below W3.out) (HZ.out.below W3.out) HBY.out HBZ.out).mono ?_
  rintro e' w4 ⟨rfl, bb⟩
  have W4 := Lib.hid (W3.out.trans (bb.mono W3.out.size))
  clear bb W3
  go_wp2_with fail
  refine (byGroup_any A C n c k e xs zs w4 HN.out HK.out hnc hke hc he (HX.out.below W4.out) (HZ.out.below W4.out) HBX.out HBZ.out).mono ?_
  rintro e' w5 ⟨rfl, bb⟩
  have W5 := Lib.hid (W4.out.trans (bb.mono W4.out.size))
  clear bb W4
  go_wp2_with fail
  refine (byGroup_any A A n c n c xs xs w5 HN.out HN.out hnc hnc hc hc (HX.out.below W5.out) (HX.out.below W5.out) HBX.out HBX.out).mono ?_
  rintro e' w6 ⟨rfl, bb⟩
  have W6 := Lib.hid (W5.out.trans (bb.mono W5.out.size))
  clear bb W5
  go_wp2_with fail
  rw [bg_irr xs n]
  refine (order_any (bgR xs n ys m) (bgR ys m xs n) (bgR ys m zs k) (bgR xs n zs k) w6 (bg_asym xs n ys m) (fun h1 h2 => bg_trans h1 h2)).mono ?_
  rintro e' w' ⟨rfl, q, rfl⟩
  have W7 := Lib.hid (belowN W6.out q)
  generalize w6.drewN q = w7 at W7
  clear W6
  go_wp2_with fail
  refine (byIndex_any A B n c m d xs ys w7 HN.out HM.out hnc hmd hc hd (HX.out.below W7.out) (HY.out.below W7.out) HBX.out HBY.out).mono ?_
  rintro e' w' ⟨rfl, q, rfl⟩
  have W8 := Lib.hid (belowN W7.out q)
  generalize w7.drewN q = w8 at W8
  clear W7
  go_wp2_with fail
  refine (byIndex_any B A m d n c ys xs w8 HM.out HN.out hmd hnc hd hc (HY.out.below W8.out) (HX.out.below W8.out) HBY.out HBX.out).mono ?_
  rintro e' w' ⟨rfl, q, rfl⟩
  have W9 := Lib.hid (belowN W8.out q)
  generalize w8.drewN q = w9 at W9
  clear W8
  go_wp2_with fail
  refine (byIndex_any B C m d k e ys zs w9 HM.out HK.out hmd hke hd he (HY.out.below W9.out) (HZ.out.below W9.out) HBY.out HBZ.out).mono ?_
  rintro e' w' ⟨rfl, q, rfl⟩
  have W10 := Lib.hid (belowN W9.out q)
  generalize w9.drewN q = w10 at W10
  clear W9
  go_wp2_with fail
  refine (byIndex_any A C n c k e xs zs w10 HN.out HK.out hnc hke hc he (HX.out.below W10.out) (HZ.out.below W10.out) HBX.out HBZ.out).mono ?_
  rintro e' w' ⟨rfl, q, rfl⟩
  have W11 := Lib.hid (belowN W10.out q)
  generalize w10.drewN q = w11 at W11
  clear W10
  go_wp2_with fail
  refine (byIndex_any A A n c n c xs xs w11 HN.out HN.out hnc hnc hc hc (HX.out.below W11.out) (HX.out.below W11.out) HBX.out HBX.out).mono ?_
  rintro e' w' ⟨rfl, q, rfl⟩
  have W12 := Lib.hid (belowN W11.out q)
  generalize w11.drewN q = w12 at W12
  clear W11
  go_wp2_with fail
  rw [ix_irr xs n]
  refine (order_any (ixR xs n ys m) (ixR ys m xs n) (ixR ys m zs k) (ixR xs n zs k) w12 (ix_asym xs n ys m) (fun h1 h2 => ix_trans h1 h2)).mono ?_
  rintro e' w' ⟨rfl, q, rfl⟩
  have W13 := Lib.hid (belowN W12.out q)
  generalize w12.drewN q = w13 at W13
  clear W12
  go_wp2_with fail
  refine (copy_ats A n c xs w13 HN.out (HX.out.below W13.out) (by omega)).mono ?_
  rintro e' w14 ⟨Ag, cg, rfl, Rg, HAg, bb⟩
  have W14 := Lib.hid (W13.out.trans (bb.mono W13.out.size))
  clear bb W13 HAg
  go_wp2_with fail
  have hp := parse_any Ag n cg xs w14 HN.out Rg.out.2.1 Rg.out.2.2 (by omega) Rg.out.1 HBX.out
  have Sg := Lib.hid (pH_size xs n)
  have Zg := Lib.hid (pH_sz xs n)
  have Cg := Lib.hid (pH_cells xs n)
  generalize hK : pH xs n = Kg at hp Sg Zg Cg
  have HKg := Lib.hid hK
  clear hK
  refine hp.mono ?_
  rintro e' w15 ⟨vg, rfl, og, bb⟩
  obtain ⟨Bg, dg, rfl, -, -, -, -⟩ := og.slice
  have W15 := Lib.hid (W14.out.trans (bb.mono W14.out.size))
  clear hp bb W14 og Rg
  go_wp2_with (refine wpList_store_row rfl 26 _ _ rfl w15.heap.size Kg rfl rfl 26 _ (heap_alloc_new _ _) Sg.out Zg.out Cg.out ?_)
  have hbx := boxed w15 #[.int .u8 0, .int .u8 0, .int .u32 0, .int .u32 0, .int .u8 0, .int .u8 0, .int .u8 0, .int .u8 0, .int .u8 0, .int .u8 0, .int .u8 0, .int .u8 0, .int .u8 0, .int .u8 0, .int .u8 0, .int .u8 0, .int .u8 0, .int .u8 0, .int .u8 0, .int .u8 0] Kg
  generalize ((w15.alloc (.cells #[.int .u8 0, .int .u8 0, .int .u32 0, .int .u32 0, .int .u8 0, .int .u8 0, .int .u8 0, .int .u8 0, .int .u8 0, .int .u8 0, .int .u8 0, .int .u8 0, .int .u8 0, .int .u8 0, .int .u8 0, .int .u8 0, .int .u8 0, .int .u8 0, .int .u8 0, .int .u8 0] 26)).setRow w15.heap.size Kg) = w16 at hbx ⊢
  have W16 := Lib.hid (W15.out.trans (hbx.2.mono W15.out.size))
  obtain ⟨Dg, hD⟩ : ∃ D, D = w15.heap.size := ⟨_, rfl⟩
  rw [← hD] at hbx ⊢
  have HDg16 := Lib.hid hbx.1
  clear hbx hD W15
  refine (copy_ats B m d ys w16 HM.out (HY.out.below W16.out) (by omega)).mono ?_
  rintro e' w17 ⟨Ah, ch, rfl, Rh, HAh, bb⟩
  have W17 := Lib.hid (W16.out.trans (bb.mono W16.out.size))
  have HDg17 := Lib.hid (HDg16.out.below HDg16.out.lt bb)
  clear bb HDg16 W16 HAh
  go_wp2_with fail
  have hp := parse_any Ah m ch ys w17 HM.out Rh.out.2.1 Rh.out.2.2 (by omega) Rh.out.1 HBY.out
  have Sh := Lib.hid (pH_size ys m)
  have Zh := Lib.hid (pH_sz ys m)
  have Ch := Lib.hid (pH_cells ys m)
  generalize hK : pH ys m = Kh at hp Sh Zh Ch
  have HKh := Lib.hid hK
  clear hK
  refine hp.mono ?_
  rintro e' w18 ⟨vh, rfl, oh, bb⟩
  obtain ⟨Bh, dh, rfl, -, -, -, -⟩ := oh.slice
  have W18 := Lib.hid (W17.out.trans (bb.mono W17.out.size))
  have HDg18 := Lib.hid (HDg17.out.below HDg17.out.lt bb)
  clear hp bb HDg17 W17 oh Rh
  cases hI : isR xs n
  · cases hJ : isR ys m
    · rw [show pE xs n = 140 from by unfold pE; rw [hI]; rfl, show pE ys m = 140 from by unfold pE; rw [hJ]; rfl]
      have b1 : Hid (bgR xs n ys m = false) := Lib.hid (by unfold bgR; rw [hI, hJ]; rfl)
      have b2 : Hid (ixR xs n ys m = false) := Lib.hid (by unfold ixR; rw [hI, hJ]; rfl)
      have b3 : Hid (tgR xs n ys m = false) := Lib.hid (by unfold tgR lvR; rw [hI, hJ]; simp)
      clear hI hJ
      go_wp2_with (refine wpList_store_row rfl 26 _ _ rfl w18.heap.size Kh rfl rfl 26 _ (heap_alloc_new _ _) Sh.out Zh.out Ch.out ?_)
      have hbx := boxed w18 #[.int .u8 0, .int .u8 0, .int .u32 0, .int .u32 0, .int .u8 0, .int .u8 0, .int .u8 0, .int .u8 0, .int .u8 0, .int .u8 0, .int .u8 0, .int .u8 0, .int .u8 0, .int .u8 0, .int .u8 0, .int .u8 0, .int .u8 0, .int .u8 0, .int .u8 0, .int .u8 0] Kh
      generalize ((w18.alloc (.cells #[.int .u8 0, .int .u8 0, .int .u32 0, .int .u32 0, .int .u8 0, .int .u8 0, .int .u8 0, .int .u8 0, .int .u8 0, .int .u8 0, .int .u8 0, .int .u8 0, .int .u8 0, .int .u8 0, .int .u8 0, .int .u8 0, .int .u8 0, .int .u8 0, .int .u8 0, .int .u8 0] 26)).setRow w18.heap.size Kh) = w19 at hbx ⊢
      have W19 := Lib.hid (W18.out.trans (hbx.2.mono W18.out.size))
      have HDg19 := Lib.hid (HDg18.out.below HDg18.out.lt hbx.2)
      clear HDg18
      obtain ⟨Dh, hD⟩ : ∃ D, D = w18.heap.size := ⟨_, rfl⟩
      rw [← hD] at hbx ⊢
      have HDh19 := Lib.hid hbx.1
      clear hbx hD W18
      refine (byGroup_any A B n c m d xs ys w19 HN.out HM.out hnc hmd hc hd (HX.out.below W19.out) (HY.out.below W19.out) HBX.out HBY.out).mono ?_
      rintro e' w20 ⟨rfl, bb⟩
      have W20 := Lib.hid (W19.out.trans (bb.mono W19.out.size))
      rw [b1.out]
      clear bb W19
      go_wp2_with fail
      refine (byIndex_any A B n c m d xs ys w20 HN.out HM.out hnc hmd hc hd (HX.out.below W20.out) (HY.out.below W20.out) HBX.out HBY.out).mono ?_
      rintro e' w' ⟨rfl, q, rfl⟩
      rw [b2.out]
      have W21 := Lib.hid (belowN W20.out q)
      generalize w20.drewN q = w21 at W21
      clear W20
      go_wp2_with fail
      refine (tog_any A B n c m d xs ys w21 HN.out HM.out hnc hmd hc hd (HX.out.below W21.out) (HY.out.below W21.out) HBX.out HBY.out).mono ?_
      rintro e' w22 ⟨rfl, bb⟩
      have W22 := Lib.hid (W21.out.trans (bb.mono W21.out.size))
      rw [b3.out]
      clear bb W21
      go_wp2_with fail
      go_ret
      exact ⟨rfl, W22.out⟩
    · rw [show pE xs n = 140 from by unfold pE; rw [hI]; rfl, show pE ys m = 0 from by unfold pE; rw [hJ]; rfl]
      have b1 : Hid (bgR xs n ys m = false) := Lib.hid (by unfold bgR; rw [hI, hJ]; rfl)
      have b2 : Hid (ixR xs n ys m = false) := Lib.hid (by unfold ixR; rw [hI, hJ]; rfl)
      have b3 : Hid (tgR xs n ys m = false) := Lib.hid (by unfold tgR lvR; rw [hI, hJ]; simp)
      clear hI hJ
      go_wp2_with (refine wpList_store_row rfl 26 _ _ rfl w18.heap.size Kh rfl rfl 26 _ (heap_alloc_new _ _) Sh.out Zh.out Ch.out ?_)
      have hbx := boxed w18 #[.int .u8 0, .int .u8 0, .int .u32 0, .int .u32 0, .int .u8 0, .int .u8 0, .int .u8 0, .int .u8 0, .int .u8 0, .int .u8 0, .int .u8 0, .int .u8 0, .int .u8 0, .int .u8 0, .int .u8 0, .int .u8 0, .int .u8 0, .int .u8 0, .int .u8 0, .int .u8 0] Kh
      generalize ((w18.alloc (.cells #[.int .u8 0, .int .u8 0, .int .u32 0, .int .u32 0, .int .u8 0, .int .u8 0, .int .u8 0, .int .u8 0, .int .u8 0, .int .u8 0, .int .u8 0, .int .u8 0, .int .u8 0, .int .u8 0, .int .u8 0, .int .u8 0, .int .u8 0, .int .u8 0, .int .u8 0, .int .u8 0] 26)).setRow w18.heap.size Kh) = w19 at hbx ⊢
      have W19 := Lib.hid (W18.out.trans (hbx.2.mono W18.out.size))
      have HDg19 := Lib.hid (HDg18.out.below HDg18.out.lt hbx.2)
      clear HDg18
      obtain ⟨Dh, hD⟩ : ∃ D, D = w18.heap.size := ⟨_, rfl⟩
      rw [← hD] at hbx ⊢
      have HDh19 := Lib.hid hbx.1
      clear hbx hD W18
      refine (byGroup_any A B n c m d xs ys w19 HN.out HM.out hnc hmd hc hd (HX.out.below W19.out) (HY.out.below W19.out) HBX.out HBY.out).mono ?_
      rintro e' w20 ⟨rfl, bb⟩
      have W20 := Lib.hid (W19.out.trans (bb.mono W19.out.size))
      rw [b1.out]
      clear bb W19
      go_wp2_with fail
      refine (byIndex_any A B n c m d xs ys w20 HN.out HM.out hnc hmd hc hd (HX.out.below W20.out) (HY.out.below W20.out) HBX.out HBY.out).mono ?_
      rintro e' w' ⟨rfl, q, rfl⟩
      rw [b2.out]
      have W21 := Lib.hid (belowN W20.out q)
      generalize w20.drewN q = w21 at W21
      clear W20
      go_wp2_with fail
      refine (tog_any A B n c m d xs ys w21 HN.out HM.out hnc hmd hc hd (HX.out.below W21.out) (HY.out.below W21.out) HBX.out HBY.out).mono ?_
      rintro e' w22 ⟨rfl, bb⟩
      have W22 := Lib.hid (W21.out.trans (bb.mono W21.out.size))
      rw [b3.out]
      clear bb W21
      go_wp2_with fail
      go_ret
      exact ⟨rfl, W22.out⟩
  · cases hJ : isR ys m
    · rw [show pE xs n = 0 from by unfold pE; rw [hI]; rfl, show pE ys m = 140 from by unfold pE; rw [hJ]; rfl]
      have b1 : Hid (bgR xs n ys m = false) := Lib.hid (by unfold bgR; rw [hI, hJ]; rfl)
      have b2 : Hid (ixR xs n ys m = false) := Lib.hid (by unfold ixR; rw [hI, hJ]; rfl)
      have b3 : Hid (tgR xs n ys m = false) := Lib.hid (by unfold tgR lvR; rw [hI, hJ]; simp)
      clear hI hJ
      go_wp2_with (refine wpList_store_row rfl 26 _ _ rfl w18.heap.size Kh rfl rfl 26 _ (heap_alloc_new _ _) Sh.out Zh.out Ch.out ?_)
      have hbx := boxed w18 #[.int .u8 0, .int .u8 0, .int .u32 0, .int .u32 0, .int .u8 0, .int .u8 0, .int .u8 0, .int .u8 0, .int .u8 0, .int .u8 0, .int .u8 0, .int .u8 0, .int .u8 0, .int .u8 0, .int .u8 0, .int .u8 0, .int .u8 0, .int .u8 0, .int .u8 0, .int .u8 0] Kh
      generalize ((w18.alloc (.cells #[.int .u8 0, .int .u8 0, .int .u32 0, .int .u32 0, .int .u8 0, .int .u8 0, .int .u8 0, .int .u8 0, .int .u8 0, .int .u8 0, .int .u8 0, .int .u8 0, .int .u8 0, .int .u8 0, .int .u8 0, .int .u8 0, .int .u8 0, .int .u8 0, .int .u8 0, .int .u8 0] 26)).setRow w18.heap.size Kh) = w19 at hbx ⊢
      have W19 := Lib.hid (W18.out.trans (hbx.2.mono W18.out.size))
      have HDg19 := Lib.hid (HDg18.out.below HDg18.out.lt hbx.2)
      clear HDg18
      obtain ⟨Dh, hD⟩ : ∃ D, D = w18.heap.size := ⟨_, rfl⟩
      rw [← hD] at hbx ⊢
      have HDh19 := Lib.hid hbx.1
      clear hbx hD W18
      refine (byGroup_any A B n c m d xs ys w19 HN.out HM.out hnc hmd hc hd (HX.out.below W19.out) (HY.out.below W19.out) HBX.out HBY.out).mono ?_
      rintro e' w20 ⟨rfl, bb⟩
      have W20 := Lib.hid (W19.out.trans (bb.mono W19.out.size))
      rw [b1.out]
      clear bb W19
      go_wp2_with fail
      refine (byIndex_any A B n c m d xs ys w20 HN.out HM.out hnc hmd hc hd (HX.out.below W20.out) (HY.out.below W20.out) HBX.out HBY.out).mono ?_
      rintro e' w' ⟨rfl, q, rfl⟩
      rw [b2.out]
      have W21 := Lib.hid (belowN W20.out q)
      generalize w20.drewN q = w21 at W21
      clear W20
      go_wp2_with fail
      refine (tog_any A B n c m d xs ys w21 HN.out HM.out hnc hmd hc hd (HX.out.below W21.out) (HY.out.below W21.out) HBX.out HBY.out).mono ?_
      rintro e' w22 ⟨rfl, bb⟩
      have W22 := Lib.hid (W21.out.trans (bb.mono W21.out.size))
      rw [b3.out]
      clear bb W21
      go_wp2_with fail
      go_ret
      exact ⟨rfl, W22.out⟩
    · rw [show pE xs n = 0 from by unfold pE; rw [hI]; rfl, show pE ys m = 0 from by unfold pE; rw [hJ]; rfl]
      have EG : Hid (Kg = hdr xs) := Lib.hid (by rw [← HKg.out]; unfold pH; rw [hI]; rfl)
      have EH : Hid (Kh = hdr ys) := Lib.hid (by rw [← HKh.out]; unfold pH; rw [hJ]; rfl)
      have HI := Lib.hid hI
      have HJ := Lib.hid hJ
      have H26 : Hid (26 ≤ xs.length ∧ 26 ≤ ys.length) := Lib.hid ⟨HN.out ▸ isR_26 hI, HM.out ▸ isR_26 hJ⟩
      clear hI hJ
      go_upto_if 75 with (refine wpList_store_row rfl 26 _ _ rfl w18.heap.size Kh rfl rfl 26 _ (heap_alloc_new _ _) Sh.out Zh.out Ch.out ?_)
      have hbx := boxed w18 #[.int .u8 0, .int .u8 0, .int .u32 0, .int .u32 0, .int .u8 0, .int .u8 0, .int .u8 0, .int .u8 0, .int .u8 0, .int .u8 0, .int .u8 0, .int .u8 0, .int .u8 0, .int .u8 0, .int .u8 0, .int .u8 0, .int .u8 0, .int .u8 0, .int .u8 0, .int .u8 0] Kh
      generalize ((w18.alloc (.cells #[.int .u8 0, .int .u8 0, .int .u32 0, .int .u32 0, .int .u8 0, .int .u8 0, .int .u8 0, .int .u8 0, .int .u8 0, .int .u8 0, .int .u8 0, .int .u8 0, .int .u8 0, .int .u8 0, .int .u8 0, .int .u8 0, .int .u8 0, .int .u8 0, .int .u8 0, .int .u8 0] 26)).setRow w18.heap.size Kh) = w19 at hbx ⊢
      have W19 := Lib.hid (W18.out.trans (hbx.2.mono W18.out.size))
      have HDg19 := Lib.hid (HDg18.out.below HDg18.out.lt hbx.2)
      clear HDg18
      obtain ⟨Dh, hD⟩ : ∃ D, D = w18.heap.size := ⟨_, rfl⟩
      rw [← hD] at hbx ⊢
      have HDh19 := Lib.hid hbx.1
      clear hbx hD W18
      have HDg0 : Hid (Hd w19 Dg (hdr xs)) := Lib.hid (EG.out ▸ HDg19.out)
      have HDh0 : Hid (Hd w19 Dh (hdr ys)) := Lib.hid (EH.out ▸ HDh19.out)
      have W0 := W19
      clear W19 HDg19 HDh19 EG EH HKg HKh Sg Zg Cg Sh Zh Ch
      generalize w19 = w0 at *
      go_upto_region 11 with fail
      go_cut [116] from 92 (fun v wx => v = .bool false ∧ Below w.heap.size w wx ∧ Hd wx Dg (hdr xs) ∧ Hd wx Dh (hdr ys))
      case first =>
        have ci := hdi HDg0.out
        have cj := hdi HDh0.out
        by_cases hne : numR xs 2 = numR ys 2
        · have q1 : (((numR xs 2 : Nat) : Int) != ((numR ys 2 : Nat) : Int)) = false := by rw [hne]; simp
          clear hne
          go_wp2_with fail
          go_meet
          exact ⟨rfl, W0.out, HDg0.out, HDh0.out⟩
        · have q1 : (((numR xs 2 : Nat) : Int) != ((numR ys 2 : Nat) : Int)) = true := by rw [bne_iff_ne]; omega
          have B1 : Hid (bgR ys m xs n = !bgR xs n ys m) := Lib.hid (bg_one HI.out HJ.out hne)
          have B2 : Hid (ixR ys m xs n = !ixR xs n ys m) := Lib.hid (ix_one HI.out HJ.out hne)
          have XB : Hid (bits .xor .u64 (mk (bgR xs n ys m)) (mk (bgR ys m xs n)) = 18446744073709551615) := Lib.hid (by rw [B1.out, mk_xor]; cases bgR xs n ys m <;> rfl)
          have XI : Hid (bits .xor .u64 (mk (ixR xs n ys m)) (mk (ixR ys m xs n)) = 18446744073709551615) := Lib.hid (by rw [B2.out, mk_xor]; cases ixR xs n ys m <;> rfl)
          clear hne
          go_wp2_with fail
          clear ci cj
          refine (byGroup_any A B n c m d xs ys w0 HN.out HM.out hnc hmd hc hd (HX.out.below W0.out) (HY.out.below W0.out) HBX.out HBY.out).mono ?_
          rintro e' w1 ⟨rfl, bb⟩
          have HDg1 := Lib.hid (HDg0.out.below HDg0.out.lt bb)
          have HDh1 := Lib.hid (HDh0.out.below HDh0.out.lt bb)
          have W1 := Lib.hid (W0.out.trans (bb.mono W0.out.size))
          clear bb W0 HDg0 HDh0
          go_wp2_with fail
          refine (byGroup_any B A m d n c ys xs w1 HM.out HN.out hmd hnc hd hc (HY.out.below W1.out) (HX.out.below W1.out) HBY.out HBX.out).mono ?_
          rintro e' w2 ⟨rfl, bb⟩
          have HDg2 := Lib.hid (HDg1.out.below HDg1.out.lt bb)
          have HDh2 := Lib.hid (HDh1.out.below HDh1.out.lt bb)
          have W2 := Lib.hid (W1.out.trans (bb.mono W1.out.size))
          clear bb W1 HDg1 HDh1
          have xb := XB.out
          go_wp2_with fail
          clear xb
          refine (byIndex_any A B n c m d xs ys w2 HN.out HM.out hnc hmd hc hd (HX.out.below W2.out) (HY.out.below W2.out) HBX.out HBY.out).mono ?_
          rintro e' w' ⟨rfl, q, rfl⟩
          have bb := belowN (Below.refl w2.heap.size w2) q
          have HDg3 := Lib.hid (HDg2.out.below HDg2.out.lt bb)
          have HDh3 := Lib.hid (HDh2.out.below HDh2.out.lt bb)
          have W3 := Lib.hid (belowN W2.out q)
          generalize w2.drewN q = w3 at *
          clear bb W2 HDg2 HDh2
          go_wp2_with fail
          refine (byIndex_any B A m d n c ys xs w3 HM.out HN.out hmd hnc hd hc (HY.out.below W3.out) (HX.out.below W3.out) HBY.out HBX.out).mono ?_
          rintro e' w' ⟨rfl, q, rfl⟩
          have bb := belowN (Below.refl w3.heap.size w3) q
          have HDg4 := Lib.hid (HDg3.out.below HDg3.out.lt bb)
          have HDh4 := Lib.hid (HDh3.out.below HDh3.out.lt bb)
          have W4 := Lib.hid (belowN W3.out q)
          generalize w3.drewN q = w4 at *
          clear bb W3 HDg3 HDh3
          have xb := XI.out
          go_wp2_with fail
          go_meet
          exact ⟨rfl, W4.out, HDg4.out, HDh4.out⟩
      case rest =>
        obtain ⟨rfl, hcw, hcg, hch⟩ := hcut
        have W5 := Lib.hid hcw
        have HDg5 := Lib.hid hcg
        have HDh5 := Lib.hid hch
        clear hcw hcg hch
        generalize wc = w5 at *
        go_upto_region 13 with fail
        go_cut [158] from 117 (fun v wx => v = .bool false ∧ Below w.heap.size w wx ∧ Hd wx Dg (hdr xs) ∧ Hd wx Dh (hdr ys))
        case first =>
          rcases lv_one HI.out with l1 | l1
          · rcases lv_one HJ.out with l2 | l2
            · have L1 := Lib.hid l1
              have L2 := Lib.hid l2
              have v1 : lvR xs n = false := lv_is HI.out _ (by rw [l1]; rfl)
              have v2 : lvR ys m = false := lv_is HJ.out _ (by rw [l2]; rfl)
              have TG : Hid (tgR xs n ys m = false) := Lib.hid (by unfold tgR; rw [v1, v2]; simp)
              have TG2 : Hid (tgR ys m xs n = false) := Lib.hid (by rw [← tg_sym, TG.out])
              clear l1 l2 v1 v2
              refine wp_region_held_drew (S := fun w' => Hd w' Dg (hdr xs) ∧ Hd w' Dh (hdr ys)) (by kernel_rfl) (⟨HDg5.out, HDh5.out⟩) (fun hHeld => ?_)
              have bb := (Below.refl w5.heap.size w5).drew
              have HDgr0 := Lib.hid (HDg5.out.below HDg5.out.lt bb)
              have HDhr0 := Lib.hid (HDh5.out.below HDh5.out.lt bb)
              have Wr0 := Lib.hid W5.out.drew
              generalize w5.drew = wr0 at *
              clear bb W5 HDg5 HDh5
              refine wpAnyH_take (i := 0) (oi := ⟨some 117, _, _, _, _, _⟩) (v := (.pointer (some ⟨Dg, 0, none⟩))) rfl (by kernel_rfl) (by kernel_rfl) (by kernel_rfl) (fun _ _ _ h => h) (Or.inl ⟨by rfl, ?_⟩) (by assumption) ?_
              · intro w' hS; go_simp; try with_reducible rfl
              simp only [Act.put, List.setIfInBounds_toArray, List.set_cons_zero, List.set_cons_succ]
              refine wpAnyH_take (i := 1) (oi := ⟨some 118, _, _, _, _, _⟩) (v := (.int .u8 0)) rfl (by kernel_rfl) (by kernel_rfl) (by kernel_rfl) (fun _ _ _ h => h) (Or.inl ⟨by rfl, ?_⟩) (by assumption) ?_
              · intro w' hS; have h0 := hdl hS.1 0 L1.out rfl; go_simp; try with_reducible rfl
              simp only [Act.put, List.setIfInBounds_toArray, List.set_cons_zero, List.set_cons_succ]
              refine wpAnyH_take (i := 2) (oi := ⟨some 119, _, _, _, _, _⟩) (v := (.pointer (some ⟨Dh, 0, none⟩))) rfl (by kernel_rfl) (by kernel_rfl) (by kernel_rfl) (fun _ _ _ h => h) (Or.inl ⟨by rfl, ?_⟩) (by assumption) ?_
              · intro w' hS; go_simp; try with_reducible rfl
              simp only [Act.put, List.setIfInBounds_toArray, List.set_cons_zero, List.set_cons_succ]
              refine wpAnyH_take (i := 3) (oi := ⟨some 120, _, _, _, _, _⟩) (v := (.int .u8 0)) rfl (by kernel_rfl) (by kernel_rfl) (by kernel_rfl) (fun _ _ _ h => h) (Or.inl ⟨by rfl, ?_⟩) (by assumption) ?_
              · intro w' hS; have h0 := hdl hS.2 0 L2.out rfl; go_simp; try with_reducible rfl
              simp only [Act.put, List.setIfInBounds_toArray, List.set_cons_zero, List.set_cons_succ]
              refine wpAnyH_take (i := 4) (oi := ⟨some 121, _, _, _, _, _⟩) (v := (.bool false)) rfl (by kernel_rfl) (by kernel_rfl) (by kernel_rfl) (fun _ _ _ h => h) (Or.inl ⟨by rfl, ?_⟩) (by assumption) ?_
              · intro w' hS; go_simp; try with_reducible rfl
              simp only [Act.put, List.setIfInBounds_toArray, List.set_cons_zero, List.set_cons_succ]
              refine wpAnyH_take (i := 5) (oi := ⟨some 122, _, _, _, _, _⟩) (v := (.bool false)) rfl (by kernel_rfl) (by kernel_rfl) (by kernel_rfl) (fun _ _ _ h => h) (Or.inl ⟨by rfl, ?_⟩) (by assumption) ?_
              · intro w' hS; go_simp; try with_reducible rfl
              simp only [Act.put, List.setIfInBounds_toArray, List.set_cons_zero, List.set_cons_succ]
              refine wpAnyH_take (i := 6) (oi := ⟨some 123, _, _, _, _, _⟩) (v := undef) rfl (by kernel_rfl) (by kernel_rfl) (by kernel_rfl) (fun _ _ _ h => h) (Or.inr ⟨by rfl, rfl⟩) (by assumption) ?_
              simp only [Act.put, List.setIfInBounds_toArray, List.set_cons_zero, List.set_cons_succ]
              refine wpAnyH_take (i := 7) (oi := ⟨some 124, _, _, _, _, _⟩) (v := undef) rfl (by kernel_rfl) (by kernel_rfl) (by kernel_rfl) (fun _ _ _ h => h) (Or.inr ⟨by rfl, rfl⟩) (by assumption) ?_
              simp only [Act.put, List.setIfInBounds_toArray, List.set_cons_zero, List.set_cons_succ]
              refine wpAnyH_take (i := 8) (oi := ⟨some 125, _, _, _, _, _⟩) (v := undef) rfl (by kernel_rfl) (by kernel_rfl) (by kernel_rfl) (fun _ _ _ h => h) (Or.inr ⟨by rfl, rfl⟩) (by assumption) ?_
              simp only [Act.put, List.setIfInBounds_toArray, List.set_cons_zero, List.set_cons_succ]
              refine wpAnyH_take (i := 9) (oi := ⟨some 126, _, _, _, _, _⟩) (v := undef) rfl (by kernel_rfl) (by kernel_rfl) (by kernel_rfl) (fun _ _ _ h => h) (Or.inr ⟨by rfl, rfl⟩) (by assumption) ?_
              simp only [Act.put, List.setIfInBounds_toArray, List.set_cons_zero, List.set_cons_succ]
              refine wpAnyH_take (i := 10) (oi := ⟨some 127, _, _, _, _, _⟩) (v := (.bool false)) rfl (by kernel_rfl) (by kernel_rfl) (by kernel_rfl) (fun _ _ _ h => h) (Or.inl ⟨by rfl, ?_⟩) (by assumption) ?_
              · intro w' hS; go_simp; try with_reducible rfl
              simp only [Act.put, List.setIfInBounds_toArray, List.set_cons_zero, List.set_cons_succ]
              refine wpAnyH_take (i := 11) (oi := ⟨some 128, _, _, _, _, _⟩) (v := (.bool false)) rfl (by kernel_rfl) (by kernel_rfl) (by kernel_rfl) (fun _ _ _ h => h) (Or.inl ⟨by rfl, ?_⟩) (by assumption) ?_
              · intro w' hS; go_simp; try with_reducible rfl
              simp only [Act.put, List.setIfInBounds_toArray, List.set_cons_zero, List.set_cons_succ]
              refine wpAnyH_take (i := 12) (oi := ⟨some 129, _, _, _, _, _⟩) (v := (.slice A n c)) rfl (by kernel_rfl) (by kernel_rfl) (by kernel_rfl) (fun _ _ _ h => h) (Or.inl ⟨by rfl, ?_⟩) (by assumption) ?_
              · intro w' hS; go_simp; try with_reducible rfl
              simp only [Act.put, List.setIfInBounds_toArray, List.set_cons_zero, List.set_cons_succ]
              refine wpAnyH_take (i := 13) (oi := ⟨some 130, _, _, _, _, _⟩) (v := (.slice B m d)) rfl (by kernel_rfl) (by kernel_rfl) (by kernel_rfl) (fun _ _ _ h => h) (Or.inl ⟨by rfl, ?_⟩) (by assumption) ?_
              · intro w' hS; go_simp; try with_reducible rfl
              simp only [Act.put, List.setIfInBounds_toArray, List.set_cons_zero, List.set_cons_succ]
              refine wpAnyH_take (i := 16) (oi := ⟨some 133, _, _, _, _, _⟩) (v := (.pointer (some ⟨Dg, 0, none⟩))) rfl (by kernel_rfl) (by kernel_rfl) (by kernel_rfl) (fun _ _ _ h => h) (Or.inl ⟨by rfl, ?_⟩) (by assumption) ?_
              · intro w' hS; go_simp; try with_reducible rfl
              simp only [Act.put, List.setIfInBounds_toArray, List.set_cons_zero, List.set_cons_succ]
              refine wpAnyH_take (i := 17) (oi := ⟨some 134, _, _, _, _, _⟩) (v := (.int .u8 0)) rfl (by kernel_rfl) (by kernel_rfl) (by kernel_rfl) (fun _ _ _ h => h) (Or.inl ⟨by rfl, ?_⟩) (by assumption) ?_
              · intro w' hS; have h0 := hdl hS.1 0 L1.out rfl; go_simp; try with_reducible rfl
              simp only [Act.put, List.setIfInBounds_toArray, List.set_cons_zero, List.set_cons_succ]
              refine wpAnyH_take (i := 18) (oi := ⟨some 135, _, _, _, _, _⟩) (v := (.bool false)) rfl (by kernel_rfl) (by kernel_rfl) (by kernel_rfl) (fun _ _ _ h => h) (Or.inl ⟨by rfl, ?_⟩) (by assumption) ?_
              · intro w' hS; go_simp; try with_reducible rfl
              simp only [Act.put, List.setIfInBounds_toArray, List.set_cons_zero, List.set_cons_succ]
              have hcc := tog_any A B n c m d xs ys wr0 HN.out HM.out hnc hmd hc hd (HX.out.below Wr0.out) (HY.out.below Wr0.out) HBX.out HBY.out
              rw [TG.out] at hcc
              first | rw [show mk true = 18446744073709551615 from rfl] at hcc | rw [show mk false = 0 from rfl] at hcc
              have HCC := Lib.hid hcc
              clear hcc
              refine wpAnyH_ready (rs := [14]) (by kernel_rfl) (by simp) ?_
              refine AllReadyH.cons (o := ⟨some 131, _, _, _, _, _⟩) rfl (fun K hK => ?_) AllReadyH.nil
              rw [if_pos (by rfl)]
              go_simp
              refine (HCC.out).mono ?_
              rintro e' wr1 ⟨rfl, bb⟩
              clear HCC
              have HDgr1 := Lib.hid (HDgr0.out.below HDgr0.out.lt bb)
              have HDhr1 := Lib.hid (HDhr0.out.below HDhr0.out.lt bb)
              have Wr1 := Lib.hid (Wr0.out.trans (bb.mono Wr0.out.size))
              clear bb Wr0 HDgr0 HDhr0
              dsimp only
              (try simp only [Act.put, List.setIfInBounds_toArray, List.set_cons_zero, List.set_cons_succ])
              refine hK.out _ _ (⟨HDgr1.out, HDhr1.out⟩) (fun hHeld => ?_)
              clear hK K
              refine wpAnyH_take (i := 15) (oi := ⟨some 132, _, _, _, _, _⟩) (v := (.bool false)) rfl (by kernel_rfl) (by kernel_rfl) (by kernel_rfl) (fun _ _ _ h => h) (Or.inl ⟨by rfl, ?_⟩) (by assumption) ?_
              · intro w' hS; go_simp; try with_reducible rfl
              simp only [Act.put, List.setIfInBounds_toArray, List.set_cons_zero, List.set_cons_succ]
              refine wpAnyH_take (i := 19) (oi := ⟨some 136, _, _, _, _, _⟩) (v := (.bool false)) rfl (by kernel_rfl) (by kernel_rfl) (by kernel_rfl) (fun _ _ _ h => h) (Or.inl ⟨by rfl, ?_⟩) (by assumption) ?_
              · intro w' hS; go_simp; try with_reducible rfl
              simp only [Act.put, List.setIfInBounds_toArray, List.set_cons_zero, List.set_cons_succ]
              refine wpAnyH_take (i := 20) (oi := ⟨some 137, _, _, _, _, _⟩) (v := undef) rfl (by kernel_rfl) (by kernel_rfl) (by kernel_rfl) (fun _ _ _ h => h) (Or.inr ⟨by rfl, rfl⟩) (by assumption) ?_
              simp only [Act.put, List.setIfInBounds_toArray, List.set_cons_zero, List.set_cons_succ]
              refine wpAnyH_take (i := 21) (oi := ⟨some 138, _, _, _, _, _⟩) (v := undef) rfl (by kernel_rfl) (by kernel_rfl) (by kernel_rfl) (fun _ _ _ h => h) (Or.inr ⟨by rfl, rfl⟩) (by assumption) ?_
              simp only [Act.put, List.setIfInBounds_toArray, List.set_cons_zero, List.set_cons_succ]
              refine wpAnyH_take (i := 22) (oi := ⟨some 139, _, _, _, _, _⟩) (v := undef) rfl (by kernel_rfl) (by kernel_rfl) (by kernel_rfl) (fun _ _ _ h => h) (Or.inr ⟨by rfl, rfl⟩) (by assumption) ?_
              simp only [Act.put, List.setIfInBounds_toArray, List.set_cons_zero, List.set_cons_succ]
              refine wpAnyH_take (i := 23) (oi := ⟨some 140, _, _, _, _, _⟩) (v := (.bool false)) rfl (by kernel_rfl) (by kernel_rfl) (by kernel_rfl) (fun _ _ _ h => h) (Or.inl ⟨by rfl, ?_⟩) (by assumption) ?_
              · intro w' hS; go_simp; try with_reducible rfl
              simp only [Act.put, List.setIfInBounds_toArray, List.set_cons_zero, List.set_cons_succ]
              refine wpAnyH_take (i := 24) (oi := ⟨some 141, _, _, _, _, _⟩) (v := (.bool false)) rfl (by kernel_rfl) (by kernel_rfl) (by kernel_rfl) (fun _ _ _ h => h) (Or.inl ⟨by rfl, ?_⟩) (by assumption) ?_
              · intro w' hS; go_simp; try with_reducible rfl
              simp only [Act.put, List.setIfInBounds_toArray, List.set_cons_zero, List.set_cons_succ]
              refine wpAnyH_take (i := 25) (oi := ⟨some 142, _, _, _, _, _⟩) (v := undef) rfl (by kernel_rfl) (by kernel_rfl) (by kernel_rfl) (fun _ _ _ h => h) (Or.inr ⟨by rfl, rfl⟩) (by assumption) ?_
              simp only [Act.put, List.setIfInBounds_toArray, List.set_cons_zero, List.set_cons_succ]
              refine wpAnyH_take (i := 26) (oi := ⟨some 143, _, _, _, _, _⟩) (v := undef) rfl (by kernel_rfl) (by kernel_rfl) (by kernel_rfl) (fun _ _ _ h => h) (Or.inr ⟨by rfl, rfl⟩) (by assumption) ?_
              simp only [Act.put, List.setIfInBounds_toArray, List.set_cons_zero, List.set_cons_succ]
              refine wpAnyH_take (i := 27) (oi := ⟨some 144, _, _, _, _, _⟩) (v := undef) rfl (by kernel_rfl) (by kernel_rfl) (by kernel_rfl) (fun _ _ _ h => h) (Or.inr ⟨by rfl, rfl⟩) (by assumption) ?_
              simp only [Act.put, List.setIfInBounds_toArray, List.set_cons_zero, List.set_cons_succ]
              refine wpAnyH_take (i := 28) (oi := ⟨some 145, _, _, _, _, _⟩) (v := undef) rfl (by kernel_rfl) (by kernel_rfl) (by kernel_rfl) (fun _ _ _ h => h) (Or.inr ⟨by rfl, rfl⟩) (by assumption) ?_
              simp only [Act.put, List.setIfInBounds_toArray, List.set_cons_zero, List.set_cons_succ]
              refine wpAnyH_take (i := 29) (oi := ⟨some 146, _, _, _, _, _⟩) (v := undef) rfl (by kernel_rfl) (by kernel_rfl) (by kernel_rfl) (fun _ _ _ h => h) (Or.inr ⟨by rfl, rfl⟩) (by assumption) ?_
              simp only [Act.put, List.setIfInBounds_toArray, List.set_cons_zero, List.set_cons_succ]
              refine wpAnyH_take (i := 30) (oi := ⟨some 147, _, _, _, _, _⟩) (v := (.bool false)) rfl (by kernel_rfl) (by kernel_rfl) (by kernel_rfl) (fun _ _ _ h => h) (Or.inl ⟨by rfl, ?_⟩) (by assumption) ?_
              · intro w' hS; go_simp; try with_reducible rfl
              simp only [Act.put, List.setIfInBounds_toArray, List.set_cons_zero, List.set_cons_succ]
              refine wpAnyH_take (i := 31) (oi := ⟨some 148, _, _, _, _, _⟩) (v := (.bool false)) rfl (by kernel_rfl) (by kernel_rfl) (by kernel_rfl) (fun _ _ _ h => h) (Or.inl ⟨by rfl, ?_⟩) (by assumption) ?_
              · intro w' hS; go_simp; try with_reducible rfl
              simp only [Act.put, List.setIfInBounds_toArray, List.set_cons_zero, List.set_cons_succ]
              refine wpAnyH_take (i := 32) (oi := ⟨some 149, _, _, _, _, _⟩) (v := (.bool false)) rfl (by kernel_rfl) (by kernel_rfl) (by kernel_rfl) (fun _ _ _ h => h) (Or.inl ⟨by rfl, ?_⟩) (by assumption) ?_
              · intro w' hS; go_simp; try with_reducible rfl
              simp only [Act.put, List.setIfInBounds_toArray, List.set_cons_zero, List.set_cons_succ]
              refine wpAnyH_take (i := 33) (oi := ⟨some 150, _, _, _, _, _⟩) (v := (.bool false)) rfl (by kernel_rfl) (by kernel_rfl) (by kernel_rfl) (fun _ _ _ h => h) (Or.inl ⟨by rfl, ?_⟩) (by assumption) ?_
              · intro w' hS; go_simp; try with_reducible rfl
              simp only [Act.put, List.setIfInBounds_toArray, List.set_cons_zero, List.set_cons_succ]
              refine wpAnyH_take (i := 34) (oi := ⟨some 151, _, _, _, _, _⟩) (v := (.slice A n c)) rfl (by kernel_rfl) (by kernel_rfl) (by kernel_rfl) (fun _ _ _ h => h) (Or.inl ⟨by rfl, ?_⟩) (by assumption) ?_
              · intro w' hS; go_simp; try with_reducible rfl
              simp only [Act.put, List.setIfInBounds_toArray, List.set_cons_zero, List.set_cons_succ]
              refine wpAnyH_take (i := 35) (oi := ⟨some 152, _, _, _, _, _⟩) (v := (.slice B m d)) rfl (by kernel_rfl) (by kernel_rfl) (by kernel_rfl) (fun _ _ _ h => h) (Or.inl ⟨by rfl, ?_⟩) (by assumption) ?_
              · intro w' hS; go_simp; try with_reducible rfl
              simp only [Act.put, List.setIfInBounds_toArray, List.set_cons_zero, List.set_cons_succ]
              refine wpAnyH_take (i := 37) (oi := ⟨some 154, _, _, _, _, _⟩) (v := (.slice B m d)) rfl (by kernel_rfl) (by kernel_rfl) (by kernel_rfl) (fun _ _ _ h => h) (Or.inl ⟨by rfl, ?_⟩) (by assumption) ?_
              · intro w' hS; go_simp; try with_reducible rfl
              simp only [Act.put, List.setIfInBounds_toArray, List.set_cons_zero, List.set_cons_succ]
              refine wpAnyH_take (i := 38) (oi := ⟨some 155, _, _, _, _, _⟩) (v := (.slice A n c)) rfl (by kernel_rfl) (by kernel_rfl) (by kernel_rfl) (fun _ _ _ h => h) (Or.inl ⟨by rfl, ?_⟩) (by assumption) ?_
              · intro w' hS; go_simp; try with_reducible rfl
              simp only [Act.put, List.setIfInBounds_toArray, List.set_cons_zero, List.set_cons_succ]
              have hcc := tog_any A B n c m d xs ys wr1 HN.out HM.out hnc hmd hc hd (HX.out.below Wr1.out) (HY.out.below Wr1.out) HBX.out HBY.out
              rw [TG.out] at hcc
              first | rw [show mk true = 18446744073709551615 from rfl] at hcc | rw [show mk false = 0 from rfl] at hcc
              have HCC := Lib.hid hcc
              clear hcc
              refine wpAnyH_ready (rs := [36]) (by kernel_rfl) (by simp) ?_
              refine AllReadyH.cons (o := ⟨some 153, _, _, _, _, _⟩) rfl (fun K hK => ?_) AllReadyH.nil
              rw [if_pos (by rfl)]
              go_simp
              refine (HCC.out).mono ?_
              rintro e' wr2 ⟨rfl, bb⟩
              clear HCC
              have HDgr2 := Lib.hid (HDgr1.out.below HDgr1.out.lt bb)
              have HDhr2 := Lib.hid (HDhr1.out.below HDhr1.out.lt bb)
              have Wr2 := Lib.hid (Wr1.out.trans (bb.mono Wr1.out.size))
              clear bb Wr1 HDgr1 HDhr1
              dsimp only
              (try simp only [Act.put, List.setIfInBounds_toArray, List.set_cons_zero, List.set_cons_succ])
              refine hK.out _ _ (⟨HDgr2.out, HDhr2.out⟩) (fun hHeld => ?_)
              clear hK K
              have hcc := tog_any B A m d n c ys xs wr2 HM.out HN.out hmd hnc hd hc (HY.out.below Wr2.out) (HX.out.below Wr2.out) HBY.out HBX.out
              rw [TG2.out] at hcc
              first | rw [show mk true = 18446744073709551615 from rfl] at hcc | rw [show mk false = 0 from rfl] at hcc
              have HCC := Lib.hid hcc
              clear hcc
              refine wpAnyH_ready (rs := [39]) (by kernel_rfl) (by simp) ?_
              refine AllReadyH.cons (o := ⟨some 156, _, _, _, _, _⟩) rfl (fun K hK => ?_) AllReadyH.nil
              rw [if_pos (by rfl)]
              go_simp
              refine (HCC.out).mono ?_
              rintro e' wr3 ⟨rfl, bb⟩
              clear HCC
              have HDgr3 := Lib.hid (HDgr2.out.below HDgr2.out.lt bb)
              have HDhr3 := Lib.hid (HDhr2.out.below HDhr2.out.lt bb)
              have Wr3 := Lib.hid (Wr2.out.trans (bb.mono Wr2.out.size))
              clear bb Wr2 HDgr2 HDhr2
              dsimp only
              (try simp only [Act.put, List.setIfInBounds_toArray, List.set_cons_zero, List.set_cons_succ])
              refine hK.out _ _ (⟨HDgr3.out, HDhr3.out⟩) (fun hHeld => ?_)
              clear hK K
              refine wpAnyH_take (i := 40) (oi := ⟨some 157, _, _, _, _, _⟩) (v := (.bool false)) rfl (by kernel_rfl) (by kernel_rfl) (by kernel_rfl) (fun _ _ _ h => h) (Or.inl ⟨by rfl, ?_⟩) (by assumption) ?_
              · intro w' hS; go_simp; try with_reducible rfl
              simp only [Act.put, List.setIfInBounds_toArray, List.set_cons_zero, List.set_cons_succ]
              refine wpAnyH_take (i := 41) (oi := ⟨some 158, _, _, _, _, _⟩) (v := (.bool false)) rfl (by kernel_rfl) (by kernel_rfl) (by kernel_rfl) (fun _ _ _ h => h) (Or.inl ⟨by rfl, ?_⟩) (by assumption) ?_
              · intro w' hS; go_simp; try with_reducible rfl
              simp only [Act.put, List.setIfInBounds_toArray, List.set_cons_zero, List.set_cons_succ]
              refine wpAnyH_done (by kernel_rfl) ?_ _
              go_wp2_with fail
              go_meet
              exact ⟨rfl, Wr3.out, HDgr3.out, HDhr3.out⟩
            · have L1 := Lib.hid l1
              have L2 := Lib.hid l2
              have v1 : lvR xs n = false := lv_is HI.out _ (by rw [l1]; rfl)
              have v2 : lvR ys m = true := lv_is HJ.out _ (by rw [l2]; rfl)
              have TG : Hid (tgR xs n ys m = false) := Lib.hid (by unfold tgR; rw [v1, v2]; simp)
              have TG2 : Hid (tgR ys m xs n = false) := Lib.hid (by rw [← tg_sym, TG.out])
              clear l1 l2 v1 v2
              refine wp_region_held_drew (S := fun w' => Hd w' Dg (hdr xs) ∧ Hd w' Dh (hdr ys)) (by kernel_rfl) (⟨HDg5.out, HDh5.out⟩) (fun hHeld => ?_)
              have bb := (Below.refl w5.heap.size w5).drew
              have HDgr0 := Lib.hid (HDg5.out.below HDg5.out.lt bb)
              have HDhr0 := Lib.hid (HDh5.out.below HDh5.out.lt bb)
              have Wr0 := Lib.hid W5.out.drew
              generalize w5.drew = wr0 at *
              clear bb W5 HDg5 HDh5
              refine wpAnyH_take (i := 0) (oi := ⟨some 117, _, _, _, _, _⟩) (v := (.pointer (some ⟨Dg, 0, none⟩))) rfl (by kernel_rfl) (by kernel_rfl) (by kernel_rfl) (fun _ _ _ h => h) (Or.inl ⟨by rfl, ?_⟩) (by assumption) ?_
              · intro w' hS; go_simp; try with_reducible rfl
              simp only [Act.put, List.setIfInBounds_toArray, List.set_cons_zero, List.set_cons_succ]
              refine wpAnyH_take (i := 1) (oi := ⟨some 118, _, _, _, _, _⟩) (v := (.int .u8 0)) rfl (by kernel_rfl) (by kernel_rfl) (by kernel_rfl) (fun _ _ _ h => h) (Or.inl ⟨by rfl, ?_⟩) (by assumption) ?_
              · intro w' hS; have h0 := hdl hS.1 0 L1.out rfl; go_simp; try with_reducible rfl
              simp only [Act.put, List.setIfInBounds_toArray, List.set_cons_zero, List.set_cons_succ]
              refine wpAnyH_take (i := 2) (oi := ⟨some 119, _, _, _, _, _⟩) (v := (.pointer (some ⟨Dh, 0, none⟩))) rfl (by kernel_rfl) (by kernel_rfl) (by kernel_rfl) (fun _ _ _ h => h) (Or.inl ⟨by rfl, ?_⟩) (by assumption) ?_
              · intro w' hS; go_simp; try with_reducible rfl
              simp only [Act.put, List.setIfInBounds_toArray, List.set_cons_zero, List.set_cons_succ]
              refine wpAnyH_take (i := 3) (oi := ⟨some 120, _, _, _, _, _⟩) (v := (.int .u8 1)) rfl (by kernel_rfl) (by kernel_rfl) (by kernel_rfl) (fun _ _ _ h => h) (Or.inl ⟨by rfl, ?_⟩) (by assumption) ?_
              · intro w' hS; have h0 := hdl hS.2 1 L2.out rfl; go_simp; try with_reducible rfl
              simp only [Act.put, List.setIfInBounds_toArray, List.set_cons_zero, List.set_cons_succ]
              refine wpAnyH_take (i := 4) (oi := ⟨some 121, _, _, _, _, _⟩) (v := (.bool false)) rfl (by kernel_rfl) (by kernel_rfl) (by kernel_rfl) (fun _ _ _ h => h) (Or.inl ⟨by rfl, ?_⟩) (by assumption) ?_
              · intro w' hS; go_simp; try with_reducible rfl
              simp only [Act.put, List.setIfInBounds_toArray, List.set_cons_zero, List.set_cons_succ]
              refine wpAnyH_take (i := 5) (oi := ⟨some 122, _, _, _, _, _⟩) (v := (.bool false)) rfl (by kernel_rfl) (by kernel_rfl) (by kernel_rfl) (fun _ _ _ h => h) (Or.inl ⟨by rfl, ?_⟩) (by assumption) ?_
              · intro w' hS; go_simp; try with_reducible rfl
              simp only [Act.put, List.setIfInBounds_toArray, List.set_cons_zero, List.set_cons_succ]
              refine wpAnyH_take (i := 6) (oi := ⟨some 123, _, _, _, _, _⟩) (v := undef) rfl (by kernel_rfl) (by kernel_rfl) (by kernel_rfl) (fun _ _ _ h => h) (Or.inr ⟨by rfl, rfl⟩) (by assumption) ?_
              simp only [Act.put, List.setIfInBounds_toArray, List.set_cons_zero, List.set_cons_succ]
              refine wpAnyH_take (i := 7) (oi := ⟨some 124, _, _, _, _, _⟩) (v := undef) rfl (by kernel_rfl) (by kernel_rfl) (by kernel_rfl) (fun _ _ _ h => h) (Or.inr ⟨by rfl, rfl⟩) (by assumption) ?_
              simp only [Act.put, List.setIfInBounds_toArray, List.set_cons_zero, List.set_cons_succ]
              refine wpAnyH_take (i := 8) (oi := ⟨some 125, _, _, _, _, _⟩) (v := undef) rfl (by kernel_rfl) (by kernel_rfl) (by kernel_rfl) (fun _ _ _ h => h) (Or.inr ⟨by rfl, rfl⟩) (by assumption) ?_
              simp only [Act.put, List.setIfInBounds_toArray, List.set_cons_zero, List.set_cons_succ]
              refine wpAnyH_take (i := 9) (oi := ⟨some 126, _, _, _, _, _⟩) (v := undef) rfl (by kernel_rfl) (by kernel_rfl) (by kernel_rfl) (fun _ _ _ h => h) (Or.inr ⟨by rfl, rfl⟩) (by assumption) ?_
              simp only [Act.put, List.setIfInBounds_toArray, List.set_cons_zero, List.set_cons_succ]
              refine wpAnyH_take (i := 10) (oi := ⟨some 127, _, _, _, _, _⟩) (v := (.bool false)) rfl (by kernel_rfl) (by kernel_rfl) (by kernel_rfl) (fun _ _ _ h => h) (Or.inl ⟨by rfl, ?_⟩) (by assumption) ?_
              · intro w' hS; go_simp; try with_reducible rfl
              simp only [Act.put, List.setIfInBounds_toArray, List.set_cons_zero, List.set_cons_succ]
              refine wpAnyH_take (i := 11) (oi := ⟨some 128, _, _, _, _, _⟩) (v := (.bool false)) rfl (by kernel_rfl) (by kernel_rfl) (by kernel_rfl) (fun _ _ _ h => h) (Or.inl ⟨by rfl, ?_⟩) (by assumption) ?_
              · intro w' hS; go_simp; try with_reducible rfl
              simp only [Act.put, List.setIfInBounds_toArray, List.set_cons_zero, List.set_cons_succ]
              refine wpAnyH_take (i := 12) (oi := ⟨some 129, _, _, _, _, _⟩) (v := (.slice A n c)) rfl (by kernel_rfl) (by kernel_rfl) (by kernel_rfl) (fun _ _ _ h => h) (Or.inl ⟨by rfl, ?_⟩) (by assumption) ?_
              · intro w' hS; go_simp; try with_reducible rfl
              simp only [Act.put, List.setIfInBounds_toArray, List.set_cons_zero, List.set_cons_succ]
              refine wpAnyH_take (i := 13) (oi := ⟨some 130, _, _, _, _, _⟩) (v := (.slice B m d)) rfl (by kernel_rfl) (by kernel_rfl) (by kernel_rfl) (fun _ _ _ h => h) (Or.inl ⟨by rfl, ?_⟩) (by assumption) ?_
              · intro w' hS; go_simp; try with_reducible rfl
              simp only [Act.put, List.setIfInBounds_toArray, List.set_cons_zero, List.set_cons_succ]
              refine wpAnyH_take (i := 16) (oi := ⟨some 133, _, _, _, _, _⟩) (v := (.pointer (some ⟨Dg, 0, none⟩))) rfl (by kernel_rfl) (by kernel_rfl) (by kernel_rfl) (fun _ _ _ h => h) (Or.inl ⟨by rfl, ?_⟩) (by assumption) ?_
              · intro w' hS; go_simp; try with_reducible rfl
              simp only [Act.put, List.setIfInBounds_toArray, List.set_cons_zero, List.set_cons_succ]
              refine wpAnyH_take (i := 17) (oi := ⟨some 134, _, _, _, _, _⟩) (v := (.int .u8 0)) rfl (by kernel_rfl) (by kernel_rfl) (by kernel_rfl) (fun _ _ _ h => h) (Or.inl ⟨by rfl, ?_⟩) (by assumption) ?_
              · intro w' hS; have h0 := hdl hS.1 0 L1.out rfl; go_simp; try with_reducible rfl
              simp only [Act.put, List.setIfInBounds_toArray, List.set_cons_zero, List.set_cons_succ]
              refine wpAnyH_take (i := 18) (oi := ⟨some 135, _, _, _, _, _⟩) (v := (.bool false)) rfl (by kernel_rfl) (by kernel_rfl) (by kernel_rfl) (fun _ _ _ h => h) (Or.inl ⟨by rfl, ?_⟩) (by assumption) ?_
              · intro w' hS; go_simp; try with_reducible rfl
              simp only [Act.put, List.setIfInBounds_toArray, List.set_cons_zero, List.set_cons_succ]
              have hcc := tog_any A B n c m d xs ys wr0 HN.out HM.out hnc hmd hc hd (HX.out.below Wr0.out) (HY.out.below Wr0.out) HBX.out HBY.out
              rw [TG.out] at hcc
              first | rw [show mk true = 18446744073709551615 from rfl] at hcc | rw [show mk false = 0 from rfl] at hcc
              have HCC := Lib.hid hcc
              clear hcc
              refine wpAnyH_ready (rs := [14]) (by kernel_rfl) (by simp) ?_
              refine AllReadyH.cons (o := ⟨some 131, _, _, _, _, _⟩) rfl (fun K hK => ?_) AllReadyH.nil
              rw [if_pos (by rfl)]
              go_simp
              refine (HCC.out).mono ?_
              rintro e' wr1 ⟨rfl, bb⟩
              clear HCC
              have HDgr1 := Lib.hid (HDgr0.out.below HDgr0.out.lt bb)
              have HDhr1 := Lib.hid (HDhr0.out.below HDhr0.out.lt bb)
              have Wr1 := Lib.hid (Wr0.out.trans (bb.mono Wr0.out.size))
              clear bb Wr0 HDgr0 HDhr0
              dsimp only
              (try simp only [Act.put, List.setIfInBounds_toArray, List.set_cons_zero, List.set_cons_succ])
              refine hK.out _ _ (⟨HDgr1.out, HDhr1.out⟩) (fun hHeld => ?_)
              clear hK K
              refine wpAnyH_take (i := 15) (oi := ⟨some 132, _, _, _, _, _⟩) (v := (.bool false)) rfl (by kernel_rfl) (by kernel_rfl) (by kernel_rfl) (fun _ _ _ h => h) (Or.inl ⟨by rfl, ?_⟩) (by assumption) ?_
              · intro w' hS; go_simp; try with_reducible rfl
              simp only [Act.put, List.setIfInBounds_toArray, List.set_cons_zero, List.set_cons_succ]
              refine wpAnyH_take (i := 19) (oi := ⟨some 136, _, _, _, _, _⟩) (v := (.bool false)) rfl (by kernel_rfl) (by kernel_rfl) (by kernel_rfl) (fun _ _ _ h => h) (Or.inl ⟨by rfl, ?_⟩) (by assumption) ?_
              · intro w' hS; go_simp; try with_reducible rfl
              simp only [Act.put, List.setIfInBounds_toArray, List.set_cons_zero, List.set_cons_succ]
              refine wpAnyH_take (i := 20) (oi := ⟨some 137, _, _, _, _, _⟩) (v := undef) rfl (by kernel_rfl) (by kernel_rfl) (by kernel_rfl) (fun _ _ _ h => h) (Or.inr ⟨by rfl, rfl⟩) (by assumption) ?_
              simp only [Act.put, List.setIfInBounds_toArray, List.set_cons_zero, List.set_cons_succ]
              refine wpAnyH_take (i := 21) (oi := ⟨some 138, _, _, _, _, _⟩) (v := undef) rfl (by kernel_rfl) (by kernel_rfl) (by kernel_rfl) (fun _ _ _ h => h) (Or.inr ⟨by rfl, rfl⟩) (by assumption) ?_
              simp only [Act.put, List.setIfInBounds_toArray, List.set_cons_zero, List.set_cons_succ]
              refine wpAnyH_take (i := 22) (oi := ⟨some 139, _, _, _, _, _⟩) (v := undef) rfl (by kernel_rfl) (by kernel_rfl) (by kernel_rfl) (fun _ _ _ h => h) (Or.inr ⟨by rfl, rfl⟩) (by assumption) ?_
              simp only [Act.put, List.setIfInBounds_toArray, List.set_cons_zero, List.set_cons_succ]
              refine wpAnyH_take (i := 23) (oi := ⟨some 140, _, _, _, _, _⟩) (v := (.bool false)) rfl (by kernel_rfl) (by kernel_rfl) (by kernel_rfl) (fun _ _ _ h => h) (Or.inl ⟨by rfl, ?_⟩) (by assumption) ?_
              · intro w' hS; go_simp; try with_reducible rfl
              simp only [Act.put, List.setIfInBounds_toArray, List.set_cons_zero, List.set_cons_succ]
              refine wpAnyH_take (i := 24) (oi := ⟨some 141, _, _, _, _, _⟩) (v := (.bool false)) rfl (by kernel_rfl) (by kernel_rfl) (by kernel_rfl) (fun _ _ _ h => h) (Or.inl ⟨by rfl, ?_⟩) (by assumption) ?_
              · intro w' hS; go_simp; try with_reducible rfl
              simp only [Act.put, List.setIfInBounds_toArray, List.set_cons_zero, List.set_cons_succ]
              refine wpAnyH_take (i := 25) (oi := ⟨some 142, _, _, _, _, _⟩) (v := undef) rfl (by kernel_rfl) (by kernel_rfl) (by kernel_rfl) (fun _ _ _ h => h) (Or.inr ⟨by rfl, rfl⟩) (by assumption) ?_
              simp only [Act.put, List.setIfInBounds_toArray, List.set_cons_zero, List.set_cons_succ]
              refine wpAnyH_take (i := 26) (oi := ⟨some 143, _, _, _, _, _⟩) (v := undef) rfl (by kernel_rfl) (by kernel_rfl) (by kernel_rfl) (fun _ _ _ h => h) (Or.inr ⟨by rfl, rfl⟩) (by assumption) ?_
              simp only [Act.put, List.setIfInBounds_toArray, List.set_cons_zero, List.set_cons_succ]
              refine wpAnyH_take (i := 27) (oi := ⟨some 144, _, _, _, _, _⟩) (v := undef) rfl (by kernel_rfl) (by kernel_rfl) (by kernel_rfl) (fun _ _ _ h => h) (Or.inr ⟨by rfl, rfl⟩) (by assumption) ?_
              simp only [Act.put, List.setIfInBounds_toArray, List.set_cons_zero, List.set_cons_succ]
              refine wpAnyH_take (i := 28) (oi := ⟨some 145, _, _, _, _, _⟩) (v := undef) rfl (by kernel_rfl) (by kernel_rfl) (by kernel_rfl) (fun _ _ _ h => h) (Or.inr ⟨by rfl, rfl⟩) (by assumption) ?_
              simp only [Act.put, List.setIfInBounds_toArray, List.set_cons_zero, List.set_cons_succ]
              refine wpAnyH_take (i := 29) (oi := ⟨some 146, _, _, _, _, _⟩) (v := undef) rfl (by kernel_rfl) (by kernel_rfl) (by kernel_rfl) (fun _ _ _ h => h) (Or.inr ⟨by rfl, rfl⟩) (by assumption) ?_
              simp only [Act.put, List.setIfInBounds_toArray, List.set_cons_zero, List.set_cons_succ]
              refine wpAnyH_take (i := 30) (oi := ⟨some 147, _, _, _, _, _⟩) (v := (.bool false)) rfl (by kernel_rfl) (by kernel_rfl) (by kernel_rfl) (fun _ _ _ h => h) (Or.inl ⟨by rfl, ?_⟩) (by assumption) ?_
              · intro w' hS; go_simp; try with_reducible rfl
              simp only [Act.put, List.setIfInBounds_toArray, List.set_cons_zero, List.set_cons_succ]
              refine wpAnyH_take (i := 31) (oi := ⟨some 148, _, _, _, _, _⟩) (v := (.bool false)) rfl (by kernel_rfl) (by kernel_rfl) (by kernel_rfl) (fun _ _ _ h => h) (Or.inl ⟨by rfl, ?_⟩) (by assumption) ?_
              · intro w' hS; go_simp; try with_reducible rfl
              simp only [Act.put, List.setIfInBounds_toArray, List.set_cons_zero, List.set_cons_succ]
              refine wpAnyH_take (i := 32) (oi := ⟨some 149, _, _, _, _, _⟩) (v := (.bool false)) rfl (by kernel_rfl) (by kernel_rfl) (by kernel_rfl) (fun _ _ _ h => h) (Or.inl ⟨by rfl, ?_⟩) (by assumption) ?_
              · intro w' hS; go_simp; try with_reducible rfl
              simp only [Act.put, List.setIfInBounds_toArray, List.set_cons_zero, List.set_cons_succ]
              refine wpAnyH_take (i := 33) (oi := ⟨some 150, _, _, _, _, _⟩) (v := (.bool false)) rfl (by kernel_rfl) (by kernel_rfl) (by kernel_rfl) (fun _ _ _ h => h) (Or.inl ⟨by rfl, ?_⟩) (by assumption) ?_
              · intro w' hS; go_simp; try with_reducible rfl
              simp only [Act.put, List.setIfInBounds_toArray, List.set_cons_zero, List.set_cons_succ]
              refine wpAnyH_take (i := 34) (oi := ⟨some 151, _, _, _, _, _⟩) (v := (.slice A n c)) rfl (by kernel_rfl) (by kernel_rfl) (by kernel_rfl) (fun _ _ _ h => h) (Or.inl ⟨by rfl, ?_⟩) (by assumption) ?_
              · intro w' hS; go_simp; try with_reducible rfl
              simp only [Act.put, List.setIfInBounds_toArray, List.set_cons_zero, List.set_cons_succ]
              refine wpAnyH_take (i := 35) (oi := ⟨some 152, _, _, _, _, _⟩) (v := (.slice B m d)) rfl (by kernel_rfl) (by kernel_rfl) (by kernel_rfl) (fun _ _ _ h => h) (Or.inl ⟨by rfl, ?_⟩) (by assumption) ?_
              · intro w' hS; go_simp; try with_reducible rfl
              simp only [Act.put, List.setIfInBounds_toArray, List.set_cons_zero, List.set_cons_succ]
              refine wpAnyH_take (i := 37) (oi := ⟨some 154, _, _, _, _, _⟩) (v := (.slice B m d)) rfl (by kernel_rfl) (by kernel_rfl) (by kernel_rfl) (fun _ _ _ h => h) (Or.inl ⟨by rfl, ?_⟩) (by assumption) ?_
              · intro w' hS; go_simp; try with_reducible rfl
              simp only [Act.put, List.setIfInBounds_toArray, List.set_cons_zero, List.set_cons_succ]
              refine wpAnyH_take (i := 38) (oi := ⟨some 155, _, _, _, _, _⟩) (v := (.slice A n c)) rfl (by kernel_rfl) (by kernel_rfl) (by kernel_rfl) (fun _ _ _ h => h) (Or.inl ⟨by rfl, ?_⟩) (by assumption) ?_
              · intro w' hS; go_simp; try with_reducible rfl
              simp only [Act.put, List.setIfInBounds_toArray, List.set_cons_zero, List.set_cons_succ]
              have hcc := tog_any A B n c m d xs ys wr1 HN.out HM.out hnc hmd hc hd (HX.out.below Wr1.out) (HY.out.below Wr1.out) HBX.out HBY.out
              rw [TG.out] at hcc
              first | rw [show mk true = 18446744073709551615 from rfl] at hcc | rw [show mk false = 0 from rfl] at hcc
              have HCC := Lib.hid hcc
              clear hcc
              refine wpAnyH_ready (rs := [36]) (by kernel_rfl) (by simp) ?_
              refine AllReadyH.cons (o := ⟨some 153, _, _, _, _, _⟩) rfl (fun K hK => ?_) AllReadyH.nil
              rw [if_pos (by rfl)]
              go_simp
              refine (HCC.out).mono ?_
              rintro e' wr2 ⟨rfl, bb⟩
              clear HCC
              have HDgr2 := Lib.hid (HDgr1.out.below HDgr1.out.lt bb)
              have HDhr2 := Lib.hid (HDhr1.out.below HDhr1.out.lt bb)
              have Wr2 := Lib.hid (Wr1.out.trans (bb.mono Wr1.out.size))
              clear bb Wr1 HDgr1 HDhr1
              dsimp only
              (try simp only [Act.put, List.setIfInBounds_toArray, List.set_cons_zero, List.set_cons_succ])
              refine hK.out _ _ (⟨HDgr2.out, HDhr2.out⟩) (fun hHeld => ?_)
              clear hK K
              have hcc := tog_any B A m d n c ys xs wr2 HM.out HN.out hmd hnc hd hc (HY.out.below Wr2.out) (HX.out.below Wr2.out) HBY.out HBX.out
              rw [TG2.out] at hcc
              first | rw [show mk true = 18446744073709551615 from rfl] at hcc | rw [show mk false = 0 from rfl] at hcc
              have HCC := Lib.hid hcc
              clear hcc
              refine wpAnyH_ready (rs := [39]) (by kernel_rfl) (by simp) ?_
              refine AllReadyH.cons (o := ⟨some 156, _, _, _, _, _⟩) rfl (fun K hK => ?_) AllReadyH.nil
              rw [if_pos (by rfl)]
              go_simp
              refine (HCC.out).mono ?_
              rintro e' wr3 ⟨rfl, bb⟩
              clear HCC
              have HDgr3 := Lib.hid (HDgr2.out.below HDgr2.out.lt bb)
              have HDhr3 := Lib.hid (HDhr2.out.below HDhr2.out.lt bb)
              have Wr3 := Lib.hid (Wr2.out.trans (bb.mono Wr2.out.size))
              clear bb Wr2 HDgr2 HDhr2
              dsimp only
              (try simp only [Act.put, List.setIfInBounds_toArray, List.set_cons_zero, List.set_cons_succ])
              refine hK.out _ _ (⟨HDgr3.out, HDhr3.out⟩) (fun hHeld => ?_)
              clear hK K
              refine wpAnyH_take (i := 40) (oi := ⟨some 157, _, _, _, _, _⟩) (v := (.bool false)) rfl (by kernel_rfl) (by kernel_rfl) (by kernel_rfl) (fun _ _ _ h => h) (Or.inl ⟨by rfl, ?_⟩) (by assumption) ?_
              · intro w' hS; go_simp; try with_reducible rfl
              simp only [Act.put, List.setIfInBounds_toArray, List.set_cons_zero, List.set_cons_succ]
              refine wpAnyH_take (i := 41) (oi := ⟨some 158, _, _, _, _, _⟩) (v := (.bool false)) rfl (by kernel_rfl) (by kernel_rfl) (by kernel_rfl) (fun _ _ _ h => h) (Or.inl ⟨by rfl, ?_⟩) (by assumption) ?_
              · intro w' hS; go_simp; try with_reducible rfl
              simp only [Act.put, List.setIfInBounds_toArray, List.set_cons_zero, List.set_cons_succ]
              refine wpAnyH_done (by kernel_rfl) ?_ _
              go_wp2_with fail
              go_meet
              exact ⟨rfl, Wr3.out, HDgr3.out, HDhr3.out⟩
          · rcases lv_one HJ.out with l2 | l2
            · have L1 := Lib.hid l1
              have L2 := Lib.hid l2
              have v1 : lvR xs n = true := lv_is HI.out _ (by rw [l1]; rfl)
              have v2 : lvR ys m = false := lv_is HJ.out _ (by rw [l2]; rfl)
              have BG : Hid (bgR xs n ys m = true) := Lib.hid (bg_live HI.out HJ.out v1 v2)
              have TG : Hid (tgR xs n ys m = false) := Lib.hid (by unfold tgR; rw [v1, v2]; simp)
              have TG2 : Hid (tgR ys m xs n = false) := Lib.hid (by rw [← tg_sym, TG.out])
              clear l1 l2 v1 v2
              refine wp_region_held_drew (S := fun w' => Hd w' Dg (hdr xs) ∧ Hd w' Dh (hdr ys)) (by kernel_rfl) (⟨HDg5.out, HDh5.out⟩) (fun hHeld => ?_)
              have bb := (Below.refl w5.heap.size w5).drew
              have HDgr0 := Lib.hid (HDg5.out.below HDg5.out.lt bb)
              have HDhr0 := Lib.hid (HDh5.out.below HDh5.out.lt bb)
              have Wr0 := Lib.hid W5.out.drew
              generalize w5.drew = wr0 at *
              clear bb W5 HDg5 HDh5
              refine wpAnyH_take (i := 0) (oi := ⟨some 117, _, _, _, _, _⟩) (v := (.pointer (some ⟨Dg, 0, none⟩))) rfl (by kernel_rfl) (by kernel_rfl) (by kernel_rfl) (fun _ _ _ h => h) (Or.inl ⟨by rfl, ?_⟩) (by assumption) ?_
              · intro w' hS; go_simp; try with_reducible rfl
              simp only [Act.put, List.setIfInBounds_toArray, List.set_cons_zero, List.set_cons_succ]
              refine wpAnyH_take (i := 1) (oi := ⟨some 118, _, _, _, _, _⟩) (v := (.int .u8 1)) rfl (by kernel_rfl) (by kernel_rfl) (by kernel_rfl) (fun _ _ _ h => h) (Or.inl ⟨by rfl, ?_⟩) (by assumption) ?_
              · intro w' hS; have h0 := hdl hS.1 1 L1.out rfl; go_simp; try with_reducible rfl
              simp only [Act.put, List.setIfInBounds_toArray, List.set_cons_zero, List.set_cons_succ]
              refine wpAnyH_take (i := 2) (oi := ⟨some 119, _, _, _, _, _⟩) (v := (.pointer (some ⟨Dh, 0, none⟩))) rfl (by kernel_rfl) (by kernel_rfl) (by kernel_rfl) (fun _ _ _ h => h) (Or.inl ⟨by rfl, ?_⟩) (by assumption) ?_
              · intro w' hS; go_simp; try with_reducible rfl
              simp only [Act.put, List.setIfInBounds_toArray, List.set_cons_zero, List.set_cons_succ]
              refine wpAnyH_take (i := 3) (oi := ⟨some 120, _, _, _, _, _⟩) (v := (.int .u8 0)) rfl (by kernel_rfl) (by kernel_rfl) (by kernel_rfl) (fun _ _ _ h => h) (Or.inl ⟨by rfl, ?_⟩) (by assumption) ?_
              · intro w' hS; have h0 := hdl hS.2 0 L2.out rfl; go_simp; try with_reducible rfl
              simp only [Act.put, List.setIfInBounds_toArray, List.set_cons_zero, List.set_cons_succ]
              refine wpAnyH_take (i := 4) (oi := ⟨some 121, _, _, _, _, _⟩) (v := (.bool true)) rfl (by kernel_rfl) (by kernel_rfl) (by kernel_rfl) (fun _ _ _ h => h) (Or.inl ⟨by rfl, ?_⟩) (by assumption) ?_
              · intro w' hS; go_simp; try with_reducible rfl
              simp only [Act.put, List.setIfInBounds_toArray, List.set_cons_zero, List.set_cons_succ]
              refine wpAnyH_take (i := 5) (oi := ⟨some 122, _, _, _, _, _⟩) (v := (.bool true)) rfl (by kernel_rfl) (by kernel_rfl) (by kernel_rfl) (fun _ _ _ h => h) (Or.inl ⟨by rfl, ?_⟩) (by assumption) ?_
              · intro w' hS; go_simp; try with_reducible rfl
              simp only [Act.put, List.setIfInBounds_toArray, List.set_cons_zero, List.set_cons_succ]
              refine wpAnyH_take (i := 6) (oi := ⟨some 123, _, _, _, _, _⟩) (v := (.slice A n c)) rfl (by kernel_rfl) (by kernel_rfl) (by kernel_rfl) (fun _ _ _ h => h) (Or.inl ⟨by rfl, ?_⟩) (by assumption) ?_
              · intro w' hS; go_simp; try with_reducible rfl
              simp only [Act.put, List.setIfInBounds_toArray, List.set_cons_zero, List.set_cons_succ]
              refine wpAnyH_take (i := 7) (oi := ⟨some 124, _, _, _, _, _⟩) (v := (.slice B m d)) rfl (by kernel_rfl) (by kernel_rfl) (by kernel_rfl) (fun _ _ _ h => h) (Or.inl ⟨by rfl, ?_⟩) (by assumption) ?_
              · intro w' hS; go_simp; try with_reducible rfl
              simp only [Act.put, List.setIfInBounds_toArray, List.set_cons_zero, List.set_cons_succ]
              have hcc := byGroup_any A B n c m d xs ys wr0 HN.out HM.out hnc hmd hc hd (HX.out.below Wr0.out) (HY.out.below Wr0.out) HBX.out HBY.out
              rw [BG.out] at hcc
              first | rw [show mk true = 18446744073709551615 from rfl] at hcc | rw [show mk false = 0 from rfl] at hcc
              have HCC := Lib.hid hcc
              clear hcc
              refine wpAnyH_ready (rs := [8]) (by kernel_rfl) (by simp) ?_
              refine AllReadyH.cons (o := ⟨some 125, _, _, _, _, _⟩) rfl (fun K hK => ?_) AllReadyH.nil
              rw [if_pos (by rfl)]
              go_simp
              refine (HCC.out).mono ?_
              rintro e' wr1 ⟨rfl, bb⟩
              clear HCC
              have HDgr1 := Lib.hid (HDgr0.out.below HDgr0.out.lt bb)
              have HDhr1 := Lib.hid (HDhr0.out.below HDhr0.out.lt bb)
              have Wr1 := Lib.hid (Wr0.out.trans (bb.mono Wr0.out.size))
              clear bb Wr0 HDgr0 HDhr0
              dsimp only
              (try simp only [Act.put, List.setIfInBounds_toArray, List.set_cons_zero, List.set_cons_succ])
              refine hK.out _ _ (⟨HDgr1.out, HDhr1.out⟩) (fun hHeld => ?_)
              clear hK K
              refine wpAnyH_take (i := 9) (oi := ⟨some 126, _, _, _, _, _⟩) (v := (.bool false)) rfl (by kernel_rfl) (by kernel_rfl) (by kernel_rfl) (fun _ _ _ h => h) (Or.inl ⟨by rfl, ?_⟩) (by assumption) ?_
              · intro w' hS; go_simp; try with_reducible rfl
              simp only [Act.put, List.setIfInBounds_toArray, List.set_cons_zero, List.set_cons_succ]
              refine wpAnyH_take (i := 10) (oi := ⟨some 127, _, _, _, _, _⟩) (v := (.bool false)) rfl (by kernel_rfl) (by kernel_rfl) (by kernel_rfl) (fun _ _ _ h => h) (Or.inl ⟨by rfl, ?_⟩) (by assumption) ?_
              · intro w' hS; go_simp; try with_reducible rfl
              simp only [Act.put, List.setIfInBounds_toArray, List.set_cons_zero, List.set_cons_succ]
              refine wpAnyH_take (i := 11) (oi := ⟨some 128, _, _, _, _, _⟩) (v := (.bool false)) rfl (by kernel_rfl) (by kernel_rfl) (by kernel_rfl) (fun _ _ _ h => h) (Or.inl ⟨by rfl, ?_⟩) (by assumption) ?_
              · intro w' hS; go_simp; try with_reducible rfl
              simp only [Act.put, List.setIfInBounds_toArray, List.set_cons_zero, List.set_cons_succ]
              refine wpAnyH_take (i := 12) (oi := ⟨some 129, _, _, _, _, _⟩) (v := (.slice A n c)) rfl (by kernel_rfl) (by kernel_rfl) (by kernel_rfl) (fun _ _ _ h => h) (Or.inl ⟨by rfl, ?_⟩) (by assumption) ?_
              · intro w' hS; go_simp; try with_reducible rfl
              simp only [Act.put, List.setIfInBounds_toArray, List.set_cons_zero, List.set_cons_succ]
              refine wpAnyH_take (i := 13) (oi := ⟨some 130, _, _, _, _, _⟩) (v := (.slice B m d)) rfl (by kernel_rfl) (by kernel_rfl) (by kernel_rfl) (fun _ _ _ h => h) (Or.inl ⟨by rfl, ?_⟩) (by assumption) ?_
              · intro w' hS; go_simp; try with_reducible rfl
              simp only [Act.put, List.setIfInBounds_toArray, List.set_cons_zero, List.set_cons_succ]
              refine wpAnyH_take (i := 16) (oi := ⟨some 133, _, _, _, _, _⟩) (v := (.pointer (some ⟨Dg, 0, none⟩))) rfl (by kernel_rfl) (by kernel_rfl) (by kernel_rfl) (fun _ _ _ h => h) (Or.inl ⟨by rfl, ?_⟩) (by assumption) ?_
              · intro w' hS; go_simp; try with_reducible rfl
              simp only [Act.put, List.setIfInBounds_toArray, List.set_cons_zero, List.set_cons_succ]
              refine wpAnyH_take (i := 17) (oi := ⟨some 134, _, _, _, _, _⟩) (v := (.int .u8 1)) rfl (by kernel_rfl) (by kernel_rfl) (by kernel_rfl) (fun _ _ _ h => h) (Or.inl ⟨by rfl, ?_⟩) (by assumption) ?_
              · intro w' hS; have h0 := hdl hS.1 1 L1.out rfl; go_simp; try with_reducible rfl
              simp only [Act.put, List.setIfInBounds_toArray, List.set_cons_zero, List.set_cons_succ]
              refine wpAnyH_take (i := 18) (oi := ⟨some 135, _, _, _, _, _⟩) (v := (.bool true)) rfl (by kernel_rfl) (by kernel_rfl) (by kernel_rfl) (fun _ _ _ h => h) (Or.inl ⟨by rfl, ?_⟩) (by assumption) ?_
              · intro w' hS; go_simp; try with_reducible rfl
              simp only [Act.put, List.setIfInBounds_toArray, List.set_cons_zero, List.set_cons_succ]
              have hcc := tog_any A B n c m d xs ys wr1 HN.out HM.out hnc hmd hc hd (HX.out.below Wr1.out) (HY.out.below Wr1.out) HBX.out HBY.out
              rw [TG.out] at hcc
              first | rw [show mk true = 18446744073709551615 from rfl] at hcc | rw [show mk false = 0 from rfl] at hcc
              have HCC := Lib.hid hcc
              clear hcc
              refine wpAnyH_ready (rs := [14]) (by kernel_rfl) (by simp) ?_
              refine AllReadyH.cons (o := ⟨some 131, _, _, _, _, _⟩) rfl (fun K hK => ?_) AllReadyH.nil
              rw [if_pos (by rfl)]
              go_simp
              refine (HCC.out).mono ?_
              rintro e' wr2 ⟨rfl, bb⟩
              clear HCC
              have HDgr2 := Lib.hid (HDgr1.out.below HDgr1.out.lt bb)
              have HDhr2 := Lib.hid (HDhr1.out.below HDhr1.out.lt bb)
              have Wr2 := Lib.hid (Wr1.out.trans (bb.mono Wr1.out.size))
              clear bb Wr1 HDgr1 HDhr1
              dsimp only
              (try simp only [Act.put, List.setIfInBounds_toArray, List.set_cons_zero, List.set_cons_succ])
              refine hK.out _ _ (⟨HDgr2.out, HDhr2.out⟩) (fun hHeld => ?_)
              clear hK K
              refine wpAnyH_take (i := 15) (oi := ⟨some 132, _, _, _, _, _⟩) (v := (.bool false)) rfl (by kernel_rfl) (by kernel_rfl) (by kernel_rfl) (fun _ _ _ h => h) (Or.inl ⟨by rfl, ?_⟩) (by assumption) ?_
              · intro w' hS; go_simp; try with_reducible rfl
              simp only [Act.put, List.setIfInBounds_toArray, List.set_cons_zero, List.set_cons_succ]
              refine wpAnyH_take (i := 19) (oi := ⟨some 136, _, _, _, _, _⟩) (v := (.bool true)) rfl (by kernel_rfl) (by kernel_rfl) (by kernel_rfl) (fun _ _ _ h => h) (Or.inl ⟨by rfl, ?_⟩) (by assumption) ?_
              · intro w' hS; go_simp; try with_reducible rfl
              simp only [Act.put, List.setIfInBounds_toArray, List.set_cons_zero, List.set_cons_succ]
              refine wpAnyH_take (i := 20) (oi := ⟨some 137, _, _, _, _, _⟩) (v := (.pointer (some ⟨Dh, 0, none⟩))) rfl (by kernel_rfl) (by kernel_rfl) (by kernel_rfl) (fun _ _ _ h => h) (Or.inl ⟨by rfl, ?_⟩) (by assumption) ?_
              · intro w' hS; go_simp; try with_reducible rfl
              simp only [Act.put, List.setIfInBounds_toArray, List.set_cons_zero, List.set_cons_succ]
              refine wpAnyH_take (i := 21) (oi := ⟨some 138, _, _, _, _, _⟩) (v := (.int .u8 0)) rfl (by kernel_rfl) (by kernel_rfl) (by kernel_rfl) (fun _ _ _ h => h) (Or.inl ⟨by rfl, ?_⟩) (by assumption) ?_
              · intro w' hS; have h0 := hdl hS.2 0 L2.out rfl; go_simp; try with_reducible rfl
              simp only [Act.put, List.setIfInBounds_toArray, List.set_cons_zero, List.set_cons_succ]
              refine wpAnyH_take (i := 22) (oi := ⟨some 139, _, _, _, _, _⟩) (v := (.bool false)) rfl (by kernel_rfl) (by kernel_rfl) (by kernel_rfl) (fun _ _ _ h => h) (Or.inl ⟨by rfl, ?_⟩) (by assumption) ?_
              · intro w' hS; go_simp; try with_reducible rfl
              simp only [Act.put, List.setIfInBounds_toArray, List.set_cons_zero, List.set_cons_succ]
              refine wpAnyH_take (i := 23) (oi := ⟨some 140, _, _, _, _, _⟩) (v := (.bool false)) rfl (by kernel_rfl) (by kernel_rfl) (by kernel_rfl) (fun _ _ _ h => h) (Or.inl ⟨by rfl, ?_⟩) (by assumption) ?_
              · intro w' hS; go_simp; try with_reducible rfl
              simp only [Act.put, List.setIfInBounds_toArray, List.set_cons_zero, List.set_cons_succ]
              refine wpAnyH_take (i := 24) (oi := ⟨some 141, _, _, _, _, _⟩) (v := (.bool false)) rfl (by kernel_rfl) (by kernel_rfl) (by kernel_rfl) (fun _ _ _ h => h) (Or.inl ⟨by rfl, ?_⟩) (by assumption) ?_
              · intro w' hS; go_simp; try with_reducible rfl
              simp only [Act.put, List.setIfInBounds_toArray, List.set_cons_zero, List.set_cons_succ]
              refine wpAnyH_take (i := 25) (oi := ⟨some 142, _, _, _, _, _⟩) (v := undef) rfl (by kernel_rfl) (by kernel_rfl) (by kernel_rfl) (fun _ _ _ h => h) (Or.inr ⟨by rfl, rfl⟩) (by assumption) ?_
              simp only [Act.put, List.setIfInBounds_toArray, List.set_cons_zero, List.set_cons_succ]
              refine wpAnyH_take (i := 26) (oi := ⟨some 143, _, _, _, _, _⟩) (v := undef) rfl (by kernel_rfl) (by kernel_rfl) (by kernel_rfl) (fun _ _ _ h => h) (Or.inr ⟨by rfl, rfl⟩) (by assumption) ?_
              simp only [Act.put, List.setIfInBounds_toArray, List.set_cons_zero, List.set_cons_succ]
              refine wpAnyH_take (i := 27) (oi := ⟨some 144, _, _, _, _, _⟩) (v := undef) rfl (by kernel_rfl) (by kernel_rfl) (by kernel_rfl) (fun _ _ _ h => h) (Or.inr ⟨by rfl, rfl⟩) (by assumption) ?_
              simp only [Act.put, List.setIfInBounds_toArray, List.set_cons_zero, List.set_cons_succ]
              refine wpAnyH_take (i := 28) (oi := ⟨some 145, _, _, _, _, _⟩) (v := undef) rfl (by kernel_rfl) (by kernel_rfl) (by kernel_rfl) (fun _ _ _ h => h) (Or.inr ⟨by rfl, rfl⟩) (by assumption) ?_
              simp only [Act.put, List.setIfInBounds_toArray, List.set_cons_zero, List.set_cons_succ]
              refine wpAnyH_take (i := 29) (oi := ⟨some 146, _, _, _, _, _⟩) (v := undef) rfl (by kernel_rfl) (by kernel_rfl) (by kernel_rfl) (fun _ _ _ h => h) (Or.inr ⟨by rfl, rfl⟩) (by assumption) ?_
              simp only [Act.put, List.setIfInBounds_toArray, List.set_cons_zero, List.set_cons_succ]
              refine wpAnyH_take (i := 30) (oi := ⟨some 147, _, _, _, _, _⟩) (v := (.bool false)) rfl (by kernel_rfl) (by kernel_rfl) (by kernel_rfl) (fun _ _ _ h => h) (Or.inl ⟨by rfl, ?_⟩) (by assumption) ?_
              · intro w' hS; go_simp; try with_reducible rfl
              simp only [Act.put, List.setIfInBounds_toArray, List.set_cons_zero, List.set_cons_succ]
              refine wpAnyH_take (i := 31) (oi := ⟨some 148, _, _, _, _, _⟩) (v := (.bool false)) rfl (by kernel_rfl) (by kernel_rfl) (by kernel_rfl) (fun _ _ _ h => h) (Or.inl ⟨by rfl, ?_⟩) (by assumption) ?_
              · intro w' hS; go_simp; try with_reducible rfl
              simp only [Act.put, List.setIfInBounds_toArray, List.set_cons_zero, List.set_cons_succ]
              refine wpAnyH_take (i := 32) (oi := ⟨some 149, _, _, _, _, _⟩) (v := (.bool false)) rfl (by kernel_rfl) (by kernel_rfl) (by kernel_rfl) (fun _ _ _ h => h) (Or.inl ⟨by rfl, ?_⟩) (by assumption) ?_
              · intro w' hS; go_simp; try with_reducible rfl
              simp only [Act.put, List.setIfInBounds_toArray, List.set_cons_zero, List.set_cons_succ]
              refine wpAnyH_take (i := 33) (oi := ⟨some 150, _, _, _, _, _⟩) (v := (.bool false)) rfl (by kernel_rfl) (by kernel_rfl) (by kernel_rfl) (fun _ _ _ h => h) (Or.inl ⟨by rfl, ?_⟩) (by assumption) ?_
              · intro w' hS; go_simp; try with_reducible rfl
              simp only [Act.put, List.setIfInBounds_toArray, List.set_cons_zero, List.set_cons_succ]
              refine wpAnyH_take (i := 34) (oi := ⟨some 151, _, _, _, _, _⟩) (v := (.slice A n c)) rfl (by kernel_rfl) (by kernel_rfl) (by kernel_rfl) (fun _ _ _ h => h) (Or.inl ⟨by rfl, ?_⟩) (by assumption) ?_
              · intro w' hS; go_simp; try with_reducible rfl
              simp only [Act.put, List.setIfInBounds_toArray, List.set_cons_zero, List.set_cons_succ]
              refine wpAnyH_take (i := 35) (oi := ⟨some 152, _, _, _, _, _⟩) (v := (.slice B m d)) rfl (by kernel_rfl) (by kernel_rfl) (by kernel_rfl) (fun _ _ _ h => h) (Or.inl ⟨by rfl, ?_⟩) (by assumption) ?_
              · intro w' hS; go_simp; try with_reducible rfl
              simp only [Act.put, List.setIfInBounds_toArray, List.set_cons_zero, List.set_cons_succ]
              refine wpAnyH_take (i := 37) (oi := ⟨some 154, _, _, _, _, _⟩) (v := (.slice B m d)) rfl (by kernel_rfl) (by kernel_rfl) (by kernel_rfl) (fun _ _ _ h => h) (Or.inl ⟨by rfl, ?_⟩) (by assumption) ?_
              · intro w' hS; go_simp; try with_reducible rfl
              simp only [Act.put, List.setIfInBounds_toArray, List.set_cons_zero, List.set_cons_succ]
              refine wpAnyH_take (i := 38) (oi := ⟨some 155, _, _, _, _, _⟩) (v := (.slice A n c)) rfl (by kernel_rfl) (by kernel_rfl) (by kernel_rfl) (fun _ _ _ h => h) (Or.inl ⟨by rfl, ?_⟩) (by assumption) ?_
              · intro w' hS; go_simp; try with_reducible rfl
              simp only [Act.put, List.setIfInBounds_toArray, List.set_cons_zero, List.set_cons_succ]
              have hcc := tog_any A B n c m d xs ys wr2 HN.out HM.out hnc hmd hc hd (HX.out.below Wr2.out) (HY.out.below Wr2.out) HBX.out HBY.out
              rw [TG.out] at hcc
              first | rw [show mk true = 18446744073709551615 from rfl] at hcc | rw [show mk false = 0 from rfl] at hcc
              have HCC := Lib.hid hcc
              clear hcc
              refine wpAnyH_ready (rs := [36]) (by kernel_rfl) (by simp) ?_
              refine AllReadyH.cons (o := ⟨some 153, _, _, _, _, _⟩) rfl (fun K hK => ?_) AllReadyH.nil
              rw [if_pos (by rfl)]
              go_simp
              refine (HCC.out).mono ?_
              rintro e' wr3 ⟨rfl, bb⟩
              clear HCC
              have HDgr3 := Lib.hid (HDgr2.out.below HDgr2.out.lt bb)
              have HDhr3 := Lib.hid (HDhr2.out.below HDhr2.out.lt bb)
              have Wr3 := Lib.hid (Wr2.out.trans (bb.mono Wr2.out.size))
              clear bb Wr2 HDgr2 HDhr2
              dsimp only
              (try simp only [Act.put, List.setIfInBounds_toArray, List.set_cons_zero, List.set_cons_succ])
              refine hK.out _ _ (⟨HDgr3.out, HDhr3.out⟩) (fun hHeld => ?_)
              clear hK K
              have hcc := tog_any B A m d n c ys xs wr3 HM.out HN.out hmd hnc hd hc (HY.out.below Wr3.out) (HX.out.below Wr3.out) HBY.out HBX.out
              rw [TG2.out] at hcc
              first | rw [show mk true = 18446744073709551615 from rfl] at hcc | rw [show mk false = 0 from rfl] at hcc
              have HCC := Lib.hid hcc
              clear hcc
              refine wpAnyH_ready (rs := [39]) (by kernel_rfl) (by simp) ?_
              refine AllReadyH.cons (o := ⟨some 156, _, _, _, _, _⟩) rfl (fun K hK => ?_) AllReadyH.nil
              rw [if_pos (by rfl)]
              go_simp
              refine (HCC.out).mono ?_
              rintro e' wr4 ⟨rfl, bb⟩
              clear HCC
              have HDgr4 := Lib.hid (HDgr3.out.below HDgr3.out.lt bb)
              have HDhr4 := Lib.hid (HDhr3.out.below HDhr3.out.lt bb)
              have Wr4 := Lib.hid (Wr3.out.trans (bb.mono Wr3.out.size))
              clear bb Wr3 HDgr3 HDhr3
              dsimp only
              (try simp only [Act.put, List.setIfInBounds_toArray, List.set_cons_zero, List.set_cons_succ])
              refine hK.out _ _ (⟨HDgr4.out, HDhr4.out⟩) (fun hHeld => ?_)
              clear hK K
              refine wpAnyH_take (i := 40) (oi := ⟨some 157, _, _, _, _, _⟩) (v := (.bool false)) rfl (by kernel_rfl) (by kernel_rfl) (by kernel_rfl) (fun _ _ _ h => h) (Or.inl ⟨by rfl, ?_⟩) (by assumption) ?_
              · intro w' hS; go_simp; try with_reducible rfl
              simp only [Act.put, List.setIfInBounds_toArray, List.set_cons_zero, List.set_cons_succ]
              refine wpAnyH_take (i := 41) (oi := ⟨some 158, _, _, _, _, _⟩) (v := (.bool false)) rfl (by kernel_rfl) (by kernel_rfl) (by kernel_rfl) (fun _ _ _ h => h) (Or.inl ⟨by rfl, ?_⟩) (by assumption) ?_
              · intro w' hS; go_simp; try with_reducible rfl
              simp only [Act.put, List.setIfInBounds_toArray, List.set_cons_zero, List.set_cons_succ]
              refine wpAnyH_done (by kernel_rfl) ?_ _
              go_wp2_with fail
              go_meet
              exact ⟨rfl, Wr4.out, HDgr4.out, HDhr4.out⟩
            · by_cases hg : gcut xs = gcut ys
              · have L1 := Lib.hid l1
                have L2 := Lib.hid l2
                have v1 : lvR xs n = true := lv_is HI.out _ (by rw [l1]; rfl)
                have v2 : lvR ys m = true := lv_is HJ.out _ (by rw [l2]; rfl)
                have EQG : Hid (∀ W : World, (Op.equalIn 10000 24 (.agg ((gcut xs).map (Value.int .u8)).toArray) (.agg ((gcut ys).map (Value.int .u8)).toArray)).run Try.prog W = .ok true W) := Lib.hid (fun W => eq_group (HBX.out.cut 10 16) (HBY.out.cut 10 16) (gcut_len xs H26.out.1) (gcut_len ys H26.out.2) _ (decide_eq_true hg) W)
                have TG : Hid (tgR xs n ys m = true) := Lib.hid (by unfold tgR; rw [v1, v2, decide_eq_true hg]; rfl)
                have TG2 : Hid (tgR ys m xs n = true) := Lib.hid (by rw [← tg_sym, TG.out])
                clear l1 l2 v1 v2
                clear hg
                refine wp_region_held_drew (S := fun w' => Hd w' Dg (hdr xs) ∧ Hd w' Dh (hdr ys)) (by kernel_rfl) (⟨HDg5.out, HDh5.out⟩) (fun hHeld => ?_)
                have bb := (Below.refl w5.heap.size w5).drew
                have HDgr0 := Lib.hid (HDg5.out.below HDg5.out.lt bb)
                have HDhr0 := Lib.hid (HDh5.out.below HDh5.out.lt bb)
                have Wr0 := Lib.hid W5.out.drew
                generalize w5.drew = wr0 at *
                clear bb W5 HDg5 HDh5
                refine wpAnyH_take (i := 0) (oi := ⟨some 117, _, _, _, _, _⟩) (v := (.pointer (some ⟨Dg, 0, none⟩))) rfl (by kernel_rfl) (by kernel_rfl) (by kernel_rfl) (fun _ _ _ h => h) (Or.inl ⟨by rfl, ?_⟩) (by assumption) ?_
                · intro w' hS; go_simp; try with_reducible rfl
                simp only [Act.put, List.setIfInBounds_toArray, List.set_cons_zero, List.set_cons_succ]
                refine wpAnyH_take (i := 1) (oi := ⟨some 118, _, _, _, _, _⟩) (v := (.int .u8 1)) rfl (by kernel_rfl) (by kernel_rfl) (by kernel_rfl) (fun _ _ _ h => h) (Or.inl ⟨by rfl, ?_⟩) (by assumption) ?_
                · intro w' hS; have h0 := hdl hS.1 1 L1.out rfl; go_simp; try with_reducible rfl
                simp only [Act.put, List.setIfInBounds_toArray, List.set_cons_zero, List.set_cons_succ]
                refine wpAnyH_take (i := 2) (oi := ⟨some 119, _, _, _, _, _⟩) (v := (.pointer (some ⟨Dh, 0, none⟩))) rfl (by kernel_rfl) (by kernel_rfl) (by kernel_rfl) (fun _ _ _ h => h) (Or.inl ⟨by rfl, ?_⟩) (by assumption) ?_
                · intro w' hS; go_simp; try with_reducible rfl
                simp only [Act.put, List.setIfInBounds_toArray, List.set_cons_zero, List.set_cons_succ]
                refine wpAnyH_take (i := 3) (oi := ⟨some 120, _, _, _, _, _⟩) (v := (.int .u8 1)) rfl (by kernel_rfl) (by kernel_rfl) (by kernel_rfl) (fun _ _ _ h => h) (Or.inl ⟨by rfl, ?_⟩) (by assumption) ?_
                · intro w' hS; have h0 := hdl hS.2 1 L2.out rfl; go_simp; try with_reducible rfl
                simp only [Act.put, List.setIfInBounds_toArray, List.set_cons_zero, List.set_cons_succ]
                refine wpAnyH_take (i := 4) (oi := ⟨some 121, _, _, _, _, _⟩) (v := (.bool false)) rfl (by kernel_rfl) (by kernel_rfl) (by kernel_rfl) (fun _ _ _ h => h) (Or.inl ⟨by rfl, ?_⟩) (by assumption) ?_
                · intro w' hS; go_simp; try with_reducible rfl
                simp only [Act.put, List.setIfInBounds_toArray, List.set_cons_zero, List.set_cons_succ]
                refine wpAnyH_take (i := 5) (oi := ⟨some 122, _, _, _, _, _⟩) (v := (.bool false)) rfl (by kernel_rfl) (by kernel_rfl) (by kernel_rfl) (fun _ _ _ h => h) (Or.inl ⟨by rfl, ?_⟩) (by assumption) ?_
                · intro w' hS; go_simp; try with_reducible rfl
                simp only [Act.put, List.setIfInBounds_toArray, List.set_cons_zero, List.set_cons_succ]
                refine wpAnyH_take (i := 6) (oi := ⟨some 123, _, _, _, _, _⟩) (v := undef) rfl (by kernel_rfl) (by kernel_rfl) (by kernel_rfl) (fun _ _ _ h => h) (Or.inr ⟨by rfl, rfl⟩) (by assumption) ?_
                simp only [Act.put, List.setIfInBounds_toArray, List.set_cons_zero, List.set_cons_succ]
                refine wpAnyH_take (i := 7) (oi := ⟨some 124, _, _, _, _, _⟩) (v := undef) rfl (by kernel_rfl) (by kernel_rfl) (by kernel_rfl) (fun _ _ _ h => h) (Or.inr ⟨by rfl, rfl⟩) (by assumption) ?_
                simp only [Act.put, List.setIfInBounds_toArray, List.set_cons_zero, List.set_cons_succ]
                refine wpAnyH_take (i := 8) (oi := ⟨some 125, _, _, _, _, _⟩) (v := undef) rfl (by kernel_rfl) (by kernel_rfl) (by kernel_rfl) (fun _ _ _ h => h) (Or.inr ⟨by rfl, rfl⟩) (by assumption) ?_
                simp only [Act.put, List.setIfInBounds_toArray, List.set_cons_zero, List.set_cons_succ]
                refine wpAnyH_take (i := 9) (oi := ⟨some 126, _, _, _, _, _⟩) (v := undef) rfl (by kernel_rfl) (by kernel_rfl) (by kernel_rfl) (fun _ _ _ h => h) (Or.inr ⟨by rfl, rfl⟩) (by assumption) ?_
                simp only [Act.put, List.setIfInBounds_toArray, List.set_cons_zero, List.set_cons_succ]
                refine wpAnyH_take (i := 10) (oi := ⟨some 127, _, _, _, _, _⟩) (v := (.bool false)) rfl (by kernel_rfl) (by kernel_rfl) (by kernel_rfl) (fun _ _ _ h => h) (Or.inl ⟨by rfl, ?_⟩) (by assumption) ?_
                · intro w' hS; go_simp; try with_reducible rfl
                simp only [Act.put, List.setIfInBounds_toArray, List.set_cons_zero, List.set_cons_succ]
                refine wpAnyH_take (i := 11) (oi := ⟨some 128, _, _, _, _, _⟩) (v := (.bool false)) rfl (by kernel_rfl) (by kernel_rfl) (by kernel_rfl) (fun _ _ _ h => h) (Or.inl ⟨by rfl, ?_⟩) (by assumption) ?_
                · intro w' hS; go_simp; try with_reducible rfl
                simp only [Act.put, List.setIfInBounds_toArray, List.set_cons_zero, List.set_cons_succ]
                refine wpAnyH_take (i := 12) (oi := ⟨some 129, _, _, _, _, _⟩) (v := (.slice A n c)) rfl (by kernel_rfl) (by kernel_rfl) (by kernel_rfl) (fun _ _ _ h => h) (Or.inl ⟨by rfl, ?_⟩) (by assumption) ?_
                · intro w' hS; go_simp; try with_reducible rfl
                simp only [Act.put, List.setIfInBounds_toArray, List.set_cons_zero, List.set_cons_succ]
                refine wpAnyH_take (i := 13) (oi := ⟨some 130, _, _, _, _, _⟩) (v := (.slice B m d)) rfl (by kernel_rfl) (by kernel_rfl) (by kernel_rfl) (fun _ _ _ h => h) (Or.inl ⟨by rfl, ?_⟩) (by assumption) ?_
                · intro w' hS; go_simp; try with_reducible rfl
                simp only [Act.put, List.setIfInBounds_toArray, List.set_cons_zero, List.set_cons_succ]
                refine wpAnyH_take (i := 16) (oi := ⟨some 133, _, _, _, _, _⟩) (v := (.pointer (some ⟨Dg, 0, none⟩))) rfl (by kernel_rfl) (by kernel_rfl) (by kernel_rfl) (fun _ _ _ h => h) (Or.inl ⟨by rfl, ?_⟩) (by assumption) ?_
                · intro w' hS; go_simp; try with_reducible rfl
                simp only [Act.put, List.setIfInBounds_toArray, List.set_cons_zero, List.set_cons_succ]
                refine wpAnyH_take (i := 17) (oi := ⟨some 134, _, _, _, _, _⟩) (v := (.int .u8 1)) rfl (by kernel_rfl) (by kernel_rfl) (by kernel_rfl) (fun _ _ _ h => h) (Or.inl ⟨by rfl, ?_⟩) (by assumption) ?_
                · intro w' hS; have h0 := hdl hS.1 1 L1.out rfl; go_simp; try with_reducible rfl
                simp only [Act.put, List.setIfInBounds_toArray, List.set_cons_zero, List.set_cons_succ]
                refine wpAnyH_take (i := 18) (oi := ⟨some 135, _, _, _, _, _⟩) (v := (.bool true)) rfl (by kernel_rfl) (by kernel_rfl) (by kernel_rfl) (fun _ _ _ h => h) (Or.inl ⟨by rfl, ?_⟩) (by assumption) ?_
                · intro w' hS; go_simp; try with_reducible rfl
                simp only [Act.put, List.setIfInBounds_toArray, List.set_cons_zero, List.set_cons_succ]
                have hcc := tog_any A B n c m d xs ys wr0 HN.out HM.out hnc hmd hc hd (HX.out.below Wr0.out) (HY.out.below Wr0.out) HBX.out HBY.out
                rw [TG.out] at hcc
                first | rw [show mk true = 18446744073709551615 from rfl] at hcc | rw [show mk false = 0 from rfl] at hcc
                have HCC := Lib.hid hcc
                clear hcc
                refine wpAnyH_ready (rs := [14]) (by kernel_rfl) (by simp) ?_
                refine AllReadyH.cons (o := ⟨some 131, _, _, _, _, _⟩) rfl (fun K hK => ?_) AllReadyH.nil
                rw [if_pos (by rfl)]
                go_simp
                refine (HCC.out).mono ?_
                rintro e' wr1 ⟨rfl, bb⟩
                clear HCC
                have HDgr1 := Lib.hid (HDgr0.out.below HDgr0.out.lt bb)
                have HDhr1 := Lib.hid (HDhr0.out.below HDhr0.out.lt bb)
                have Wr1 := Lib.hid (Wr0.out.trans (bb.mono Wr0.out.size))
                clear bb Wr0 HDgr0 HDhr0
                dsimp only
                (try simp only [Act.put, List.setIfInBounds_toArray, List.set_cons_zero, List.set_cons_succ])
                refine hK.out _ _ (⟨HDgr1.out, HDhr1.out⟩) (fun hHeld => ?_)
                clear hK K
                refine wpAnyH_take (i := 15) (oi := ⟨some 132, _, _, _, _, _⟩) (v := (.bool true)) rfl (by kernel_rfl) (by kernel_rfl) (by kernel_rfl) (fun _ _ _ h => h) (Or.inl ⟨by rfl, ?_⟩) (by assumption) ?_
                · intro w' hS; go_simp; try with_reducible rfl
                simp only [Act.put, List.setIfInBounds_toArray, List.set_cons_zero, List.set_cons_succ]
                refine wpAnyH_take (i := 19) (oi := ⟨some 136, _, _, _, _, _⟩) (v := (.bool true)) rfl (by kernel_rfl) (by kernel_rfl) (by kernel_rfl) (fun _ _ _ h => h) (Or.inl ⟨by rfl, ?_⟩) (by assumption) ?_
                · intro w' hS; go_simp; try with_reducible rfl
                simp only [Act.put, List.setIfInBounds_toArray, List.set_cons_zero, List.set_cons_succ]
                refine wpAnyH_take (i := 20) (oi := ⟨some 137, _, _, _, _, _⟩) (v := (.pointer (some ⟨Dh, 0, none⟩))) rfl (by kernel_rfl) (by kernel_rfl) (by kernel_rfl) (fun _ _ _ h => h) (Or.inl ⟨by rfl, ?_⟩) (by assumption) ?_
                · intro w' hS; go_simp; try with_reducible rfl
                simp only [Act.put, List.setIfInBounds_toArray, List.set_cons_zero, List.set_cons_succ]
                refine wpAnyH_take (i := 21) (oi := ⟨some 138, _, _, _, _, _⟩) (v := (.int .u8 1)) rfl (by kernel_rfl) (by kernel_rfl) (by kernel_rfl) (fun _ _ _ h => h) (Or.inl ⟨by rfl, ?_⟩) (by assumption) ?_
                · intro w' hS; have h0 := hdl hS.2 1 L2.out rfl; go_simp; try with_reducible rfl
                simp only [Act.put, List.setIfInBounds_toArray, List.set_cons_zero, List.set_cons_succ]
                refine wpAnyH_take (i := 22) (oi := ⟨some 139, _, _, _, _, _⟩) (v := (.bool true)) rfl (by kernel_rfl) (by kernel_rfl) (by kernel_rfl) (fun _ _ _ h => h) (Or.inl ⟨by rfl, ?_⟩) (by assumption) ?_
                · intro w' hS; go_simp; try with_reducible rfl
                simp only [Act.put, List.setIfInBounds_toArray, List.set_cons_zero, List.set_cons_succ]
                refine wpAnyH_take (i := 23) (oi := ⟨some 140, _, _, _, _, _⟩) (v := (.bool true)) rfl (by kernel_rfl) (by kernel_rfl) (by kernel_rfl) (fun _ _ _ h => h) (Or.inl ⟨by rfl, ?_⟩) (by assumption) ?_
                · intro w' hS; go_simp; try with_reducible rfl
                simp only [Act.put, List.setIfInBounds_toArray, List.set_cons_zero, List.set_cons_succ]
                refine wpAnyH_take (i := 24) (oi := ⟨some 141, _, _, _, _, _⟩) (v := (.bool true)) rfl (by kernel_rfl) (by kernel_rfl) (by kernel_rfl) (fun _ _ _ h => h) (Or.inl ⟨by rfl, ?_⟩) (by assumption) ?_
                · intro w' hS; go_simp; try with_reducible rfl
                simp only [Act.put, List.setIfInBounds_toArray, List.set_cons_zero, List.set_cons_succ]
                refine wpAnyH_take (i := 25) (oi := ⟨some 142, _, _, _, _, _⟩) (v := (.pointer (some ⟨Dg, 4, none⟩))) rfl (by kernel_rfl) (by kernel_rfl) (by kernel_rfl) (fun _ _ _ h => h) (Or.inl ⟨by rfl, ?_⟩) (by assumption) ?_
                · intro w' hS; go_simp; try with_reducible rfl
                simp only [Act.put, List.setIfInBounds_toArray, List.set_cons_zero, List.set_cons_succ]
                refine wpAnyH_take (i := 26) (oi := ⟨some 143, _, _, _, _, _⟩) (v := (.agg ((gcut xs).map (Value.int .u8)).toArray)) rfl (by kernel_rfl) (by kernel_rfl) (by kernel_rfl) (fun _ _ _ h => h) (Or.inl ⟨by rfl, ?_⟩) (by assumption) ?_
                · intro w' hS; exact exec_load_mid 24 _ rfl Dg 4 (by rfl) ((gcut xs).map (Value.int .u8)) _ (hdg hS.1 H26.out.1) Try.underlying24 rfl (by rw [List.length_map, gcut_len xs H26.out.1]; rfl)
                simp only [Act.put, List.setIfInBounds_toArray, List.set_cons_zero, List.set_cons_succ]
                refine wpAnyH_take (i := 27) (oi := ⟨some 144, _, _, _, _, _⟩) (v := (.pointer (some ⟨Dh, 4, none⟩))) rfl (by kernel_rfl) (by kernel_rfl) (by kernel_rfl) (fun _ _ _ h => h) (Or.inl ⟨by rfl, ?_⟩) (by assumption) ?_
                · intro w' hS; go_simp; try with_reducible rfl
                simp only [Act.put, List.setIfInBounds_toArray, List.set_cons_zero, List.set_cons_succ]
                refine wpAnyH_take (i := 28) (oi := ⟨some 145, _, _, _, _, _⟩) (v := (.agg ((gcut ys).map (Value.int .u8)).toArray)) rfl (by kernel_rfl) (by kernel_rfl) (by kernel_rfl) (fun _ _ _ h => h) (Or.inl ⟨by rfl, ?_⟩) (by assumption) ?_
                · intro w' hS; exact exec_load_mid 24 _ rfl Dh 4 (by rfl) ((gcut ys).map (Value.int .u8)) _ (hdg hS.2 H26.out.2) Try.underlying24 rfl (by rw [List.length_map, gcut_len ys H26.out.2]; rfl)
                simp only [Act.put, List.setIfInBounds_toArray, List.set_cons_zero, List.set_cons_succ]
                refine wpAnyH_take (i := 29) (oi := ⟨some 146, _, _, _, _, _⟩) (v := (.bool true)) rfl (by kernel_rfl) (by kernel_rfl) (by kernel_rfl) (fun _ _ _ h => h) (Or.inl ⟨by rfl, ?_⟩) (by assumption) ?_
                · intro w' hS; have h0 := EQG.out w'; go_simp; try with_reducible rfl
                simp only [Act.put, List.setIfInBounds_toArray, List.set_cons_zero, List.set_cons_succ]
                refine wpAnyH_take (i := 30) (oi := ⟨some 147, _, _, _, _, _⟩) (v := (.bool true)) rfl (by kernel_rfl) (by kernel_rfl) (by kernel_rfl) (fun _ _ _ h => h) (Or.inl ⟨by rfl, ?_⟩) (by assumption) ?_
                · intro w' hS; go_simp; try with_reducible rfl
                simp only [Act.put, List.setIfInBounds_toArray, List.set_cons_zero, List.set_cons_succ]
                refine wpAnyH_take (i := 31) (oi := ⟨some 148, _, _, _, _, _⟩) (v := (.bool false)) rfl (by kernel_rfl) (by kernel_rfl) (by kernel_rfl) (fun _ _ _ h => h) (Or.inl ⟨by rfl, ?_⟩) (by assumption) ?_
                · intro w' hS; go_simp; try with_reducible rfl
                simp only [Act.put, List.setIfInBounds_toArray, List.set_cons_zero, List.set_cons_succ]
                refine wpAnyH_take (i := 32) (oi := ⟨some 149, _, _, _, _, _⟩) (v := (.bool false)) rfl (by kernel_rfl) (by kernel_rfl) (by kernel_rfl) (fun _ _ _ h => h) (Or.inl ⟨by rfl, ?_⟩) (by assumption) ?_
                · intro w' hS; go_simp; try with_reducible rfl
                simp only [Act.put, List.setIfInBounds_toArray, List.set_cons_zero, List.set_cons_succ]
                refine wpAnyH_take (i := 33) (oi := ⟨some 150, _, _, _, _, _⟩) (v := (.bool false)) rfl (by kernel_rfl) (by kernel_rfl) (by kernel_rfl) (fun _ _ _ h => h) (Or.inl ⟨by rfl, ?_⟩) (by assumption) ?_
                · intro w' hS; go_simp; try with_reducible rfl
                simp only [Act.put, List.setIfInBounds_toArray, List.set_cons_zero, List.set_cons_succ]
                refine wpAnyH_take (i := 34) (oi := ⟨some 151, _, _, _, _, _⟩) (v := (.slice A n c)) rfl (by kernel_rfl) (by kernel_rfl) (by kernel_rfl) (fun _ _ _ h => h) (Or.inl ⟨by rfl, ?_⟩) (by assumption) ?_
                · intro w' hS; go_simp; try with_reducible rfl
                simp only [Act.put, List.setIfInBounds_toArray, List.set_cons_zero, List.set_cons_succ]
                refine wpAnyH_take (i := 35) (oi := ⟨some 152, _, _, _, _, _⟩) (v := (.slice B m d)) rfl (by kernel_rfl) (by kernel_rfl) (by kernel_rfl) (fun _ _ _ h => h) (Or.inl ⟨by rfl, ?_⟩) (by assumption) ?_
                · intro w' hS; go_simp; try with_reducible rfl
                simp only [Act.put, List.setIfInBounds_toArray, List.set_cons_zero, List.set_cons_succ]
                refine wpAnyH_take (i := 37) (oi := ⟨some 154, _, _, _, _, _⟩) (v := (.slice B m d)) rfl (by kernel_rfl) (by kernel_rfl) (by kernel_rfl) (fun _ _ _ h => h) (Or.inl ⟨by rfl, ?_⟩) (by assumption) ?_
                · intro w' hS; go_simp; try with_reducible rfl
                simp only [Act.put, List.setIfInBounds_toArray, List.set_cons_zero, List.set_cons_succ]
                refine wpAnyH_take (i := 38) (oi := ⟨some 155, _, _, _, _, _⟩) (v := (.slice A n c)) rfl (by kernel_rfl) (by kernel_rfl) (by kernel_rfl) (fun _ _ _ h => h) (Or.inl ⟨by rfl, ?_⟩) (by assumption) ?_
                · intro w' hS; go_simp; try with_reducible rfl
                simp only [Act.put, List.setIfInBounds_toArray, List.set_cons_zero, List.set_cons_succ]
                have hcc := tog_any A B n c m d xs ys wr1 HN.out HM.out hnc hmd hc hd (HX.out.below Wr1.out) (HY.out.below Wr1.out) HBX.out HBY.out
                rw [TG.out] at hcc
                first | rw [show mk true = 18446744073709551615 from rfl] at hcc | rw [show mk false = 0 from rfl] at hcc
                have HCC := Lib.hid hcc
                clear hcc
                refine wpAnyH_ready (rs := [36]) (by kernel_rfl) (by simp) ?_
                refine AllReadyH.cons (o := ⟨some 153, _, _, _, _, _⟩) rfl (fun K hK => ?_) AllReadyH.nil
                rw [if_pos (by rfl)]
                go_simp
                refine (HCC.out).mono ?_
                rintro e' wr2 ⟨rfl, bb⟩
                clear HCC
                have HDgr2 := Lib.hid (HDgr1.out.below HDgr1.out.lt bb)
                have HDhr2 := Lib.hid (HDhr1.out.below HDhr1.out.lt bb)
                have Wr2 := Lib.hid (Wr1.out.trans (bb.mono Wr1.out.size))
                clear bb Wr1 HDgr1 HDhr1
                dsimp only
                (try simp only [Act.put, List.setIfInBounds_toArray, List.set_cons_zero, List.set_cons_succ])
                refine hK.out _ _ (⟨HDgr2.out, HDhr2.out⟩) (fun hHeld => ?_)
                clear hK K
                have hcc := tog_any B A m d n c ys xs wr2 HM.out HN.out hmd hnc hd hc (HY.out.below Wr2.out) (HX.out.below Wr2.out) HBY.out HBX.out
                rw [TG2.out] at hcc
                first | rw [show mk true = 18446744073709551615 from rfl] at hcc | rw [show mk false = 0 from rfl] at hcc
                have HCC := Lib.hid hcc
                clear hcc
                refine wpAnyH_ready (rs := [39]) (by kernel_rfl) (by simp) ?_
                refine AllReadyH.cons (o := ⟨some 156, _, _, _, _, _⟩) rfl (fun K hK => ?_) AllReadyH.nil
                rw [if_pos (by rfl)]
                go_simp
                refine (HCC.out).mono ?_
                rintro e' wr3 ⟨rfl, bb⟩
                clear HCC
                have HDgr3 := Lib.hid (HDgr2.out.below HDgr2.out.lt bb)
                have HDhr3 := Lib.hid (HDhr2.out.below HDhr2.out.lt bb)
                have Wr3 := Lib.hid (Wr2.out.trans (bb.mono Wr2.out.size))
                clear bb Wr2 HDgr2 HDhr2
                dsimp only
                (try simp only [Act.put, List.setIfInBounds_toArray, List.set_cons_zero, List.set_cons_succ])
                refine hK.out _ _ (⟨HDgr3.out, HDhr3.out⟩) (fun hHeld => ?_)
                clear hK K
                refine wpAnyH_take (i := 40) (oi := ⟨some 157, _, _, _, _, _⟩) (v := (.bool false)) rfl (by kernel_rfl) (by kernel_rfl) (by kernel_rfl) (fun _ _ _ h => h) (Or.inl ⟨by rfl, ?_⟩) (by assumption) ?_
                · intro w' hS; go_simp; try with_reducible rfl
                simp only [Act.put, List.setIfInBounds_toArray, List.set_cons_zero, List.set_cons_succ]
                refine wpAnyH_take (i := 41) (oi := ⟨some 158, _, _, _, _, _⟩) (v := (.bool false)) rfl (by kernel_rfl) (by kernel_rfl) (by kernel_rfl) (fun _ _ _ h => h) (Or.inl ⟨by rfl, ?_⟩) (by assumption) ?_
                · intro w' hS; go_simp; try with_reducible rfl
                simp only [Act.put, List.setIfInBounds_toArray, List.set_cons_zero, List.set_cons_succ]
                refine wpAnyH_done (by kernel_rfl) ?_ _
                go_wp2_with fail
                go_meet
                exact ⟨rfl, Wr3.out, HDgr3.out, HDhr3.out⟩
              · have L1 := Lib.hid l1
                have L2 := Lib.hid l2
                have v1 : lvR xs n = true := lv_is HI.out _ (by rw [l1]; rfl)
                have v2 : lvR ys m = true := lv_is HJ.out _ (by rw [l2]; rfl)
                have EQG : Hid (∀ W : World, (Op.equalIn 10000 24 (.agg ((gcut xs).map (Value.int .u8)).toArray) (.agg ((gcut ys).map (Value.int .u8)).toArray)).run Try.prog W = .ok false W) := Lib.hid (fun W => eq_group (HBX.out.cut 10 16) (HBY.out.cut 10 16) (gcut_len xs H26.out.1) (gcut_len ys H26.out.2) _ (decide_eq_false hg) W)
                have TG : Hid (tgR xs n ys m = false) := Lib.hid (by unfold tgR; rw [v1, v2, decide_eq_false hg]; rfl)
                have TG2 : Hid (tgR ys m xs n = false) := Lib.hid (by rw [← tg_sym, TG.out])
                clear l1 l2 v1 v2
                clear hg
                refine wp_region_held_drew (S := fun w' => Hd w' Dg (hdr xs) ∧ Hd w' Dh (hdr ys)) (by kernel_rfl) (⟨HDg5.out, HDh5.out⟩) (fun hHeld => ?_)
                have bb := (Below.refl w5.heap.size w5).drew
                have HDgr0 := Lib.hid (HDg5.out.below HDg5.out.lt bb)
                have HDhr0 := Lib.hid (HDh5.out.below HDh5.out.lt bb)
                have Wr0 := Lib.hid W5.out.drew
                generalize w5.drew = wr0 at *
                clear bb W5 HDg5 HDh5
                refine wpAnyH_take (i := 0) (oi := ⟨some 117, _, _, _, _, _⟩) (v := (.pointer (some ⟨Dg, 0, none⟩))) rfl (by kernel_rfl) (by kernel_rfl) (by kernel_rfl) (fun _ _ _ h => h) (Or.inl ⟨by rfl, ?_⟩) (by assumption) ?_
                · intro w' hS; go_simp; try with_reducible rfl
                simp only [Act.put, List.setIfInBounds_toArray, List.set_cons_zero, List.set_cons_succ]
                refine wpAnyH_take (i := 1) (oi := ⟨some 118, _, _, _, _, _⟩) (v := (.int .u8 1)) rfl (by kernel_rfl) (by kernel_rfl) (by kernel_rfl) (fun _ _ _ h => h) (Or.inl ⟨by rfl, ?_⟩) (by assumption) ?_
                · intro w' hS; have h0 := hdl hS.1 1 L1.out rfl; go_simp; try with_reducible rfl
                simp only [Act.put, List.setIfInBounds_toArray, List.set_cons_zero, List.set_cons_succ]
                refine wpAnyH_take (i := 2) (oi := ⟨some 119, _, _, _, _, _⟩) (v := (.pointer (some ⟨Dh, 0, none⟩))) rfl (by kernel_rfl) (by kernel_rfl) (by kernel_rfl) (fun _ _ _ h => h) (Or.inl ⟨by rfl, ?_⟩) (by assumption) ?_
                · intro w' hS; go_simp; try with_reducible rfl
                simp only [Act.put, List.setIfInBounds_toArray, List.set_cons_zero, List.set_cons_succ]
                refine wpAnyH_take (i := 3) (oi := ⟨some 120, _, _, _, _, _⟩) (v := (.int .u8 1)) rfl (by kernel_rfl) (by kernel_rfl) (by kernel_rfl) (fun _ _ _ h => h) (Or.inl ⟨by rfl, ?_⟩) (by assumption) ?_
                · intro w' hS; have h0 := hdl hS.2 1 L2.out rfl; go_simp; try with_reducible rfl
                simp only [Act.put, List.setIfInBounds_toArray, List.set_cons_zero, List.set_cons_succ]
                refine wpAnyH_take (i := 4) (oi := ⟨some 121, _, _, _, _, _⟩) (v := (.bool false)) rfl (by kernel_rfl) (by kernel_rfl) (by kernel_rfl) (fun _ _ _ h => h) (Or.inl ⟨by rfl, ?_⟩) (by assumption) ?_
                · intro w' hS; go_simp; try with_reducible rfl
                simp only [Act.put, List.setIfInBounds_toArray, List.set_cons_zero, List.set_cons_succ]
                refine wpAnyH_take (i := 5) (oi := ⟨some 122, _, _, _, _, _⟩) (v := (.bool false)) rfl (by kernel_rfl) (by kernel_rfl) (by kernel_rfl) (fun _ _ _ h => h) (Or.inl ⟨by rfl, ?_⟩) (by assumption) ?_
                · intro w' hS; go_simp; try with_reducible rfl
                simp only [Act.put, List.setIfInBounds_toArray, List.set_cons_zero, List.set_cons_succ]
                refine wpAnyH_take (i := 6) (oi := ⟨some 123, _, _, _, _, _⟩) (v := undef) rfl (by kernel_rfl) (by kernel_rfl) (by kernel_rfl) (fun _ _ _ h => h) (Or.inr ⟨by rfl, rfl⟩) (by assumption) ?_
                simp only [Act.put, List.setIfInBounds_toArray, List.set_cons_zero, List.set_cons_succ]
                refine wpAnyH_take (i := 7) (oi := ⟨some 124, _, _, _, _, _⟩) (v := undef) rfl (by kernel_rfl) (by kernel_rfl) (by kernel_rfl) (fun _ _ _ h => h) (Or.inr ⟨by rfl, rfl⟩) (by assumption) ?_
                simp only [Act.put, List.setIfInBounds_toArray, List.set_cons_zero, List.set_cons_succ]
                refine wpAnyH_take (i := 8) (oi := ⟨some 125, _, _, _, _, _⟩) (v := undef) rfl (by kernel_rfl) (by kernel_rfl) (by kernel_rfl) (fun _ _ _ h => h) (Or.inr ⟨by rfl, rfl⟩) (by assumption) ?_
                simp only [Act.put, List.setIfInBounds_toArray, List.set_cons_zero, List.set_cons_succ]
                refine wpAnyH_take (i := 9) (oi := ⟨some 126, _, _, _, _, _⟩) (v := undef) rfl (by kernel_rfl) (by kernel_rfl) (by kernel_rfl) (fun _ _ _ h => h) (Or.inr ⟨by rfl, rfl⟩) (by assumption) ?_
                simp only [Act.put, List.setIfInBounds_toArray, List.set_cons_zero, List.set_cons_succ]
                refine wpAnyH_take (i := 10) (oi := ⟨some 127, _, _, _, _, _⟩) (v := (.bool false)) rfl (by kernel_rfl) (by kernel_rfl) (by kernel_rfl) (fun _ _ _ h => h) (Or.inl ⟨by rfl, ?_⟩) (by assumption) ?_
                · intro w' hS; go_simp; try with_reducible rfl
                simp only [Act.put, List.setIfInBounds_toArray, List.set_cons_zero, List.set_cons_succ]
                refine wpAnyH_take (i := 11) (oi := ⟨some 128, _, _, _, _, _⟩) (v := (.bool false)) rfl (by kernel_rfl) (by kernel_rfl) (by kernel_rfl) (fun _ _ _ h => h) (Or.inl ⟨by rfl, ?_⟩) (by assumption) ?_
                · intro w' hS; go_simp; try with_reducible rfl
                simp only [Act.put, List.setIfInBounds_toArray, List.set_cons_zero, List.set_cons_succ]
                refine wpAnyH_take (i := 12) (oi := ⟨some 129, _, _, _, _, _⟩) (v := (.slice A n c)) rfl (by kernel_rfl) (by kernel_rfl) (by kernel_rfl) (fun _ _ _ h => h) (Or.inl ⟨by rfl, ?_⟩) (by assumption) ?_
                · intro w' hS; go_simp; try with_reducible rfl
                simp only [Act.put, List.setIfInBounds_toArray, List.set_cons_zero, List.set_cons_succ]
                refine wpAnyH_take (i := 13) (oi := ⟨some 130, _, _, _, _, _⟩) (v := (.slice B m d)) rfl (by kernel_rfl) (by kernel_rfl) (by kernel_rfl) (fun _ _ _ h => h) (Or.inl ⟨by rfl, ?_⟩) (by assumption) ?_
                · intro w' hS; go_simp; try with_reducible rfl
                simp only [Act.put, List.setIfInBounds_toArray, List.set_cons_zero, List.set_cons_succ]
                refine wpAnyH_take (i := 16) (oi := ⟨some 133, _, _, _, _, _⟩) (v := (.pointer (some ⟨Dg, 0, none⟩))) rfl (by kernel_rfl) (by kernel_rfl) (by kernel_rfl) (fun _ _ _ h => h) (Or.inl ⟨by rfl, ?_⟩) (by assumption) ?_
                · intro w' hS; go_simp; try with_reducible rfl
                simp only [Act.put, List.setIfInBounds_toArray, List.set_cons_zero, List.set_cons_succ]
                refine wpAnyH_take (i := 17) (oi := ⟨some 134, _, _, _, _, _⟩) (v := (.int .u8 1)) rfl (by kernel_rfl) (by kernel_rfl) (by kernel_rfl) (fun _ _ _ h => h) (Or.inl ⟨by rfl, ?_⟩) (by assumption) ?_
                · intro w' hS; have h0 := hdl hS.1 1 L1.out rfl; go_simp; try with_reducible rfl
                simp only [Act.put, List.setIfInBounds_toArray, List.set_cons_zero, List.set_cons_succ]
                refine wpAnyH_take (i := 18) (oi := ⟨some 135, _, _, _, _, _⟩) (v := (.bool true)) rfl (by kernel_rfl) (by kernel_rfl) (by kernel_rfl) (fun _ _ _ h => h) (Or.inl ⟨by rfl, ?_⟩) (by assumption) ?_
                · intro w' hS; go_simp; try with_reducible rfl
                simp only [Act.put, List.setIfInBounds_toArray, List.set_cons_zero, List.set_cons_succ]
                have hcc := tog_any A B n c m d xs ys wr0 HN.out HM.out hnc hmd hc hd (HX.out.below Wr0.out) (HY.out.below Wr0.out) HBX.out HBY.out
                rw [TG.out] at hcc
                first | rw [show mk true = 18446744073709551615 from rfl] at hcc | rw [show mk false = 0 from rfl] at hcc
                have HCC := Lib.hid hcc
                clear hcc
                refine wpAnyH_ready (rs := [14]) (by kernel_rfl) (by simp) ?_
                refine AllReadyH.cons (o := ⟨some 131, _, _, _, _, _⟩) rfl (fun K hK => ?_) AllReadyH.nil
                rw [if_pos (by rfl)]
                go_simp
                refine (HCC.out).mono ?_
                rintro e' wr1 ⟨rfl, bb⟩
                clear HCC
                have HDgr1 := Lib.hid (HDgr0.out.below HDgr0.out.lt bb)
                have HDhr1 := Lib.hid (HDhr0.out.below HDhr0.out.lt bb)
                have Wr1 := Lib.hid (Wr0.out.trans (bb.mono Wr0.out.size))
                clear bb Wr0 HDgr0 HDhr0
                dsimp only
                (try simp only [Act.put, List.setIfInBounds_toArray, List.set_cons_zero, List.set_cons_succ])
                refine hK.out _ _ (⟨HDgr1.out, HDhr1.out⟩) (fun hHeld => ?_)
                clear hK K
                refine wpAnyH_take (i := 15) (oi := ⟨some 132, _, _, _, _, _⟩) (v := (.bool false)) rfl (by kernel_rfl) (by kernel_rfl) (by kernel_rfl) (fun _ _ _ h => h) (Or.inl ⟨by rfl, ?_⟩) (by assumption) ?_
                · intro w' hS; go_simp; try with_reducible rfl
                simp only [Act.put, List.setIfInBounds_toArray, List.set_cons_zero, List.set_cons_succ]
                refine wpAnyH_take (i := 19) (oi := ⟨some 136, _, _, _, _, _⟩) (v := (.bool true)) rfl (by kernel_rfl) (by kernel_rfl) (by kernel_rfl) (fun _ _ _ h => h) (Or.inl ⟨by rfl, ?_⟩) (by assumption) ?_
                · intro w' hS; go_simp; try with_reducible rfl
                simp only [Act.put, List.setIfInBounds_toArray, List.set_cons_zero, List.set_cons_succ]
                refine wpAnyH_take (i := 20) (oi := ⟨some 137, _, _, _, _, _⟩) (v := (.pointer (some ⟨Dh, 0, none⟩))) rfl (by kernel_rfl) (by kernel_rfl) (by kernel_rfl) (fun _ _ _ h => h) (Or.inl ⟨by rfl, ?_⟩) (by assumption) ?_
                · intro w' hS; go_simp; try with_reducible rfl
                simp only [Act.put, List.setIfInBounds_toArray, List.set_cons_zero, List.set_cons_succ]
                refine wpAnyH_take (i := 21) (oi := ⟨some 138, _, _, _, _, _⟩) (v := (.int .u8 1)) rfl (by kernel_rfl) (by kernel_rfl) (by kernel_rfl) (fun _ _ _ h => h) (Or.inl ⟨by rfl, ?_⟩) (by assumption) ?_
                · intro w' hS; have h0 := hdl hS.2 1 L2.out rfl; go_simp; try with_reducible rfl
                simp only [Act.put, List.setIfInBounds_toArray, List.set_cons_zero, List.set_cons_succ]
                refine wpAnyH_take (i := 22) (oi := ⟨some 139, _, _, _, _, _⟩) (v := (.bool true)) rfl (by kernel_rfl) (by kernel_rfl) (by kernel_rfl) (fun _ _ _ h => h) (Or.inl ⟨by rfl, ?_⟩) (by assumption) ?_
                · intro w' hS; go_simp; try with_reducible rfl
                simp only [Act.put, List.setIfInBounds_toArray, List.set_cons_zero, List.set_cons_succ]
                refine wpAnyH_take (i := 23) (oi := ⟨some 140, _, _, _, _, _⟩) (v := (.bool true)) rfl (by kernel_rfl) (by kernel_rfl) (by kernel_rfl) (fun _ _ _ h => h) (Or.inl ⟨by rfl, ?_⟩) (by assumption) ?_
                · intro w' hS; go_simp; try with_reducible rfl
                simp only [Act.put, List.setIfInBounds_toArray, List.set_cons_zero, List.set_cons_succ]
                refine wpAnyH_take (i := 24) (oi := ⟨some 141, _, _, _, _, _⟩) (v := (.bool true)) rfl (by kernel_rfl) (by kernel_rfl) (by kernel_rfl) (fun _ _ _ h => h) (Or.inl ⟨by rfl, ?_⟩) (by assumption) ?_
                · intro w' hS; go_simp; try with_reducible rfl
                simp only [Act.put, List.setIfInBounds_toArray, List.set_cons_zero, List.set_cons_succ]
                refine wpAnyH_take (i := 25) (oi := ⟨some 142, _, _, _, _, _⟩) (v := (.pointer (some ⟨Dg, 4, none⟩))) rfl (by kernel_rfl) (by kernel_rfl) (by kernel_rfl) (fun _ _ _ h => h) (Or.inl ⟨by rfl, ?_⟩) (by assumption) ?_
                · intro w' hS; go_simp; try with_reducible rfl
                simp only [Act.put, List.setIfInBounds_toArray, List.set_cons_zero, List.set_cons_succ]
                refine wpAnyH_take (i := 26) (oi := ⟨some 143, _, _, _, _, _⟩) (v := (.agg ((gcut xs).map (Value.int .u8)).toArray)) rfl (by kernel_rfl) (by kernel_rfl) (by kernel_rfl) (fun _ _ _ h => h) (Or.inl ⟨by rfl, ?_⟩) (by assumption) ?_
                · intro w' hS; exact exec_load_mid 24 _ rfl Dg 4 (by rfl) ((gcut xs).map (Value.int .u8)) _ (hdg hS.1 H26.out.1) Try.underlying24 rfl (by rw [List.length_map, gcut_len xs H26.out.1]; rfl)
                simp only [Act.put, List.setIfInBounds_toArray, List.set_cons_zero, List.set_cons_succ]
                refine wpAnyH_take (i := 27) (oi := ⟨some 144, _, _, _, _, _⟩) (v := (.pointer (some ⟨Dh, 4, none⟩))) rfl (by kernel_rfl) (by kernel_rfl) (by kernel_rfl) (fun _ _ _ h => h) (Or.inl ⟨by rfl, ?_⟩) (by assumption) ?_
                · intro w' hS; go_simp; try with_reducible rfl
                simp only [Act.put, List.setIfInBounds_toArray, List.set_cons_zero, List.set_cons_succ]
                refine wpAnyH_take (i := 28) (oi := ⟨some 145, _, _, _, _, _⟩) (v := (.agg ((gcut ys).map (Value.int .u8)).toArray)) rfl (by kernel_rfl) (by kernel_rfl) (by kernel_rfl) (fun _ _ _ h => h) (Or.inl ⟨by rfl, ?_⟩) (by assumption) ?_
                · intro w' hS; exact exec_load_mid 24 _ rfl Dh 4 (by rfl) ((gcut ys).map (Value.int .u8)) _ (hdg hS.2 H26.out.2) Try.underlying24 rfl (by rw [List.length_map, gcut_len ys H26.out.2]; rfl)
                simp only [Act.put, List.setIfInBounds_toArray, List.set_cons_zero, List.set_cons_succ]
                refine wpAnyH_take (i := 29) (oi := ⟨some 146, _, _, _, _, _⟩) (v := (.bool false)) rfl (by kernel_rfl) (by kernel_rfl) (by kernel_rfl) (fun _ _ _ h => h) (Or.inl ⟨by rfl, ?_⟩) (by assumption) ?_
                · intro w' hS; have h0 := EQG.out w'; go_simp; try with_reducible rfl
                simp only [Act.put, List.setIfInBounds_toArray, List.set_cons_zero, List.set_cons_succ]
                refine wpAnyH_take (i := 30) (oi := ⟨some 147, _, _, _, _, _⟩) (v := (.bool false)) rfl (by kernel_rfl) (by kernel_rfl) (by kernel_rfl) (fun _ _ _ h => h) (Or.inl ⟨by rfl, ?_⟩) (by assumption) ?_
                · intro w' hS; go_simp; try with_reducible rfl
                simp only [Act.put, List.setIfInBounds_toArray, List.set_cons_zero, List.set_cons_succ]
                refine wpAnyH_take (i := 31) (oi := ⟨some 148, _, _, _, _, _⟩) (v := (.bool false)) rfl (by kernel_rfl) (by kernel_rfl) (by kernel_rfl) (fun _ _ _ h => h) (Or.inl ⟨by rfl, ?_⟩) (by assumption) ?_
                · intro w' hS; go_simp; try with_reducible rfl
                simp only [Act.put, List.setIfInBounds_toArray, List.set_cons_zero, List.set_cons_succ]
                refine wpAnyH_take (i := 32) (oi := ⟨some 149, _, _, _, _, _⟩) (v := (.bool false)) rfl (by kernel_rfl) (by kernel_rfl) (by kernel_rfl) (fun _ _ _ h => h) (Or.inl ⟨by rfl, ?_⟩) (by assumption) ?_
                · intro w' hS; go_simp; try with_reducible rfl
                simp only [Act.put, List.setIfInBounds_toArray, List.set_cons_zero, List.set_cons_succ]
                refine wpAnyH_take (i := 33) (oi := ⟨some 150, _, _, _, _, _⟩) (v := (.bool false)) rfl (by kernel_rfl) (by kernel_rfl) (by kernel_rfl) (fun _ _ _ h => h) (Or.inl ⟨by rfl, ?_⟩) (by assumption) ?_
                · intro w' hS; go_simp; try with_reducible rfl
                simp only [Act.put, List.setIfInBounds_toArray, List.set_cons_zero, List.set_cons_succ]
                refine wpAnyH_take (i := 34) (oi := ⟨some 151, _, _, _, _, _⟩) (v := (.slice A n c)) rfl (by kernel_rfl) (by kernel_rfl) (by kernel_rfl) (fun _ _ _ h => h) (Or.inl ⟨by rfl, ?_⟩) (by assumption) ?_
                · intro w' hS; go_simp; try with_reducible rfl
                simp only [Act.put, List.setIfInBounds_toArray, List.set_cons_zero, List.set_cons_succ]
                refine wpAnyH_take (i := 35) (oi := ⟨some 152, _, _, _, _, _⟩) (v := (.slice B m d)) rfl (by kernel_rfl) (by kernel_rfl) (by kernel_rfl) (fun _ _ _ h => h) (Or.inl ⟨by rfl, ?_⟩) (by assumption) ?_
                · intro w' hS; go_simp; try with_reducible rfl
                simp only [Act.put, List.setIfInBounds_toArray, List.set_cons_zero, List.set_cons_succ]
                refine wpAnyH_take (i := 37) (oi := ⟨some 154, _, _, _, _, _⟩) (v := (.slice B m d)) rfl (by kernel_rfl) (by kernel_rfl) (by kernel_rfl) (fun _ _ _ h => h) (Or.inl ⟨by rfl, ?_⟩) (by assumption) ?_
                · intro w' hS; go_simp; try with_reducible rfl
                simp only [Act.put, List.setIfInBounds_toArray, List.set_cons_zero, List.set_cons_succ]
                refine wpAnyH_take (i := 38) (oi := ⟨some 155, _, _, _, _, _⟩) (v := (.slice A n c)) rfl (by kernel_rfl) (by kernel_rfl) (by kernel_rfl) (fun _ _ _ h => h) (Or.inl ⟨by rfl, ?_⟩) (by assumption) ?_
                · intro w' hS; go_simp; try with_reducible rfl
                simp only [Act.put, List.setIfInBounds_toArray, List.set_cons_zero, List.set_cons_succ]
                have hcc := tog_any A B n c m d xs ys wr1 HN.out HM.out hnc hmd hc hd (HX.out.below Wr1.out) (HY.out.below Wr1.out) HBX.out HBY.out
                rw [TG.out] at hcc
                first | rw [show mk true = 18446744073709551615 from rfl] at hcc | rw [show mk false = 0 from rfl] at hcc
                have HCC := Lib.hid hcc
                clear hcc
                refine wpAnyH_ready (rs := [36]) (by kernel_rfl) (by simp) ?_
                refine AllReadyH.cons (o := ⟨some 153, _, _, _, _, _⟩) rfl (fun K hK => ?_) AllReadyH.nil
                rw [if_pos (by rfl)]
                go_simp
                refine (HCC.out).mono ?_
                rintro e' wr2 ⟨rfl, bb⟩
                clear HCC
                have HDgr2 := Lib.hid (HDgr1.out.below HDgr1.out.lt bb)
                have HDhr2 := Lib.hid (HDhr1.out.below HDhr1.out.lt bb)
                have Wr2 := Lib.hid (Wr1.out.trans (bb.mono Wr1.out.size))
                clear bb Wr1 HDgr1 HDhr1
                dsimp only
                (try simp only [Act.put, List.setIfInBounds_toArray, List.set_cons_zero, List.set_cons_succ])
                refine hK.out _ _ (⟨HDgr2.out, HDhr2.out⟩) (fun hHeld => ?_)
                clear hK K
                have hcc := tog_any B A m d n c ys xs wr2 HM.out HN.out hmd hnc hd hc (HY.out.below Wr2.out) (HX.out.below Wr2.out) HBY.out HBX.out
                rw [TG2.out] at hcc
                first | rw [show mk true = 18446744073709551615 from rfl] at hcc | rw [show mk false = 0 from rfl] at hcc
                have HCC := Lib.hid hcc
                clear hcc
                refine wpAnyH_ready (rs := [39]) (by kernel_rfl) (by simp) ?_
                refine AllReadyH.cons (o := ⟨some 156, _, _, _, _, _⟩) rfl (fun K hK => ?_) AllReadyH.nil
                rw [if_pos (by rfl)]
                go_simp
                refine (HCC.out).mono ?_
                rintro e' wr3 ⟨rfl, bb⟩
                clear HCC
                have HDgr3 := Lib.hid (HDgr2.out.below HDgr2.out.lt bb)
                have HDhr3 := Lib.hid (HDhr2.out.below HDhr2.out.lt bb)
                have Wr3 := Lib.hid (Wr2.out.trans (bb.mono Wr2.out.size))
                clear bb Wr2 HDgr2 HDhr2
                dsimp only
                (try simp only [Act.put, List.setIfInBounds_toArray, List.set_cons_zero, List.set_cons_succ])
                refine hK.out _ _ (⟨HDgr3.out, HDhr3.out⟩) (fun hHeld => ?_)
                clear hK K
                refine wpAnyH_take (i := 40) (oi := ⟨some 157, _, _, _, _, _⟩) (v := (.bool false)) rfl (by kernel_rfl) (by kernel_rfl) (by kernel_rfl) (fun _ _ _ h => h) (Or.inl ⟨by rfl, ?_⟩) (by assumption) ?_
                · intro w' hS; go_simp; try with_reducible rfl
                simp only [Act.put, List.setIfInBounds_toArray, List.set_cons_zero, List.set_cons_succ]
                refine wpAnyH_take (i := 41) (oi := ⟨some 158, _, _, _, _, _⟩) (v := (.bool false)) rfl (by kernel_rfl) (by kernel_rfl) (by kernel_rfl) (fun _ _ _ h => h) (Or.inl ⟨by rfl, ?_⟩) (by assumption) ?_
                · intro w' hS; go_simp; try with_reducible rfl
                simp only [Act.put, List.setIfInBounds_toArray, List.set_cons_zero, List.set_cons_succ]
                refine wpAnyH_done (by kernel_rfl) ?_ _
                go_wp2_with fail
                go_meet
                exact ⟨rfl, Wr3.out, HDgr3.out, HDhr3.out⟩
        case rest =>
          obtain ⟨rfl, hcw, hcg, hch⟩ := hcut
          have W6 := Lib.hid hcw
          have HDg6 := Lib.hid hcg
          have HDh6 := Lib.hid hch
          clear hcw hcg hch
          generalize wc = w6 at *
          go_wp2_with fail
          refine (byGroup_any A B n c m d xs ys w6 HN.out HM.out hnc hmd hc hd (HX.out.below W6.out) (HY.out.below W6.out) HBX.out HBY.out).mono ?_
          rintro e' w7 ⟨rfl, bb⟩
          have HDg7 := Lib.hid (HDg6.out.below HDg6.out.lt bb)
          have HDh7 := Lib.hid (HDh6.out.below HDh6.out.lt bb)
          have W7 := Lib.hid (W6.out.trans (bb.mono W6.out.size))
          clear bb W6 HDg6 HDh6
          go_wp2_with fail
          refine (byGroup_any B C m d k e ys zs w7 HM.out HK.out hmd hke hd he (HY.out.below W7.out) (HZ.out.below W7.out) HBY.out HBZ.out).mono ?_
          rintro e' w8 ⟨rfl, bb⟩
          have HDg8 := Lib.hid (HDg7.out.below HDg7.out.lt bb)
          have HDh8 := Lib.hid (HDh7.out.below HDh7.out.lt bb)
          have W8 := Lib.hid (W7.out.trans (bb.mono W7.out.size))
          clear bb W7 HDg7 HDh7
          have x1 := mk_and (bgR xs n ys m) (bgR ys m zs k)
          go_wp2_with fail
          refine (tog_any A C n c k e xs zs w8 HN.out HK.out hnc hke hc he (HX.out.below W8.out) (HZ.out.below W8.out) HBX.out HBZ.out).mono ?_
          rintro e' w9 ⟨rfl, bb⟩
          have HDg9 := Lib.hid (HDg8.out.below HDg8.out.lt bb)
          have HDh9 := Lib.hid (HDh8.out.below HDh8.out.lt bb)
          have W9 := Lib.hid (W8.out.trans (bb.mono W8.out.size))
          clear bb W8 HDg8 HDh8
          cases hbt : (bgR xs n ys m && bgR ys m zs k && tgR xs n zs k)
          · have x2 : bits .and .u64 (mk (bgR xs n ys m && bgR ys m zs k)) (mk (tgR xs n zs k)) = 0 := by rw [mk_and, hbt]; rfl
            go_wp2_with fail
            go_ret
            exact ⟨rfl, W9.out⟩
          · have TG : Hid (tgR xs n ys m = true) := Lib.hid (by simp only [Bool.and_eq_true] at hbt; exact tg_between hbt.1.1 hbt.1.2 hbt.2)
            have x2 : bits .and .u64 (mk (bgR xs n ys m && bgR ys m zs k)) (mk (tgR xs n zs k)) = 18446744073709551615 := by rw [mk_and, hbt]; rfl
            clear hbt
            go_wp2_with fail
            refine (tog_any A B n c m d xs ys w9 HN.out HM.out hnc hmd hc hd (HX.out.below W9.out) (HY.out.below W9.out) HBX.out HBY.out).mono ?_
            rintro e' w10 ⟨rfl, bb⟩
            rw [TG.out]
            have HDg10 := Lib.hid (HDg9.out.below HDg9.out.lt bb)
            have HDh10 := Lib.hid (HDh9.out.below HDh9.out.lt bb)
            have W10 := Lib.hid (W9.out.trans (bb.mono W9.out.size))
            clear bb W9 HDg9 HDh9
            go_wp2_with fail
            go_ret
            exact ⟨rfl, W10.out⟩
end Go.Proofs.Ytedejkfhgpnhpaa

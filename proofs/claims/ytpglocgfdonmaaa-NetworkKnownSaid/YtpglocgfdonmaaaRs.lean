/-
  Walk: the document's Sort.
-/
import Derived.Test.YtpglocgfdonmaaaBf
import Derived.Test.YtpglocgfdonmaaaApi
set_option linter.unusedVariables false
set_option linter.unusedSimpArgs false
namespace Go.Proofs.Ytpglocgfdonmaaa
open Go.RowKit

theorem quiet_at1 {P : Program} {f : FuncId} {args : Array Value} {w : World} {x : Nat} {v : Value} (h : Calls P f args (w.drewN x) fun e w' => e = .returned v ∧ w' = w.drewN x) :
    Calls P f args (w.drewN x) fun e w'' => e = .returned v ∧ ∃ n, w'' = w.drewN n := h.mono fun _ _ ⟨he, hm⟩ => ⟨he, x, hm⟩

set_option maxRecDepth 100000 in
set_option maxHeartbeats 8000000 in
theorem rsort_any (A : Option Addr) (n c : Nat) (xs : List Int) (m : Int) (w : World) (hn : n = xs.length) (hr : Rd w .i64 A xs) (hl : xs.length ≤ 17592186044000) (hx : ∀ i, R64 (xs.getD i 0)) (hm : R64 m) (hok : sizeB (n : Int) = true ∨ n = 0) :
    Calls Try.prog 22 #[.slice A n c, .int .i64 m] w fun e w' => ∃ v, e = .returned (.tuple #[v, .int .i64 0]) ∧ Own w' w.heap.size 3 .i64 v (sortF 0 (befF m) xs) ∧ Below w.heap.size w w' := by
  have HS0 : Hid (0 < n → ∀ W, Calls Try.prog 44 #[.int .i64 (n : Int)] W fun e w' => e = .returned (.bool true) ∧ w' = W) := Lib.hid (fun h W => by
    have h1 := rsize_any (n : Int) W
    rcases hok with h2 | h2
    · rw [h2] at h1; exact h1
    · omega)
  have HN := Lib.hid hn
  have HX := Lib.hid hx
  have HCP : Hid (Calls Try.prog 19 #[.slice A n c] w (Made 3 .i64 xs w)) := Lib.hid (by rw [hn]; exact copyi_any A c xs w hr (by omega))
  have HGL := Lib.hid (gates_len (n : Int)).1
  have HBF : Hid (∀ W a b, R64 a → R64 b → Calls Try.prog 21 #[.int .i64 a, .int .i64 b, .int .i64 m] W fun e w' => e = .returned (.bool (befF m a b)) ∧ w' = W) := Lib.hid (fun W a b ha hb => before_any a b m W ha hb hm)
  clear hok hn hx hr hm
  by_cases h0 : n = 0
  · subst h0
    clear HS0
    go_enter Try.func22, Try.ntmps22
    go_wp2_with fail
    refine HCP.out.mono ?_
    rintro e w1 ⟨v, rfl, ho, hb⟩
    have HO := Lib.hid ho
    have HB1 := Lib.hid hb
    clear ho hb
    have HG := Lib.hid (rgates_any ((0 : Nat) : Int) w1)
    go_wp2_with fail
    refine HG.out.mono ?_
    rintro e w2 ⟨gv, rfl, hg, hb⟩
    obtain ⟨GA, gc, rfl, hrg⟩ := hg.slice
    have hg0 : (gatesF ((0 : Nat) : Int)).length = 0 := by rw [gates_no (by decide)]; rfl
    have HE : Hid (Own w2 w.heap.size 3 .i64 v (sortF 0 (befF m) xs)) := Lib.hid (by
      have hxs : xs = [] := List.eq_nil_of_length_eq_zero HN.out.symm
      subst hxs
      exact HO.out.below hb)
    have HB2 : Hid (Below w.heap.size w w2) := Lib.hid (HB1.out.trans (hb.mono HB1.out.size))
    rw [hg0]
    clear hg hb hrg
    go_wp2_with fail
    go_loopw [8] (fun iv wr => iv = .int .i64 0 ∧ wr = w2) (fun _ _ => 0)
    case atStart => exact ⟨rfl, rfl⟩
    case round =>
      obtain ⟨rfl, rfl⟩ := hrel
      go_wp2_with fail
      go_ret2
      exact ⟨_, rfl, HE.out, HB2.out⟩
  · have hpos : 0 < n := by omega
    have HS := Lib.hid (HS0.out hpos)
    clear HS0
    go_enter Try.func22, Try.ntmps22
    go_wp2_with fail
    refine (HS.out _).mono ?_
    rintro e w' ⟨rfl, hw⟩
    obtain rfl : w = w' := hw.symm
    go_wp2_with fail
    refine HCP.out.mono ?_
    rintro e w1 ⟨v, rfl, ho, hb⟩
    have HO := Lib.hid ho
    have HB1 := Lib.hid hb
    clear ho hb
    have HG := Lib.hid (rgates_any (n : Int) w1)
    go_wp2_with fail
    refine HG.out.mono ?_
    rintro e w2 ⟨gv, rfl, hg, hb⟩
    obtain ⟨GA, gc, rfl, hrg⟩ := hg.slice
    obtain ⟨g, c1, rest, rfl, hgB, bG, hcl, hcm⟩ : ∃ g c1 rest, v = .slice (some ⟨g, 0, none⟩) n c1 ∧ w.heap.size ≤ g ∧ Blk w1 g 3 (xs.map (Value.int .i64) ++ rest) ∧ xs.length + rest.length = c1 ∧ c1 ≤ maxLen := by
      rcases HO.out.form with ⟨h1, h2⟩ | ⟨g, c', rest, h1, h2, h3, h4, h5⟩
      · exfalso; rw [h2] at HN; have := HN.out; simp at this; omega
      · exact ⟨g, c', rest, by rw [h1, HN.out], h2, h3, h4, h5⟩
    have HGE := Lib.hid hgB
    have HCL : Hid (xs.length + rest.length = c1 ∧ c1 ≤ maxLen) := Lib.hid ⟨hcl, hcm⟩
    have HGP : Hid (g < w1.heap.size ∧ w1.heap.size ≤ w2.heap.size) := Lib.hid ⟨Blk.lt bG, hb.size⟩
    have BG : Hid (Blk w2 g 3 (xs.map (Value.int .i64) ++ rest)) := Lib.hid (bG.below hb (Blk.lt bG))
    have HB2 : Hid (Below w.heap.size w w2) := Lib.hid (HB1.out.trans (hb.mono HB1.out.size))
    -- the gates lie in blocks from w1 on
    have HRG : Hid (∀ i, i < (gatesF (n : Int)).length → ∃ b off, GA = some ⟨b, off, none⟩ ∧ b ≠ g ∧ b < w2.heap.size ∧ w2.cell? ⟨b, off + i * 2, none⟩ = some (.int .i64 ((gatesF (n : Int)).getD i (0, 0)).1) ∧ w2.cell? ⟨b, off + i * 2 + 1, none⟩ = some (.int .i64 ((gatesF (n : Int)).getD i (0, 0)).2)) := Lib.hid (fun i hi => by
      obtain ⟨b, off, hA, hlt, h1, h2⟩ := hrg i hi
      refine ⟨b, off, hA, fun e => ?_, hlt, h1, h2⟩
      subst hA
      have := (World.ownsRow.lt hg b (by rfl)).1
      have := HGP.out
      omega)
    have HMEM : Hid (∀ x ∈ gatesF (n : Int), ∃ a b : Nat, x = ((a : Int), (b : Int)) ∧ a < n ∧ b < n ∧ a ≠ b) := Lib.hid (fun x hx => by
      obtain ⟨a, b, n', h1, h2, h3, h4, h5⟩ := gates_mem hx
      exact ⟨a, b, h2, by omega, by omega, h5⟩)
    have HSF : Hid (sortF 0 (befF m) xs = sortG 0 (befF m) xs (gatesF (n : Int))) := Lib.hid (by unfold sortF; rw [HN.out])
    clear hg hb hrg hgB bG hcl hcm HG
    generalize gatesF (n : Int) = G at *
    go_wp2_with fail
    go_loopw [8] (fun iv wr => ∃ i : Nat, iv = .int .i64 (i : Int) ∧ i ≤ G.length ∧ Hid (Blk wr g 3 ((sortG 0 (befF m) xs (G.take i)).map (Value.int .i64) ++ rest)) ∧ Hid (Fr (fun k => k = g) w2 wr)) (fun iv _ => ((G.length : Int) - intOf iv).toNat)
    case atStart => exact ⟨0, rfl, by omega, BG, Lib.hid (Fr.refl _ _)⟩
    case round =>
      clear BG
      obtain ⟨i, rfl, hi, HBL, HFR⟩ := hrel
      by_cases hin : i < G.length
      · obtain ⟨bb, off, hA, hne, hlt2, hc0, hc1⟩ := HRG.out i hin
        subst hA
        obtain ⟨a, b, hab, ha, hb, hne2⟩ := HMEM.out (G.getD i (0, 0)) (by rw [List.getD_eq_getElem?_getD, List.getElem?_eq_getElem hin]; simp)
        rw [hab] at hc0 hc1
        have HT : Hid (sortG 0 (befF m) xs (G.take (i + 1)) = stepS 0 (befF m) (sortG 0 (befF m) xs (G.take i)) ((a : Int), (b : Int))) := Lib.hid (by
          rw [← sortG_snoc, ← hab, List.take_add_one, List.getD_eq_getElem?_getD, List.getElem?_eq_getElem hin]; simp)
        have HLL : Hid ((sortG 0 (befF m) xs (G.take i)).length = n) := Lib.hid (by rw [sortG_len]; exact HN.out.symm)
        have HLR : Hid (∀ j, R64 ((sortG 0 (befF m) xs (G.take i)).getD j 0)) := Lib.hid (fun j => sortG_all (p := R64) 0 (befF m) (G.take i) xs HX.out j)
        have hc0' : wr.cell? ⟨bb, off + i * 2, none⟩ = some (.int .i64 (a : Int)) := (World.cell?_of_block (w := w2) (w' := wr) (HFR.out.block bb hlt2 hne)).trans hc0
        have hc1' : wr.cell? ⟨bb, off + i * 2 + 1, none⟩ = some (.int .i64 (b : Int)) := (World.cell?_of_block (w := w2) (w' := wr) (HFR.out.block bb hlt2 hne)).trans hc1
        generalize sortG 0 (befF m) xs (G.take i) = L at *
        obtain ⟨ya, hya⟩ : ∃ y, y = L.getD a 0 := ⟨_, rfl⟩
        obtain ⟨yb, hyb⟩ : ∃ y, y = L.getD b 0 := ⟨_, rfl⟩
        have ca : wr.cell? ⟨g, a, none⟩ = some (.int .i64 ya) := by rw [HBL.out.cell a, List.getElem?_append_left (by simp; have := HLL.out; omega), List.getElem?_map, hya, List.getD_eq_getElem?_getD, List.getElem?_eq_getElem (by have := HLL.out; omega)]; rfl
        have cb : wr.cell? ⟨g, b, none⟩ = some (.int .i64 yb) := by rw [HBL.out.cell b, List.getElem?_append_left (by simp; have := HLL.out; omega), List.getElem?_map, hyb, List.getD_eq_getElem?_getD, List.getElem?_eq_getElem (by have := HLL.out; omega)]; rfl
        have RA : Hid (R64 ya) := Lib.hid (by rw [hya]; exact HLR.out a)
        have RB : Hid (R64 yb) := Lib.hid (by rw [hyb]; exact HLR.out b)
        have HYA := Lib.hid hya
        have HYB := Lib.hid hyb
        have HAB := Lib.hid hab
        have HNE : Hid (a ≠ b ∧ bb ≠ g ∧ bb < w2.heap.size) := Lib.hid ⟨hne2, hne, hlt2⟩
        have HCG : Hid (w2.cell? ⟨bb, off + i * 2, none⟩ = some (.int .i64 (a : Int)) ∧ w2.cell? ⟨bb, off + i * 2 + 1, none⟩ = some (.int .i64 (b : Int))) := Lib.hid ⟨hc0, hc1⟩
        have fa : wr.frozen? ⟨g, a, none⟩ = false := HBL.out.frozen a
        have fb : wr.frozen? ⟨g, b, none⟩ = false := HBL.out.frozen b
        have ha' : (a : Int) < (n : Int) := by omega
        have hb' : (b : Int) < (n : Int) := by omega
        have m1 : IntKind.i64.wrap ((i : Int) + 1) = ((i + 1 : Nat) : Int) := by have := HGL.out; rw [IntKind.wrap_i64] <;> omega
        clear hya hyb hab hne hlt2 hne2 hc0 hc1
        go_wp2_with fail
        cases hlt : befF m yb ya
        · have HT2 : Hid (sortG 0 (befF m) xs (G.take (i + 1)) = L) := Lib.hid (by
            rw [HT.out]
            unfold stepS
            rw [Int.toNat_natCast, Int.toNat_natCast, ← HYA.out, ← HYB.out, hlt]
            rfl)
          have HBF2 : Hid (∀ W, Calls Try.prog 21 #[.int .i64 yb, .int .i64 ya, .int .i64 m] W fun e w' => e = .returned (.bool false) ∧ w' = W) := Lib.hid (fun W => hlt ▸ HBF.out W yb ya RB.out RA.out)
          clear hlt
          go_quiet (first | (go_at_call 21; exact quiet_at1 (HBF2.out _)))
          go_wp2_with fail
          go_roundw
          case rel => exact ⟨i + 1, rfl, by omega, Lib.hid (by rw [HT2.out]; exact HBL.out), Lib.hid (HFR.out.drewN _)⟩
          case measure => simp [intOf]; omega
        · have HT2 : Hid (sortG 0 (befF m) xs (G.take (i + 1)) = swapL 0 L a b) := Lib.hid (by
            rw [HT.out]
            unfold stepS
            rw [Int.toNat_natCast, Int.toNat_natCast, ← HYA.out, ← HYB.out, hlt]
            rfl)
          have HBF2 : Hid (∀ W, Calls Try.prog 21 #[.int .i64 yb, .int .i64 ya, .int .i64 m] W fun e w' => e = .returned (.bool true) ∧ w' = W) := Lib.hid (fun W => hlt ▸ HBF.out W yb ya RB.out RA.out)
          clear hlt
          go_quiet (first | (go_at_call 21; exact quiet_at1 (HBF2.out _)))
          rename_i nq
          have ca1 : (wr.drewN nq).cell? ⟨g, a, none⟩ = some (.int .i64 ya) := ca
          have cb1 : (wr.drewN nq).cell? ⟨g, b, none⟩ = some (.int .i64 yb) := cb
          have fa1 : (wr.drewN nq).frozen? ⟨g, a, none⟩ = false := fa
          have fb1 : (wr.drewN nq).frozen? ⟨g, b, none⟩ = false := fb
          have c01 : (wr.drewN nq).cell? ⟨bb, off + i * 2, none⟩ = some (.int .i64 (a : Int)) := hc0'
          have c11 : (wr.drewN nq).cell? ⟨bb, off + i * 2 + 1, none⟩ = some (.int .i64 (b : Int)) := hc1'
          have HBL1 : Hid (Blk (wr.drewN nq) g 3 (L.map (Value.int .i64) ++ rest)) := Lib.hid HBL.out
          have HFR1 : Hid (Fr (fun k => k = g) w2 (wr.drewN nq)) := Lib.hid (HFR.out.drewN _)
          clear ca cb fa fb hc0' hc1' HBL HFR
          generalize wr.drewN nq = wz at *
          go_wp2_with fail
          go_still_tail 15, (by kernel_rfl)
          change wpList _ _ _ _ _ wz.drew
          have ca2 : wz.drew.cell? ⟨g, a, none⟩ = some (.int .i64 ya) := ca1
          have cb2 : wz.drew.cell? ⟨g, b, none⟩ = some (.int .i64 yb) := cb1
          have fa2 : wz.drew.frozen? ⟨g, a, none⟩ = false := fa1
          have fb2 : wz.drew.frozen? ⟨g, b, none⟩ = false := fb1
          have c02 : wz.drew.cell? ⟨bb, off + i * 2, none⟩ = some (.int .i64 (a : Int)) := c01
          have c12 : wz.drew.cell? ⟨bb, off + i * 2 + 1, none⟩ = some (.int .i64 (b : Int)) := c11
          have HBL2 : Hid (Blk wz.drew g 3 (L.map (Value.int .i64) ++ rest)) := Lib.hid HBL1.out
          have HFR2 : Hid (Fr (fun k => k = g) w2 wz.drew) := Lib.hid HFR1.out.drew
          clear ca1 cb1 fa1 fb1 c01 c11 HBL1 HFR1
          generalize wz.drew = wy at *
          have n1 : ¬ g = bb := fun e => HNE.out.2.1 e.symm
          have n2 : ¬ bb = g := fun e => HNE.out.2.1 e
          have n3 : ¬ a = b := HNE.out.1
          have n4 : ¬ b = a := fun e => HNE.out.1 e.symm
          have BG2 : Hid (Blk ((wy.setCell ⟨g, b, none⟩ (.int .i64 ya)).setCell ⟨g, a, none⟩ (.int .i64 yb)) g 3 ((swapL 0 L a b).map (Value.int .i64) ++ rest)) := Lib.hid (by
            have h1 := Blk.set (Blk.set HBL2.out b (.int .i64 ya)) a (.int .i64 yb)
            rw [List.set_append_left _ _ (by simp; have := HLL.out; omega), List.set_append_left _ _ (by simp; have := HLL.out; omega)] at h1
            unfold swapL
            rw [List.map_set, List.map_set, ← HYA.out, ← HYB.out]
            exact h1)
          have HFR3 : Hid (Fr (fun k => k = g) w2 ((wy.setCell ⟨g, b, none⟩ (.int .i64 ya)).setCell ⟨g, a, none⟩ (.int .i64 yb))) := Lib.hid ((HFR2.out.setCell (p := ⟨g, b, none⟩) (.inl rfl) _).setCell (p := ⟨g, a, none⟩) (.inl rfl) _)
          go_wp2_with fail
          go_roundw
          case rel => exact ⟨i + 1, rfl, by omega, by rw [HT2.out]; exact BG2, HFR3⟩
          case measure => simp [intOf]; omega
      · have hie : i = G.length := by omega
        have HE : Hid (Own wr w.heap.size 3 .i64 (.slice (some ⟨g, 0, none⟩) n c1) (sortF 0 (befF m) xs)) := Lib.hid (by
          have hb := HBL.out
          rw [hie, List.take_length, ← HSF.out] at hb
          have hl2 : (sortF 0 (befF m) xs).length = n := by unfold sortF; rw [sortG_len]; exact HN.out.symm
          have ho := Own.mk HGE.out hb (by rw [hl2, HN.out]; exact HCL.out.1) HCL.out.2
          rw [hl2] at ho
          exact ho)
        have HF : Hid (Below w.heap.size w wr) := Lib.hid (HB2.out.trans (HFR.out.below (B := w.heap.size) HB2.out.size (fun k hk => by rw [hk]; exact HGE.out)))
        clear HBL HFR
        go_wp2_with fail
        go_ret2
        exact ⟨_, rfl, HE.out, HF.out⟩
theorem rsort_no (A : Option Addr) (n c : Nat) (m : Int) (w : World) (hpos : 0 < n) (hs : sizeB (n : Int) = false) (hn : n ≤ 140737488355328) :
    Calls Try.prog 22 #[.slice A n c, .int .i64 m] w fun e w' => e = .returned (.tuple #[.slice none 0 0, .int .i64 170]) ∧ Below w.heap.size w w' := by
  have h1 := fun W => rsize_any (n : Int) W
  rw [hs] at h1
  have HS := Lib.hid h1
  clear h1 hs
  go_enter Try.func22, Try.ntmps22
  go_wp2_with fail
  refine (HS.out _).mono ?_
  rintro e w' ⟨rfl, hw⟩
  obtain rfl := hw
  go_wp2_with fail
  go_ret2
  exact ⟨rfl, Below.refl _ _⟩
end Go.Proofs.Ytpglocgfdonmaaa

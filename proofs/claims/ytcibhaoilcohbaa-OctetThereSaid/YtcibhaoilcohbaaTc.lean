/-
  Walk: the law OctetThere.
-/
import Derived.Test.YtcibhaoilcohbaaTb
set_option linter.unusedVariables false
set_option linter.unusedSimpArgs false
namespace Go.Proofs.Ytcibhaoilcohbaa
open Go.RowKit

theorem lay_none (p : Nat) (d : Int) (X : Nat) (w : World) (hd : wdR d = 0) : Calls Try.prog 58 #[.pointer (some ⟨p, 0, none⟩), .int .i64 d, .int .u64 X] w fun e' w' => (∃ u, e' = .returned u) ∧ w' = w := by
  have b1 : (d == 1) = false := by simp; intro h; subst h; exact absurd hd (by decide)
  have b2 : (d == 2) = false := by simp; intro h; subst h; exact absurd hd (by decide)
  have b3 : (d == 3) = false := by simp; intro h; subst h; exact absurd hd (by decide)
  have b4 : (d == 4) = false := by simp; intro h; subst h; exact absurd hd (by decide)
  clear hd
  go_enter Try.func58, Try.ntmps58
  go_wp2_with fail
  first | go_end0 | refine bodyPost_ret (results_none rfl _ _ _) rfl ?_
  exact ⟨⟨_, rfl⟩, rfl⟩
theorem itm_len {f : Nat → Stp} {D : Nat → List Int} {i : Nat} (h : (f i).d ≠ 5) : (itm f D i).length = wdR (f i).d := by rw [itm_num h, leN_len]
theorem itm_len5 {f : Nat → Stp} {D : Nat → List Int} {i : Nat} (h : (f i).d = 5) : (itm f D i).length = (D i).length := by rw [itm_data h]
theorem wdR_le8 (d : Int) : wdR d ≤ 8 := by
  by_cases h : 0 < wdR d
  · exact (wdR_wd h).le
  · omega
/-- The writer in the midst. -/
def Mid (w : World) (B : Nat) (p z : Nat) (bs : List Int) : Prop := ∃ g, Wtr 111 w p g z bs 0 ∧ B ≤ p ∧ B ≤ g
theorem mid_wrote {w w' : World} {B p z : Nat} {bs ys : List Int} {g : Nat} (h : Wrote 111 w p g z (wL z bs 0 ys) (wE z bs 0 ys) w') (hB : B ≤ p ∧ B ≤ g) (hw : B ≤ w.heap.size) (hz : ys.length + bs.length ≤ z) : Mid w' B p z (bs ++ ys) ∧ Fr (fun j => B ≤ j) w w' := by
  obtain ⟨g', h1, h2, h3⟩ := h
  rw [show wL z bs 0 ys = bs ++ ys from if_pos ⟨rfl, hz⟩, show wE z bs 0 ys = 0 from by unfold wE; rw [if_pos rfl, if_pos hz]] at h1
  exact ⟨⟨g', h1, hB.1, by omega⟩, h3.mono (fun j hj => by omega)⟩
theorem Mid.below {w w' : World} {B p z : Nat} {bs : List Int} (h : Mid w B p z bs) (hb : Below w.heap.size w w') : Mid w' B p z bs := by
  obtain ⟨g, h1, h2⟩ := h
  exact ⟨g, h1.below hb, h2⟩
theorem Mid.drewN {w : World} {B p z : Nat} {bs : List Int} (h : Mid w B p z bs) (q : Nat) : Mid (w.drewN q) B p z bs := h

set_option maxRecDepth 100000 in
set_option maxHeartbeats 8000000 in
theorem there_any (S1 : Option Addr) (m c1 : Nat) (f : Nat → Stp) (D : Nat → List Int) (w : World) (hs : RdS w S1 f m) (ho : NumOk f m) (hd : DataF w f m D) (hm : m ≤ 140737488354000) :
    Calls Try.prog 13 #[.slice S1 m c1] w fun e w' => e = .returned (.bool true) ∧ Below w.heap.size w w' := by
  have HS := Lib.hid hs
  have HO := Lib.hid ho
  have HD := Lib.hid hd
  clear hs ho hd
  go_enter Try.func13, Try.ntmps13
  go_wp2_with fail
  refine (awake_any w).mono ?_
  rintro e w1 ⟨rfl, b1⟩
  have HB1 := Lib.hid b1
  clear b1
  go_wp2_with fail
  go_loopw [3, 4] (fun sz z wr => ∃ k : Nat, k ≤ m ∧ sz = .int .i64 ((cat f D k).length : Nat) ∧ z = .int .i64 k ∧ Hid ((cat f D k).length ≤ 1048576) ∧ Hid (Below w.heap.size w wr)) (fun _ z _ => m - (intOf z).toNat)
  case atStart => exact ⟨0, Nat.zero_le _, rfl, rfl, Lib.hid (Nat.zero_le _), HB1⟩
  case round =>
    clear HB1
    obtain ⟨i, hi, rfl, rfl, HZ, HB⟩ := hrel
    obtain ⟨L, hL⟩ : ∃ L, L = (cat f D i).length := ⟨_, rfl⟩
    rw [← hL] at HZ ⊢
    have HL := Lib.hid hL
    clear hL
    have hL63 : L ≤ 1048576 := HZ.out
    by_cases hlt : i < m
    · obtain ⟨b, off, hA, hbl, a0, a1, a2, a3⟩ := (HS.out.below HB.out) i hlt
      subst hA
      obtain ⟨d, hdd⟩ : ∃ d, d = (f i).d := ⟨_, rfl⟩
      obtain ⟨DA, dc, hsl, hdr, hdb, hdl⟩ := HD.out i hlt
      rw [← hdd] at a0
      rw [hsl] at a3
      have HDD := Lib.hid hdd
      have HDL := Lib.hid hdl
      clear hdd hsl hdr hdb hdl a1 a2
      obtain ⟨dl, hdl⟩ : ∃ dl, dl = (D i).length := ⟨_, rfl⟩
      rw [← hdl] at a3
      have HDL2 : Hid (dl = (D i).length) := Lib.hid hdl
      have hdl63 : dl ≤ 140737488351232 := by have := HDL.out; omega
      clear hdl
      go_wp2_with fail
      refine (wd_any d wr).mono ?_
      rintro e' w' ⟨rfl, hww⟩
      obtain rfl : wr = w' := hww.symm
      have hw8 := wdR_le8 d
      by_cases h5 : d = 5
      · subst h5
        go_wp2_with fail
        · go_ret
          exact ⟨rfl, HB.out⟩
        · rename_i hle
          exact ⟨⟨i + 1, by omega, by rw [cat_succ_len, itm_len5 HDD.out.symm, ← HL.out, ← HDL2.out, Int.natCast_add], by go_num, Lib.hid (by rw [cat_succ_len, itm_len5 HDD.out.symm, ← HL.out, ← HDL2.out]; omega), HB⟩, by simp [intOf]; omega⟩
      · have hd5b : (d == 5) = false := by simpa using h5
        go_wp2_with fail
        · go_ret
          exact ⟨rfl, HB.out⟩
        · rename_i hle
          exact ⟨⟨i + 1, by omega, by rw [cat_succ_len, itm_len (by rw [← HDD.out]; exact h5), ← HL.out, ← HDD.out, Int.natCast_add], by go_num, Lib.hid (by rw [cat_succ_len, itm_len (by rw [← HDD.out]; exact h5), ← HL.out, ← HDD.out]; omega), HB⟩, by simp [intOf]; omega⟩
    · obtain rfl : i = m := by omega
      have hge : decide ((i : Int) < (i : Int)) = false := by simp
      go_wp2_with fail
      refine (nw_ok L wr HZ.out).mono ?_
      rintro e w2 ⟨p, rfl, HP, HW, HBW⟩
      have M0 : Hid (Mid w2 w.heap.size p L []) := Lib.hid ⟨p, HW.out, by have := HP.out; have := HB.out.size; omega, by have := HP.out; have := HB.out.size; omega⟩
      have HB2 := Lib.hid (HB.out.trans (HBW.out.mono HB.out.size))
      clear HB HBW HW
      go_wp2_with fail
      go_loopw [8] (fun z wx => ∃ k : Nat, k ≤ i ∧ z = .int .i64 k ∧ Hid (Mid wx w.heap.size p L (cat f D k)) ∧ Hid (Below w.heap.size w wx)) (fun z _ => i - (intOf z).toNat)
      case atStart => exact ⟨0, Nat.zero_le _, rfl, M0, HB2⟩
      case round =>
        clear M0 HB2
        obtain ⟨k, hk, rfl, MK, HBK⟩ := hrel
        by_cases hlt2 : k < i
        · obtain ⟨b, off, hA, hbl, a0, a1, a2, a3⟩ := (HS.out.below HBK.out) k hlt2
          subst hA
          have HBS : Hid (b < w.heap.size) := Lib.hid (by obtain ⟨b', off', hA', hl', _⟩ := HS.out k hlt2; injection hA' with h; injection h with h; omega)
          obtain ⟨_, _, hv3⟩ := HO.out k hlt2
          obtain ⟨V, hV, hV64⟩ := wfu64 hv3
          obtain ⟨d, hdd⟩ : ∃ d, d = (f k).d := ⟨_, rfl⟩
          obtain ⟨DA, dc, hsl, hdr, hdb, hdl⟩ := HD.out k hlt2
          have hfit := cat_len_le f D (Nat.succ_le_of_lt hlt2)
          rw [cat_succ_len, ← HL.out] at hfit
          rw [← hdd] at a0
          rw [hV] at a2
          rw [hsl] at a3
          have HDD := Lib.hid hdd
          have HV := Lib.hid hV
          have HDR := Lib.hid hdr
          have HDL := Lib.hid hdl
          have HF := Lib.hid hfit
          clear hdd hV hsl hdr hdb hdl hv3 a1 hfit
          obtain ⟨dl, hdl⟩ : ∃ dl, dl = (D k).length := ⟨_, rfl⟩
          rw [← hdl] at a3
          have HDL2 : Hid (dl = (D k).length) := Lib.hid hdl
          have hdl63 : dl ≤ 140737488351232 := by have := HDL.out; omega
          clear hdl
          go_wp2_with fail
          by_cases hw : 0 < wdR d
          · refine wp_region_held_drew (S := fun W => W.cell? ⟨b, off + k * 4, none⟩ = some (.int .i64 d) ∧ W.cell? ⟨b, off + k * 4 + 2, none⟩ = some (.int .u64 V)) (by kernel_rfl) (⟨a0, a2⟩) (fun hHeld => ?_)
            have MK1 := Lib.hid (MK.out.drewN 1)
            have HB1 := Lib.hid (belowN HBK.out 1)
            have C1 : Hid (ItC (wr.drewN 1) b off k d V (.slice DA dl dc)) := Lib.hid ⟨hbl, a0, a2, a3⟩
            rw [show wr.drewN 1 = wr.drew from rfl] at MK1 HB1 C1
            generalize wr.drew = w3 at MK1 HB1 C1 hHeld
            clear MK HBK a0 a2 a3 hbl
            refine wpAnyH_take (i := 0) (oi := ⟨some 61, _, _, _, _, _⟩) (v := (.pointer (some ⟨p, 0, none⟩))) rfl (by kernel_rfl) (by kernel_rfl) (by kernel_rfl) (fun _ _ _ h => h) (Or.inl ⟨by rfl, ?_⟩) (by assumption) ?_
            · intro w' hS; rfl
            simp only [Act.put, List.setIfInBounds_toArray, List.set_cons_zero, List.set_cons_succ]
            refine wpAnyH_take (i := 1) (oi := ⟨some 62, _, _, _, _, _⟩) (v := (.slice (some ⟨b, off, none⟩) i c1)) rfl (by kernel_rfl) (by kernel_rfl) (by kernel_rfl) (fun _ _ _ h => h) (Or.inl ⟨by rfl, ?_⟩) (by assumption) ?_
            · intro w' hS; rfl
            simp only [Act.put, List.setIfInBounds_toArray, List.set_cons_zero, List.set_cons_succ]
            refine wpAnyH_take (i := 2) (oi := ⟨some 63, _, _, _, _, _⟩) (v := (.int .i64 (k : Int))) rfl (by kernel_rfl) (by kernel_rfl) (by kernel_rfl) (fun _ _ _ h => h) (Or.inl ⟨by rfl, ?_⟩) (by assumption) ?_
            · intro w' hS; rfl
            simp only [Act.put, List.setIfInBounds_toArray, List.set_cons_zero, List.set_cons_succ]
            refine wpAnyH_take (i := 3) (oi := ⟨some 64, _, _, _, _, _⟩) (v := (.pointer (some ⟨b, off + k * 4, none⟩))) rfl (by kernel_rfl) (by kernel_rfl) (by kernel_rfl) (fun _ _ _ h => h) (Or.inl ⟨by rfl, ?_⟩) (by assumption) ?_
            · intro w' hS; obtain ⟨hS1, hS2⟩ := hS; go_simp; try with_reducible rfl
            simp only [Act.put, List.setIfInBounds_toArray, List.set_cons_zero, List.set_cons_succ]
            refine wpAnyH_take (i := 4) (oi := ⟨some 65, _, _, _, _, _⟩) (v := (.pointer (some ⟨b, off + k * 4, none⟩))) rfl (by kernel_rfl) (by kernel_rfl) (by kernel_rfl) (fun _ _ _ h => h) (Or.inl ⟨by rfl, ?_⟩) (by assumption) ?_
            · intro w' hS; obtain ⟨hS1, hS2⟩ := hS; go_simp; try with_reducible rfl
            simp only [Act.put, List.setIfInBounds_toArray, List.set_cons_zero, List.set_cons_succ]
            refine wpAnyH_take (i := 5) (oi := ⟨some 66, _, _, _, _, _⟩) (v := (.int .i64 d)) rfl (by kernel_rfl) (by kernel_rfl) (by kernel_rfl) (fun _ _ _ h => h) (Or.inl ⟨by rfl, ?_⟩) (by assumption) ?_
            · intro w' hS; obtain ⟨hS1, hS2⟩ := hS; go_simp; try with_reducible rfl
            simp only [Act.put, List.setIfInBounds_toArray, List.set_cons_zero, List.set_cons_succ]
            refine wpAnyH_take (i := 6) (oi := ⟨some 67, _, _, _, _, _⟩) (v := (.slice (some ⟨b, off, none⟩) i c1)) rfl (by kernel_rfl) (by kernel_rfl) (by kernel_rfl) (fun _ _ _ h => h) (Or.inl ⟨by rfl, ?_⟩) (by assumption) ?_
            · intro w' hS; rfl
            simp only [Act.put, List.setIfInBounds_toArray, List.set_cons_zero, List.set_cons_succ]
            refine wpAnyH_take (i := 7) (oi := ⟨some 68, _, _, _, _, _⟩) (v := (.int .i64 (k : Int))) rfl (by kernel_rfl) (by kernel_rfl) (by kernel_rfl) (fun _ _ _ h => h) (Or.inl ⟨by rfl, ?_⟩) (by assumption) ?_
            · intro w' hS; rfl
            simp only [Act.put, List.setIfInBounds_toArray, List.set_cons_zero, List.set_cons_succ]
            refine wpAnyH_take (i := 8) (oi := ⟨some 69, _, _, _, _, _⟩) (v := (.pointer (some ⟨b, off + k * 4, none⟩))) rfl (by kernel_rfl) (by kernel_rfl) (by kernel_rfl) (fun _ _ _ h => h) (Or.inl ⟨by rfl, ?_⟩) (by assumption) ?_
            · intro w' hS; obtain ⟨hS1, hS2⟩ := hS; go_simp; try with_reducible rfl
            simp only [Act.put, List.setIfInBounds_toArray, List.set_cons_zero, List.set_cons_succ]
            refine wpAnyH_take (i := 9) (oi := ⟨some 70, _, _, _, _, _⟩) (v := (.pointer (some ⟨b, off + k * 4 + 2, none⟩))) rfl (by kernel_rfl) (by kernel_rfl) (by kernel_rfl) (fun _ _ _ h => h) (Or.inl ⟨by rfl, ?_⟩) (by assumption) ?_
            · intro w' hS; obtain ⟨hS1, hS2⟩ := hS; go_simp; try with_reducible rfl
            simp only [Act.put, List.setIfInBounds_toArray, List.set_cons_zero, List.set_cons_succ]
            refine wpAnyH_take (i := 10) (oi := ⟨some 71, _, _, _, _, _⟩) (v := (.int .u64 (V : Int))) rfl (by kernel_rfl) (by kernel_rfl) (by kernel_rfl) (fun _ _ _ h => h) (Or.inl ⟨by rfl, ?_⟩) (by assumption) ?_
            · intro w' hS; obtain ⟨hS1, hS2⟩ := hS; go_simp; try with_reducible rfl
            simp only [Act.put, List.setIfInBounds_toArray, List.set_cons_zero, List.set_cons_succ]
            obtain ⟨g, hW, hBp, hBg⟩ := MK1.out
            have HBPG : Hid (w.heap.size ≤ p ∧ w.heap.size ≤ g) := Lib.hid ⟨hBp, hBg⟩
            have HWT := Lib.hid hW
            clear hW hBp hBg
            refine wpAnyH_ready (rs := [11]) (by kernel_rfl) (by simp) ?_
            refine AllReadyH.cons (o := ⟨some 72, _, _, _, _, _⟩) rfl (fun K hK => ?_) AllReadyH.nil
            rw [if_pos (by rfl)]
            go_simp
            refine (lay_any p g L (cat f D k) 0 d V w3 HWT.out hV64 (by omega) (by have := HF.out; omega) hw).mono ?_
            rintro e' w4 ⟨⟨u, rfl⟩, HW4⟩
            have H5 : Hid (d ≠ 5) := Lib.hid (wd_ne5 hw)
            have HIT : Hid (itm f D k = leN (V % 256 ^ wdR d) (wdR d)) := Lib.hid (by rw [itm_num (by rw [← HDD.out]; exact H5.out), ← HDD.out, HV.out, show ((V : Int)).toNat = V from by omega])
            rw [← HIT.out] at HW4
            have hmw := mid_wrote HW4.out HBPG.out HB1.out.size (by have := HF.out; omega)
            have M4 := Lib.hid hmw.1
            have HB4 := Lib.hid (HB1.out.trans (hmw.2.below HB1.out.size (fun j hj => hj)))
            have C4 := Lib.hid (C1.out.fr hmw.2 (by have := HBS.out; omega))
            clear MK1 HB1 C1 hmw HWT HW4
            dsimp only
            (try simp only [Act.put, List.setIfInBounds_toArray, List.set_cons_zero, List.set_cons_succ])
            refine hK.out _ _ (⟨C4.out.2.1, C4.out.2.2.1⟩) (fun hHeld => ?_)
            clear hK K
            refine wpAnyH_done (by kernel_rfl) ?_ _
            have k0 : w4.cell? ⟨b, off + k * 4, none⟩ = some (.int .i64 d) := C4.out.2.1
            have k3 : w4.cell? ⟨b, off + k * 4 + 3, none⟩ = some (.slice DA dl dc) := C4.out.2.2.2
            have hd5b : (d == 5) = false := by have := H5.out; simpa using this
            go_wp2_with fail
            go_roundw
            case rel => exact ⟨k + 1, by omega, by go_num, M4, HB4⟩
            case measure => simp [intOf]; omega
          · have hw0 : wdR d = 0 := by omega
            by_cases h5 : d = 5
            · subst h5
              refine wp_region_held_drew (S := fun W => W.cell? ⟨b, off + k * 4, none⟩ = some (.int .i64 5) ∧ W.cell? ⟨b, off + k * 4 + 2, none⟩ = some (.int .u64 V)) (by kernel_rfl) (⟨a0, a2⟩) (fun hHeld => ?_)
              have MK1 := Lib.hid (MK.out.drewN 1)
              have HB1 := Lib.hid (belowN HBK.out 1)
              have C1 : Hid (ItC (wr.drewN 1) b off k 5 V (.slice DA dl dc)) := Lib.hid ⟨hbl, a0, a2, a3⟩
              rw [show wr.drewN 1 = wr.drew from rfl] at MK1 HB1 C1
              generalize wr.drew = w3 at MK1 HB1 C1 hHeld
              clear MK HBK a0 a2 a3 hbl
              refine wpAnyH_take (i := 0) (oi := ⟨some 61, _, _, _, _, _⟩) (v := (.pointer (some ⟨p, 0, none⟩))) rfl (by kernel_rfl) (by kernel_rfl) (by kernel_rfl) (fun _ _ _ h => h) (Or.inl ⟨by rfl, ?_⟩) (by assumption) ?_
              · intro w' hS; rfl
              simp only [Act.put, List.setIfInBounds_toArray, List.set_cons_zero, List.set_cons_succ]
              refine wpAnyH_take (i := 1) (oi := ⟨some 62, _, _, _, _, _⟩) (v := (.slice (some ⟨b, off, none⟩) i c1)) rfl (by kernel_rfl) (by kernel_rfl) (by kernel_rfl) (fun _ _ _ h => h) (Or.inl ⟨by rfl, ?_⟩) (by assumption) ?_
              · intro w' hS; rfl
              simp only [Act.put, List.setIfInBounds_toArray, List.set_cons_zero, List.set_cons_succ]
              refine wpAnyH_take (i := 2) (oi := ⟨some 63, _, _, _, _, _⟩) (v := (.int .i64 (k : Int))) rfl (by kernel_rfl) (by kernel_rfl) (by kernel_rfl) (fun _ _ _ h => h) (Or.inl ⟨by rfl, ?_⟩) (by assumption) ?_
              · intro w' hS; rfl
              simp only [Act.put, List.setIfInBounds_toArray, List.set_cons_zero, List.set_cons_succ]
              refine wpAnyH_take (i := 3) (oi := ⟨some 64, _, _, _, _, _⟩) (v := (.pointer (some ⟨b, off + k * 4, none⟩))) rfl (by kernel_rfl) (by kernel_rfl) (by kernel_rfl) (fun _ _ _ h => h) (Or.inl ⟨by rfl, ?_⟩) (by assumption) ?_
              · intro w' hS; obtain ⟨hS1, hS2⟩ := hS; go_simp; try with_reducible rfl
              simp only [Act.put, List.setIfInBounds_toArray, List.set_cons_zero, List.set_cons_succ]
              refine wpAnyH_take (i := 4) (oi := ⟨some 65, _, _, _, _, _⟩) (v := (.pointer (some ⟨b, off + k * 4, none⟩))) rfl (by kernel_rfl) (by kernel_rfl) (by kernel_rfl) (fun _ _ _ h => h) (Or.inl ⟨by rfl, ?_⟩) (by assumption) ?_
              · intro w' hS; obtain ⟨hS1, hS2⟩ := hS; go_simp; try with_reducible rfl
              simp only [Act.put, List.setIfInBounds_toArray, List.set_cons_zero, List.set_cons_succ]
              refine wpAnyH_take (i := 5) (oi := ⟨some 66, _, _, _, _, _⟩) (v := (.int .i64 5)) rfl (by kernel_rfl) (by kernel_rfl) (by kernel_rfl) (fun _ _ _ h => h) (Or.inl ⟨by rfl, ?_⟩) (by assumption) ?_
              · intro w' hS; obtain ⟨hS1, hS2⟩ := hS; go_simp; try with_reducible rfl
              simp only [Act.put, List.setIfInBounds_toArray, List.set_cons_zero, List.set_cons_succ]
              refine wpAnyH_take (i := 6) (oi := ⟨some 67, _, _, _, _, _⟩) (v := (.slice (some ⟨b, off, none⟩) i c1)) rfl (by kernel_rfl) (by kernel_rfl) (by kernel_rfl) (fun _ _ _ h => h) (Or.inl ⟨by rfl, ?_⟩) (by assumption) ?_
              · intro w' hS; rfl
              simp only [Act.put, List.setIfInBounds_toArray, List.set_cons_zero, List.set_cons_succ]
              refine wpAnyH_take (i := 7) (oi := ⟨some 68, _, _, _, _, _⟩) (v := (.int .i64 (k : Int))) rfl (by kernel_rfl) (by kernel_rfl) (by kernel_rfl) (fun _ _ _ h => h) (Or.inl ⟨by rfl, ?_⟩) (by assumption) ?_
              · intro w' hS; rfl
              simp only [Act.put, List.setIfInBounds_toArray, List.set_cons_zero, List.set_cons_succ]
              refine wpAnyH_take (i := 8) (oi := ⟨some 69, _, _, _, _, _⟩) (v := (.pointer (some ⟨b, off + k * 4, none⟩))) rfl (by kernel_rfl) (by kernel_rfl) (by kernel_rfl) (fun _ _ _ h => h) (Or.inl ⟨by rfl, ?_⟩) (by assumption) ?_
              · intro w' hS; obtain ⟨hS1, hS2⟩ := hS; go_simp; try with_reducible rfl
              simp only [Act.put, List.setIfInBounds_toArray, List.set_cons_zero, List.set_cons_succ]
              refine wpAnyH_take (i := 9) (oi := ⟨some 70, _, _, _, _, _⟩) (v := (.pointer (some ⟨b, off + k * 4 + 2, none⟩))) rfl (by kernel_rfl) (by kernel_rfl) (by kernel_rfl) (fun _ _ _ h => h) (Or.inl ⟨by rfl, ?_⟩) (by assumption) ?_
              · intro w' hS; obtain ⟨hS1, hS2⟩ := hS; go_simp; try with_reducible rfl
              simp only [Act.put, List.setIfInBounds_toArray, List.set_cons_zero, List.set_cons_succ]
              refine wpAnyH_take (i := 10) (oi := ⟨some 71, _, _, _, _, _⟩) (v := (.int .u64 (V : Int))) rfl (by kernel_rfl) (by kernel_rfl) (by kernel_rfl) (fun _ _ _ h => h) (Or.inl ⟨by rfl, ?_⟩) (by assumption) ?_
              · intro w' hS; obtain ⟨hS1, hS2⟩ := hS; go_simp; try with_reducible rfl
              simp only [Act.put, List.setIfInBounds_toArray, List.set_cons_zero, List.set_cons_succ]
              refine wpAnyH_ready (rs := [11]) (by kernel_rfl) (by simp) ?_
              refine AllReadyH.cons (o := ⟨some 72, _, _, _, _, _⟩) rfl (fun K hK => ?_) AllReadyH.nil
              rw [if_pos (by rfl)]
              go_simp
              refine (lay_none p 5 V w3 (by omega)).mono ?_
              rintro e' w' ⟨⟨u, rfl⟩, hww⟩
              obtain rfl : w3 = w' := hww.symm
              dsimp only
              (try simp only [Act.put, List.setIfInBounds_toArray, List.set_cons_zero, List.set_cons_succ])
              refine hK.out _ _ (⟨C1.out.2.1, C1.out.2.2.1⟩) (fun hHeld => ?_)
              clear hK K
              refine wpAnyH_done (by kernel_rfl) ?_ _
              have k0 : w3.cell? ⟨b, off + k * 4, none⟩ = some (.int .i64 5) := C1.out.2.1
              have k3 : w3.cell? ⟨b, off + k * 4 + 3, none⟩ = some (.slice DA dl dc) := C1.out.2.2.2
              go_wp2_with fail
              refine (copied_any DA dl dc (D k) w3 HDL2.out (HDR.out.below HB1.out) (by have := HDL.out; omega)).mono ?_
              rintro e' w4 ⟨v4, rfl, o4, b4⟩
              obtain ⟨A4, c4, rfl, -, -, r4, -⟩ := o4.slice
              have R4 := Lib.hid r4
              have MK4 := Lib.hid (MK1.out.below b4)
              have HB4 := Lib.hid (HB1.out.trans (b4.mono HB1.out.size))
              clear o4 b4 r4 MK1 HB1 C1 k0 k3
              obtain ⟨g, hW, hBp, hBg⟩ := MK4.out
              have HBPG : Hid (w.heap.size ≤ p ∧ w.heap.size ≤ g) := Lib.hid ⟨hBp, hBg⟩
              have HWT := Lib.hid hW
              clear hW hBp hBg
              have HIT : Hid (itm f D k = D k) := Lib.hid (itm_data HDD.out.symm)
              go_wp2_with fail
              refine (wbytes_any p g L (cat f D k) 0 A4 _ c4 (D k) w4 HWT.out rfl R4.out (by omega) (by have := HF.out; omega) (by have := HDL.out; omega)).mono ?_
              rintro e' w5 ⟨⟨u5, rfl⟩, HW5⟩
              rw [← HIT.out] at HW5
              have hmw := mid_wrote HW5.out HBPG.out HB4.out.size (by have := HF.out; omega)
              have M5 := Lib.hid hmw.1
              have HB5 := Lib.hid (HB4.out.trans (hmw.2.below HB4.out.size (fun j hj => hj)))
              clear MK4 HB4 hmw HWT HW5 R4
              go_wp2_with fail
              go_roundw
              case rel => exact ⟨k + 1, by omega, by go_num, M5, HB5⟩
              case measure => simp [intOf]; omega
            · refine wp_region_held_drew (S := fun W => W.cell? ⟨b, off + k * 4, none⟩ = some (.int .i64 d) ∧ W.cell? ⟨b, off + k * 4 + 2, none⟩ = some (.int .u64 V)) (by kernel_rfl) (⟨a0, a2⟩) (fun hHeld => ?_)
              have MK1 := Lib.hid (MK.out.drewN 1)
              have HB1 := Lib.hid (belowN HBK.out 1)
              have C1 : Hid (ItC (wr.drewN 1) b off k d V (.slice DA dl dc)) := Lib.hid ⟨hbl, a0, a2, a3⟩
              rw [show wr.drewN 1 = wr.drew from rfl] at MK1 HB1 C1
              generalize wr.drew = w3 at MK1 HB1 C1 hHeld
              clear MK HBK a0 a2 a3 hbl
              refine wpAnyH_take (i := 0) (oi := ⟨some 61, _, _, _, _, _⟩) (v := (.pointer (some ⟨p, 0, none⟩))) rfl (by kernel_rfl) (by kernel_rfl) (by kernel_rfl) (fun _ _ _ h => h) (Or.inl ⟨by rfl, ?_⟩) (by assumption) ?_
              · intro w' hS; rfl
              simp only [Act.put, List.setIfInBounds_toArray, List.set_cons_zero, List.set_cons_succ]
              refine wpAnyH_take (i := 1) (oi := ⟨some 62, _, _, _, _, _⟩) (v := (.slice (some ⟨b, off, none⟩) i c1)) rfl (by kernel_rfl) (by kernel_rfl) (by kernel_rfl) (fun _ _ _ h => h) (Or.inl ⟨by rfl, ?_⟩) (by assumption) ?_
              · intro w' hS; rfl
              simp only [Act.put, List.setIfInBounds_toArray, List.set_cons_zero, List.set_cons_succ]
              refine wpAnyH_take (i := 2) (oi := ⟨some 63, _, _, _, _, _⟩) (v := (.int .i64 (k : Int))) rfl (by kernel_rfl) (by kernel_rfl) (by kernel_rfl) (fun _ _ _ h => h) (Or.inl ⟨by rfl, ?_⟩) (by assumption) ?_
              · intro w' hS; rfl
              simp only [Act.put, List.setIfInBounds_toArray, List.set_cons_zero, List.set_cons_succ]
              refine wpAnyH_take (i := 3) (oi := ⟨some 64, _, _, _, _, _⟩) (v := (.pointer (some ⟨b, off + k * 4, none⟩))) rfl (by kernel_rfl) (by kernel_rfl) (by kernel_rfl) (fun _ _ _ h => h) (Or.inl ⟨by rfl, ?_⟩) (by assumption) ?_
              · intro w' hS; obtain ⟨hS1, hS2⟩ := hS; go_simp; try with_reducible rfl
              simp only [Act.put, List.setIfInBounds_toArray, List.set_cons_zero, List.set_cons_succ]
              refine wpAnyH_take (i := 4) (oi := ⟨some 65, _, _, _, _, _⟩) (v := (.pointer (some ⟨b, off + k * 4, none⟩))) rfl (by kernel_rfl) (by kernel_rfl) (by kernel_rfl) (fun _ _ _ h => h) (Or.inl ⟨by rfl, ?_⟩) (by assumption) ?_
              · intro w' hS; obtain ⟨hS1, hS2⟩ := hS; go_simp; try with_reducible rfl
              simp only [Act.put, List.setIfInBounds_toArray, List.set_cons_zero, List.set_cons_succ]
              refine wpAnyH_take (i := 5) (oi := ⟨some 66, _, _, _, _, _⟩) (v := (.int .i64 d)) rfl (by kernel_rfl) (by kernel_rfl) (by kernel_rfl) (fun _ _ _ h => h) (Or.inl ⟨by rfl, ?_⟩) (by assumption) ?_
              · intro w' hS; obtain ⟨hS1, hS2⟩ := hS; go_simp; try with_reducible rfl
              simp only [Act.put, List.setIfInBounds_toArray, List.set_cons_zero, List.set_cons_succ]
              refine wpAnyH_take (i := 6) (oi := ⟨some 67, _, _, _, _, _⟩) (v := (.slice (some ⟨b, off, none⟩) i c1)) rfl (by kernel_rfl) (by kernel_rfl) (by kernel_rfl) (fun _ _ _ h => h) (Or.inl ⟨by rfl, ?_⟩) (by assumption) ?_
              · intro w' hS; rfl
              simp only [Act.put, List.setIfInBounds_toArray, List.set_cons_zero, List.set_cons_succ]
              refine wpAnyH_take (i := 7) (oi := ⟨some 68, _, _, _, _, _⟩) (v := (.int .i64 (k : Int))) rfl (by kernel_rfl) (by kernel_rfl) (by kernel_rfl) (fun _ _ _ h => h) (Or.inl ⟨by rfl, ?_⟩) (by assumption) ?_
              · intro w' hS; rfl
              simp only [Act.put, List.setIfInBounds_toArray, List.set_cons_zero, List.set_cons_succ]
              refine wpAnyH_take (i := 8) (oi := ⟨some 69, _, _, _, _, _⟩) (v := (.pointer (some ⟨b, off + k * 4, none⟩))) rfl (by kernel_rfl) (by kernel_rfl) (by kernel_rfl) (fun _ _ _ h => h) (Or.inl ⟨by rfl, ?_⟩) (by assumption) ?_
              · intro w' hS; obtain ⟨hS1, hS2⟩ := hS; go_simp; try with_reducible rfl
              simp only [Act.put, List.setIfInBounds_toArray, List.set_cons_zero, List.set_cons_succ]
              refine wpAnyH_take (i := 9) (oi := ⟨some 70, _, _, _, _, _⟩) (v := (.pointer (some ⟨b, off + k * 4 + 2, none⟩))) rfl (by kernel_rfl) (by kernel_rfl) (by kernel_rfl) (fun _ _ _ h => h) (Or.inl ⟨by rfl, ?_⟩) (by assumption) ?_
              · intro w' hS; obtain ⟨hS1, hS2⟩ := hS; go_simp; try with_reducible rfl
              simp only [Act.put, List.setIfInBounds_toArray, List.set_cons_zero, List.set_cons_succ]
              refine wpAnyH_take (i := 10) (oi := ⟨some 71, _, _, _, _, _⟩) (v := (.int .u64 (V : Int))) rfl (by kernel_rfl) (by kernel_rfl) (by kernel_rfl) (fun _ _ _ h => h) (Or.inl ⟨by rfl, ?_⟩) (by assumption) ?_
              · intro w' hS; obtain ⟨hS1, hS2⟩ := hS; go_simp; try with_reducible rfl
              simp only [Act.put, List.setIfInBounds_toArray, List.set_cons_zero, List.set_cons_succ]
              refine wpAnyH_ready (rs := [11]) (by kernel_rfl) (by simp) ?_
              refine AllReadyH.cons (o := ⟨some 72, _, _, _, _, _⟩) rfl (fun K hK => ?_) AllReadyH.nil
              rw [if_pos (by rfl)]
              go_simp
              refine (lay_none p d V w3 (by omega)).mono ?_
              rintro e' w' ⟨⟨u, rfl⟩, hww⟩
              obtain rfl : w3 = w' := hww.symm
              dsimp only
              (try simp only [Act.put, List.setIfInBounds_toArray, List.set_cons_zero, List.set_cons_succ])
              refine hK.out _ _ (⟨C1.out.2.1, C1.out.2.2.1⟩) (fun hHeld => ?_)
              clear hK K
              refine wpAnyH_done (by kernel_rfl) ?_ _
              have k0 : w3.cell? ⟨b, off + k * 4, none⟩ = some (.int .i64 d) := C1.out.2.1
              have k3 : w3.cell? ⟨b, off + k * 4 + 3, none⟩ = some (.slice DA dl dc) := C1.out.2.2.2
              have hd5b : (d == 5) = false := by simpa using h5
              have HIT : Hid (itm f D k = []) := Lib.hid (by rw [itm_num (by rw [← HDD.out]; exact h5), ← HDD.out, hw0]; rfl)
              go_wp2_with fail
              go_roundw
              case rel => exact ⟨k + 1, by omega, by go_num, Lib.hid (by rw [cat, HIT.out, List.append_nil]; exact MK1.out), HB1⟩
              case measure => simp [intOf]; omega
        · obtain rfl : k = i := by omega
          have hge2 : decide ((k : Int) < (k : Int)) = false := by simp
          go_wp2_with fail
          obtain ⟨xs, hxs⟩ : ∃ xs, xs = cat f D k := ⟨_, rfl⟩
          have HXS := Lib.hid hxs
          have HLX : Hid (L = xs.length) := Lib.hid (by rw [hxs]; exact HL.out)
          rw [← hxs] at MK
          obtain ⟨g, hW, hBp, hBg⟩ := MK.out
          have HWT := Lib.hid hW
          clear hW hBp hBg hxs
          refine (wdone_any p g L xs 0 wr HWT.out (by omega) (by have := HLX.out; omega)).mono ?_
          rintro e' w3 ⟨v3, rfl, HO3, HB3⟩
          rw [show dnE L xs 0 = 0 from by unfold dnE; rw [if_pos rfl, if_neg (by have := HLX.out; omega)]]
          rw [show dnL L xs 0 = xs from if_pos ⟨rfl, by have := HLX.out; omega⟩] at HO3
          obtain ⟨A3, c3, rfl, hc3, hmc3, r3, hA3⟩ := HO3.out.slice
          have R3 := Lib.hid r3
          have HWT3 := Lib.hid (HWT.out.below HB3.out)
          have HBK3 := Lib.hid (HBK.out.trans (HB3.out.mono HBK.out.size))
          have HC3 : Hid (xs.length ≤ c3 ∧ c3 ≤ maxLen) := Lib.hid ⟨hc3, hmc3⟩
          clear r3 hc3 hmc3 hA3 HO3 HB3 HWT MK HBK
          rw [← HLX.out]
          go_wp2_with fail
          refine (wleft_any p g L xs 0 w3 HWT3.out (by omega) (by have := HLX.out; omega)).mono ?_
          rintro e' w' ⟨rfl, q1, rfl⟩
          rw [show L - xs.length = 0 from by have := HLX.out; omega]
          have R4 := Lib.hid (R3.out.draws q1)
          have HB4 := Lib.hid (belowN HBK3.out q1)
          generalize w3.drewN q1 = w4 at R4 HB4
          clear R3 HBK3 HWT3
          go_wp2_with fail
          refine (read1_t A3 L c3 xs S1 k c1 f D w w4 HB4.out HLX.out R4.out HS.out HO.out HD.out (by omega) HXS.out (by have := HLX.out; omega)).mono ?_
          rintro e' w5 ⟨rfl, b5⟩
          have R5 := Lib.hid (R4.out.below b5.out)
          have HB5 := Lib.hid (HB4.out.trans (b5.out.mono HB4.out.size))
          clear b5 R4 HB4
          by_cases hL0 : L = 0
          · subst hL0
            go_wp2_with fail
            go_ret
            exact ⟨rfl, HB5.out⟩
          · have hL0b : (L == 0) = false := by simpa using hL0
            have hL1 : 0 < L := by omega
            have hL0c : ((L : Int) == 0) = false := by simp; omega
            obtain ⟨M, hM⟩ : ∃ M, M = L - 1 := ⟨_, rfl⟩
            have hML : IntKind.i64.wrap ((L : Int) - 1) = (M : Int) := by simp [IntKind.wrap, IntKind.bits, IntKind.signed]; omega
            have hML1 : M ≤ L := by omega
            have HML : Hid (M + 1 = L) := Lib.hid (by omega)
            clear hM
            obtain ⟨b3, o3, hA3, _⟩ := R5.out 0 (by have := HLX.out; omega)
            subst hA3
            have hcM : M ≤ c3 := by have := HC3.out; have := HLX.out; omega
            have hcmax : c3 ≤ 9223372036854775807 := HC3.out.2
            go_wp2_with fail
            have HTL : Hid ((xs.take M).length = M) := Lib.hid (by rw [List.length_take]; have := HLX.out; omega)
            refine (read1_f (some ⟨b3, o3, none⟩) M c3 (xs.take M) S1 k c1 f D w w5 HB5.out HTL.out.symm (R5.out.take M) HS.out HO.out HD.out (by omega) (by rw [HTL.out, ← HXS.out]; have := HML.out; have := HLX.out; omega) (b8_take (by rw [HXS.out]; exact cat_b8 HD.out k (Nat.le_refl _)) M) (by rw [HTL.out]; omega)).mono ?_
            rintro e' w6 ⟨rfl, b6⟩
            have HB6 := Lib.hid (HB5.out.trans (b6.out.mono HB5.out.size))
            go_wp2_with fail
            go_ret
            exact ⟨rfl, HB6.out⟩

open Go.ChangeShapes Go.WideShapes Go.ChangeAt in
set_option maxRecDepth 100000 in
theorem octetThere_open {H : Type} {enc : TypeId × Value → H} (W : World) (base : Nat) (v0 : Value) (d0 : DataW H) (p0 : List MemPlace)
    (o0 : Value.okWide Try.prog W .any base 43 v0) (h0 : DataW.Trod enc Try.prog W 0 (fun _ => true) true 43 v0 d0 p0)
    (_hsz : (DataW.weightsEach Try.prog [43] [d0]).all (· ≤ reachBytes) = true) :
    Calls Try.prog 13 #[v0] W fun e w' => e = .returned (.bool true) ∧ Below W.heap.size W w' := by
  obtain ⟨A, len, cap, rfl⟩ := okWide_slice Try.underlying43 o0
  obtain ⟨fuel, hf⟩ := h0
  obtain ⟨S, m, c, ss, hv, s1, n1, q1, m1⟩ := open_steps (y := (d0, p0)) (by simpa [Value.cells] using hf) (Light.of_each (P := Try.prog) (ts := [43]) (ds := [d0]) _hsz 0 rfl rfl)
  rw [hv]
  obtain ⟨D, hD⟩ := q1.choose
  exact there_any S m c ss D W s1 n1 hD (by omega)
end Go.Proofs.Ytcibhaoilcohbaa

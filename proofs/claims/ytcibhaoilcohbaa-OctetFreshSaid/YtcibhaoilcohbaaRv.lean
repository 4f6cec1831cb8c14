/-
  Walk: one step of both readers.
-/
import Derived.Test.YtcibhaoilcohbaaRu
import Derived.Test.YtcibhaoilcohbaaHl
import Derived.Deep.RegionHeld3
set_option linter.unusedVariables false
set_option linter.unusedSimpArgs false
namespace Go.Proofs.Ytcibhaoilcohbaa
open Go.RowKit

theorem rs_drop (bs : List Int) (t : Nat) (n e : Int) (ht : t ≤ bs.length) : rsL (bs.drop t) n e = bs.drop (t + (tkL (bs.drop t) n e).length) ∧ t + (tkL (bs.drop t) n e).length ≤ bs.length := by
  unfold rsL tkL
  have hl : (bs.drop t).length = bs.length - t := List.length_drop
  by_cases h : e = 0 ∧ 0 ≤ n ∧ n ≤ ((bs.drop t).length : Int)
  · rw [if_pos h, if_pos h, List.length_take, List.drop_drop]
    have : n.toNat ≤ (bs.drop t).length := by omega
    rw [Nat.min_eq_left this]
    exact ⟨rfl, by omega⟩
  · rw [if_neg h, if_neg h]
    exact ⟨by simp, by simpa using ht⟩
theorem Rdr.glt {w : World} {p g : Nat} {xs : List Int} {e : Int} (h : Rdr w p g xs e) : g < w.heap.size := by
  obtain ⟨A, c, _, _, _, _, _, _, h⟩ := h
  exact h
theorem Rdf.glt {w : World} {p g : Nat} {bs : List Int} {t : Nat} {e : Int} (h : Rdf w p g bs t e) : g < w.heap.size := by
  obtain ⟨A, c, _, _, _, _, _, _, _, h⟩ := h
  exact h
theorem Rdf.err {w : World} {p g : Nat} {bs : List Int} {t : Nat} {e : Int} (h : Rdf w p g bs t e) : w.cell? ⟨p, 2, none⟩ = some (.int .i64 e) := by
  obtain ⟨A, c, hB, _⟩ := h
  exact hB.cell 2
/-- Both readers, alike. -/
structure Both (w : World) (p g p2 g2 : Nat) (bs : List Int) : Prop where
  st : ∃ (t : Nat) (e : Int), t ≤ bs.length ∧ Rdr w p g (bs.drop t) e ∧ Rdf w p2 g2 bs t e
  n1 : p ≠ p2
  n2 : p ≠ g2
  n3 : p2 ≠ g
def ReadPost (w : World) (p g p2 g2 : Nat) (bs : List Int) (e : Ending) (w' : World) : Prop := e = .returned (.bool true) ∧ Hid (Both w' p g p2 g2 bs) ∧ Hid (Fr (fun j => j = p ∨ j = p2) w w')

theorem wdR_le {d : Int} (h : 0 < wdR d) : 1 ≤ wdR d ∧ wdR d ≤ 8 := by
  unfold wdR at h ⊢
  split
  · omega
  · split
    · omega
    · split
      · omega
      · split
        · omega
        · rename_i h1 h2 h3 h4
          rw [if_neg h1, if_neg h2, if_neg h3, if_neg h4] at h
          omega
set_option maxRecDepth 100000 in
set_option maxHeartbeats 4000000 in
theorem read_any (p g p2 g2 : Nat) (bs : List Int) (d n v : Int) (sl : Value) (w : World) (h : Both w p g p2 g2 bs) (hB : B8 bs) (hn : -9223372036854775808 ≤ n ∧ n ≤ 9223372036854775807) (hl : bs.length ≤ 140737488355000) :
    Calls Try.prog 34 #[.pointer (some ⟨p, 0, none⟩), .pointer (some ⟨p2, 0, none⟩), .agg #[.int .i64 d, .int .i64 n, .int .u64 v, sl]] w (ReadPost w p g p2 g2 bs) := by
  obtain ⟨⟨t, e, ht, hr, hf⟩, n1, n2, n3⟩ := h
  have W0 := Lib.hid ((Below.refl w.heap.size w).alloc (Nat.le_refl _) (.cells #[.int .i64 d, .int .i64 n, .int .u64 v, sl] 52))
  have B0 : Hid (Blk (w.alloc (.cells #[.int .i64 d, .int .i64 n, .int .u64 v, sl] 52)) w.heap.size 52 [.int .i64 d, .int .i64 n, .int .u64 v, sl]) := Lib.hid (Blk.new w 52 _)
  have HR := Lib.hid (hr.below W0.out)
  have HF := Lib.hid (hf.below W0.out)
  have HSZ : Hid (w.heap.size ≠ p ∧ w.heap.size ≠ p2 ∧ w.heap.size ≠ g ∧ w.heap.size ≠ g2) := Lib.hid (by
    have a1 := hr.lt
    have a2 := hf.lt
    have a3 := hr.glt
    have a4 := hf.glt
    omega)
  have NN := Lib.hid (show p ≠ p2 ∧ p ≠ g2 ∧ p2 ≠ g from ⟨n1, n2, n3⟩)
  have HB := Lib.hid hB
  have HT := Lib.hid ht
  clear hr hf n1 n2 n3 hB ht
  by_cases hw : 0 < wdR d
  · have hw1 : (0 : Int) < (wdR d : Int) := by omega
    go_enter Try.func34, Try.ntmps34
    go_wp2_with fail
    generalize w.alloc (.cells #[.int .i64 d, .int .i64 n, .int .u64 v, sl] 52) = w1 at W0 B0 HR HF
    obtain ⟨S, hS⟩ : ∃ S, S = w.heap.size := ⟨_, rfl⟩
    rw [← hS] at B0 ⊢
    have HSP : Hid (S ≠ p ∧ S ≠ p2 ∧ S ≠ g ∧ S ≠ g2) := Lib.hid (hS ▸ HSZ.out)
    have HSS := Lib.hid hS
    clear hS
    have k0 : w1.cell? ⟨S, 0, none⟩ = some (.int .i64 d) := B0.out.cell 0
    go_wp2_with fail
    refine (wd_any d w1).mono ?_
    rintro e' w' ⟨rfl, hww⟩
    obtain rfl : w1 = w' := hww.symm
    go_wp2_with fail
    -- region
    refine wp_region_held_drew (S := fun W => W.cell? ⟨S, 0, none⟩ = some (.int .i64 d)) (by kernel_rfl) (k0) (fun hHeld => ?_)
    have HR1 := Lib.hid (HR.out.drewN 1)
    have HF1 := Lib.hid (HF.out.drewN 1)
    have B1 : Hid (Blk (w1.drewN 1) S 52 [.int .i64 d, .int .i64 n, .int .u64 v, sl]) := Lib.hid (B0.out.drewN 1)
    have W1 := Lib.hid (belowN W0.out 1)
    rw [show w1.drewN 1 = w1.drew from rfl] at HR1 HF1 B1 W1
    generalize w1.drew = w2 at HR1 HF1 B1 W1 hHeld
    clear HR HF B0 W0 k0
    have SP : Hid (S ≠ p ∧ S ≠ p2 ∧ S ≠ g ∧ S ≠ g2) := Lib.hid HSP.out
    refine wpAnyH_take (i := 0) (oi := ⟨some 14, _, _, _, _, _⟩) (v := (.pointer (some ⟨p, 0, none⟩))) rfl (by kernel_rfl) (by kernel_rfl) (by kernel_rfl) (fun _ _ _ h => h) (Or.inl ⟨by rfl, ?_⟩) (by assumption) ?_
    · intro w' hS; rfl
    simp only [Act.put, List.setIfInBounds_toArray, List.set_cons_zero, List.set_cons_succ]
    refine wpAnyH_take (i := 1) (oi := ⟨some 15, _, _, _, _, _⟩) (v := (.pointer (some ⟨S, 0, none⟩))) rfl (by kernel_rfl) (by kernel_rfl) (by kernel_rfl) (fun _ _ _ h => h) (Or.inl ⟨by rfl, ?_⟩) (by assumption) ?_
    · intro w' hS; go_simp; try with_reducible rfl
    simp only [Act.put, List.setIfInBounds_toArray, List.set_cons_zero, List.set_cons_succ]
    refine wpAnyH_take (i := 2) (oi := ⟨some 16, _, _, _, _, _⟩) (v := (.int .i64 d)) rfl (by kernel_rfl) (by kernel_rfl) (by kernel_rfl) (fun _ _ _ h => h) (Or.inl ⟨by rfl, ?_⟩) (by assumption) ?_
    · intro w' hS; go_simp; try with_reducible rfl
    simp only [Act.put, List.setIfInBounds_toArray, List.set_cons_zero, List.set_cons_succ]
    refine wpAnyH_take (i := 4) (oi := ⟨some 18, _, _, _, _, _⟩) (v := (.pointer (some ⟨p2, 0, none⟩))) rfl (by kernel_rfl) (by kernel_rfl) (by kernel_rfl) (fun _ _ _ h => h) (Or.inl ⟨by rfl, ?_⟩) (by assumption) ?_
    · intro w' hS; rfl
    simp only [Act.put, List.setIfInBounds_toArray, List.set_cons_zero, List.set_cons_succ]
    refine wpAnyH_take (i := 5) (oi := ⟨some 19, _, _, _, _, _⟩) (v := (.pointer (some ⟨S, 0, none⟩))) rfl (by kernel_rfl) (by kernel_rfl) (by kernel_rfl) (fun _ _ _ h => h) (Or.inl ⟨by rfl, ?_⟩) (by assumption) ?_
    · intro w' hS; go_simp; try with_reducible rfl
    simp only [Act.put, List.setIfInBounds_toArray, List.set_cons_zero, List.set_cons_succ]
    refine wpAnyH_take (i := 6) (oi := ⟨some 20, _, _, _, _, _⟩) (v := (.int .i64 d)) rfl (by kernel_rfl) (by kernel_rfl) (by kernel_rfl) (fun _ _ _ h => h) (Or.inl ⟨by rfl, ?_⟩) (by assumption) ?_
    · intro w' hS; go_simp; try with_reducible rfl
    simp only [Act.put, List.setIfInBounds_toArray, List.set_cons_zero, List.set_cons_succ]
    refine wpAnyH_ready (rs := [3]) (by kernel_rfl) (by simp) ?_
    refine AllReadyH.cons (o := ⟨some 17, _, _, _, _, _⟩) rfl (fun K hK => ?_) AllReadyH.nil
    rw [if_pos (by rfl)]
    go_simp
    refine (taken_any p g d (bs.drop t) e w2 HR1.out (HB.out.drop t) hw).mono ?_
    rintro e' w3 ⟨rfl, HR2, FR2⟩
    have B2 := Lib.hid (B1.out.fr FR2.out SP.out.1)
    have HF2 := Lib.hid (HF1.out.fr FR2.out (fun h => NN.out.1 h.symm) (fun h => NN.out.2.1 h.symm))
    clear HR1 HF1 B1
    dsimp only
    (try simp only [Act.put, List.setIfInBounds_toArray, List.set_cons_zero, List.set_cons_succ])
    refine hK.out _ _ (B2.out.cell 0) (fun hHeld => ?_)
    clear hK K
    refine wpAnyH_ready (rs := [7]) (by kernel_rfl) (by simp) ?_
    refine AllReadyH.cons (o := ⟨some 21, _, _, _, _, _⟩) rfl (fun K hK => ?_) AllReadyH.nil
    rw [if_pos (by rfl)]
    go_simp
    refine (wd_any d w3).mono ?_
    rintro e' w' ⟨rfl, hww⟩
    obtain rfl : w3 = w' := hww.symm
    dsimp only
    (try simp only [Act.put, List.setIfInBounds_toArray, List.set_cons_zero, List.set_cons_succ])
    refine hK.out _ _ (B2.out.cell 0) (fun hHeld => ?_)
    clear hK K
    refine wpAnyH_ready (rs := [8]) (by kernel_rfl) (by simp) ?_
    refine AllReadyH.cons (o := ⟨some 22, _, _, _, _, _⟩) rfl (fun K hK => ?_) AllReadyH.nil
    rw [if_pos (by rfl)]
    go_simp
    refine (rnum2_any p2 g2 (wdR d) bs t e w3 HF2.out (wdR_le hw) HB.out (by omega)).mono ?_
    rintro e' w4 ⟨rfl, HF3, FR3⟩
    have B3 := Lib.hid (B2.out.fr FR3.out SP.out.2.1)
    have HR3 := Lib.hid (HR2.out.fr FR3.out NN.out.1 (fun h => NN.out.2.2 h.symm))
    clear HR2 HF2 B2
    dsimp only
    (try simp only [Act.put, List.setIfInBounds_toArray, List.set_cons_zero, List.set_cons_succ])
    refine hK.out _ _ (B3.out.cell 0) (fun hHeld => ?_)
    clear hK K
    generalize nmR (bs.drop t) (wdR d) e = V
    refine wpAnyH_take (i := 9) (oi := ⟨some 23, _, _, _, _, _⟩) (v := (.bool true)) rfl (by kernel_rfl) (by kernel_rfl) (by kernel_rfl) (fun _ _ _ h => h) (Or.inl ⟨by rfl, ?_⟩) (by assumption) ?_
    · intro w' hS; go_simp; try with_reducible rfl
    simp only [Act.put, List.setIfInBounds_toArray, List.set_cons_zero, List.set_cons_succ]
    refine wpAnyH_take (i := 10) (oi := ⟨some 6, _, _, _, _, _⟩) (v := (.bool true)) rfl (by kernel_rfl) (by kernel_rfl) (by kernel_rfl) (fun _ _ _ h => h) (Or.inl ⟨by rfl, ?_⟩) (by assumption) ?_
    · intro w' hS; rfl
    simp only [Act.put, List.setIfInBounds_toArray, List.set_cons_zero, List.set_cons_succ]
    refine wpAnyH_done (by kernel_rfl) ?_ _
    go_wp2_with fail
    go_ret
    have hrs := rs_drop bs t (wdR d) e HT.out
    have F : Fr (fun j => j = p ∨ j = p2) w w4 := ((Fr.of_below W1.out _).trans (FR2.out.mono (fun _ h => .inl h))).trans (FR3.out.mono (fun _ h => .inr h))
    exact ⟨rfl, Lib.hid ⟨⟨_, _, hrs.2, hrs.1 ▸ HR3.out, HF3.out⟩, NN.out.1, NN.out.2.1, NN.out.2.2⟩, Lib.hid F⟩
  · have hw0 : wdR d = 0 := by omega
    have HW0 := Lib.hid hw0
    clear hw0 hw
    by_cases h5 : d = 5
    · subst h5
      go_enter Try.func34, Try.ntmps34
      go_wp2_with fail
      generalize w.alloc (.cells #[.int .i64 5, .int .i64 n, .int .u64 v, sl] 52) = w1 at W0 B0 HR HF
      obtain ⟨S, hS⟩ : ∃ S, S = w.heap.size := ⟨_, rfl⟩
      rw [← hS] at B0 ⊢
      have HSP : Hid (S ≠ p ∧ S ≠ p2 ∧ S ≠ g ∧ S ≠ g2) := Lib.hid (hS ▸ HSZ.out)
      have HSS := Lib.hid hS
      clear hS
      have k0 : w1.cell? ⟨S, 0, none⟩ = some (.int .i64 5) := B0.out.cell 0
      have k1 : w1.cell? ⟨S, 1, none⟩ = some (.int .i64 n) := B0.out.cell 1
      go_wp2_with fail
      refine (wd_any 5 w1).mono ?_
      rintro e' w' ⟨rfl, hww⟩
      obtain rfl : w1 = w' := hww.symm
      rw [HW0.out]
      go_wp2_with fail
      refine (rbytes_any p g n (bs.drop t) e w1 HR.out hn (by rw [List.length_drop]; omega)).mono ?_
      rintro e' w2 ⟨v1, rfl, HO1, HR2, FR2⟩
      have B2 := Lib.hid (B0.out.fr FR2.out HSP.out.1)
      have HF2 := Lib.hid (HF.out.fr FR2.out (fun h => NN.out.1 h.symm) (fun h => NN.out.2.1 h.symm))
      have j1 : w2.cell? ⟨S, 1, none⟩ = some (.int .i64 n) := B2.out.cell 1
      clear k0 k1
      go_wp2_with fail
      refine (rbytes2_any p2 g2 n bs t e w2 HF2.out hn (by omega)).mono ?_
      rintro e' w3 ⟨v2, rfl, HO2, HF3, FR3⟩
      have HR3 := Lib.hid (HR2.out.fr FR3.out NN.out.1 (fun h => NN.out.2.2 h.symm))
      have P2B : Hid (w2.heap.size ≤ w3.heap.size ∧ w1.heap.size ≤ w2.heap.size ∧ p2 < w1.heap.size) := Lib.hid ⟨FR3.out.size, FR2.out.size, HF.out.lt⟩
      have HO1' : Hid (Own w3 w1.heap.size 5 .u8 v1 (tkL (bs.drop t) n e)) := Lib.hid (HO1.out.fr FR3.out (fun g' hg' h => by have := (HO1.out.base_le hg').1; have := P2B.out.2.2; omega))
      obtain ⟨A2, c2, rfl, -, -, r2, -⟩ := HO2.out.slice
      have R2 := Lib.hid r2
      clear r2 j1 HR2 HF2 HO2
      obtain ⟨T, hT⟩ : ∃ T, T = tkL (bs.drop t) n e := ⟨_, rfl⟩
      have HTT : Hid (T.length ≤ 140737488355000) := Lib.hid (by rw [hT]; have := tkL_len (bs.drop t) n e; rw [List.length_drop] at this; omega)
      have hrs := rs_drop bs t n e HT.out
      rw [← hT] at HO1' R2 HF3 hrs ⊢
      have HRS := Lib.hid hrs
      clear hT hrs
      obtain ⟨A1, c1, rfl, -, -, r1, hA1⟩ := HO1'.out.slice
      have R1 := Lib.hid r1
      clear r1
      go_wp2_with fail
      refine (same_any A1 A2 _ _ c1 c2 T T w3 rfl rfl R1.out R2.out (by have := HTT.out; omega) (by have := HTT.out; omega)).mono ?_
      rintro e' w' ⟨q1, rfl, rfl⟩
      rw [show decide (T = T) = true from by simp]
      have HR4 := Lib.hid (HR3.out.drewN q1)
      have HF4 := Lib.hid (HF3.out.drewN q1)
      have O4 := Lib.hid (HO1'.out.drewN q1)
      have FW : Hid (Fr (fun j => j = p ∨ j = p2) w (w3.drewN q1)) := Lib.hid ((((Fr.of_below W0.out _).trans (FR2.out.mono (fun _ h => .inl h))).trans (FR3.out.mono (fun _ h => .inr h))).drewN q1)
      have LP : Hid (p < w1.heap.size ∧ g < w1.heap.size ∧ p2 < w1.heap.size ∧ g2 < w1.heap.size ∧ w.heap.size ≤ w1.heap.size) := Lib.hid ⟨HR.out.lt, HR.out.glt, HF.out.lt, HF.out.glt, W0.out.size⟩
      generalize w3.drewN q1 = w4 at HR4 HF4 O4 FW
      clear HR3 HF3 HO1' R1 R2 B2 HR HF B0 W0 FR2 FR3
      go_wp2_with fail
      go_loopw [9] (fun z wr => ∃ (k : Nat) (zs : List Int), k ≤ T.length ∧ z = .int .i64 k ∧ Hid (zs.length = T.length) ∧ Hid (Own wr w1.heap.size 5 .u8 (.slice A1 T.length c1) zs) ∧ Hid (Fr (fun j => w1.heap.size ≤ j) w4 wr)) (fun z _ => T.length - (intOf z).toNat)
      case atStart => exact ⟨0, T, Nat.zero_le _, rfl, Lib.hid rfl, O4, Lib.hid (Fr.refl _ _)⟩
      case round =>
        obtain ⟨k, zs, hk, rfl, HZ, HOZ, HFZ⟩ := hrel
        by_cases hlt : k < T.length
        · obtain ⟨g1, c9, y, hv9, hc9, hz9⟩ := HOZ.out.cells (k := k) (by have := HZ.out; omega)
          injection hv9 with e1 e2 e3
          subst e1 e3
          have hT63 := HTT.out
          go_wp2_with fail
          go_roundw
          case rel => exact ⟨k + 1, zs.set k _, by omega, by go_num, Lib.hid (by rw [List.length_set]; exact HZ.out), Lib.hid (HOZ.out.setAt (by have := HZ.out; omega) _), Lib.hid (HFZ.out.setCell (p := ⟨g1, k, none⟩) (.inl (HOZ.out.base_le rfl).1) _)⟩
          case measure => simp [intOf]; omega
        · have hge : decide ((k : Int) < ((T.length : Nat) : Int)) = false := by simp; omega
          have hge2 : decide (k < T.length) = false := by simp; omega
          go_wp2_with fail
          go_ret
          exact ⟨rfl, Lib.hid ⟨⟨_, _, HRS.out.2, HRS.out.1 ▸ HR4.out.fr HFZ.out (by have := LP.out; omega) (by have := LP.out; omega), HF4.out.fr HFZ.out (by have := LP.out; omega) (by have := LP.out; omega)⟩, NN.out.1, NN.out.2.1, NN.out.2.2⟩, Lib.hid (FW.out.then HFZ.out (fun i hi => .inr (by have := LP.out; omega)))⟩
    · by_cases h6 : d = 6
      · subst h6
        go_enter Try.func34, Try.ntmps34
        go_wp2_with fail
        generalize w.alloc (.cells #[.int .i64 6, .int .i64 n, .int .u64 v, sl] 52) = w1 at W0 B0 HR HF
        obtain ⟨S, hS⟩ : ∃ S, S = w.heap.size := ⟨_, rfl⟩
        rw [← hS] at B0 ⊢
        have HSP : Hid (S ≠ p ∧ S ≠ p2 ∧ S ≠ g ∧ S ≠ g2) := Lib.hid (hS ▸ HSZ.out)
        have HSS := Lib.hid hS
        clear hS
        have k0 : w1.cell? ⟨S, 0, none⟩ = some (.int .i64 6) := B0.out.cell 0
        have k1 : w1.cell? ⟨S, 1, none⟩ = some (.int .i64 n) := B0.out.cell 1
        go_wp2_with fail
        refine (wd_any 6 w1).mono ?_
        rintro e' w' ⟨rfl, hww⟩
        obtain rfl : w1 = w' := hww.symm
        rw [HW0.out]
        go_wp2_with fail
        refine (left_any p g (bs.drop t) e w1 HR.out).mono ?_
        rintro e' w' ⟨rfl, hww⟩
        obtain rfl : w1 = w' := hww.symm
        go_wp2_with fail
        refine (rleft2_any p2 g2 bs t e w1 HF.out (by omega)).mono ?_
        rintro e' w' ⟨rfl, q, rfl⟩
        go_wp2_with fail
        go_ret
        exact ⟨rfl, Lib.hid ⟨⟨t, e, HT.out, by first | exact HR.out | exact HR.out.drewN _, by first | exact HF.out | exact HF.out.drewN _⟩, NN.out.1, NN.out.2.1, NN.out.2.2⟩, Lib.hid (by first | exact Fr.of_below W0.out _ | exact Fr.of_below (belowN W0.out _) _)⟩
      · by_cases h7 : d = 7
        · subst h7
          go_enter Try.func34, Try.ntmps34
          go_wp2_with fail
          generalize w.alloc (.cells #[.int .i64 7, .int .i64 n, .int .u64 v, sl] 52) = w1 at W0 B0 HR HF
          obtain ⟨S, hS⟩ : ∃ S, S = w.heap.size := ⟨_, rfl⟩
          rw [← hS] at B0 ⊢
          have HSP : Hid (S ≠ p ∧ S ≠ p2 ∧ S ≠ g ∧ S ≠ g2) := Lib.hid (hS ▸ HSZ.out)
          have HSS := Lib.hid hS
          clear hS
          have k0 : w1.cell? ⟨S, 0, none⟩ = some (.int .i64 7) := B0.out.cell 0
          have k1 : w1.cell? ⟨S, 1, none⟩ = some (.int .i64 n) := B0.out.cell 1
          go_wp2_with fail
          refine (wd_any 7 w1).mono ?_
          rintro e' w' ⟨rfl, hww⟩
          obtain rfl : w1 = w' := hww.symm
          rw [HW0.out]
          go_wp2_with fail
          have q2 : w1.cell? ⟨p2, 2, none⟩ = some (.int .i64 e) := HF.out.err
          go_quiet (first | (go_at_call 56; exact Calls.quiet_of_same (rerr_any p g (bs.drop t) e _ (by first | exact HR.out | exact HR.out.drewN _))))
          go_wp2_with fail
          go_ret
          exact ⟨rfl, Lib.hid ⟨⟨t, e, HT.out, by first | exact HR.out | exact HR.out.drewN _, by first | exact HF.out | exact HF.out.drewN _⟩, NN.out.1, NN.out.2.1, NN.out.2.2⟩, Lib.hid (by first | exact Fr.of_below W0.out _ | exact Fr.of_below (belowN W0.out _) _)⟩
        · by_cases h8 : d = 8
          · subst h8
            go_enter Try.func34, Try.ntmps34
            go_wp2_with fail
            generalize w.alloc (.cells #[.int .i64 8, .int .i64 n, .int .u64 v, sl] 52) = w1 at W0 B0 HR HF
            obtain ⟨S, hS⟩ : ∃ S, S = w.heap.size := ⟨_, rfl⟩
            rw [← hS] at B0 ⊢
            have HSP : Hid (S ≠ p ∧ S ≠ p2 ∧ S ≠ g ∧ S ≠ g2) := Lib.hid (hS ▸ HSZ.out)
            have HSS := Lib.hid hS
            clear hS
            have k0 : w1.cell? ⟨S, 0, none⟩ = some (.int .i64 8) := B0.out.cell 0
            have k1 : w1.cell? ⟨S, 1, none⟩ = some (.int .i64 n) := B0.out.cell 1
            go_wp2_with fail
            refine (wd_any 8 w1).mono ?_
            rintro e' w' ⟨rfl, hww⟩
            obtain rfl : w1 = w' := hww.symm
            rw [HW0.out]
            go_wp2_with fail
            refine (rend_any p g (bs.drop t) e w1 HR.out).mono ?_
            rintro e' w' ⟨rfl, hww⟩
            obtain rfl : w1 = w' := hww.symm
            go_wp2_with fail
            refine (rend2_any p2 g2 bs t e w1 HF.out (by omega)).mono ?_
            rintro e' w' ⟨rfl, q, rfl⟩
            go_wp2_with fail
            go_ret
            exact ⟨rfl, Lib.hid ⟨⟨t, e, HT.out, by first | exact HR.out | exact HR.out.drewN _, by first | exact HF.out | exact HF.out.drewN _⟩, NN.out.1, NN.out.2.1, NN.out.2.2⟩, Lib.hid (by first | exact Fr.of_below W0.out _ | exact Fr.of_below (belowN W0.out _) _)⟩
          · have b5 : (d == 5) = false := by simpa using h5
            have b6 : (d == 6) = false := by simpa using h6
            have b7 : (d == 7) = false := by simpa using h7
            have b8 : (d == 8) = false := by simpa using h8
            clear h5 h6 h7 h8
            go_enter Try.func34, Try.ntmps34
            go_wp2_with fail
            generalize w.alloc (.cells #[.int .i64 d, .int .i64 n, .int .u64 v, sl] 52) = w1 at W0 B0 HR HF
            obtain ⟨S, hS⟩ : ∃ S, S = w.heap.size := ⟨_, rfl⟩
            rw [← hS] at B0 ⊢
            have HSP : Hid (S ≠ p ∧ S ≠ p2 ∧ S ≠ g ∧ S ≠ g2) := Lib.hid (hS ▸ HSZ.out)
            have HSS := Lib.hid hS
            clear hS
            have k0 : w1.cell? ⟨S, 0, none⟩ = some (.int .i64 d) := B0.out.cell 0
            have k1 : w1.cell? ⟨S, 1, none⟩ = some (.int .i64 n) := B0.out.cell 1
            go_wp2_with fail
            refine (wd_any d w1).mono ?_
            rintro e' w' ⟨rfl, hww⟩
            obtain rfl : w1 = w' := hww.symm
            rw [HW0.out]
            go_wp2_with fail
            go_ret
            exact ⟨rfl, Lib.hid ⟨⟨t, e, HT.out, by first | exact HR.out | exact HR.out.drewN _, by first | exact HF.out | exact HF.out.drewN _⟩, NN.out.1, NN.out.2.1, NN.out.2.2⟩, Lib.hid (by first | exact Fr.of_below W0.out _ | exact Fr.of_below (belowN W0.out _) _)⟩
end Go.Proofs.Ytcibhaoilcohbaa

/-
  Walk: read1 59.
-/
import Derived.Test.YtcibhaoilcohbaaTa
set_option linter.unusedVariables false
set_option linter.unusedSimpArgs false
namespace Go.Proofs.Ytcibhaoilcohbaa
open Go.RowKit

/-- An item's cells. -/
def ItC (w : World) (b off i : Nat) (d : Int) (V : Nat) (sl : Value) : Prop := b < w.heap.size ∧ w.cell? ⟨b, off + i * 4, none⟩ = some (.int .i64 d) ∧ w.cell? ⟨b, off + i * 4 + 2, none⟩ = some (.int .u64 V) ∧ w.cell? ⟨b, off + i * 4 + 3, none⟩ = some sl
theorem cell_fr {S : Nat → Prop} {w w' : World} (hf : Fr S w w') {b o : Nat} (hb : b < w.heap.size) (hs : ¬ S b) : w'.cell? ⟨b, o, none⟩ = w.cell? ⟨b, o, none⟩ := by
  unfold World.cell?
  simp only [hf.block b hb hs]
theorem ItC.fr {S : Nat → Prop} {w w' : World} {b off i : Nat} {d : Int} {V : Nat} {sl : Value} (h : ItC w b off i d V sl) (hf : Fr S w w') (hs : ¬ S b) : ItC w' b off i d V sl :=
  ⟨Nat.lt_of_lt_of_le h.1 hf.size, (cell_fr hf h.1 hs).trans h.2.1, (cell_fr hf h.1 hs).trans h.2.2.1, (cell_fr hf h.1 hs).trans h.2.2.2⟩
theorem rsL_len (xs : List Int) (n e : Int) : (rsL xs n e).length ≤ xs.length := by
  unfold rsL
  split
  · simp
  · exact Nat.le_refl _

set_option maxRecDepth 100000 in
set_option maxHeartbeats 8000000 in
theorem read1_t (A : Option Addr) (n c : Nat) (xs : List Int) (S1 : Option Addr) (m c1 : Nat) (f : Nat → Stp) (D : Nat → List Int) (w0 w : World) (hb0 : Below w0.heap.size w0 w) (hn : n = xs.length) (hx : Rd w .u8 A xs) (hs : RdS w0 S1 f m) (ho : NumOk f m) (hd : DataF w0 f m D)
    (hm : m ≤ 140737488354000) (hxs : xs = cat f D m) (hl : xs.length ≤ 1048576) :
    Calls Try.prog 59 #[.slice A n c, .slice S1 m c1, .bool true] w fun e w' => e = .returned (.bool true) ∧ Hid (Below w.heap.size w w') := by
  have HN := Lib.hid hn
  have HX := Lib.hid hx
  have HS := Lib.hid hs
  have HO := Lib.hid ho
  have HD := Lib.hid hd
  have HXS := Lib.hid hxs
  have HB0 := Lib.hid hb0
  have HL := Lib.hid hl
  have HB8 : Hid (B8 xs) := Lib.hid (by rw [hxs]; exact cat_b8 hd m (Nat.le_refl _))
  clear hn hx hs ho hd hxs hb0 hl
  go_enter Try.func59, Try.ntmps59
  go_wp2_with fail
  refine (newReader_any A n c xs w HN.out HX.out (by have := HL.out; omega)).mono ?_
  rintro e w1 ⟨p, g, rfl, HP, HR1, HB1⟩
  go_wp2_with fail
  go_loopw [8] (fun z wr => ∃ k : Nat, k ≤ m ∧ z = .int .i64 k ∧ Hid (Rdr wr p g (xs.drop (cat f D k).length) 0) ∧ Hid (Below w.heap.size w wr)) (fun z _ => m - (intOf z).toNat)
  case atStart => exact ⟨0, Nat.zero_le _, rfl, HR1, HB1⟩
  case round =>
    clear HR1 HB1
    obtain ⟨i, hi, rfl, HR, HB⟩ := hrel
    by_cases hlt : i < m
    · obtain ⟨b, off, hA, hbl, a0, a1, a2, a3⟩ := (HS.out.below (HB0.out.trans (HB.out.mono HB0.out.size))) i hlt
      have HBS : Hid (b < w.heap.size) := Lib.hid (by obtain ⟨b', off', hA', hl', _⟩ := HS.out i hlt; rw [hA] at hA'; injection hA' with h; injection h with h; have := HB0.out.size; omega)
      subst hA
      obtain ⟨_, _, hv3⟩ := HO.out i hlt
      obtain ⟨V, hV, hV64⟩ := wfu64 hv3
      obtain ⟨d, hdd⟩ : ∃ d, d = (f i).d := ⟨_, rfl⟩
      obtain ⟨DA, dc, hsl, hdr, hdb, hdl⟩ := HD.out i hlt
      rw [← hdd] at a0
      rw [hV] at a2
      rw [hsl] at a3
      have HDD := Lib.hid hdd
      have HV := Lib.hid hV
      have HDR := Lib.hid hdr
      have HDL := Lib.hid hdl
      clear hdd hV hsl hdr hdb hdl hv3 a1
      go_wp2_with fail
      refine (wd_any d wr).mono ?_
      rintro e' w' ⟨rfl, hww⟩
      obtain rfl : wr = w' := hww.symm
      by_cases hw : 0 < wdR d
      · have hw1 : decide ((0 : Int) < (wdR d : Int)) = true := decide_eq_true (by omega)
        go_wp2_with fail
        refine wp_region_held_drew (S := fun W => W.cell? ⟨b, off + i * 4, none⟩ = some (.int .i64 d) ∧ W.cell? ⟨b, off + i * 4 + 2, none⟩ = some (.int .u64 V)) (by kernel_rfl) (⟨a0, a2⟩) (fun hHeld => ?_)
        have HR1 := Lib.hid (HR.out.drewN 1)
        have HB1 := Lib.hid (belowN HB.out 1)
        have C1 : Hid (ItC (wr.drewN 1) b off i d V (.slice DA (D i).length dc)) := Lib.hid ⟨hbl, a0, a2, a3⟩
        rw [show wr.drewN 1 = wr.drew from rfl] at HR1 HB1 C1
        generalize wr.drew = w2 at HR1 HB1 C1 hHeld
        clear HR HB a0 a2 a3 hbl
        obtain ⟨s, hs⟩ : ∃ s, s = wdR d := ⟨_, rfl⟩
        have HSD := Lib.hid hs
        rw [← hs] at hw hw1 ⊢
        clear hs
        have hw63 : (0 : Int) < (s : Int) := by omega
        refine wpAnyH_take (i := 0) (oi := ⟨some 24, _, _, _, _, _⟩) (v := (.int .i64 (s : Int))) rfl (by kernel_rfl) (by kernel_rfl) (by kernel_rfl) (fun _ _ _ h => h) (Or.inl ⟨by rfl, ?_⟩) (by assumption) ?_
        · intro w' hS; rfl
        simp only [Act.put, List.setIfInBounds_toArray, List.set_cons_zero, List.set_cons_succ]
        refine wpAnyH_take (i := 1) (oi := ⟨some 25, _, _, _, _, _⟩) (v := (.bool true)) rfl (by kernel_rfl) (by kernel_rfl) (by kernel_rfl) (fun _ _ _ h => h) (Or.inl ⟨by rfl, ?_⟩) (by assumption) ?_
        · intro w' hS; go_simp; try with_reducible rfl
        simp only [Act.put, List.setIfInBounds_toArray, List.set_cons_zero, List.set_cons_succ]
        refine wpAnyH_take (i := 2) (oi := ⟨some 26, _, _, _, _, _⟩) (v := (.bool true)) rfl (by kernel_rfl) (by kernel_rfl) (by kernel_rfl) (fun _ _ _ h => h) (Or.inl ⟨by rfl, ?_⟩) (by assumption) ?_
        · intro w' hS; rfl
        simp only [Act.put, List.setIfInBounds_toArray, List.set_cons_zero, List.set_cons_succ]
        refine wpAnyH_take (i := 3) (oi := ⟨some 27, _, _, _, _, _⟩) (v := (.pointer (some ⟨p, 0, none⟩))) rfl (by kernel_rfl) (by kernel_rfl) (by kernel_rfl) (fun _ _ _ h => h) (Or.inl ⟨by rfl, ?_⟩) (by assumption) ?_
        · intro w' hS; rfl
        simp only [Act.put, List.setIfInBounds_toArray, List.set_cons_zero, List.set_cons_succ]
        refine wpAnyH_take (i := 4) (oi := ⟨some 28, _, _, _, _, _⟩) (v := (.slice (some ⟨b, off, none⟩) m c1)) rfl (by kernel_rfl) (by kernel_rfl) (by kernel_rfl) (fun _ _ _ h => h) (Or.inl ⟨by rfl, ?_⟩) (by assumption) ?_
        · intro w' hS; rfl
        simp only [Act.put, List.setIfInBounds_toArray, List.set_cons_zero, List.set_cons_succ]
        refine wpAnyH_take (i := 5) (oi := ⟨some 29, _, _, _, _, _⟩) (v := (.int .i64 (i : Int))) rfl (by kernel_rfl) (by kernel_rfl) (by kernel_rfl) (fun _ _ _ h => h) (Or.inl ⟨by rfl, ?_⟩) (by assumption) ?_
        · intro w' hS; rfl
        simp only [Act.put, List.setIfInBounds_toArray, List.set_cons_zero, List.set_cons_succ]
        refine wpAnyH_take (i := 6) (oi := ⟨some 30, _, _, _, _, _⟩) (v := (.pointer (some ⟨b, off + i * 4, none⟩))) rfl (by kernel_rfl) (by kernel_rfl) (by kernel_rfl) (fun _ _ _ h => h) (Or.inl ⟨by rfl, ?_⟩) (by assumption) ?_
        · intro w' hS; obtain ⟨hS1, hS2⟩ := hS; go_simp; try with_reducible rfl
        simp only [Act.put, List.setIfInBounds_toArray, List.set_cons_zero, List.set_cons_succ]
        refine wpAnyH_take (i := 7) (oi := ⟨some 31, _, _, _, _, _⟩) (v := (.pointer (some ⟨b, off + i * 4, none⟩))) rfl (by kernel_rfl) (by kernel_rfl) (by kernel_rfl) (fun _ _ _ h => h) (Or.inl ⟨by rfl, ?_⟩) (by assumption) ?_
        · intro w' hS; obtain ⟨hS1, hS2⟩ := hS; go_simp; try with_reducible rfl
        simp only [Act.put, List.setIfInBounds_toArray, List.set_cons_zero, List.set_cons_succ]
        refine wpAnyH_take (i := 8) (oi := ⟨some 32, _, _, _, _, _⟩) (v := (.int .i64 d)) rfl (by kernel_rfl) (by kernel_rfl) (by kernel_rfl) (fun _ _ _ h => h) (Or.inl ⟨by rfl, ?_⟩) (by assumption) ?_
        · intro w' hS; obtain ⟨hS1, hS2⟩ := hS; go_simp; try with_reducible rfl
        simp only [Act.put, List.setIfInBounds_toArray, List.set_cons_zero, List.set_cons_succ]
        refine wpAnyH_take (i := 10) (oi := ⟨some 34, _, _, _, _, _⟩) (v := (.slice (some ⟨b, off, none⟩) m c1)) rfl (by kernel_rfl) (by kernel_rfl) (by kernel_rfl) (fun _ _ _ h => h) (Or.inl ⟨by rfl, ?_⟩) (by assumption) ?_
        · intro w' hS; rfl
        simp only [Act.put, List.setIfInBounds_toArray, List.set_cons_zero, List.set_cons_succ]
        refine wpAnyH_take (i := 11) (oi := ⟨some 35, _, _, _, _, _⟩) (v := (.int .i64 (i : Int))) rfl (by kernel_rfl) (by kernel_rfl) (by kernel_rfl) (fun _ _ _ h => h) (Or.inl ⟨by rfl, ?_⟩) (by assumption) ?_
        · intro w' hS; rfl
        simp only [Act.put, List.setIfInBounds_toArray, List.set_cons_zero, List.set_cons_succ]
        refine wpAnyH_take (i := 12) (oi := ⟨some 36, _, _, _, _, _⟩) (v := (.pointer (some ⟨b, off + i * 4, none⟩))) rfl (by kernel_rfl) (by kernel_rfl) (by kernel_rfl) (fun _ _ _ h => h) (Or.inl ⟨by rfl, ?_⟩) (by assumption) ?_
        · intro w' hS; obtain ⟨hS1, hS2⟩ := hS; go_simp; try with_reducible rfl
        simp only [Act.put, List.setIfInBounds_toArray, List.set_cons_zero, List.set_cons_succ]
        refine wpAnyH_take (i := 13) (oi := ⟨some 37, _, _, _, _, _⟩) (v := (.pointer (some ⟨b, off + i * 4 + 2, none⟩))) rfl (by kernel_rfl) (by kernel_rfl) (by kernel_rfl) (fun _ _ _ h => h) (Or.inl ⟨by rfl, ?_⟩) (by assumption) ?_
        · intro w' hS; obtain ⟨hS1, hS2⟩ := hS; go_simp; try with_reducible rfl
        simp only [Act.put, List.setIfInBounds_toArray, List.set_cons_zero, List.set_cons_succ]
        refine wpAnyH_take (i := 14) (oi := ⟨some 38, _, _, _, _, _⟩) (v := (.int .u64 (V : Int))) rfl (by kernel_rfl) (by kernel_rfl) (by kernel_rfl) (fun _ _ _ h => h) (Or.inl ⟨by rfl, ?_⟩) (by assumption) ?_
        · intro w' hS; obtain ⟨hS1, hS2⟩ := hS; go_simp; try with_reducible rfl
        simp only [Act.put, List.setIfInBounds_toArray, List.set_cons_zero, List.set_cons_succ]
        refine wpAnyH_take (i := 15) (oi := ⟨some 39, _, _, _, _, _⟩) (v := (.int .i64 (s : Int))) rfl (by kernel_rfl) (by kernel_rfl) (by kernel_rfl) (fun _ _ _ h => h) (Or.inl ⟨by rfl, ?_⟩) (by assumption) ?_
        · intro w' hS; rfl
        simp only [Act.put, List.setIfInBounds_toArray, List.set_cons_zero, List.set_cons_succ]
        refine wpAnyH_ready (rs := [9]) (by kernel_rfl) (by simp) ?_
        refine AllReadyH.cons (o := ⟨some 33, _, _, _, _, _⟩) rfl (fun K hK => ?_) AllReadyH.nil
        rw [if_pos (by rfl)]
        go_simp
        refine (taken_any p g d (xs.drop (cat f D i).length) 0 w2 HR1.out (b8_drop HB8.out _) (HSD.out ▸ hw)).mono ?_
        rintro e' w3 ⟨rfl, HR2, FR2⟩
        have C2 := Lib.hid (C1.out.fr FR2.out (by have := HP.out; have := HBS.out; omega))
        have HB2 := Lib.hid (HB1.out.trans (FR2.out.below HB1.out.size (fun j hj => by have := HP.out; omega)))
        clear HR1 HB1 C1 FR2
        rw [← HSD.out] at HR2 ⊢
        dsimp only
        (try simp only [Act.put, List.setIfInBounds_toArray, List.set_cons_zero, List.set_cons_succ])
        refine hK.out _ _ (⟨C2.out.2.1, C2.out.2.2.1⟩) (fun hHeld => ?_)
        clear hK K
        refine wpAnyH_ready (rs := [16]) (by kernel_rfl) (by simp) ?_
        refine AllReadyH.cons (o := ⟨some 40, _, _, _, _, _⟩) rfl (fun K hK => ?_) AllReadyH.nil
        rw [if_pos (by rfl)]
        go_simp
        refine (cut_any V s w3 hV64 (HSD.out ▸ wdR_wd (HSD.out ▸ hw))).mono ?_
        rintro e' w' ⟨rfl, hww⟩
        obtain rfl : w3 = w' := hww.symm
        dsimp only
        (try simp only [Act.put, List.setIfInBounds_toArray, List.set_cons_zero, List.set_cons_succ])
        refine hK.out _ _ (⟨C2.out.2.1, C2.out.2.2.1⟩) (fun hHeld => ?_)
        clear hK K
        have HN1 : Hid (nmR (xs.drop (cat f D i).length) s 0 = V % 256 ^ s ∧ rsL (xs.drop (cat f D i).length) s 0 = xs.drop (cat f D (i + 1)).length ∧ erR (xs.drop (cat f D i).length) s 0 = 0) := Lib.hid (by
          have h1 := cat_drop f D hlt
          rw [← HXS.out, itm_num (by rw [← HDD.out]; exact wd_ne5 (HSD.out ▸ hw)), ← HDD.out, ← HSD.out, HV.out] at h1
          rw [h1, show ((V : Int)).toNat = V from by omega]
          exact ⟨whole_num V s _, (whole_step _ _ s (leN_len _ _).symm).1, (whole_step _ _ s (leN_len _ _).symm).2.1⟩)
        rw [HN1.out.1]
        rw [HN1.out.2.1, HN1.out.2.2] at HR2
        generalize V % 256 ^ s = Y
        refine wpAnyH_take (i := 17) (oi := ⟨some 41, _, _, _, _, _⟩) (v := (.bool false)) rfl (by kernel_rfl) (by kernel_rfl) (by kernel_rfl) (fun _ _ _ h => h) (Or.inl ⟨by rfl, ?_⟩) (by assumption) ?_
        · intro w' hS; go_simp; try with_reducible rfl
        simp only [Act.put, List.setIfInBounds_toArray, List.set_cons_zero, List.set_cons_succ]
        refine wpAnyH_take (i := 18) (oi := ⟨some 42, _, _, _, _, _⟩) (v := (.bool false)) rfl (by kernel_rfl) (by kernel_rfl) (by kernel_rfl) (fun _ _ _ h => h) (Or.inl ⟨by rfl, ?_⟩) (by assumption) ?_
        · intro w' hS; rfl
        simp only [Act.put, List.setIfInBounds_toArray, List.set_cons_zero, List.set_cons_succ]
        refine wpAnyH_take (i := 19) (oi := ⟨some 43, _, _, _, _, _⟩) (v := (.bool false)) rfl (by kernel_rfl) (by kernel_rfl) (by kernel_rfl) (fun _ _ _ h => h) (Or.inl ⟨by rfl, ?_⟩) (by assumption) ?_
        · intro w' hS; rfl
        simp only [Act.put, List.setIfInBounds_toArray, List.set_cons_zero, List.set_cons_succ]
        refine wpAnyH_take (i := 20) (oi := ⟨some 44, _, _, _, _, _⟩) (v := undef) rfl (by kernel_rfl) (by kernel_rfl) (by kernel_rfl) (fun _ _ _ h => h) (Or.inr ⟨by rfl, rfl⟩) (by assumption) ?_
        simp only [Act.put, List.setIfInBounds_toArray, List.set_cons_zero, List.set_cons_succ]
        refine wpAnyH_take (i := 21) (oi := ⟨some 45, _, _, _, _, _⟩) (v := (.bool false)) rfl (by kernel_rfl) (by kernel_rfl) (by kernel_rfl) (fun _ _ _ h => h) (Or.inl ⟨by rfl, ?_⟩) (by assumption) ?_
        · intro w' hS; rfl
        simp only [Act.put, List.setIfInBounds_toArray, List.set_cons_zero, List.set_cons_succ]
        refine wpAnyH_done (by kernel_rfl) ?_ _
        have k0 : w3.cell? ⟨b, off + i * 4, none⟩ = some (.int .i64 d) := C2.out.2.1
        have k3 : w3.cell? ⟨b, off + i * 4 + 3, none⟩ = some (.slice DA (D i).length dc) := C2.out.2.2.2
        have hd5 : d ≠ 5 := wd_ne5 (HSD.out ▸ hw)
        have hd5b : (d == 5) = false := by simpa using hd5
        go_wp2_with fail
        go_quiet (fail)
        go_wp2_with fail
        go_roundw
        case rel => exact ⟨i + 1, by omega, by go_num, Lib.hid (HR2.out.drewN _), Lib.hid (belowN HB2.out _)⟩
        case measure => simp [intOf]; omega
      · have hw0 : wdR d = 0 := by omega
        have HW0 := Lib.hid hw0
        clear hw hw0
        rw [HW0.out]
        go_wp2_with fail
        by_cases h5 : d = 5
        · subst h5
          have hL : ∃ L, L = (D i).length := ⟨_, rfl⟩
          obtain ⟨L, hL⟩ := hL
          have HLD := Lib.hid hL
          rw [← hL] at a3
          clear hL
          go_quiet (fail)
          have HR1 := Lib.hid (HR.out.drewN nq)
          have HB1 := Lib.hid (belowN HB.out nq)
          have C1 : Hid (ItC (wr.drewN nq) b off i 5 V (.slice DA L dc)) := Lib.hid ⟨hbl, a0, a2, a3⟩
          have k0 : (wr.drewN nq).cell? ⟨b, off + i * 4, none⟩ = some (.int .i64 5) := a0
          have k2 : (wr.drewN nq).cell? ⟨b, off + i * 4 + 2, none⟩ = some (.int .u64 V) := a2
          have k3 : (wr.drewN nq).cell? ⟨b, off + i * 4 + 3, none⟩ = some (.slice DA L dc) := a3
          generalize wr.drewN nq = w2 at HR1 HB1 C1 k0 k2 k3
          clear HR HB a0 a2 a3 hbl
          go_wp2_with fail
          refine wp_region_held_drew (S := fun W => W.cell? ⟨b, off + i * 4, none⟩ = some (.int .i64 5) ∧ W.cell? ⟨b, off + i * 4 + 3, none⟩ = some (.slice DA L dc)) (by kernel_rfl) (⟨k0, k3⟩) (fun hHeld => ?_)
          have HR3 := Lib.hid (HR1.out.drewN 1)
          have HB3 := Lib.hid (belowN HB1.out 1)
          have C3 : Hid (ItC (w2.drewN 1) b off i 5 V (.slice DA L dc)) := Lib.hid ⟨C1.out.1, k0, k2, k3⟩
          rw [show w2.drewN 1 = w2.drew from rfl] at HR3 HB3 C3
          generalize w2.drew = w3 at HR3 HB3 C3 hHeld
          clear HR1 HB1 C1 k0 k2 k3
          refine wpAnyH_take (i := 0) (oi := ⟨some 46, _, _, _, _, _⟩) (v := (.slice (some ⟨b, off, none⟩) m c1)) rfl (by kernel_rfl) (by kernel_rfl) (by kernel_rfl) (fun _ _ _ h => h) (Or.inl ⟨by rfl, ?_⟩) (by assumption) ?_
          · intro w' hS; rfl
          simp only [Act.put, List.setIfInBounds_toArray, List.set_cons_zero, List.set_cons_succ]
          refine wpAnyH_take (i := 1) (oi := ⟨some 47, _, _, _, _, _⟩) (v := (.int .i64 (i : Int))) rfl (by kernel_rfl) (by kernel_rfl) (by kernel_rfl) (fun _ _ _ h => h) (Or.inl ⟨by rfl, ?_⟩) (by assumption) ?_
          · intro w' hS; rfl
          simp only [Act.put, List.setIfInBounds_toArray, List.set_cons_zero, List.set_cons_succ]
          refine wpAnyH_take (i := 2) (oi := ⟨some 48, _, _, _, _, _⟩) (v := (.pointer (some ⟨b, off + i * 4, none⟩))) rfl (by kernel_rfl) (by kernel_rfl) (by kernel_rfl) (fun _ _ _ h => h) (Or.inl ⟨by rfl, ?_⟩) (by assumption) ?_
          · intro w' hS; obtain ⟨hS1, hS2⟩ := hS; go_simp; try with_reducible rfl
          simp only [Act.put, List.setIfInBounds_toArray, List.set_cons_zero, List.set_cons_succ]
          refine wpAnyH_take (i := 3) (oi := ⟨some 49, _, _, _, _, _⟩) (v := (.pointer (some ⟨b, off + i * 4, none⟩))) rfl (by kernel_rfl) (by kernel_rfl) (by kernel_rfl) (fun _ _ _ h => h) (Or.inl ⟨by rfl, ?_⟩) (by assumption) ?_
          · intro w' hS; obtain ⟨hS1, hS2⟩ := hS; go_simp; try with_reducible rfl
          simp only [Act.put, List.setIfInBounds_toArray, List.set_cons_zero, List.set_cons_succ]
          refine wpAnyH_take (i := 4) (oi := ⟨some 50, _, _, _, _, _⟩) (v := (.int .i64 5)) rfl (by kernel_rfl) (by kernel_rfl) (by kernel_rfl) (fun _ _ _ h => h) (Or.inl ⟨by rfl, ?_⟩) (by assumption) ?_
          · intro w' hS; obtain ⟨hS1, hS2⟩ := hS; go_simp; try with_reducible rfl
          simp only [Act.put, List.setIfInBounds_toArray, List.set_cons_zero, List.set_cons_succ]
          refine wpAnyH_take (i := 5) (oi := ⟨some 51, _, _, _, _, _⟩) (v := (.bool true)) rfl (by kernel_rfl) (by kernel_rfl) (by kernel_rfl) (fun _ _ _ h => h) (Or.inl ⟨by rfl, ?_⟩) (by assumption) ?_
          · intro w' hS; go_simp; try with_reducible rfl
          simp only [Act.put, List.setIfInBounds_toArray, List.set_cons_zero, List.set_cons_succ]
          refine wpAnyH_take (i := 6) (oi := ⟨some 52, _, _, _, _, _⟩) (v := (.bool true)) rfl (by kernel_rfl) (by kernel_rfl) (by kernel_rfl) (fun _ _ _ h => h) (Or.inl ⟨by rfl, ?_⟩) (by assumption) ?_
          · intro w' hS; rfl
          simp only [Act.put, List.setIfInBounds_toArray, List.set_cons_zero, List.set_cons_succ]
          refine wpAnyH_take (i := 7) (oi := ⟨some 53, _, _, _, _, _⟩) (v := (.pointer (some ⟨p, 0, none⟩))) rfl (by kernel_rfl) (by kernel_rfl) (by kernel_rfl) (fun _ _ _ h => h) (Or.inl ⟨by rfl, ?_⟩) (by assumption) ?_
          · intro w' hS; rfl
          simp only [Act.put, List.setIfInBounds_toArray, List.set_cons_zero, List.set_cons_succ]
          refine wpAnyH_take (i := 8) (oi := ⟨some 54, _, _, _, _, _⟩) (v := (.slice (some ⟨b, off, none⟩) m c1)) rfl (by kernel_rfl) (by kernel_rfl) (by kernel_rfl) (fun _ _ _ h => h) (Or.inl ⟨by rfl, ?_⟩) (by assumption) ?_
          · intro w' hS; rfl
          simp only [Act.put, List.setIfInBounds_toArray, List.set_cons_zero, List.set_cons_succ]
          refine wpAnyH_take (i := 9) (oi := ⟨some 55, _, _, _, _, _⟩) (v := (.int .i64 (i : Int))) rfl (by kernel_rfl) (by kernel_rfl) (by kernel_rfl) (fun _ _ _ h => h) (Or.inl ⟨by rfl, ?_⟩) (by assumption) ?_
          · intro w' hS; rfl
          simp only [Act.put, List.setIfInBounds_toArray, List.set_cons_zero, List.set_cons_succ]
          refine wpAnyH_take (i := 10) (oi := ⟨some 56, _, _, _, _, _⟩) (v := (.pointer (some ⟨b, off + i * 4, none⟩))) rfl (by kernel_rfl) (by kernel_rfl) (by kernel_rfl) (fun _ _ _ h => h) (Or.inl ⟨by rfl, ?_⟩) (by assumption) ?_
          · intro w' hS; obtain ⟨hS1, hS2⟩ := hS; go_simp; try with_reducible rfl
          simp only [Act.put, List.setIfInBounds_toArray, List.set_cons_zero, List.set_cons_succ]
          refine wpAnyH_take (i := 11) (oi := ⟨some 57, _, _, _, _, _⟩) (v := (.pointer (some ⟨b, off + i * 4 + 3, none⟩))) rfl (by kernel_rfl) (by kernel_rfl) (by kernel_rfl) (fun _ _ _ h => h) (Or.inl ⟨by rfl, ?_⟩) (by assumption) ?_
          · intro w' hS; obtain ⟨hS1, hS2⟩ := hS; go_simp; try with_reducible rfl
          simp only [Act.put, List.setIfInBounds_toArray, List.set_cons_zero, List.set_cons_succ]
          refine wpAnyH_take (i := 12) (oi := ⟨some 58, _, _, _, _, _⟩) (v := (.slice DA L dc)) rfl (by kernel_rfl) (by kernel_rfl) (by kernel_rfl) (fun _ _ _ h => h) (Or.inl ⟨by rfl, ?_⟩) (by assumption) ?_
          · intro w' hS; obtain ⟨hS1, hS2⟩ := hS; go_simp; try with_reducible rfl
          simp only [Act.put, List.setIfInBounds_toArray, List.set_cons_zero, List.set_cons_succ]
          refine wpAnyH_take (i := 13) (oi := ⟨some 59, _, _, _, _, _⟩) (v := (.int .i64 (L : Int))) rfl (by kernel_rfl) (by kernel_rfl) (by kernel_rfl) (fun _ _ _ h => h) (Or.inl ⟨by rfl, ?_⟩) (by assumption) ?_
          · intro w' hS; go_simp; try with_reducible rfl
          simp only [Act.put, List.setIfInBounds_toArray, List.set_cons_zero, List.set_cons_succ]
          refine wpAnyH_take (i := 15) (oi := ⟨some 61, _, _, _, _, _⟩) (v := (.slice (some ⟨b, off, none⟩) m c1)) rfl (by kernel_rfl) (by kernel_rfl) (by kernel_rfl) (fun _ _ _ h => h) (Or.inl ⟨by rfl, ?_⟩) (by assumption) ?_
          · intro w' hS; rfl
          simp only [Act.put, List.setIfInBounds_toArray, List.set_cons_zero, List.set_cons_succ]
          refine wpAnyH_take (i := 16) (oi := ⟨some 62, _, _, _, _, _⟩) (v := (.int .i64 (i : Int))) rfl (by kernel_rfl) (by kernel_rfl) (by kernel_rfl) (fun _ _ _ h => h) (Or.inl ⟨by rfl, ?_⟩) (by assumption) ?_
          · intro w' hS; rfl
          simp only [Act.put, List.setIfInBounds_toArray, List.set_cons_zero, List.set_cons_succ]
          refine wpAnyH_take (i := 17) (oi := ⟨some 63, _, _, _, _, _⟩) (v := (.pointer (some ⟨b, off + i * 4, none⟩))) rfl (by kernel_rfl) (by kernel_rfl) (by kernel_rfl) (fun _ _ _ h => h) (Or.inl ⟨by rfl, ?_⟩) (by assumption) ?_
          · intro w' hS; obtain ⟨hS1, hS2⟩ := hS; go_simp; try with_reducible rfl
          simp only [Act.put, List.setIfInBounds_toArray, List.set_cons_zero, List.set_cons_succ]
          refine wpAnyH_take (i := 18) (oi := ⟨some 64, _, _, _, _, _⟩) (v := (.pointer (some ⟨b, off + i * 4 + 3, none⟩))) rfl (by kernel_rfl) (by kernel_rfl) (by kernel_rfl) (fun _ _ _ h => h) (Or.inl ⟨by rfl, ?_⟩) (by assumption) ?_
          · intro w' hS; obtain ⟨hS1, hS2⟩ := hS; go_simp; try with_reducible rfl
          simp only [Act.put, List.setIfInBounds_toArray, List.set_cons_zero, List.set_cons_succ]
          refine wpAnyH_take (i := 19) (oi := ⟨some 65, _, _, _, _, _⟩) (v := (.slice DA L dc)) rfl (by kernel_rfl) (by kernel_rfl) (by kernel_rfl) (fun _ _ _ h => h) (Or.inl ⟨by rfl, ?_⟩) (by assumption) ?_
          · intro w' hS; obtain ⟨hS1, hS2⟩ := hS; go_simp; try with_reducible rfl
          simp only [Act.put, List.setIfInBounds_toArray, List.set_cons_zero, List.set_cons_succ]
          refine wpAnyH_ready (rs := [14]) (by kernel_rfl) (by simp) ?_
          refine AllReadyH.cons (o := ⟨some 60, _, _, _, _, _⟩) rfl (fun K hK => ?_) AllReadyH.nil
          rw [if_pos (by rfl)]
          go_simp
          refine (rbytes_any p g L (xs.drop (cat f D i).length) 0 w3 HR3.out (by have := HDL.out; have := HLD.out; omega) (by rw [List.length_drop]; have := HL.out; omega)).mono ?_
          rintro e' w4 ⟨v4, rfl, HO4, HR4, FR4⟩
          have C4 := Lib.hid (C3.out.fr FR4.out (by have := HP.out; have := HBS.out; omega))
          have HB4 := Lib.hid (HB3.out.trans (FR4.out.below HB3.out.size (fun j hj => by have := HP.out; omega)))
          clear HR3 HB3 C3 FR4
          have HE4 : Hid (tkL (xs.drop (cat f D i).length) L 0 = D i ∧ rsL (xs.drop (cat f D i).length) L 0 = xs.drop (cat f D (i + 1)).length ∧ erR (xs.drop (cat f D i).length) L 0 = 0) := Lib.hid (by
            have h1 := cat_drop f D hlt
            rw [← HXS.out, itm_data HDD.out.symm] at h1
            rw [h1]
            exact ⟨(whole_step _ _ L HLD.out).2.2, (whole_step _ _ L HLD.out).1, (whole_step _ _ L HLD.out).2.1⟩)
          rw [HE4.out.1] at HO4
          rw [HE4.out.2.1, HE4.out.2.2] at HR4
          obtain ⟨TT, hTT⟩ : ∃ TT, TT = D i := ⟨_, rfl⟩
          have HTD := Lib.hid hTT
          rw [← hTT] at HO4
          clear hTT
          obtain ⟨A4, c4, rfl, -, -, r4, -⟩ := HO4.out.slice
          have R4 := Lib.hid r4
          clear r4 HO4
          dsimp only
          (try simp only [Act.put, List.setIfInBounds_toArray, List.set_cons_zero, List.set_cons_succ])
          refine hK.out _ _ (⟨C4.out.2.1, C4.out.2.2.2⟩) (fun hHeld => ?_)
          clear hK K
          have HY4 := Lib.hid (HDR.out.below (HB0.out.trans (HB4.out.mono HB0.out.size)))
          refine wpAnyH_ready (rs := [20]) (by kernel_rfl) (by simp) ?_
          refine AllReadyH.cons (o := ⟨some 66, _, _, _, _, _⟩) rfl (fun K hK => ?_) AllReadyH.nil
          rw [if_pos (by rfl)]
          go_simp
          refine (same_any A4 DA _ _ c4 dc TT (D i) w4 rfl HLD.out R4.out HY4.out (by rw [HTD.out]; have := HDL.out; have := HLD.out; omega) (by have := HDL.out; have := HLD.out; omega)).mono ?_
          rintro e' w' ⟨q4, rfl, rfl⟩
          have HR5 := Lib.hid (HR4.out.drewN q4)
          have HB5 := Lib.hid (belowN HB4.out q4)
          have C5 : Hid (ItC (w4.drewN q4) b off i 5 V (.slice DA L dc)) := Lib.hid C4.out
          generalize w4.drewN q4 = w5 at HR5 HB5 C5
          clear HR4 HB4 C4 R4 HY4
          rw [show decide (TT = D i) = true from by rw [HTD.out]; simp]
          dsimp only
          (try simp only [Act.put, List.setIfInBounds_toArray, List.set_cons_zero, List.set_cons_succ])
          refine hK.out _ _ (⟨C5.out.2.1, C5.out.2.2.2⟩) (fun hHeld => ?_)
          clear hK K
          refine wpAnyH_take (i := 21) (oi := ⟨some 67, _, _, _, _, _⟩) (v := (.bool false)) rfl (by kernel_rfl) (by kernel_rfl) (by kernel_rfl) (fun _ _ _ h => h) (Or.inl ⟨by rfl, ?_⟩) (by assumption) ?_
          · intro w' hS; go_simp; try with_reducible rfl
          simp only [Act.put, List.setIfInBounds_toArray, List.set_cons_zero, List.set_cons_succ]
          refine wpAnyH_take (i := 22) (oi := ⟨some 68, _, _, _, _, _⟩) (v := (.bool false)) rfl (by kernel_rfl) (by kernel_rfl) (by kernel_rfl) (fun _ _ _ h => h) (Or.inl ⟨by rfl, ?_⟩) (by assumption) ?_
          · intro w' hS; rfl
          simp only [Act.put, List.setIfInBounds_toArray, List.set_cons_zero, List.set_cons_succ]
          refine wpAnyH_take (i := 23) (oi := ⟨some 69, _, _, _, _, _⟩) (v := (.bool false)) rfl (by kernel_rfl) (by kernel_rfl) (by kernel_rfl) (fun _ _ _ h => h) (Or.inl ⟨by rfl, ?_⟩) (by assumption) ?_
          · intro w' hS; rfl
          simp only [Act.put, List.setIfInBounds_toArray, List.set_cons_zero, List.set_cons_succ]
          refine wpAnyH_take (i := 24) (oi := ⟨some 70, _, _, _, _, _⟩) (v := undef) rfl (by kernel_rfl) (by kernel_rfl) (by kernel_rfl) (fun _ _ _ h => h) (Or.inr ⟨by rfl, rfl⟩) (by assumption) ?_
          simp only [Act.put, List.setIfInBounds_toArray, List.set_cons_zero, List.set_cons_succ]
          refine wpAnyH_take (i := 25) (oi := ⟨some 71, _, _, _, _, _⟩) (v := (.bool false)) rfl (by kernel_rfl) (by kernel_rfl) (by kernel_rfl) (fun _ _ _ h => h) (Or.inl ⟨by rfl, ?_⟩) (by assumption) ?_
          · intro w' hS; rfl
          simp only [Act.put, List.setIfInBounds_toArray, List.set_cons_zero, List.set_cons_succ]
          refine wpAnyH_done (by kernel_rfl) ?_ _
          go_wp2_with fail
          go_roundw
          case rel => exact ⟨i + 1, by omega, by go_num, HR5, HB5⟩
          case measure => simp [intOf]; omega
        · have hd5b : (d == 5) = false := by simpa using h5
          go_quiet (fail)
          have k0 : (wr.drewN nq).cell? ⟨b, off + i * 4, none⟩ = some (.int .i64 d) := a0
          have k3 : (wr.drewN nq).cell? ⟨b, off + i * 4 + 3, none⟩ = some (.slice DA (D i).length dc) := a3
          go_wp2_with fail
          go_quiet (fail)
          go_wp2_with fail
          go_roundw
          case rel => exact ⟨i + 1, by omega, by go_num, Lib.hid (by rw [cat_succ_len, itm_num (by rw [← HDD.out]; exact h5), leN_len, ← HDD.out, HW0.out]; exact HR.out.drewN _), Lib.hid (belowN HB.out _)⟩
          case measure => simp [intOf]; omega
    · have hge : decide ((i : Int) < (m : Int)) = false := by simp; omega
      obtain rfl : i = m := by omega
      have HE : Hid (xs.drop (cat f D i).length = []) := Lib.hid (by rw [← HXS.out]; simp)
      rw [HE.out] at HR
      go_wp2_with fail
      refine (rend_any p g [] 0 wr HR.out).mono ?_
      rintro e' w' ⟨rfl, hww⟩
      obtain rfl : wr = w' := hww.symm
      rw [show enR [] 0 = 0 from by decide]
      go_wp2_with fail
      refine (rerr_any p g [] 0 wr HR.out).mono ?_
      rintro e' w' ⟨rfl, hww⟩
      obtain rfl : wr = w' := hww.symm
      go_wp2_with fail
      refine (left_any p g [] 0 wr HR.out).mono ?_
      rintro e' w' ⟨rfl, hww⟩
      obtain rfl : wr = w' := hww.symm
      go_wp2_with fail
      go_ret
      exact ⟨rfl, HB⟩

set_option maxRecDepth 100000 in
set_option maxHeartbeats 8000000 in
theorem read1_f (A : Option Addr) (n c : Nat) (xs : List Int) (S1 : Option Addr) (m c1 : Nat) (f : Nat → Stp) (D : Nat → List Int) (w0 w : World) (hb0 : Below w0.heap.size w0 w) (hn : n = xs.length) (hx : Rd w .u8 A xs) (hs : RdS w0 S1 f m) (ho : NumOk f m) (hd : DataF w0 f m D)
    (hm : m ≤ 140737488354000) (hxs : xs.length + 1 = (cat f D m).length) (hb8 : B8 xs) (hl : xs.length ≤ 1048576) :
    Calls Try.prog 59 #[.slice A n c, .slice S1 m c1, .bool false] w fun e w' => e = .returned (.bool true) ∧ Hid (Below w.heap.size w w') := by
  have HN := Lib.hid hn
  have HX := Lib.hid hx
  have HS := Lib.hid hs
  have HO := Lib.hid ho
  have HD := Lib.hid hd
  have HXS := Lib.hid hxs
  have HB0 := Lib.hid hb0
  have HL := Lib.hid hl
  have HB8 := Lib.hid hb8
  clear hb8
  clear hn hx hs ho hd hxs hb0 hl
  go_enter Try.func59, Try.ntmps59
  go_wp2_with fail
  refine (newReader_any A n c xs w HN.out HX.out (by have := HL.out; omega)).mono ?_
  rintro e w1 ⟨p, g, rfl, HP, HR1, HB1⟩
  go_wp2_with fail
  go_loopw [8] (fun z wr => ∃ (k : Nat) (rest : List Int) (e0 : Int), k ≤ m ∧ z = .int .i64 k ∧ Hid (Rdr wr p g rest e0) ∧ Hid (RInv xs (cat f D k).length rest e0) ∧ Hid (B8 rest) ∧ Hid (rest.length ≤ 1048576) ∧ Hid (Below w.heap.size w wr)) (fun z _ => m - (intOf z).toNat)
  case atStart => exact ⟨0, xs, 0, Nat.zero_le _, rfl, HR1, Lib.hid (.inl ⟨rfl, Nat.zero_le _, by simp [cat]⟩), HB8, HL, HB1⟩
  case round =>
    clear HR1 HB1
    obtain ⟨i, rest, e0, hi, rfl, HR, HI, HBR, HRL, HB⟩ := hrel
    by_cases hlt : i < m
    · obtain ⟨b, off, hA, hbl, a0, a1, a2, a3⟩ := (HS.out.below (HB0.out.trans (HB.out.mono HB0.out.size))) i hlt
      have HBS : Hid (b < w.heap.size) := Lib.hid (by obtain ⟨b', off', hA', hl', _⟩ := HS.out i hlt; rw [hA] at hA'; injection hA' with h; injection h with h; have := HB0.out.size; omega)
      subst hA
      obtain ⟨_, _, hv3⟩ := HO.out i hlt
      obtain ⟨V, hV, hV64⟩ := wfu64 hv3
      obtain ⟨d, hdd⟩ : ∃ d, d = (f i).d := ⟨_, rfl⟩
      obtain ⟨DA, dc, hsl, hdr, hdb, hdl⟩ := HD.out i hlt
      rw [← hdd] at a0
      rw [hV] at a2
      rw [hsl] at a3
      have HDD := Lib.hid hdd
      have HV := Lib.hid hV
      have HDR := Lib.hid hdr
      have HDL := Lib.hid hdl
      clear hdd hV hsl hdr hdb hdl hv3 a1
      go_wp2_with fail
      refine (wd_any d wr).mono ?_
      rintro e' w' ⟨rfl, hww⟩
      obtain rfl : wr = w' := hww.symm
      by_cases hw : 0 < wdR d
      · have hw1 : decide ((0 : Int) < (wdR d : Int)) = true := decide_eq_true (by omega)
        go_wp2_with fail
        refine wp_region_held_drew (S := fun W => W.cell? ⟨b, off + i * 4, none⟩ = some (.int .i64 d) ∧ W.cell? ⟨b, off + i * 4 + 2, none⟩ = some (.int .u64 V)) (by kernel_rfl) (⟨a0, a2⟩) (fun hHeld => ?_)
        have HR1 := Lib.hid (HR.out.drewN 1)
        have HB1 := Lib.hid (belowN HB.out 1)
        have C1 : Hid (ItC (wr.drewN 1) b off i d V (.slice DA (D i).length dc)) := Lib.hid ⟨hbl, a0, a2, a3⟩
        rw [show wr.drewN 1 = wr.drew from rfl] at HR1 HB1 C1
        generalize wr.drew = w2 at HR1 HB1 C1 hHeld
        clear HR HB a0 a2 a3 hbl
        obtain ⟨s, hs⟩ : ∃ s, s = wdR d := ⟨_, rfl⟩
        have HSD := Lib.hid hs
        rw [← hs] at hw hw1 ⊢
        clear hs
        have hw63 : (0 : Int) < (s : Int) := by omega
        refine wpAnyH_take (i := 0) (oi := ⟨some 24, _, _, _, _, _⟩) (v := (.int .i64 (s : Int))) rfl (by kernel_rfl) (by kernel_rfl) (by kernel_rfl) (fun _ _ _ h => h) (Or.inl ⟨by rfl, ?_⟩) (by assumption) ?_
        · intro w' hS; rfl
        simp only [Act.put, List.setIfInBounds_toArray, List.set_cons_zero, List.set_cons_succ]
        refine wpAnyH_take (i := 1) (oi := ⟨some 25, _, _, _, _, _⟩) (v := (.bool true)) rfl (by kernel_rfl) (by kernel_rfl) (by kernel_rfl) (fun _ _ _ h => h) (Or.inl ⟨by rfl, ?_⟩) (by assumption) ?_
        · intro w' hS; go_simp; try with_reducible rfl
        simp only [Act.put, List.setIfInBounds_toArray, List.set_cons_zero, List.set_cons_succ]
        refine wpAnyH_take (i := 2) (oi := ⟨some 26, _, _, _, _, _⟩) (v := (.bool true)) rfl (by kernel_rfl) (by kernel_rfl) (by kernel_rfl) (fun _ _ _ h => h) (Or.inl ⟨by rfl, ?_⟩) (by assumption) ?_
        · intro w' hS; rfl
        simp only [Act.put, List.setIfInBounds_toArray, List.set_cons_zero, List.set_cons_succ]
        refine wpAnyH_take (i := 3) (oi := ⟨some 27, _, _, _, _, _⟩) (v := (.pointer (some ⟨p, 0, none⟩))) rfl (by kernel_rfl) (by kernel_rfl) (by kernel_rfl) (fun _ _ _ h => h) (Or.inl ⟨by rfl, ?_⟩) (by assumption) ?_
        · intro w' hS; rfl
        simp only [Act.put, List.setIfInBounds_toArray, List.set_cons_zero, List.set_cons_succ]
        refine wpAnyH_take (i := 4) (oi := ⟨some 28, _, _, _, _, _⟩) (v := (.slice (some ⟨b, off, none⟩) m c1)) rfl (by kernel_rfl) (by kernel_rfl) (by kernel_rfl) (fun _ _ _ h => h) (Or.inl ⟨by rfl, ?_⟩) (by assumption) ?_
        · intro w' hS; rfl
        simp only [Act.put, List.setIfInBounds_toArray, List.set_cons_zero, List.set_cons_succ]
        refine wpAnyH_take (i := 5) (oi := ⟨some 29, _, _, _, _, _⟩) (v := (.int .i64 (i : Int))) rfl (by kernel_rfl) (by kernel_rfl) (by kernel_rfl) (fun _ _ _ h => h) (Or.inl ⟨by rfl, ?_⟩) (by assumption) ?_
        · intro w' hS; rfl
        simp only [Act.put, List.setIfInBounds_toArray, List.set_cons_zero, List.set_cons_succ]
        refine wpAnyH_take (i := 6) (oi := ⟨some 30, _, _, _, _, _⟩) (v := (.pointer (some ⟨b, off + i * 4, none⟩))) rfl (by kernel_rfl) (by kernel_rfl) (by kernel_rfl) (fun _ _ _ h => h) (Or.inl ⟨by rfl, ?_⟩) (by assumption) ?_
        · intro w' hS; obtain ⟨hS1, hS2⟩ := hS; go_simp; try with_reducible rfl
        simp only [Act.put, List.setIfInBounds_toArray, List.set_cons_zero, List.set_cons_succ]
        refine wpAnyH_take (i := 7) (oi := ⟨some 31, _, _, _, _, _⟩) (v := (.pointer (some ⟨b, off + i * 4, none⟩))) rfl (by kernel_rfl) (by kernel_rfl) (by kernel_rfl) (fun _ _ _ h => h) (Or.inl ⟨by rfl, ?_⟩) (by assumption) ?_
        · intro w' hS; obtain ⟨hS1, hS2⟩ := hS; go_simp; try with_reducible rfl
        simp only [Act.put, List.setIfInBounds_toArray, List.set_cons_zero, List.set_cons_succ]
        refine wpAnyH_take (i := 8) (oi := ⟨some 32, _, _, _, _, _⟩) (v := (.int .i64 d)) rfl (by kernel_rfl) (by kernel_rfl) (by kernel_rfl) (fun _ _ _ h => h) (Or.inl ⟨by rfl, ?_⟩) (by assumption) ?_
        · intro w' hS; obtain ⟨hS1, hS2⟩ := hS; go_simp; try with_reducible rfl
        simp only [Act.put, List.setIfInBounds_toArray, List.set_cons_zero, List.set_cons_succ]
        refine wpAnyH_take (i := 10) (oi := ⟨some 34, _, _, _, _, _⟩) (v := (.slice (some ⟨b, off, none⟩) m c1)) rfl (by kernel_rfl) (by kernel_rfl) (by kernel_rfl) (fun _ _ _ h => h) (Or.inl ⟨by rfl, ?_⟩) (by assumption) ?_
        · intro w' hS; rfl
        simp only [Act.put, List.setIfInBounds_toArray, List.set_cons_zero, List.set_cons_succ]
        refine wpAnyH_take (i := 11) (oi := ⟨some 35, _, _, _, _, _⟩) (v := (.int .i64 (i : Int))) rfl (by kernel_rfl) (by kernel_rfl) (by kernel_rfl) (fun _ _ _ h => h) (Or.inl ⟨by rfl, ?_⟩) (by assumption) ?_
        · intro w' hS; rfl
        simp only [Act.put, List.setIfInBounds_toArray, List.set_cons_zero, List.set_cons_succ]
        refine wpAnyH_take (i := 12) (oi := ⟨some 36, _, _, _, _, _⟩) (v := (.pointer (some ⟨b, off + i * 4, none⟩))) rfl (by kernel_rfl) (by kernel_rfl) (by kernel_rfl) (fun _ _ _ h => h) (Or.inl ⟨by rfl, ?_⟩) (by assumption) ?_
        · intro w' hS; obtain ⟨hS1, hS2⟩ := hS; go_simp; try with_reducible rfl
        simp only [Act.put, List.setIfInBounds_toArray, List.set_cons_zero, List.set_cons_succ]
        refine wpAnyH_take (i := 13) (oi := ⟨some 37, _, _, _, _, _⟩) (v := (.pointer (some ⟨b, off + i * 4 + 2, none⟩))) rfl (by kernel_rfl) (by kernel_rfl) (by kernel_rfl) (fun _ _ _ h => h) (Or.inl ⟨by rfl, ?_⟩) (by assumption) ?_
        · intro w' hS; obtain ⟨hS1, hS2⟩ := hS; go_simp; try with_reducible rfl
        simp only [Act.put, List.setIfInBounds_toArray, List.set_cons_zero, List.set_cons_succ]
        refine wpAnyH_take (i := 14) (oi := ⟨some 38, _, _, _, _, _⟩) (v := (.int .u64 (V : Int))) rfl (by kernel_rfl) (by kernel_rfl) (by kernel_rfl) (fun _ _ _ h => h) (Or.inl ⟨by rfl, ?_⟩) (by assumption) ?_
        · intro w' hS; obtain ⟨hS1, hS2⟩ := hS; go_simp; try with_reducible rfl
        simp only [Act.put, List.setIfInBounds_toArray, List.set_cons_zero, List.set_cons_succ]
        refine wpAnyH_take (i := 15) (oi := ⟨some 39, _, _, _, _, _⟩) (v := (.int .i64 (s : Int))) rfl (by kernel_rfl) (by kernel_rfl) (by kernel_rfl) (fun _ _ _ h => h) (Or.inl ⟨by rfl, ?_⟩) (by assumption) ?_
        · intro w' hS; rfl
        simp only [Act.put, List.setIfInBounds_toArray, List.set_cons_zero, List.set_cons_succ]
        refine wpAnyH_ready (rs := [9]) (by kernel_rfl) (by simp) ?_
        refine AllReadyH.cons (o := ⟨some 33, _, _, _, _, _⟩) rfl (fun K hK => ?_) AllReadyH.nil
        rw [if_pos (by rfl)]
        go_simp
        refine (taken_any p g d rest e0 w2 HR1.out HBR.out (HSD.out ▸ hw)).mono ?_
        rintro e' w3 ⟨rfl, HR2, FR2⟩
        have C2 := Lib.hid (C1.out.fr FR2.out (by have := HP.out; have := HBS.out; omega))
        have HB2 := Lib.hid (HB1.out.trans (FR2.out.below HB1.out.size (fun j hj => by have := HP.out; omega)))
        clear HR1 HB1 C1 FR2
        rw [← HSD.out] at HR2 ⊢
        dsimp only
        (try simp only [Act.put, List.setIfInBounds_toArray, List.set_cons_zero, List.set_cons_succ])
        refine hK.out _ _ (⟨C2.out.2.1, C2.out.2.2.1⟩) (fun hHeld => ?_)
        clear hK K
        refine wpAnyH_ready (rs := [16]) (by kernel_rfl) (by simp) ?_
        refine AllReadyH.cons (o := ⟨some 40, _, _, _, _, _⟩) rfl (fun K hK => ?_) AllReadyH.nil
        rw [if_pos (by rfl)]
        go_simp
        refine (cut_any V s w3 hV64 (HSD.out ▸ wdR_wd (HSD.out ▸ hw))).mono ?_
        rintro e' w' ⟨rfl, hww⟩
        obtain rfl : w3 = w' := hww.symm
        dsimp only
        (try simp only [Act.put, List.setIfInBounds_toArray, List.set_cons_zero, List.set_cons_succ])
        refine hK.out _ _ (⟨C2.out.2.1, C2.out.2.2.1⟩) (fun hHeld => ?_)
        clear hK K
        generalize nmR rest s e0 = N
        generalize V % 256 ^ s = Y
        by_cases hNY : N = Y
        · subst hNY
          refine wpAnyH_take (i := 17) (oi := ⟨some 41, _, _, _, _, _⟩) (v := (.bool false)) rfl (by kernel_rfl) (by kernel_rfl) (by kernel_rfl) (fun _ _ _ h => h) (Or.inl ⟨by rfl, ?_⟩) (by assumption) ?_
          · intro w' hS; go_simp; try with_reducible rfl
          simp only [Act.put, List.setIfInBounds_toArray, List.set_cons_zero, List.set_cons_succ]
          refine wpAnyH_take (i := 18) (oi := ⟨some 42, _, _, _, _, _⟩) (v := (.bool false)) rfl (by kernel_rfl) (by kernel_rfl) (by kernel_rfl) (fun _ _ _ h => h) (Or.inl ⟨by rfl, ?_⟩) (by assumption) ?_
          · intro w' hS; rfl
          simp only [Act.put, List.setIfInBounds_toArray, List.set_cons_zero, List.set_cons_succ]
          refine wpAnyH_take (i := 19) (oi := ⟨some 43, _, _, _, _, _⟩) (v := (.bool false)) rfl (by kernel_rfl) (by kernel_rfl) (by kernel_rfl) (fun _ _ _ h => h) (Or.inl ⟨by rfl, ?_⟩) (by assumption) ?_
          · intro w' hS; rfl
          simp only [Act.put, List.setIfInBounds_toArray, List.set_cons_zero, List.set_cons_succ]
          refine wpAnyH_take (i := 20) (oi := ⟨some 44, _, _, _, _, _⟩) (v := undef) rfl (by kernel_rfl) (by kernel_rfl) (by kernel_rfl) (fun _ _ _ h => h) (Or.inr ⟨by rfl, rfl⟩) (by assumption) ?_
          simp only [Act.put, List.setIfInBounds_toArray, List.set_cons_zero, List.set_cons_succ]
          refine wpAnyH_take (i := 21) (oi := ⟨some 45, _, _, _, _, _⟩) (v := (.bool false)) rfl (by kernel_rfl) (by kernel_rfl) (by kernel_rfl) (fun _ _ _ h => h) (Or.inl ⟨by rfl, ?_⟩) (by assumption) ?_
          · intro w' hS; rfl
          simp only [Act.put, List.setIfInBounds_toArray, List.set_cons_zero, List.set_cons_succ]
          refine wpAnyH_done (by kernel_rfl) ?_ _
          have k0 : w3.cell? ⟨b, off + i * 4, none⟩ = some (.int .i64 d) := C2.out.2.1
          have k3 : w3.cell? ⟨b, off + i * 4 + 3, none⟩ = some (.slice DA (D i).length dc) := C2.out.2.2.2
          have hd5 : d ≠ 5 := wd_ne5 (HSD.out ▸ hw)
          have hd5b : (d == 5) = false := by simpa using hd5
          go_wp2_with fail
          go_quiet (fail)
          go_wp2_with fail
          go_roundw
          case rel => exact ⟨i + 1, _, _, by omega, by go_num, Lib.hid (HR2.out.drewN _), Lib.hid (by rw [cat_succ_len, itm_num (by rw [← HDD.out]; exact hd5), leN_len, ← HDD.out, ← HSD.out]; exact HI.out.step s), Lib.hid (rsL_b8 HBR.out _ _), Lib.hid (by have := rsL_len rest s e0; have := HRL.out; omega), Lib.hid (belowN HB2.out _)⟩
          case measure => simp [intOf]; omega
        · have hNYb : (((N : Nat) : Int) != ((Y : Nat) : Int)) = true := by simp; omega
          refine wpAnyH_take (i := 17) (oi := ⟨some 41, _, _, _, _, _⟩) (v := (.bool true)) rfl (by kernel_rfl) (by kernel_rfl) (by kernel_rfl) (fun _ _ _ h => h) (Or.inl ⟨by rfl, ?_⟩) (by assumption) ?_
          · intro w' hS; go_simp; try with_reducible rfl
          simp only [Act.put, List.setIfInBounds_toArray, List.set_cons_zero, List.set_cons_succ]
          refine wpAnyH_take (i := 18) (oi := ⟨some 42, _, _, _, _, _⟩) (v := (.bool true)) rfl (by kernel_rfl) (by kernel_rfl) (by kernel_rfl) (fun _ _ _ h => h) (Or.inl ⟨by rfl, ?_⟩) (by assumption) ?_
          · intro w' hS; rfl
          simp only [Act.put, List.setIfInBounds_toArray, List.set_cons_zero, List.set_cons_succ]
          refine wpAnyH_take (i := 19) (oi := ⟨some 43, _, _, _, _, _⟩) (v := (.bool true)) rfl (by kernel_rfl) (by kernel_rfl) (by kernel_rfl) (fun _ _ _ h => h) (Or.inl ⟨by rfl, ?_⟩) (by assumption) ?_
          · intro w' hS; rfl
          simp only [Act.put, List.setIfInBounds_toArray, List.set_cons_zero, List.set_cons_succ]
          refine wpAnyH_take (i := 20) (oi := ⟨some 44, _, _, _, _, _⟩) (v := (.bool false)) rfl (by kernel_rfl) (by kernel_rfl) (by kernel_rfl) (fun _ _ _ h => h) (Or.inl ⟨by rfl, ?_⟩) (by assumption) ?_
          · intro w' hS; rfl
          simp only [Act.put, List.setIfInBounds_toArray, List.set_cons_zero, List.set_cons_succ]
          refine wpAnyH_take (i := 21) (oi := ⟨some 45, _, _, _, _, _⟩) (v := (.bool false)) rfl (by kernel_rfl) (by kernel_rfl) (by kernel_rfl) (fun _ _ _ h => h) (Or.inl ⟨by rfl, ?_⟩) (by assumption) ?_
          · intro w' hS; rfl
          simp only [Act.put, List.setIfInBounds_toArray, List.set_cons_zero, List.set_cons_succ]
          refine wpAnyH_done (by kernel_rfl) ?_ _
          have k0 : w3.cell? ⟨b, off + i * 4, none⟩ = some (.int .i64 d) := C2.out.2.1
          have k3 : w3.cell? ⟨b, off + i * 4 + 3, none⟩ = some (.slice DA (D i).length dc) := C2.out.2.2.2
          have hd5 : d ≠ 5 := wd_ne5 (HSD.out ▸ hw)
          have hd5b : (d == 5) = false := by simpa using hd5
          go_wp2_with fail
          go_quiet (fail)
          go_wp2_with fail
          go_roundw
          case rel => exact ⟨i + 1, _, _, by omega, by go_num, Lib.hid (HR2.out.drewN _), Lib.hid (by rw [cat_succ_len, itm_num (by rw [← HDD.out]; exact hd5), leN_len, ← HDD.out, ← HSD.out]; exact HI.out.step s), Lib.hid (rsL_b8 HBR.out _ _), Lib.hid (by have := rsL_len rest s e0; have := HRL.out; omega), Lib.hid (belowN HB2.out _)⟩
          case measure => simp [intOf]; omega
      · have hw0 : wdR d = 0 := by omega
        have HW0 := Lib.hid hw0
        clear hw hw0
        rw [HW0.out]
        go_wp2_with fail
        by_cases h5 : d = 5
        · subst h5
          have hL : ∃ L, L = (D i).length := ⟨_, rfl⟩
          obtain ⟨L, hL⟩ := hL
          have HLD := Lib.hid hL
          rw [← hL] at a3
          clear hL
          go_quiet (fail)
          have HR1 := Lib.hid (HR.out.drewN nq)
          have HB1 := Lib.hid (belowN HB.out nq)
          have C1 : Hid (ItC (wr.drewN nq) b off i 5 V (.slice DA L dc)) := Lib.hid ⟨hbl, a0, a2, a3⟩
          have k0 : (wr.drewN nq).cell? ⟨b, off + i * 4, none⟩ = some (.int .i64 5) := a0
          have k2 : (wr.drewN nq).cell? ⟨b, off + i * 4 + 2, none⟩ = some (.int .u64 V) := a2
          have k3 : (wr.drewN nq).cell? ⟨b, off + i * 4 + 3, none⟩ = some (.slice DA L dc) := a3
          generalize wr.drewN nq = w2 at HR1 HB1 C1 k0 k2 k3
          clear HR HB a0 a2 a3 hbl
          go_wp2_with fail
          refine wp_region_held_drew (S := fun W => W.cell? ⟨b, off + i * 4, none⟩ = some (.int .i64 5) ∧ W.cell? ⟨b, off + i * 4 + 3, none⟩ = some (.slice DA L dc)) (by kernel_rfl) (⟨k0, k3⟩) (fun hHeld => ?_)
          have HR3 := Lib.hid (HR1.out.drewN 1)
          have HB3 := Lib.hid (belowN HB1.out 1)
          have C3 : Hid (ItC (w2.drewN 1) b off i 5 V (.slice DA L dc)) := Lib.hid ⟨C1.out.1, k0, k2, k3⟩
          rw [show w2.drewN 1 = w2.drew from rfl] at HR3 HB3 C3
          generalize w2.drew = w3 at HR3 HB3 C3 hHeld
          clear HR1 HB1 C1 k0 k2 k3
          refine wpAnyH_take (i := 0) (oi := ⟨some 46, _, _, _, _, _⟩) (v := (.slice (some ⟨b, off, none⟩) m c1)) rfl (by kernel_rfl) (by kernel_rfl) (by kernel_rfl) (fun _ _ _ h => h) (Or.inl ⟨by rfl, ?_⟩) (by assumption) ?_
          · intro w' hS; rfl
          simp only [Act.put, List.setIfInBounds_toArray, List.set_cons_zero, List.set_cons_succ]
          refine wpAnyH_take (i := 1) (oi := ⟨some 47, _, _, _, _, _⟩) (v := (.int .i64 (i : Int))) rfl (by kernel_rfl) (by kernel_rfl) (by kernel_rfl) (fun _ _ _ h => h) (Or.inl ⟨by rfl, ?_⟩) (by assumption) ?_
          · intro w' hS; rfl
          simp only [Act.put, List.setIfInBounds_toArray, List.set_cons_zero, List.set_cons_succ]
          refine wpAnyH_take (i := 2) (oi := ⟨some 48, _, _, _, _, _⟩) (v := (.pointer (some ⟨b, off + i * 4, none⟩))) rfl (by kernel_rfl) (by kernel_rfl) (by kernel_rfl) (fun _ _ _ h => h) (Or.inl ⟨by rfl, ?_⟩) (by assumption) ?_
          · intro w' hS; obtain ⟨hS1, hS2⟩ := hS; go_simp; try with_reducible rfl
          simp only [Act.put, List.setIfInBounds_toArray, List.set_cons_zero, List.set_cons_succ]
          refine wpAnyH_take (i := 3) (oi := ⟨some 49, _, _, _, _, _⟩) (v := (.pointer (some ⟨b, off + i * 4, none⟩))) rfl (by kernel_rfl) (by kernel_rfl) (by kernel_rfl) (fun _ _ _ h => h) (Or.inl ⟨by rfl, ?_⟩) (by assumption) ?_
          · intro w' hS; obtain ⟨hS1, hS2⟩ := hS; go_simp; try with_reducible rfl
          simp only [Act.put, List.setIfInBounds_toArray, List.set_cons_zero, List.set_cons_succ]
          refine wpAnyH_take (i := 4) (oi := ⟨some 50, _, _, _, _, _⟩) (v := (.int .i64 5)) rfl (by kernel_rfl) (by kernel_rfl) (by kernel_rfl) (fun _ _ _ h => h) (Or.inl ⟨by rfl, ?_⟩) (by assumption) ?_
          · intro w' hS; obtain ⟨hS1, hS2⟩ := hS; go_simp; try with_reducible rfl
          simp only [Act.put, List.setIfInBounds_toArray, List.set_cons_zero, List.set_cons_succ]
          refine wpAnyH_take (i := 5) (oi := ⟨some 51, _, _, _, _, _⟩) (v := (.bool true)) rfl (by kernel_rfl) (by kernel_rfl) (by kernel_rfl) (fun _ _ _ h => h) (Or.inl ⟨by rfl, ?_⟩) (by assumption) ?_
          · intro w' hS; go_simp; try with_reducible rfl
          simp only [Act.put, List.setIfInBounds_toArray, List.set_cons_zero, List.set_cons_succ]
          refine wpAnyH_take (i := 6) (oi := ⟨some 52, _, _, _, _, _⟩) (v := (.bool true)) rfl (by kernel_rfl) (by kernel_rfl) (by kernel_rfl) (fun _ _ _ h => h) (Or.inl ⟨by rfl, ?_⟩) (by assumption) ?_
          · intro w' hS; rfl
          simp only [Act.put, List.setIfInBounds_toArray, List.set_cons_zero, List.set_cons_succ]
          refine wpAnyH_take (i := 7) (oi := ⟨some 53, _, _, _, _, _⟩) (v := (.pointer (some ⟨p, 0, none⟩))) rfl (by kernel_rfl) (by kernel_rfl) (by kernel_rfl) (fun _ _ _ h => h) (Or.inl ⟨by rfl, ?_⟩) (by assumption) ?_
          · intro w' hS; rfl
          simp only [Act.put, List.setIfInBounds_toArray, List.set_cons_zero, List.set_cons_succ]
          refine wpAnyH_take (i := 8) (oi := ⟨some 54, _, _, _, _, _⟩) (v := (.slice (some ⟨b, off, none⟩) m c1)) rfl (by kernel_rfl) (by kernel_rfl) (by kernel_rfl) (fun _ _ _ h => h) (Or.inl ⟨by rfl, ?_⟩) (by assumption) ?_
          · intro w' hS; rfl
          simp only [Act.put, List.setIfInBounds_toArray, List.set_cons_zero, List.set_cons_succ]
          refine wpAnyH_take (i := 9) (oi := ⟨some 55, _, _, _, _, _⟩) (v := (.int .i64 (i : Int))) rfl (by kernel_rfl) (by kernel_rfl) (by kernel_rfl) (fun _ _ _ h => h) (Or.inl ⟨by rfl, ?_⟩) (by assumption) ?_
          · intro w' hS; rfl
          simp only [Act.put, List.setIfInBounds_toArray, List.set_cons_zero, List.set_cons_succ]
          refine wpAnyH_take (i := 10) (oi := ⟨some 56, _, _, _, _, _⟩) (v := (.pointer (some ⟨b, off + i * 4, none⟩))) rfl (by kernel_rfl) (by kernel_rfl) (by kernel_rfl) (fun _ _ _ h => h) (Or.inl ⟨by rfl, ?_⟩) (by assumption) ?_
          · intro w' hS; obtain ⟨hS1, hS2⟩ := hS; go_simp; try with_reducible rfl
          simp only [Act.put, List.setIfInBounds_toArray, List.set_cons_zero, List.set_cons_succ]
          refine wpAnyH_take (i := 11) (oi := ⟨some 57, _, _, _, _, _⟩) (v := (.pointer (some ⟨b, off + i * 4 + 3, none⟩))) rfl (by kernel_rfl) (by kernel_rfl) (by kernel_rfl) (fun _ _ _ h => h) (Or.inl ⟨by rfl, ?_⟩) (by assumption) ?_
          · intro w' hS; obtain ⟨hS1, hS2⟩ := hS; go_simp; try with_reducible rfl
          simp only [Act.put, List.setIfInBounds_toArray, List.set_cons_zero, List.set_cons_succ]
          refine wpAnyH_take (i := 12) (oi := ⟨some 58, _, _, _, _, _⟩) (v := (.slice DA L dc)) rfl (by kernel_rfl) (by kernel_rfl) (by kernel_rfl) (fun _ _ _ h => h) (Or.inl ⟨by rfl, ?_⟩) (by assumption) ?_
          · intro w' hS; obtain ⟨hS1, hS2⟩ := hS; go_simp; try with_reducible rfl
          simp only [Act.put, List.setIfInBounds_toArray, List.set_cons_zero, List.set_cons_succ]
          refine wpAnyH_take (i := 13) (oi := ⟨some 59, _, _, _, _, _⟩) (v := (.int .i64 (L : Int))) rfl (by kernel_rfl) (by kernel_rfl) (by kernel_rfl) (fun _ _ _ h => h) (Or.inl ⟨by rfl, ?_⟩) (by assumption) ?_
          · intro w' hS; go_simp; try with_reducible rfl
          simp only [Act.put, List.setIfInBounds_toArray, List.set_cons_zero, List.set_cons_succ]
          refine wpAnyH_take (i := 15) (oi := ⟨some 61, _, _, _, _, _⟩) (v := (.slice (some ⟨b, off, none⟩) m c1)) rfl (by kernel_rfl) (by kernel_rfl) (by kernel_rfl) (fun _ _ _ h => h) (Or.inl ⟨by rfl, ?_⟩) (by assumption) ?_
          · intro w' hS; rfl
          simp only [Act.put, List.setIfInBounds_toArray, List.set_cons_zero, List.set_cons_succ]
          refine wpAnyH_take (i := 16) (oi := ⟨some 62, _, _, _, _, _⟩) (v := (.int .i64 (i : Int))) rfl (by kernel_rfl) (by kernel_rfl) (by kernel_rfl) (fun _ _ _ h => h) (Or.inl ⟨by rfl, ?_⟩) (by assumption) ?_
          · intro w' hS; rfl
          simp only [Act.put, List.setIfInBounds_toArray, List.set_cons_zero, List.set_cons_succ]
          refine wpAnyH_take (i := 17) (oi := ⟨some 63, _, _, _, _, _⟩) (v := (.pointer (some ⟨b, off + i * 4, none⟩))) rfl (by kernel_rfl) (by kernel_rfl) (by kernel_rfl) (fun _ _ _ h => h) (Or.inl ⟨by rfl, ?_⟩) (by assumption) ?_
          · intro w' hS; obtain ⟨hS1, hS2⟩ := hS; go_simp; try with_reducible rfl
          simp only [Act.put, List.setIfInBounds_toArray, List.set_cons_zero, List.set_cons_succ]
          refine wpAnyH_take (i := 18) (oi := ⟨some 64, _, _, _, _, _⟩) (v := (.pointer (some ⟨b, off + i * 4 + 3, none⟩))) rfl (by kernel_rfl) (by kernel_rfl) (by kernel_rfl) (fun _ _ _ h => h) (Or.inl ⟨by rfl, ?_⟩) (by assumption) ?_
          · intro w' hS; obtain ⟨hS1, hS2⟩ := hS; go_simp; try with_reducible rfl
          simp only [Act.put, List.setIfInBounds_toArray, List.set_cons_zero, List.set_cons_succ]
          refine wpAnyH_take (i := 19) (oi := ⟨some 65, _, _, _, _, _⟩) (v := (.slice DA L dc)) rfl (by kernel_rfl) (by kernel_rfl) (by kernel_rfl) (fun _ _ _ h => h) (Or.inl ⟨by rfl, ?_⟩) (by assumption) ?_
          · intro w' hS; obtain ⟨hS1, hS2⟩ := hS; go_simp; try with_reducible rfl
          simp only [Act.put, List.setIfInBounds_toArray, List.set_cons_zero, List.set_cons_succ]
          refine wpAnyH_ready (rs := [14]) (by kernel_rfl) (by simp) ?_
          refine AllReadyH.cons (o := ⟨some 60, _, _, _, _, _⟩) rfl (fun K hK => ?_) AllReadyH.nil
          rw [if_pos (by rfl)]
          go_simp
          refine (rbytes_any p g L rest e0 w3 HR3.out (by have := HDL.out; have := HLD.out; omega) (by have := HRL.out; omega)).mono ?_
          rintro e' w4 ⟨v4, rfl, HO4, HR4, FR4⟩
          have C4 := Lib.hid (C3.out.fr FR4.out (by have := HP.out; have := HBS.out; omega))
          have HB4 := Lib.hid (HB3.out.trans (FR4.out.below HB3.out.size (fun j hj => by have := HP.out; omega)))
          clear HR3 HB3 C3 FR4
          obtain ⟨TT, hTT⟩ : ∃ TT, TT = tkL rest L e0 := ⟨_, rfl⟩
          have HTD : Hid (TT.length ≤ 1048576) := Lib.hid (by rw [hTT]; have := tkL_len rest L e0; have := HRL.out; omega)
          rw [← hTT] at HO4
          clear hTT
          obtain ⟨A4, c4, rfl, -, -, r4, -⟩ := HO4.out.slice
          have R4 := Lib.hid r4
          clear r4 HO4
          dsimp only
          (try simp only [Act.put, List.setIfInBounds_toArray, List.set_cons_zero, List.set_cons_succ])
          refine hK.out _ _ (⟨C4.out.2.1, C4.out.2.2.2⟩) (fun hHeld => ?_)
          clear hK K
          have HY4 := Lib.hid (HDR.out.below (HB0.out.trans (HB4.out.mono HB0.out.size)))
          refine wpAnyH_ready (rs := [20]) (by kernel_rfl) (by simp) ?_
          refine AllReadyH.cons (o := ⟨some 66, _, _, _, _, _⟩) rfl (fun K hK => ?_) AllReadyH.nil
          rw [if_pos (by rfl)]
          go_simp
          refine (same_any A4 DA _ _ c4 dc TT (D i) w4 rfl HLD.out R4.out HY4.out (by have := HTD.out; omega) (by have := HDL.out; have := HLD.out; omega)).mono ?_
          rintro e' w' ⟨q4, rfl, rfl⟩
          have HR5 := Lib.hid (HR4.out.drewN q4)
          have HB5 := Lib.hid (belowN HB4.out q4)
          have C5 : Hid (ItC (w4.drewN q4) b off i 5 V (.slice DA L dc)) := Lib.hid C4.out
          generalize w4.drewN q4 = w5 at HR5 HB5 C5
          clear HR4 HB4 C4 R4 HY4
          generalize decide (TT = D i) = bq
          dsimp only
          (try simp only [Act.put, List.setIfInBounds_toArray, List.set_cons_zero, List.set_cons_succ])
          refine hK.out _ _ (⟨C5.out.2.1, C5.out.2.2.2⟩) (fun hHeld => ?_)
          clear hK K
          cases bq
          · refine wpAnyH_take (i := 21) (oi := ⟨some 67, _, _, _, _, _⟩) (v := (.bool true)) rfl (by kernel_rfl) (by kernel_rfl) (by kernel_rfl) (fun _ _ _ h => h) (Or.inl ⟨by rfl, ?_⟩) (by assumption) ?_
            · intro w' hS; go_simp; try with_reducible rfl
            simp only [Act.put, List.setIfInBounds_toArray, List.set_cons_zero, List.set_cons_succ]
            refine wpAnyH_take (i := 22) (oi := ⟨some 68, _, _, _, _, _⟩) (v := (.bool true)) rfl (by kernel_rfl) (by kernel_rfl) (by kernel_rfl) (fun _ _ _ h => h) (Or.inl ⟨by rfl, ?_⟩) (by assumption) ?_
            · intro w' hS; rfl
            simp only [Act.put, List.setIfInBounds_toArray, List.set_cons_zero, List.set_cons_succ]
            refine wpAnyH_take (i := 23) (oi := ⟨some 69, _, _, _, _, _⟩) (v := (.bool true)) rfl (by kernel_rfl) (by kernel_rfl) (by kernel_rfl) (fun _ _ _ h => h) (Or.inl ⟨by rfl, ?_⟩) (by assumption) ?_
            · intro w' hS; rfl
            simp only [Act.put, List.setIfInBounds_toArray, List.set_cons_zero, List.set_cons_succ]
            refine wpAnyH_take (i := 24) (oi := ⟨some 70, _, _, _, _, _⟩) (v := (.bool false)) rfl (by kernel_rfl) (by kernel_rfl) (by kernel_rfl) (fun _ _ _ h => h) (Or.inl ⟨by rfl, ?_⟩) (by assumption) ?_
            · intro w' hS; rfl
            simp only [Act.put, List.setIfInBounds_toArray, List.set_cons_zero, List.set_cons_succ]
            refine wpAnyH_take (i := 25) (oi := ⟨some 71, _, _, _, _, _⟩) (v := (.bool false)) rfl (by kernel_rfl) (by kernel_rfl) (by kernel_rfl) (fun _ _ _ h => h) (Or.inl ⟨by rfl, ?_⟩) (by assumption) ?_
            · intro w' hS; rfl
            simp only [Act.put, List.setIfInBounds_toArray, List.set_cons_zero, List.set_cons_succ]
            refine wpAnyH_done (by kernel_rfl) ?_ _
            go_wp2_with fail
            go_roundw
            case rel => exact ⟨i + 1, _, _, by omega, by go_num, HR5, Lib.hid (by rw [cat_succ_len, itm_data HDD.out.symm, ← HLD.out]; exact HI.out.step L), Lib.hid (rsL_b8 HBR.out _ _), Lib.hid (by have := rsL_len rest L e0; have := HRL.out; omega), HB5⟩
            case measure => simp [intOf]; omega
          · refine wpAnyH_take (i := 21) (oi := ⟨some 67, _, _, _, _, _⟩) (v := (.bool false)) rfl (by kernel_rfl) (by kernel_rfl) (by kernel_rfl) (fun _ _ _ h => h) (Or.inl ⟨by rfl, ?_⟩) (by assumption) ?_
            · intro w' hS; go_simp; try with_reducible rfl
            simp only [Act.put, List.setIfInBounds_toArray, List.set_cons_zero, List.set_cons_succ]
            refine wpAnyH_take (i := 22) (oi := ⟨some 68, _, _, _, _, _⟩) (v := (.bool false)) rfl (by kernel_rfl) (by kernel_rfl) (by kernel_rfl) (fun _ _ _ h => h) (Or.inl ⟨by rfl, ?_⟩) (by assumption) ?_
            · intro w' hS; rfl
            simp only [Act.put, List.setIfInBounds_toArray, List.set_cons_zero, List.set_cons_succ]
            refine wpAnyH_take (i := 23) (oi := ⟨some 69, _, _, _, _, _⟩) (v := (.bool false)) rfl (by kernel_rfl) (by kernel_rfl) (by kernel_rfl) (fun _ _ _ h => h) (Or.inl ⟨by rfl, ?_⟩) (by assumption) ?_
            · intro w' hS; rfl
            simp only [Act.put, List.setIfInBounds_toArray, List.set_cons_zero, List.set_cons_succ]
            refine wpAnyH_take (i := 24) (oi := ⟨some 70, _, _, _, _, _⟩) (v := undef) rfl (by kernel_rfl) (by kernel_rfl) (by kernel_rfl) (fun _ _ _ h => h) (Or.inr ⟨by rfl, rfl⟩) (by assumption) ?_
            simp only [Act.put, List.setIfInBounds_toArray, List.set_cons_zero, List.set_cons_succ]
            refine wpAnyH_take (i := 25) (oi := ⟨some 71, _, _, _, _, _⟩) (v := (.bool false)) rfl (by kernel_rfl) (by kernel_rfl) (by kernel_rfl) (fun _ _ _ h => h) (Or.inl ⟨by rfl, ?_⟩) (by assumption) ?_
            · intro w' hS; rfl
            simp only [Act.put, List.setIfInBounds_toArray, List.set_cons_zero, List.set_cons_succ]
            refine wpAnyH_done (by kernel_rfl) ?_ _
            go_wp2_with fail
            go_roundw
            case rel => exact ⟨i + 1, _, _, by omega, by go_num, HR5, Lib.hid (by rw [cat_succ_len, itm_data HDD.out.symm, ← HLD.out]; exact HI.out.step L), Lib.hid (rsL_b8 HBR.out _ _), Lib.hid (by have := rsL_len rest L e0; have := HRL.out; omega), HB5⟩
            case measure => simp [intOf]; omega
        · have hd5b : (d == 5) = false := by simpa using h5
          go_quiet (fail)
          have k0 : (wr.drewN nq).cell? ⟨b, off + i * 4, none⟩ = some (.int .i64 d) := a0
          have k3 : (wr.drewN nq).cell? ⟨b, off + i * 4 + 3, none⟩ = some (.slice DA (D i).length dc) := a3
          go_wp2_with fail
          go_quiet (fail)
          go_wp2_with fail
          go_roundw
          case rel => exact ⟨i + 1, _, _, by omega, by go_num, Lib.hid (HR.out.drewN _), Lib.hid (by rw [cat_succ_len, itm_num (by rw [← HDD.out]; exact h5), leN_len, ← HDD.out, HW0.out]; exact HI.out), HBR, HRL, Lib.hid (belowN HB.out _)⟩
          case measure => simp [intOf]; omega
    · have hge : decide ((i : Int) < (m : Int)) = false := by simp; omega
      obtain rfl : i = m := by omega
      have HE : Hid (e0 = 20) := Lib.hid (by rcases HI.out with ⟨_, h, _⟩ | h; have := HXS.out; omega; exact h)
      rw [HE.out] at HR
      go_wp2_with fail
      refine (rend_any p g rest 20 wr HR.out).mono ?_
      rintro e' w' ⟨rfl, hww⟩
      obtain rfl : wr = w' := hww.symm
      rw [show enR rest 20 = 20 from by unfold enR; rw [if_neg (by decide)]]
      go_wp2_with fail
      refine (rerr_any p g rest 20 wr HR.out).mono ?_
      rintro e' w' ⟨rfl, hww⟩
      obtain rfl : wr = w' := hww.symm
      go_wp2_with fail
      go_ret
      exact ⟨rfl, HB⟩
end Go.Proofs.Ytcibhaoilcohbaa

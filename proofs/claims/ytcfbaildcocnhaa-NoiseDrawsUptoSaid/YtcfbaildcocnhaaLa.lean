/-
  Walks: the closure of Laplace, Laplace.
-/
import Derived.Test.YtcfbaildcocnhaaUn
set_option linter.unusedVariables false
set_option linter.unusedSimpArgs false
namespace Go.Proofs.Ytcfbaildcocnhaa
open Go.RowKit

def ltB (u a : Nat) : Bool := FloatKind.f64.format.order u a == some .lt
/-- How many units in a row are below alpha, so many at most; and where the row is then. -/
def runF (ks : List Int) (al : Nat) : Nat → Nat → Nat × Nat
  | 0, p => (0, p)
  | f + 1, p => if ltB (uW (numN ks p / 2048)) al then ((runF ks al f (p + 8)).1 + 1, (runF ks al f (p + 8)).2) else (0, p + 8)
theorem runF_le (ks : List Int) (al : Nat) : ∀ f p, (runF ks al f p).1 ≤ f
  | 0, p => Nat.le_refl _
  | f + 1, p => by
    unfold runF
    split
    · exact Nat.succ_le_succ (runF_le ks al f (p + 8))
    · exact Nat.zero_le _
theorem runF_succ (ks : List Int) (al f p : Nat) : runF ks al (f + 1) p = if ltB (uW (numN ks p / 2048)) al then ((runF ks al f (p + 8)).1 + 1, (runF ks al f (p + 8)).2) else (0, p + 8) := rfl
theorem runF_yes {ks : List Int} {al f p : Nat} (h : ltB (uW (numN ks p / 2048)) al = true) : runF ks al (f + 1) p = ((runF ks al f (p + 8)).1 + 1, (runF ks al f (p + 8)).2) := by rw [runF_succ, if_pos h]
theorem runF_no {ks : List Int} {al f p : Nat} (h : ltB (uW (numN ks p / 2048)) al = false) : runF ks al (f + 1) p = (0, p + 8) := by rw [runF_succ, h]; rfl
/-- What the closure holds. -/
structure Boxes (w : World) (S P5 P7 P10 P6 M X al : Nat) : Prop where
  b5 : Blk w P5 3 [.int .i64 (M : Int)]
  b7 : Blk w P7 3 [.int .i64 (X : Int)]
  b10 : Blk w P10 93 [.func (.func 46) #[.pointer (some ⟨S, 0, none⟩)] #[]]
  b6 : Blk w P6 22 [.float .f64 al]
theorem Boxes.fr {w w' : World} {S P5 P7 P10 P6 M X al : Nat} {ks : List Int} {p : Nat} (h : Boxes w S P5 P7 P10 P6 M X al) (hs : Src w S ks p) (hf : Fr (fun b => b = S) w w') : Boxes w' S P5 P7 P10 P6 M X al :=
  ⟨h.b5.fr hf (fun e => hs.ne h.b5 (by decide) e.symm), h.b7.fr hf (fun e => hs.ne h.b7 (by decide) e.symm), h.b10.fr hf (fun e => hs.ne h.b10 (by decide) e.symm), h.b6.fr hf (fun e => hs.ne h.b6 (by decide) e.symm)⟩

set_option maxRecDepth 100000 in
set_option maxHeartbeats 8000000 in
theorem run_any (S P5 P7 P10 P6 M X al : Nat) (ks : List Int) (p : Nat) (w : World) (hb : Boxes w S P5 P7 P10 P6 M X al) (hs : Src w S ks p) (hk : ks.length = 32) (bk : B8 ks) (hM : M ≤ 64) (hX : X ≤ 64) :
    Calls Try.prog 68 #[.pointer (some ⟨P5, 0, none⟩), .pointer (some ⟨P7, 0, none⟩), .pointer (some ⟨P10, 0, none⟩), .pointer (some ⟨P6, 0, none⟩)] w fun e w' => e = .returned (.int .i64 ((runF ks al (M + X) p).1 : Nat)) ∧ Src w' S ks (runF ks al (M + X) p).2 ∧ Fr (fun b => b = S) w w' := by
  have HU := Lib.hid (fun q W hs => funit_any S ks q W hs hk bk)
  have HBX := Lib.hid hb
  have HS := Lib.hid hs
  obtain ⟨T, hT⟩ : ∃ T, T = M + X := ⟨_, rfl⟩
  rw [← hT]
  have hadd : IntKind.i64.wrap ((M : Int) + (X : Int)) = (T : Int) := by rw [hT, IntKind.wrap_i64] <;> omega
  have hT128 : T ≤ 128 := by omega
  clear hb hs hk bk hT
  go_enter Try.func68, Try.ntmps68
  go_wp2_with fail
  go_loopw [5] (fun kv wr => ∃ k q : Nat, kv = .int .i64 (k : Int) ∧ k ≤ T ∧ Hid (Boxes wr S P5 P7 P10 P6 M X al) ∧ Hid (Src wr S ks q) ∧ Hid (runF ks al T p = ((runF ks al (T - k) q).1 + k, (runF ks al (T - k) q).2)) ∧ Hid (Fr (fun b => b = S) w wr)) (fun kv _ => T - (intOf kv).toNat)
  case atStart => exact ⟨0, p, rfl, Nat.zero_le _, HBX, HS, Lib.hid rfl, Lib.hid (Fr.refl _ _)⟩
  case round =>
    clear HBX HS
    obtain ⟨k, q, rfl, hk, HBX, HS, HR, HF⟩ := hrel
    have c5 : ∀ W : World, W.heap[P5]? = wr.heap[P5]? → W.cell? ⟨P5, 0, none⟩ = some (.int .i64 (M : Int)) := fun W h => (World.cell?_of_block (w := wr) (w' := W) h).trans (HBX.out.b5.cell 0)
    have c7 : ∀ W : World, W.heap[P7]? = wr.heap[P7]? → W.cell? ⟨P7, 0, none⟩ = some (.int .i64 (X : Int)) := fun W h => (World.cell?_of_block (w := wr) (w' := W) h).trans (HBX.out.b7.cell 0)
    have c10 : ∀ W : World, W.heap[P10]? = wr.heap[P10]? → W.cell? ⟨P10, 0, none⟩ = some (.func (.func 46) #[.pointer (some ⟨S, 0, none⟩)] #[]) := fun W h => (World.cell?_of_block (w := wr) (w' := W) h).trans (HBX.out.b10.cell 0)
    have c6 : ∀ W : World, W.heap[P6]? = wr.heap[P6]? → W.cell? ⟨P6, 0, none⟩ = some (.float .f64 al) := fun W h => (World.cell?_of_block (w := wr) (w' := W) h).trans (HBX.out.b6.cell 0)
    have C5 := Lib.hid c5
    have C7 := Lib.hid c7
    have C10 := Lib.hid c10
    have C6 := Lib.hid c6
    clear c5 c7 c10 c6
    by_cases hlt : k < T
    · have hlt' : (k : Int) < (T : Int) := by omega
      have m1 : IntKind.i64.wrap ((k : Int) + 1) = ((k + 1 : Nat) : Int) := by rw [IntKind.wrap_i64] <;> omega
      go_upto_region 2 with fail
      refine wp_region_held_drew (S := fun w' => w'.heap[P5]? = wr.heap[P5]? ∧ w'.heap[P7]? = wr.heap[P7]? ∧ w'.heap[P10]? = wr.heap[P10]? ∧ w'.heap[P6]? = wr.heap[P6]?) (by kernel_rfl) (⟨rfl, rfl, rfl, rfl⟩) (fun hHeld => ?_)
      have HHd := Lib.hid hHeld
      clear hHeld
      refine wpAnyH_take (i := 0) (oi := ⟨some 6, _, _, _, _, _⟩) (v := (.int .i64 (k : Int))) rfl (by kernel_rfl) (by kernel_rfl) (by kernel_rfl) (fun _ _ _ h => h) (Or.inl ⟨by rfl, ?_⟩) HHd.out ?_
      · intro w' hS; go_simp; try with_reducible rfl
      simp only [Act.put, List.setIfInBounds_toArray, List.set_cons_zero, List.set_cons_succ]
      refine wpAnyH_take (i := 1) (oi := ⟨some 7, _, _, _, _, _⟩) (v := (.int .i64 (M : Int))) rfl (by kernel_rfl) (by kernel_rfl) (by kernel_rfl) (fun _ _ _ h => h) (Or.inl ⟨by rfl, ?_⟩) HHd.out ?_
      · intro w' hS; have z0 := C5.out _ hS.1; go_simp; try with_reducible rfl
      simp only [Act.put, List.setIfInBounds_toArray, List.set_cons_zero, List.set_cons_succ]
      refine wpAnyH_take (i := 2) (oi := ⟨some 8, _, _, _, _, _⟩) (v := (.int .i64 (X : Int))) rfl (by kernel_rfl) (by kernel_rfl) (by kernel_rfl) (fun _ _ _ h => h) (Or.inl ⟨by rfl, ?_⟩) HHd.out ?_
      · intro w' hS; have z0 := C7.out _ hS.2.1; go_simp; try with_reducible rfl
      simp only [Act.put, List.setIfInBounds_toArray, List.set_cons_zero, List.set_cons_succ]
      refine wpAnyH_take (i := 3) (oi := ⟨some 9, _, _, _, _, _⟩) (v := (.int .i64 (T : Int))) rfl (by kernel_rfl) (by kernel_rfl) (by kernel_rfl) (fun _ _ _ h => h) (Or.inl ⟨by rfl, ?_⟩) HHd.out ?_
      · intro w' hS; go_simp; try with_reducible rfl
      simp only [Act.put, List.setIfInBounds_toArray, List.set_cons_zero, List.set_cons_succ]
      refine wpAnyH_take (i := 4) (oi := ⟨some 10, _, _, _, _, _⟩) (v := (.bool true)) rfl (by kernel_rfl) (by kernel_rfl) (by kernel_rfl) (fun _ _ _ h => h) (Or.inl ⟨by rfl, ?_⟩) HHd.out ?_
      · intro w' hS; go_simp; try with_reducible rfl
      simp only [Act.put, List.setIfInBounds_toArray, List.set_cons_zero, List.set_cons_succ]
      refine wpAnyH_take (i := 5) (oi := ⟨some 11, _, _, _, _, _⟩) (v := (.bool true)) rfl (by kernel_rfl) (by kernel_rfl) (by kernel_rfl) (fun _ _ _ h => h) (Or.inl ⟨by rfl, ?_⟩) HHd.out ?_
      · intro w' hS; go_simp; try with_reducible rfl
      simp only [Act.put, List.setIfInBounds_toArray, List.set_cons_zero, List.set_cons_succ]
      refine wpAnyH_take (i := 6) (oi := ⟨some 12, _, _, _, _, _⟩) (v := (.func (.func 46) #[.pointer (some ⟨S, 0, none⟩)] #[])) rfl (by kernel_rfl) (by kernel_rfl) (by kernel_rfl) (fun _ _ _ h => h) (Or.inl ⟨by rfl, ?_⟩) HHd.out ?_
      · intro w' hS; have z0 := C10.out _ hS.2.2.1; go_simp; try with_reducible rfl
      simp only [Act.put, List.setIfInBounds_toArray, List.set_cons_zero, List.set_cons_succ]
      refine wpAnyH_take (i := 8) (oi := ⟨some 14, _, _, _, _, _⟩) (v := (.float .f64 al)) rfl (by kernel_rfl) (by kernel_rfl) (by kernel_rfl) (fun _ _ _ h => h) (Or.inl ⟨by rfl, ?_⟩) HHd.out ?_
      · intro w' hS; have z0 := C6.out _ hS.2.2.2; go_simp; try with_reducible rfl
      simp only [Act.put, List.setIfInBounds_toArray, List.set_cons_zero, List.set_cons_succ]
      have HSD : Hid (Src wr.drew S ks q) := Lib.hid (HS.out.below ⟨rfl, rfl, rfl, Nat.le_refl _, fun _ _ => rfl⟩)
      have HBD : Hid (Boxes wr.drew S P5 P7 P10 P6 M X al) := Lib.hid ⟨HBX.out.b5, HBX.out.b7, HBX.out.b10, HBX.out.b6⟩
      refine wpAnyH_ready (rs := [7]) (by kernel_rfl) (by simp) ?_
      refine AllReadyH.cons (o := ⟨some 13, _, _, _, _, _⟩) rfl (fun K hK => ?_) AllReadyH.nil
      rw [if_pos (by rfl)]
      go_simp
      refine (HU.out q wr.drew HSD.out).mono ?_
      rintro e w2 ⟨rfl, hs2, hf2⟩
      (try simp only [Act.put, List.setIfInBounds_toArray, List.set_cons_zero, List.set_cons_succ])
      have HB2 : Hid (Boxes w2 S P5 P7 P10 P6 M X al) := Lib.hid (HBD.out.fr HSD.out hf2)
      have HS2 := Lib.hid hs2
      have HF2 : Hid (Fr (fun b => b = S) w w2) := Lib.hid (HF.out.drew.trans hf2)
      refine hK.out _ _ ⟨HB2.out.b5.trans HBX.out.b5.symm, HB2.out.b7.trans HBX.out.b7.symm, HB2.out.b10.trans HBX.out.b10.symm, HB2.out.b6.trans HBX.out.b6.symm⟩ (fun hHeld => ?_)
      clear hK K HHd hs2 hf2
      have HHd := Lib.hid hHeld
      clear hHeld
      have HYES : Hid (ltB (uW (numN ks q / 2048)) al = true → runF ks al T p = ((runF ks al (T - (k + 1)) (q + 8)).1 + (k + 1), (runF ks al (T - (k + 1)) (q + 8)).2)) := Lib.hid (fun h => by rw [HR.out, show T - k = (T - (k + 1)) + 1 from by omega, runF_yes h]; simp only [Nat.add_assoc, Nat.add_comm 1])
      have HNO : Hid (ltB (uW (numN ks q / 2048)) al = false → runF ks al T p = (k, q + 8)) := Lib.hid (fun h => by rw [HR.out, show T - k = (T - (k + 1)) + 1 from by omega, runF_no h, Nat.zero_add])
      obtain ⟨u, hu⟩ : ∃ u, u = uW (numN ks q / 2048) := ⟨_, rfl⟩
      rw [← hu] at HYES HNO ⊢
      clear hu
      cases hlb : ltB u al
      · have HNN := Lib.hid (HNO.out hlb)

        have hcm : (FloatKind.f64.format.order u al == some .lt) = false := hlb
        refine wpAnyH_take (i := 9) (oi := ⟨some 15, _, _, _, _, _⟩) (v := (.bool false)) rfl (by kernel_rfl) (by kernel_rfl) (by kernel_rfl) (fun _ _ _ h => h) (Or.inl ⟨by rfl, ?_⟩) HHd.out ?_
        · intro w' hS; go_simp; try with_reducible rfl
        simp only [Act.put, List.setIfInBounds_toArray, List.set_cons_zero, List.set_cons_succ]
        refine wpAnyH_take (i := 10) (oi := ⟨some 16, _, _, _, _, _⟩) (v := (.bool false)) rfl (by kernel_rfl) (by kernel_rfl) (by kernel_rfl) (fun _ _ _ h => h) (Or.inl ⟨by rfl, ?_⟩) HHd.out ?_
        · intro w' hS; go_simp; try with_reducible rfl
        simp only [Act.put, List.setIfInBounds_toArray, List.set_cons_zero, List.set_cons_succ]
        refine wpAnyH_done (by kernel_rfl) ?_ _
        go_wp2_with fail
        go_ret
        rw [HNN.out]
        exact ⟨rfl, HS2.out, HF2.out⟩
      · have HNN := Lib.hid (HYES.out hlb)
        have hcm : (FloatKind.f64.format.order u al == some .lt) = true := hlb
        refine wpAnyH_take (i := 9) (oi := ⟨some 15, _, _, _, _, _⟩) (v := (.bool true)) rfl (by kernel_rfl) (by kernel_rfl) (by kernel_rfl) (fun _ _ _ h => h) (Or.inl ⟨by rfl, ?_⟩) HHd.out ?_
        · intro w' hS; go_simp; try with_reducible rfl
        simp only [Act.put, List.setIfInBounds_toArray, List.set_cons_zero, List.set_cons_succ]
        refine wpAnyH_take (i := 10) (oi := ⟨some 16, _, _, _, _, _⟩) (v := (.bool true)) rfl (by kernel_rfl) (by kernel_rfl) (by kernel_rfl) (fun _ _ _ h => h) (Or.inl ⟨by rfl, ?_⟩) HHd.out ?_
        · intro w' hS; go_simp; try with_reducible rfl
        simp only [Act.put, List.setIfInBounds_toArray, List.set_cons_zero, List.set_cons_succ]
        refine wpAnyH_done (by kernel_rfl) ?_ _
        go_wp2_with fail
        go_roundw
        case rel => exact ⟨k + 1, q + 8, by simp, by omega, HB2, HS2, HNN, HF2⟩
        case measure => simp [intOf]; omega
    · obtain rfl : k = T := by omega
      have hge : decide ((k : Int) < (k : Int)) = false := by simp
      go_upto_region 2 with fail
      refine wp_region_held_drew (S := fun w' => w'.heap[P5]? = wr.heap[P5]? ∧ w'.heap[P7]? = wr.heap[P7]? ∧ w'.heap[P10]? = wr.heap[P10]? ∧ w'.heap[P6]? = wr.heap[P6]?) (by kernel_rfl) (⟨rfl, rfl, rfl, rfl⟩) (fun hHeld => ?_)
      have HHd := Lib.hid hHeld
      clear hHeld
      refine wpAnyH_take (i := 0) (oi := ⟨some 6, _, _, _, _, _⟩) (v := (.int .i64 (k : Int))) rfl (by kernel_rfl) (by kernel_rfl) (by kernel_rfl) (fun _ _ _ h => h) (Or.inl ⟨by rfl, ?_⟩) HHd.out ?_
      · intro w' hS; go_simp; try with_reducible rfl
      simp only [Act.put, List.setIfInBounds_toArray, List.set_cons_zero, List.set_cons_succ]
      refine wpAnyH_take (i := 1) (oi := ⟨some 7, _, _, _, _, _⟩) (v := (.int .i64 (M : Int))) rfl (by kernel_rfl) (by kernel_rfl) (by kernel_rfl) (fun _ _ _ h => h) (Or.inl ⟨by rfl, ?_⟩) HHd.out ?_
      · intro w' hS; have z0 := C5.out _ hS.1; go_simp; try with_reducible rfl
      simp only [Act.put, List.setIfInBounds_toArray, List.set_cons_zero, List.set_cons_succ]
      refine wpAnyH_take (i := 2) (oi := ⟨some 8, _, _, _, _, _⟩) (v := (.int .i64 (X : Int))) rfl (by kernel_rfl) (by kernel_rfl) (by kernel_rfl) (fun _ _ _ h => h) (Or.inl ⟨by rfl, ?_⟩) HHd.out ?_
      · intro w' hS; have z0 := C7.out _ hS.2.1; go_simp; try with_reducible rfl
      simp only [Act.put, List.setIfInBounds_toArray, List.set_cons_zero, List.set_cons_succ]
      refine wpAnyH_take (i := 3) (oi := ⟨some 9, _, _, _, _, _⟩) (v := (.int .i64 (k : Int))) rfl (by kernel_rfl) (by kernel_rfl) (by kernel_rfl) (fun _ _ _ h => h) (Or.inl ⟨by rfl, ?_⟩) HHd.out ?_
      · intro w' hS; go_simp; try with_reducible rfl
      simp only [Act.put, List.setIfInBounds_toArray, List.set_cons_zero, List.set_cons_succ]
      refine wpAnyH_take (i := 4) (oi := ⟨some 10, _, _, _, _, _⟩) (v := (.bool false)) rfl (by kernel_rfl) (by kernel_rfl) (by kernel_rfl) (fun _ _ _ h => h) (Or.inl ⟨by rfl, ?_⟩) HHd.out ?_
      · intro w' hS; go_simp; try with_reducible rfl
      simp only [Act.put, List.setIfInBounds_toArray, List.set_cons_zero, List.set_cons_succ]
      refine wpAnyH_take (i := 5) (oi := ⟨some 11, _, _, _, _, _⟩) (v := (.bool false)) rfl (by kernel_rfl) (by kernel_rfl) (by kernel_rfl) (fun _ _ _ h => h) (Or.inl ⟨by rfl, ?_⟩) HHd.out ?_
      · intro w' hS; go_simp; try with_reducible rfl
      simp only [Act.put, List.setIfInBounds_toArray, List.set_cons_zero, List.set_cons_succ]
      refine wpAnyH_take (i := 6) (oi := ⟨some 12, _, _, _, _, _⟩) (v := undef) rfl (by kernel_rfl) (by kernel_rfl) (by kernel_rfl) (fun _ _ _ h => h) (Or.inr ⟨by rfl, rfl⟩) (HHd.out) ?_
      simp only [Act.put, List.setIfInBounds_toArray, List.set_cons_zero, List.set_cons_succ]
      refine wpAnyH_take (i := 7) (oi := ⟨some 13, _, _, _, _, _⟩) (v := undef) rfl (by kernel_rfl) (by kernel_rfl) (by kernel_rfl) (fun _ _ _ h => h) (Or.inr ⟨by rfl, rfl⟩) (HHd.out) ?_
      simp only [Act.put, List.setIfInBounds_toArray, List.set_cons_zero, List.set_cons_succ]
      refine wpAnyH_take (i := 8) (oi := ⟨some 14, _, _, _, _, _⟩) (v := undef) rfl (by kernel_rfl) (by kernel_rfl) (by kernel_rfl) (fun _ _ _ h => h) (Or.inr ⟨by rfl, rfl⟩) (HHd.out) ?_
      simp only [Act.put, List.setIfInBounds_toArray, List.set_cons_zero, List.set_cons_succ]
      refine wpAnyH_take (i := 9) (oi := ⟨some 15, _, _, _, _, _⟩) (v := undef) rfl (by kernel_rfl) (by kernel_rfl) (by kernel_rfl) (fun _ _ _ h => h) (Or.inr ⟨by rfl, rfl⟩) (HHd.out) ?_
      simp only [Act.put, List.setIfInBounds_toArray, List.set_cons_zero, List.set_cons_succ]
      refine wpAnyH_take (i := 10) (oi := ⟨some 16, _, _, _, _, _⟩) (v := (.bool false)) rfl (by kernel_rfl) (by kernel_rfl) (by kernel_rfl) (fun _ _ _ h => h) (Or.inl ⟨by rfl, ?_⟩) HHd.out ?_
      · intro w' hS; go_simp; try with_reducible rfl
      simp only [Act.put, List.setIfInBounds_toArray, List.set_cons_zero, List.set_cons_succ]
      refine wpAnyH_done (by kernel_rfl) ?_ _
      have HSD : Hid (Src wr.drew S ks q) := Lib.hid (HS.out.below ⟨rfl, rfl, rfl, Nat.le_refl _, fun _ _ => rfl⟩)
      have HF2 : Hid (Fr (fun b => b = S) w wr.drew) := Lib.hid HF.out.drew
      have HR2 : Hid (runF ks al k p = (k, q)) := Lib.hid (by rw [HR.out, Nat.sub_self]; show ((0 : Nat) + k, q) = _; rw [Nat.zero_add])
      go_wp2_with fail
      go_ret
      rw [HR2.out]
      exact ⟨rfl, HSD.out, HF2.out⟩

/-- How much noise is added. -/
def lapM (M X g h : Nat) : Nat := min X (M + g - h)
def lapP (ks : List Int) (al M X p : Nat) : Nat := (runF ks al (M + X) (runF ks al (M + X) p).2).2
def lapN (ks : List Int) (al M X p : Nat) : Nat := lapM M X (runF ks al (M + X) p).1 (runF ks al (M + X) (runF ks al (M + X) p).2).1

set_option maxRecDepth 100000 in
set_option maxHeartbeats 8000000 in
theorem laplace_ok (S M X al : Nat) (ks : List Int) (p : Nat) (w : World) (hs : Src w S ks p) (hk : ks.length = 32) (bk : B8 ks) (hX : X ≤ 64) (hM : M ≤ X) (h0 : (FloatKind.f64.format.order al 0 == some .gt || FloatKind.f64.format.order al 0 == some .eq) = true) (h1 : (FloatKind.f64.format.order al 4607182418800017408 == some .lt) = true) :
    Calls Try.prog 44 #[.pointer (some ⟨S, 0, none⟩), .int .i64 (M : Int), .float .f64 al, .int .i64 (X : Int)] w fun e w' => e = .returned (.tuple #[.int .i64 (lapN ks al M X p : Nat), .int .i64 0]) ∧ Src w' S ks (lapP ks al M X p) ∧ Fr (fun b => b = S) w w' := by
  have HRN := Lib.hid (fun P5 P7 P10 P6 q W hb hs => run_any S P5 P7 P10 P6 M X al ks q W hb hs hk bk (by omega) hX)
  have HS := Lib.hid hs
  have d1 : decide ((X : Int) < 0) = false := by simp
  have d2 : decide ((64 : Int) < (X : Int)) = false := by simp; omega
  have d3 : decide ((M : Int) < 0) = false := by simp
  have d4 : decide ((X : Int) < (M : Int)) = false := by simp; omega
  clear hs hk bk
  have HMX : Hid (M + X ≤ 128 ∧ M ≤ X ∧ X ≤ 64) := Lib.hid (by omega)
  go_enter Try.func44, Try.ntmps44
  go_upto_region 7 with fail
  generalize hG : w.heap.size = G
  generalize hW4 : ((w.alloc _).alloc _).alloc _ = w4
  have B5 : Hid (Blk w4 G 3 [.int .i64 (M : Int)]) := Lib.hid (by rw [← hW4]; exact ((Blk.new_at w 3 [.int .i64 (M : Int)] hG.symm).alloc _).alloc _)
  have B6 : Hid (Blk w4 (G + 1) 22 [.float .f64 al]) := Lib.hid (by rw [← hW4]; exact (Blk.new_at _ 22 [.float .f64 al] (by rw [← hG]; simp)).alloc _)
  have B7 : Hid (Blk w4 (G + 1 + 1) 3 [.int .i64 (X : Int)]) := Lib.hid (by rw [← hW4]; exact Blk.new_at _ 3 [.int .i64 (X : Int)] (by rw [← hG]; simp))
  have F4 : Hid (Below G w w4) := Lib.hid (by rw [← hW4]; exact (((Below.refl _ w).alloc (by omega) _).alloc (by simp; omega) _).alloc (by simp; omega) _)
  have HGE := Lib.hid hG
  have HS4 : Hid (Src w4 S ks p) := Lib.hid (HS.out.below (by rw [hG]; exact F4.out))
  clear hG hW4
  have BN : Hid (Blk (w4.alloc (.cells #[.nilFunc] 93)) w4.heap.size 93 [.nilFunc]) := Lib.hid (Blk.new w4 93 [.nilFunc])
  have hst : (store ⟨w4.heap.size, 0, none⟩ (.func (.func 46) #[.pointer (some ⟨S, 0, none⟩)] #[])).run Try.prog (w4.alloc (.cells #[.nilFunc] 93)) = .ok () ((w4.alloc (.cells #[.nilFunc] 93)).setCell ⟨w4.heap.size, 0, none⟩ (.func (.func 46) #[.pointer (some ⟨S, 0, none⟩)] #[])) := by
    rw [run_store _ _ _ _ _ rfl, BN.out.cell 0, BN.out.frozen 0]
    rfl
  go_upto_region 8 with fail
  generalize hP : w4.heap.size = P10 at *
  have BN2 : Hid (Blk (w4.alloc (.cells #[.func (.func 46) #[.pointer (some ⟨S, 0, none⟩)] #[]] 93)) P10 93 [.func (.func 46) #[.pointer (some ⟨S, 0, none⟩)] #[]]) := Lib.hid (Blk.new_at w4 93 _ hP.symm)
  generalize hW5 : w4.alloc (.cells #[.func (.func 46) #[.pointer (some ⟨S, 0, none⟩)] #[]] 93) = w5 at *
  have F5 : Hid (Fr (fun _ => False) w4 w5) := Lib.hid (by
    rw [← hW5]
    exact (Fr.refl (fun _ => False) w4).alloc _)
  have HB5 : Hid (Boxes w5 S G (G + 1 + 1) P10 (G + 1) M X al) := Lib.hid ⟨B5.out.fr F5.out (fun h => h), B7.out.fr F5.out (fun h => h), BN2.out, B6.out.fr F5.out (fun h => h)⟩
  have HS5 : Hid (Src w5 S ks p) := Lib.hid (HS4.out.fr F5.out (fun h => h) (fun _ _ _ h => h))
  have HF5 : Hid (Fr (fun b => b = S) w w5) := Lib.hid ((Fr.of_below (by rw [HGE.out]; exact F4.out) _).trans (F5.out.mono (fun _ h => h.elim)))
  clear hW5 hP BN BN2 B5 B6 B7 HS4 F4 F5 hst
  go_wp2_with fail
  refine (HRN.out _ _ _ _ p w5 HB5.out HS5.out).mono ?_
  rintro e w6 ⟨rfl, hs6, hf6⟩
  have HB6 := Lib.hid (HB5.out.fr HS5.out hf6)
  have HS6 := Lib.hid hs6
  have HF6 := Lib.hid (HF5.out.trans hf6)
  have HL1 := Lib.hid (runF_le ks al (M + X) p)
  clear hs6 hf6 HB5 HS5 HF5
  go_wp2_with fail
  refine (HRN.out _ _ _ _ _ w6 HB6.out HS6.out).mono ?_
  rintro e w7 ⟨rfl, hs7, hf7⟩
  have HB7 := Lib.hid (HB6.out.fr HS6.out hf7)
  have HS7 := Lib.hid hs7
  have HF7 := Lib.hid (HF6.out.trans hf7)
  have HL2 := Lib.hid (runF_le ks al (M + X) (runF ks al (M + X) p).2)
  have HLN : Hid (∀ g h : Nat, g = (runF ks al (M + X) p).1 → h = (runF ks al (M + X) (runF ks al (M + X) p).2).1 → lapN ks al M X p = lapM M X g h) := Lib.hid (fun g h h1 h2 => by rw [h1, h2]; rfl)
  clear hs7 hf7 HB6 HS6 HF6 HRN
  obtain ⟨g, hg⟩ : ∃ g, g = (runF ks al (M + X) p).1 := ⟨_, rfl⟩
  obtain ⟨gD, hh⟩ : ∃ gD, gD = (runF ks al (M + X) (runF ks al (M + X) p).2).1 := ⟨_, rfl⟩
  have HLE := Lib.hid (HLN.out g gD hg hh)
  rw [← hg, ← hh]
  rw [← hg] at HL1
  rw [← hh] at HL2
  clear hg hh HLN
  have c7 : w7.cell? ⟨G + 1 + 1, 0, none⟩ = some (.int .i64 (X : Int)) := HB7.out.b7.cell 0
  have c5 : w7.cell? ⟨G, 0, none⟩ = some (.int .i64 (M : Int)) := HB7.out.b5.cell 0
  have hgl := HL1.out
  have hhl := HL2.out
  have hmx := HMX.out
  have hw1 : IntKind.i64.wrap ((M : Int) + (g : Int)) = ((M + g : Nat) : Int) := by rw [IntKind.wrap_i64] <;> omega
  have hw2 : IntKind.i64.wrap (((M + g : Nat) : Int) - (gD : Int)) = ((M + g : Nat) : Int) - (gD : Int) := by rw [IntKind.wrap_i64] <;> omega
  have HEN : Hid (∀ z : Int, z = ((lapM M X g gD : Nat) : Int) → Ending.returned (.tuple #[.int .i64 z, .int .i64 0]) = Ending.returned (.tuple #[.int .i64 (lapN ks al M X p : Nat), .int .i64 0])) := Lib.hid (fun z hz => by rw [hz, HLE.out])
  go_wp2_with fail
  all_goals go_ret2
  all_goals refine ⟨HEN.out _ ?_, HS7.out, HF7.out⟩
  all_goals unfold lapM
  all_goals (try split at *) <;> omega

end Go.Proofs.Ytcfbaildcocnhaa

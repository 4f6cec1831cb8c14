/-
  Walk: the law StreamPlays.
-/
import Derived.Test.YtldbmjkecmmmjaaPs
set_option linter.unusedVariables false
set_option linter.unusedSimpArgs false
namespace Go.Proofs.Ytldbmjkecmmmjaa
open Go.RowKit

/-- A step as its cells tell it. -/
structure Stp where
  d : Int
  n : Int
  A : Option Addr
  m : Nat
  c : Nat
  xs : List Int
/-- A row of steps. -/
def RdS (w : World) (A : Option Addr) (ss : Nat → Stp) (m : Nat) : Prop := ∀ i, i < m → ∃ b off, A = some ⟨b, off, none⟩ ∧ b < w.heap.size ∧
  w.cell? ⟨b, off + i * 3, none⟩ = some (.int .i64 (ss i).d) ∧ w.cell? ⟨b, off + i * 3 + 1, none⟩ = some (.int .i64 (ss i).n) ∧ w.cell? ⟨b, off + i * 3 + 2, none⟩ = some (.slice (ss i).A (ss i).m (ss i).c)
structure StpOk (w : World) (s : Stp) : Prop where
  n : -9223372036854775808 ≤ s.n ∧ s.n ≤ 9223372036854775807
  m : s.m = s.xs.length
  rd : Rd w .u8 s.A s.xs
  b8 : B8 s.xs
  len : s.xs.length ≤ 140737488351232
theorem RdS.below {w w' : World} {A : Option Addr} {ss : Nat → Stp} {m : Nat} (h : RdS w A ss m) (hb : Below w.heap.size w w') : RdS w' A ss m := fun i hi => by
  obtain ⟨b, off, hA, hlt, h0, h1, h2⟩ := h i hi
  exact ⟨b, off, hA, Nat.lt_of_lt_of_le hlt hb.size, (hb.cell (p := ⟨b, _, none⟩) hlt).trans h0, (hb.cell (p := ⟨b, _, none⟩) hlt).trans h1, (hb.cell (p := ⟨b, _, none⟩) hlt).trans h2⟩
/-- Two beginnings and two scripts. -/
def TWl (ka na : List Int) (ca : Nat) (kb nb : List Int) (cb : Nat) (s t : Value) : List Value := BGl ka na ca ++ (BGl kb nb cb ++ [s, t])
def TWA (ka na : List Int) (ca : Nat) (kb nb : List Int) (cb : Nat) (s t : Value) : Array Value := (TWl ka na ca kb nb cb s t).toArray
theorem TWA_eq (ka na : List Int) (ca : Nat) (kb nb : List Int) (cb : Nat) (s t : Value) : TWA ka na ca kb nb cb s t = (TWl ka na ca kb nb cb s t).toArray := rfl
attribute [irreducible] TWA
theorem BGl_len {k n : List Int} {c : Nat} (hk : k.length = 32) (hn : n.length = 12) : (BGl k n c).length = 45 := by simp [BGl, hk, hn]
theorem range_sub {w : World} {g o : Nat} {a b : List Value} (h : w.rangeAt g o (a ++ b)) : w.rangeAt g o a ∧ w.rangeAt g (o + a.length) b := by
  refine ⟨fun j v hv => h j v ?_, fun j v hv => ?_⟩
  · rw [List.getElem?_append_left (List.getElem?_eq_some_iff.1 hv).1]; exact hv
  · rw [Nat.add_assoc]
    refine h _ v ?_
    rw [List.getElem?_append_right (by omega), Nat.add_sub_cancel_left]; exact hv
theorem TWl_range {w : World} {g T : Nat} {ka na : List Int} {ca : Nat} {kb nb : List Int} {cb : Nat} {s t : Value} (h : Blk w g T (TWl ka na ca kb nb cb s t)) (h1 : ka.length = 32) (h2 : na.length = 12) (h3 : kb.length = 32) (h4 : nb.length = 12) :
    (w.rangeAt g 0 (ka.map (Value.int .u8)) ∧ w.rangeAt g 32 (na.map (Value.int .u8)) ∧ w.cell? ⟨g, 44, none⟩ = some (.int .u32 (ca : Int))) ∧
    (w.rangeAt g 45 (kb.map (Value.int .u8)) ∧ w.rangeAt g 77 (nb.map (Value.int .u8)) ∧ w.cell? ⟨g, 89, none⟩ = some (.int .u32 (cb : Int))) ∧
    w.cell? ⟨g, 90, none⟩ = some s ∧ w.cell? ⟨g, 91, none⟩ = some t := by
  have h0 : w.rangeAt g 0 (TWl ka na ca kb nb cb s t) := fun j v hv => by rw [h.cell, Nat.zero_add]; exact hv
  obtain ⟨r1, r2⟩ := range_sub h0
  obtain ⟨r3, r4⟩ := range_sub r2
  obtain ⟨a1, a2⟩ := range_sub r1
  obtain ⟨a3, a4⟩ := range_sub a2
  obtain ⟨b1, b2⟩ := range_sub r3
  obtain ⟨b3, b4⟩ := range_sub b2
  have e1 : (BGl ka na ca).length = 45 := BGl_len h1 h2
  have e2 : (BGl kb nb cb).length = 45 := BGl_len h3 h4
  simp only [List.length_map, h1, h2, h3, h4, e1, e2, Nat.zero_add] at a1 a3 a4 b1 b3 b4 r4
  exact ⟨⟨a1, a3, a4 0 _ rfl⟩, ⟨b1, b3, b4 0 _ rfl⟩, r4 0 _ rfl, r4 1 _ rfl⟩
/-- Two streams, the program's and the document's, at one place. -/
def Duo (ks ns : List Int) (g r : Nat) (w : World) : Prop := ∃ p, p ≤ 274877906944 ∧ Blk w g 87 (SGl ks ns p) ∧ Blk w r 66 (SGl ks ns p)
theorem Duo.fr {ks ns : List Int} {g r : Nat} {S : Nat → Prop} {w w' : World} (h : Duo ks ns g r w) (hf : Fr S w w') (h1 : ¬ S g) (h2 : ¬ S r) : Duo ks ns g r w' := by
  obtain ⟨p, hp, a, b⟩ := h
  exact ⟨p, hp, a.fr hf h1, b.fr hf h2⟩

set_option maxRecDepth 100000 in
set_option maxHeartbeats 16000000 in
theorem plays_law (RB : ∀ (ks ns : List Int) (c : Nat) (w : World), ks.length = 32 → ns.length = 12 → B8 ks → B8 ns → c < 4294967296 →
      Calls Try.prog 16 #[.agg (AY .u8 ks), .int .u32 (c : Int), .agg (AY .u8 ns)] w fun e w' => e = .returned (.agg (AY .u8 (blkL ks ns c))) ∧ Below w.heap.size w w')
    (ka na : List Int) (ca : Nat) (kb nb : List Int) (cb : Nat) (S1 : Option Addr) (k1 c1 : Nat) (f1 : Nat → Stp) (S2 : Option Addr) (k2 c2 : Nat) (f2 : Nat → Stp) (w : World)
    (hka : ka.length = 32) (hna : na.length = 12) (bka : B8 ka) (bna : B8 na) (hca : ca < 4294967296) (hkb : kb.length = 32) (hnb : nb.length = 12) (bkb : B8 kb) (bnb : B8 nb) (hcb : cb < 4294967296)
    (hs1 : RdS w S1 f1 k1) (hs2 : RdS w S2 f2 k2) (ho1 : ∀ i, i < k1 → StpOk w (f1 i)) (ho2 : ∀ i, i < k2 → StpOk w (f2 i)) (hk1 : k1 ≤ 140737488354000) (hk2 : k2 ≤ 140737488354000) :
    Calls Try.prog 10 #[.agg (TWA ka na ca kb nb cb (.slice S1 k1 c1) (.slice S2 k2 c2))] w fun e w' => e = .returned (.bool true) ∧ Below w.heap.size w w' := by
  have HS1 := Lib.hid hs1
  have HS2 := Lib.hid hs2
  obtain ⟨D, hD⟩ : ∃ D, D = w.heap.size := ⟨_, rfl⟩
  have HNA : Hid (∀ W, Calls Try.prog 27 #[.agg (AY .u8 ka), .agg (AY .u8 na), .int .u32 (ca : Int)] W fun e w' => ∃ g, e = .returned (.pointer (some ⟨g, 0, none⟩)) ∧ W.heap.size ≤ g ∧ Blk w' g 87 (SGl ka na (64 * ca)) ∧ Below W.heap.size W w') := Lib.hid (fun W => new_any ka na ca W hka hna hca)
  have HNB : Hid (∀ W, Calls Try.prog 27 #[.agg (AY .u8 kb), .agg (AY .u8 nb), .int .u32 (cb : Int)] W fun e w' => ∃ g, e = .returned (.pointer (some ⟨g, 0, none⟩)) ∧ W.heap.size ≤ g ∧ Blk w' g 87 (SGl kb nb (64 * cb)) ∧ Below W.heap.size W w') := Lib.hid (fun W => new_any kb nb cb W hkb hnb hcb)
  have HRA : Hid (∀ W, Calls Try.prog 18 #[.agg (AY .u8 ka), .agg (AY .u8 na), .int .u32 (ca : Int)] W fun e w' => ∃ g, e = .returned (.pointer (some ⟨g, 0, none⟩)) ∧ W.heap.size ≤ g ∧ Blk w' g 66 (SGl ka na (64 * ca)) ∧ Below W.heap.size W w') := Lib.hid (fun W => rnew_any ka na ca W hka hna hca)
  have HRB : Hid (∀ W, Calls Try.prog 18 #[.agg (AY .u8 kb), .agg (AY .u8 nb), .int .u32 (cb : Int)] W fun e w' => ∃ g, e = .returned (.pointer (some ⟨g, 0, none⟩)) ∧ W.heap.size ≤ g ∧ Blk w' g 66 (SGl kb nb (64 * cb)) ∧ Below W.heap.size W w') := Lib.hid (fun W => rnew_any kb nb cb W hkb hnb hcb)
  have HATA : Hid (∀ g p W, Blk W g 87 (SGl ka na p) → Calls Try.prog 29 #[.pointer (some ⟨g, 0, none⟩)] W fun e w' => e = .returned (.int .u64 (p : Int)) ∧ w' = W) := Lib.hid (fun g p W hg => at_any g ka na p W hg hka hna)
  have HATB : Hid (∀ g p W, Blk W g 87 (SGl kb nb p) → Calls Try.prog 29 #[.pointer (some ⟨g, 0, none⟩)] W fun e w' => e = .returned (.int .u64 (p : Int)) ∧ w' = W) := Lib.hid (fun g p W hg => at_any g kb nb p W hg hkb hnb)
  have HPLA : Hid (∀ g p W, Blk W g 66 (SGl ka na p) → W.cell? ⟨g, 44, none⟩ = some (.int .u64 ((p : Nat) : Int))) := Lib.hid (fun g p W h => (SGl_range h hka hna).2.2)
  have HPLB : Hid (∀ g p W, Blk W g 66 (SGl kb nb p) → W.cell? ⟨g, 44, none⟩ = some (.int .u64 ((p : Nat) : Int))) := Lib.hid (fun g p W h => (SGl_range h hkb hnb).2.2)
  have step : ∀ (ks ns : List Int) (g r i k : Nat) (f : Nat → Stp) W, ks.length = 32 → ns.length = 12 → B8 ks → B8 ns → (∀ i, i < k → StpOk w (f i)) → Below D w W → i < k → D < g → D < r → Duo ks ns g r W → Calls Try.prog 32 #[.pointer (some ⟨g, 0, none⟩), .pointer (some ⟨r, 0, none⟩), .agg #[.int .i64 (f i).d, .int .i64 (f i).n, .slice (f i).A (f i).m (f i).c]] W fun e w' => e = .returned (.bool true) ∧ Duo ks ns g r w' ∧ Hid (Fr (fun j => j = g ∨ j = r) W w') := fun ks ns g r i k f W h1 h2 h3 h4 ho hb hi hg hr hd => by
    obtain ⟨p, hp, d1, d2⟩ := hd
    have o := ho i hi
    refine (step_any RB g r (f i).d (f i).n (f i).A (f i).m (f i).c (f i).xs ks ns p W o.n o.m (o.rd.below (by rw [← hD]; exact hb)) o.b8 o.len (fun h0 a ha => by
      obtain ⟨b0, o0, hb0, hc0⟩ := o.rd 0 h0
      rw [hb0] at ha
      injection ha with ha
      subst ha
      have := World.block_lt_of_cell? w _ hc0
      simp at this ⊢
      omega) d1 d2 hp h1 h2 h3 h4).mono ?_
    rintro e w' ⟨rfl, p', hp', e1, e2, e3⟩
    exact ⟨rfl, ⟨p', hp', e1, e2⟩, Lib.hid e3⟩
  have HSTA : Hid (∀ (g r i : Nat) W, Below D w W → i < k1 → D < g → D < r → Duo ka na g r W → Calls Try.prog 32 #[.pointer (some ⟨g, 0, none⟩), .pointer (some ⟨r, 0, none⟩), .agg #[.int .i64 (f1 i).d, .int .i64 (f1 i).n, .slice (f1 i).A (f1 i).m (f1 i).c]] W fun e w' => e = .returned (.bool true) ∧ Duo ka na g r w' ∧ Hid (Fr (fun j => j = g ∨ j = r) W w')) := Lib.hid (fun g r i W => step ka na g r i k1 f1 W hka hna bka bna ho1)
  have HSTB : Hid (∀ (g r i : Nat) W, Below D w W → i < k2 → D < g → D < r → Duo kb nb g r W → Calls Try.prog 32 #[.pointer (some ⟨g, 0, none⟩), .pointer (some ⟨r, 0, none⟩), .agg #[.int .i64 (f2 i).d, .int .i64 (f2 i).n, .slice (f2 i).A (f2 i).m (f2 i).c]] W fun e w' => e = .returned (.bool true) ∧ Duo kb nb g r w' ∧ Hid (Fr (fun j => j = g ∨ j = r) W w')) := Lib.hid (fun g r i W => step kb nb g r i k2 f2 W hkb hnb bkb bnb ho2)
  have I31a : Hid ((Try.prog.info? 31).map (·.size) = some ka.length) := Lib.hid (by rw [info31, hka])
  have I33a : Hid ((Try.prog.info? 33).map (·.size) = some na.length) := Lib.hid (by rw [info33, hna])
  have I31b : Hid ((Try.prog.info? 31).map (·.size) = some kb.length) := Lib.hid (by rw [info31, hkb])
  have I33b : Hid ((Try.prog.info? 33).map (·.size) = some nb.length) := Lib.hid (by rw [info33, hnb])
  have HR3 : Hid (∀ W, Blk W D 64 (TWl ka na ca kb nb cb (.slice S1 k1 c1) (.slice S2 k2 c2)) → _) := Lib.hid (fun W h => TWl_range h hka hna hkb hnb)
  obtain ⟨w0, hw0⟩ : ∃ w0, w0 = w.alloc (.cells (TWA ka na ca kb nb cb (.slice S1 k1 c1) (.slice S2 k2 c2)) 64) := ⟨_, rfl⟩
  have HXw0 : Hid (Blk w0 D 64 (TWl ka na ca kb nb cb (.slice S1 k1 c1) (.slice S2 k2 c2))) := Lib.hid (by rw [hw0, hD, TWA_eq]; exact Blk.new w 64 _)
  have B0 : Hid (Below D w w0) := Lib.hid (by rw [hw0, hD]; exact (Below.refl _ w).alloc (Nat.le_refl _) _)
  have HDE := Lib.hid hD
  have HCC : Hid (64 * ca ≤ 274877906944 ∧ 64 * cb ≤ 274877906944) := Lib.hid (by omega)
  clear hs1 hs2 ho1 ho2 hka hna bka bna hkb hnb bkb bnb RB step
  go_enter Try.func10, Try.ntmps10
  go_upto_region 1 with fail
  rw [← hD, ← hw0]
  clear hD hw0
  refine wp_region_held_drew (S := fun w' => w'.heap[D]? = w0.heap[D]?) (by kernel_rfl) (rfl) (fun hHeld => ?_)
  have HHd := Lib.hid hHeld
  clear hHeld
  refine wpAnyH_take (i := 0) (oi := ⟨some 8, _, _, _, _, _⟩) (v := (.pointer (some ⟨D, 0, none⟩))) rfl (by kernel_rfl) (by kernel_rfl) (by kernel_rfl) (fun _ _ _ h => h) (Or.inl ⟨by rfl, ?_⟩) HHd.out ?_
  · intro w' hS; go_simp; try with_reducible rfl
  simp only [Act.put, List.setIfInBounds_toArray, List.set_cons_zero, List.set_cons_succ]
  refine wpAnyH_take (i := 1) (oi := ⟨some 9, _, _, _, _, _⟩) (v := (.pointer (some ⟨D, 0, none⟩))) rfl (by kernel_rfl) (by kernel_rfl) (by kernel_rfl) (fun _ _ _ h => h) (Or.inl ⟨by rfl, ?_⟩) HHd.out ?_
  · intro w' hS; go_simp; try with_reducible rfl
  simp only [Act.put, List.setIfInBounds_toArray, List.set_cons_zero, List.set_cons_succ]
  refine wpAnyH_take (i := 2) (oi := ⟨some 10, _, _, _, _, _⟩) (v := (.agg (AY .u8 ka))) rfl (by kernel_rfl) (by kernel_rfl) (by kernel_rfl) (fun _ _ _ h => h) (Or.inl ⟨by rfl, ?_⟩) HHd.out ?_
  · intro w' hS; exact exec_load_AY 31 _ rfl D 0 (by rfl) .u8 ka _ (range_of_block (HR3.out w0 HXw0.out).1.1 hS) Try.underlying31 rfl I31a.out
  simp only [Act.put, List.setIfInBounds_toArray, List.set_cons_zero, List.set_cons_succ]
  refine wpAnyH_take (i := 3) (oi := ⟨some 11, _, _, _, _, _⟩) (v := (.pointer (some ⟨D, 0, none⟩))) rfl (by kernel_rfl) (by kernel_rfl) (by kernel_rfl) (fun _ _ _ h => h) (Or.inl ⟨by rfl, ?_⟩) HHd.out ?_
  · intro w' hS; go_simp; try with_reducible rfl
  simp only [Act.put, List.setIfInBounds_toArray, List.set_cons_zero, List.set_cons_succ]
  refine wpAnyH_take (i := 4) (oi := ⟨some 12, _, _, _, _, _⟩) (v := (.pointer (some ⟨D, 32, none⟩))) rfl (by kernel_rfl) (by kernel_rfl) (by kernel_rfl) (fun _ _ _ h => h) (Or.inl ⟨by rfl, ?_⟩) HHd.out ?_
  · intro w' hS; go_simp; try with_reducible rfl
  simp only [Act.put, List.setIfInBounds_toArray, List.set_cons_zero, List.set_cons_succ]
  refine wpAnyH_take (i := 5) (oi := ⟨some 13, _, _, _, _, _⟩) (v := (.agg (AY .u8 na))) rfl (by kernel_rfl) (by kernel_rfl) (by kernel_rfl) (fun _ _ _ h => h) (Or.inl ⟨by rfl, ?_⟩) HHd.out ?_
  · intro w' hS; exact exec_load_AY 33 _ rfl D 32 (by rfl) .u8 na _ (range_of_block (HR3.out w0 HXw0.out).1.2.1 hS) Try.underlying33 rfl I33a.out
  simp only [Act.put, List.setIfInBounds_toArray, List.set_cons_zero, List.set_cons_succ]
  refine wpAnyH_take (i := 6) (oi := ⟨some 14, _, _, _, _, _⟩) (v := (.pointer (some ⟨D, 0, none⟩))) rfl (by kernel_rfl) (by kernel_rfl) (by kernel_rfl) (fun _ _ _ h => h) (Or.inl ⟨by rfl, ?_⟩) HHd.out ?_
  · intro w' hS; go_simp; try with_reducible rfl
  simp only [Act.put, List.setIfInBounds_toArray, List.set_cons_zero, List.set_cons_succ]
  refine wpAnyH_take (i := 7) (oi := ⟨some 15, _, _, _, _, _⟩) (v := (.pointer (some ⟨D, 44, none⟩))) rfl (by kernel_rfl) (by kernel_rfl) (by kernel_rfl) (fun _ _ _ h => h) (Or.inl ⟨by rfl, ?_⟩) HHd.out ?_
  · intro w' hS; go_simp; try with_reducible rfl
  simp only [Act.put, List.setIfInBounds_toArray, List.set_cons_zero, List.set_cons_succ]
  refine wpAnyH_take (i := 8) (oi := ⟨some 16, _, _, _, _, _⟩) (v := (.int .u32 (ca : Int))) rfl (by kernel_rfl) (by kernel_rfl) (by kernel_rfl) (fun _ _ _ h => h) (Or.inl ⟨by rfl, ?_⟩) HHd.out ?_
  · intro w' hS; have z0 : w'.cell? ⟨D, 44, none⟩ = some (.int .u32 (ca : Int)) := (World.cell?_of_block (w := w0) (w' := w') hS).trans (HR3.out w0 HXw0.out).1.2.2; go_simp; try with_reducible rfl
  simp only [Act.put, List.setIfInBounds_toArray, List.set_cons_zero, List.set_cons_succ]
  refine wpAnyH_take (i := 10) (oi := ⟨some 18, _, _, _, _, _⟩) (v := (.pointer (some ⟨D, 45, none⟩))) rfl (by kernel_rfl) (by kernel_rfl) (by kernel_rfl) (fun _ _ _ h => h) (Or.inl ⟨by rfl, ?_⟩) HHd.out ?_
  · intro w' hS; go_simp; try with_reducible rfl
  simp only [Act.put, List.setIfInBounds_toArray, List.set_cons_zero, List.set_cons_succ]
  refine wpAnyH_take (i := 11) (oi := ⟨some 19, _, _, _, _, _⟩) (v := (.pointer (some ⟨D, 45, none⟩))) rfl (by kernel_rfl) (by kernel_rfl) (by kernel_rfl) (fun _ _ _ h => h) (Or.inl ⟨by rfl, ?_⟩) HHd.out ?_
  · intro w' hS; go_simp; try with_reducible rfl
  simp only [Act.put, List.setIfInBounds_toArray, List.set_cons_zero, List.set_cons_succ]
  refine wpAnyH_take (i := 12) (oi := ⟨some 20, _, _, _, _, _⟩) (v := (.agg (AY .u8 kb))) rfl (by kernel_rfl) (by kernel_rfl) (by kernel_rfl) (fun _ _ _ h => h) (Or.inl ⟨by rfl, ?_⟩) HHd.out ?_
  · intro w' hS; exact exec_load_AY 31 _ rfl D 45 (by rfl) .u8 kb _ (range_of_block (HR3.out w0 HXw0.out).2.1.1 hS) Try.underlying31 rfl I31b.out
  simp only [Act.put, List.setIfInBounds_toArray, List.set_cons_zero, List.set_cons_succ]
  refine wpAnyH_take (i := 13) (oi := ⟨some 21, _, _, _, _, _⟩) (v := (.pointer (some ⟨D, 45, none⟩))) rfl (by kernel_rfl) (by kernel_rfl) (by kernel_rfl) (fun _ _ _ h => h) (Or.inl ⟨by rfl, ?_⟩) HHd.out ?_
  · intro w' hS; go_simp; try with_reducible rfl
  simp only [Act.put, List.setIfInBounds_toArray, List.set_cons_zero, List.set_cons_succ]
  refine wpAnyH_take (i := 14) (oi := ⟨some 22, _, _, _, _, _⟩) (v := (.pointer (some ⟨D, 77, none⟩))) rfl (by kernel_rfl) (by kernel_rfl) (by kernel_rfl) (fun _ _ _ h => h) (Or.inl ⟨by rfl, ?_⟩) HHd.out ?_
  · intro w' hS; go_simp; try with_reducible rfl
  simp only [Act.put, List.setIfInBounds_toArray, List.set_cons_zero, List.set_cons_succ]
  refine wpAnyH_take (i := 15) (oi := ⟨some 23, _, _, _, _, _⟩) (v := (.agg (AY .u8 nb))) rfl (by kernel_rfl) (by kernel_rfl) (by kernel_rfl) (fun _ _ _ h => h) (Or.inl ⟨by rfl, ?_⟩) HHd.out ?_
  · intro w' hS; exact exec_load_AY 33 _ rfl D 77 (by rfl) .u8 nb _ (range_of_block (HR3.out w0 HXw0.out).2.1.2.1 hS) Try.underlying33 rfl I33b.out
  simp only [Act.put, List.setIfInBounds_toArray, List.set_cons_zero, List.set_cons_succ]
  refine wpAnyH_take (i := 16) (oi := ⟨some 24, _, _, _, _, _⟩) (v := (.pointer (some ⟨D, 45, none⟩))) rfl (by kernel_rfl) (by kernel_rfl) (by kernel_rfl) (fun _ _ _ h => h) (Or.inl ⟨by rfl, ?_⟩) HHd.out ?_
  · intro w' hS; go_simp; try with_reducible rfl
  simp only [Act.put, List.setIfInBounds_toArray, List.set_cons_zero, List.set_cons_succ]
  refine wpAnyH_take (i := 17) (oi := ⟨some 25, _, _, _, _, _⟩) (v := (.pointer (some ⟨D, 89, none⟩))) rfl (by kernel_rfl) (by kernel_rfl) (by kernel_rfl) (fun _ _ _ h => h) (Or.inl ⟨by rfl, ?_⟩) HHd.out ?_
  · intro w' hS; go_simp; try with_reducible rfl
  simp only [Act.put, List.setIfInBounds_toArray, List.set_cons_zero, List.set_cons_succ]
  refine wpAnyH_take (i := 18) (oi := ⟨some 26, _, _, _, _, _⟩) (v := (.int .u32 (cb : Int))) rfl (by kernel_rfl) (by kernel_rfl) (by kernel_rfl) (fun _ _ _ h => h) (Or.inl ⟨by rfl, ?_⟩) HHd.out ?_
  · intro w' hS; have z0 : w'.cell? ⟨D, 89, none⟩ = some (.int .u32 (cb : Int)) := (World.cell?_of_block (w := w0) (w' := w') hS).trans (HR3.out w0 HXw0.out).2.1.2.2; go_simp; try with_reducible rfl
  simp only [Act.put, List.setIfInBounds_toArray, List.set_cons_zero, List.set_cons_succ]
  refine wpAnyH_ready (rs := [9]) (by kernel_rfl) (by simp) ?_
  refine AllReadyH.cons (o := ⟨some 17, _, _, _, _, _⟩) rfl (fun K hK => ?_) AllReadyH.nil
  rw [if_pos (by rfl)]
  go_simp
  refine (HNA.out _).mono ?_
  rintro e w1 ⟨g1, rfl, hg, hb, b⟩
  (try simp only [Act.put, List.setIfInBounds_toArray, List.set_cons_zero, List.set_cons_succ])
  refine hK.out _ _ ((b.block D HXw0.out.lt).trans HHd.out) (fun hHeld => ?_)
  clear hK K
  have HH1 := Lib.hid hHeld
  clear hHeld HHd
  have HXw1 : Hid (Blk w1 D 64 (TWl ka na ca kb nb cb (.slice S1 k1 c1) (.slice S2 k2 c2))) := Lib.hid ((show Blk w0.drew D 64 _ from HXw0.out).below b HXw0.out.lt)
  have Bw1 : Hid (Below D w w1) := Lib.hid ((show Below D w w0.drew from ⟨B0.out.os, B0.out.tape, B0.out.output, B0.out.size, B0.out.block⟩).trans (b.mono (Nat.le_of_lt HXw0.out.lt)))
  have OD1 : Hid (D < g1) := Lib.hid (Nat.lt_of_lt_of_le HXw0.out.lt hg)
  have G1 := Lib.hid hb
  clear hg hb b
  refine wpAnyH_ready (rs := [19]) (by kernel_rfl) (by simp) ?_
  refine AllReadyH.cons (o := ⟨some 27, _, _, _, _, _⟩) rfl (fun K hK => ?_) AllReadyH.nil
  rw [if_pos (by rfl)]
  go_simp
  refine (HNB.out _).mono ?_
  rintro e w2 ⟨g2, rfl, hg, hb, b⟩
  (try simp only [Act.put, List.setIfInBounds_toArray, List.set_cons_zero, List.set_cons_succ])
  refine hK.out _ _ ((b.block D HXw1.out.lt).trans HH1.out) (fun hHeld => ?_)
  clear hK K
  have HH2 := Lib.hid hHeld
  clear hHeld HH1
  have HXw2 : Hid (Blk w2 D 64 (TWl ka na ca kb nb cb (.slice S1 k1 c1) (.slice S2 k2 c2))) := Lib.hid (HXw1.out.below b HXw1.out.lt)
  have Bw2 : Hid (Below D w w2) := Lib.hid (Bw1.out.trans (b.mono (Nat.le_of_lt HXw1.out.lt)))
  have O12 : Hid (g1 < g2) := Lib.hid (Nat.lt_of_lt_of_le G1.out.lt hg)
  replace G1 := Lib.hid (G1.out.below b G1.out.lt)
  have G2 := Lib.hid hb
  clear hg hb b HXw1 Bw1 HXw0 B0
  refine wpAnyH_take (i := 20) (oi := ⟨some 3, _, _, _, _, _⟩) (v := (.pointer (some ⟨g1, 0, none⟩))) rfl (by kernel_rfl) (by kernel_rfl) (by kernel_rfl) (fun _ _ _ h => h) (Or.inl ⟨by rfl, ?_⟩) HH2.out ?_
  · intro w' hS; go_simp; try with_reducible rfl
  simp only [Act.put, List.setIfInBounds_toArray, List.set_cons_zero, List.set_cons_succ]
  refine wpAnyH_take (i := 21) (oi := ⟨some 4, _, _, _, _, _⟩) (v := (.pointer (some ⟨g2, 0, none⟩))) rfl (by kernel_rfl) (by kernel_rfl) (by kernel_rfl) (fun _ _ _ h => h) (Or.inl ⟨by rfl, ?_⟩) HH2.out ?_
  · intro w' hS; go_simp; try with_reducible rfl
  simp only [Act.put, List.setIfInBounds_toArray, List.set_cons_zero, List.set_cons_succ]
  refine wpAnyH_done (by kernel_rfl) ?_ _
  go_upto_region 2 with fail
  refine wp_region_held_drew (S := fun w' => w'.heap[D]? = w2.heap[D]?) (by kernel_rfl) (rfl) (fun hHeld => ?_)
  have HHd := Lib.hid hHeld
  clear hHeld
  refine wpAnyH_take (i := 0) (oi := ⟨some 28, _, _, _, _, _⟩) (v := (.pointer (some ⟨D, 0, none⟩))) rfl (by kernel_rfl) (by kernel_rfl) (by kernel_rfl) (fun _ _ _ h => h) (Or.inl ⟨by rfl, ?_⟩) HHd.out ?_
  · intro w' hS; go_simp; try with_reducible rfl
  simp only [Act.put, List.setIfInBounds_toArray, List.set_cons_zero, List.set_cons_succ]
  refine wpAnyH_take (i := 1) (oi := ⟨some 29, _, _, _, _, _⟩) (v := (.pointer (some ⟨D, 0, none⟩))) rfl (by kernel_rfl) (by kernel_rfl) (by kernel_rfl) (fun _ _ _ h => h) (Or.inl ⟨by rfl, ?_⟩) HHd.out ?_
  · intro w' hS; go_simp; try with_reducible rfl
  simp only [Act.put, List.setIfInBounds_toArray, List.set_cons_zero, List.set_cons_succ]
  refine wpAnyH_take (i := 2) (oi := ⟨some 30, _, _, _, _, _⟩) (v := (.agg (AY .u8 ka))) rfl (by kernel_rfl) (by kernel_rfl) (by kernel_rfl) (fun _ _ _ h => h) (Or.inl ⟨by rfl, ?_⟩) HHd.out ?_
  · intro w' hS; exact exec_load_AY 31 _ rfl D 0 (by rfl) .u8 ka _ (range_of_block (HR3.out w2 HXw2.out).1.1 hS) Try.underlying31 rfl I31a.out
  simp only [Act.put, List.setIfInBounds_toArray, List.set_cons_zero, List.set_cons_succ]
  refine wpAnyH_take (i := 3) (oi := ⟨some 31, _, _, _, _, _⟩) (v := (.pointer (some ⟨D, 0, none⟩))) rfl (by kernel_rfl) (by kernel_rfl) (by kernel_rfl) (fun _ _ _ h => h) (Or.inl ⟨by rfl, ?_⟩) HHd.out ?_
  · intro w' hS; go_simp; try with_reducible rfl
  simp only [Act.put, List.setIfInBounds_toArray, List.set_cons_zero, List.set_cons_succ]
  refine wpAnyH_take (i := 4) (oi := ⟨some 32, _, _, _, _, _⟩) (v := (.pointer (some ⟨D, 32, none⟩))) rfl (by kernel_rfl) (by kernel_rfl) (by kernel_rfl) (fun _ _ _ h => h) (Or.inl ⟨by rfl, ?_⟩) HHd.out ?_
  · intro w' hS; go_simp; try with_reducible rfl
  simp only [Act.put, List.setIfInBounds_toArray, List.set_cons_zero, List.set_cons_succ]
  refine wpAnyH_take (i := 5) (oi := ⟨some 33, _, _, _, _, _⟩) (v := (.agg (AY .u8 na))) rfl (by kernel_rfl) (by kernel_rfl) (by kernel_rfl) (fun _ _ _ h => h) (Or.inl ⟨by rfl, ?_⟩) HHd.out ?_
  · intro w' hS; exact exec_load_AY 33 _ rfl D 32 (by rfl) .u8 na _ (range_of_block (HR3.out w2 HXw2.out).1.2.1 hS) Try.underlying33 rfl I33a.out
  simp only [Act.put, List.setIfInBounds_toArray, List.set_cons_zero, List.set_cons_succ]
  refine wpAnyH_take (i := 6) (oi := ⟨some 34, _, _, _, _, _⟩) (v := (.pointer (some ⟨D, 0, none⟩))) rfl (by kernel_rfl) (by kernel_rfl) (by kernel_rfl) (fun _ _ _ h => h) (Or.inl ⟨by rfl, ?_⟩) HHd.out ?_
  · intro w' hS; go_simp; try with_reducible rfl
  simp only [Act.put, List.setIfInBounds_toArray, List.set_cons_zero, List.set_cons_succ]
  refine wpAnyH_take (i := 7) (oi := ⟨some 35, _, _, _, _, _⟩) (v := (.pointer (some ⟨D, 44, none⟩))) rfl (by kernel_rfl) (by kernel_rfl) (by kernel_rfl) (fun _ _ _ h => h) (Or.inl ⟨by rfl, ?_⟩) HHd.out ?_
  · intro w' hS; go_simp; try with_reducible rfl
  simp only [Act.put, List.setIfInBounds_toArray, List.set_cons_zero, List.set_cons_succ]
  refine wpAnyH_take (i := 8) (oi := ⟨some 36, _, _, _, _, _⟩) (v := (.int .u32 (ca : Int))) rfl (by kernel_rfl) (by kernel_rfl) (by kernel_rfl) (fun _ _ _ h => h) (Or.inl ⟨by rfl, ?_⟩) HHd.out ?_
  · intro w' hS; have z0 : w'.cell? ⟨D, 44, none⟩ = some (.int .u32 (ca : Int)) := (World.cell?_of_block (w := w2) (w' := w') hS).trans (HR3.out w2 HXw2.out).1.2.2; go_simp; try with_reducible rfl
  simp only [Act.put, List.setIfInBounds_toArray, List.set_cons_zero, List.set_cons_succ]
  refine wpAnyH_take (i := 10) (oi := ⟨some 38, _, _, _, _, _⟩) (v := (.pointer (some ⟨D, 45, none⟩))) rfl (by kernel_rfl) (by kernel_rfl) (by kernel_rfl) (fun _ _ _ h => h) (Or.inl ⟨by rfl, ?_⟩) HHd.out ?_
  · intro w' hS; go_simp; try with_reducible rfl
  simp only [Act.put, List.setIfInBounds_toArray, List.set_cons_zero, List.set_cons_succ]
  refine wpAnyH_take (i := 11) (oi := ⟨some 39, _, _, _, _, _⟩) (v := (.pointer (some ⟨D, 45, none⟩))) rfl (by kernel_rfl) (by kernel_rfl) (by kernel_rfl) (fun _ _ _ h => h) (Or.inl ⟨by rfl, ?_⟩) HHd.out ?_
  · intro w' hS; go_simp; try with_reducible rfl
  simp only [Act.put, List.setIfInBounds_toArray, List.set_cons_zero, List.set_cons_succ]
  refine wpAnyH_take (i := 12) (oi := ⟨some 40, _, _, _, _, _⟩) (v := (.agg (AY .u8 kb))) rfl (by kernel_rfl) (by kernel_rfl) (by kernel_rfl) (fun _ _ _ h => h) (Or.inl ⟨by rfl, ?_⟩) HHd.out ?_
  · intro w' hS; exact exec_load_AY 31 _ rfl D 45 (by rfl) .u8 kb _ (range_of_block (HR3.out w2 HXw2.out).2.1.1 hS) Try.underlying31 rfl I31b.out
  simp only [Act.put, List.setIfInBounds_toArray, List.set_cons_zero, List.set_cons_succ]
  refine wpAnyH_take (i := 13) (oi := ⟨some 41, _, _, _, _, _⟩) (v := (.pointer (some ⟨D, 45, none⟩))) rfl (by kernel_rfl) (by kernel_rfl) (by kernel_rfl) (fun _ _ _ h => h) (Or.inl ⟨by rfl, ?_⟩) HHd.out ?_
  · intro w' hS; go_simp; try with_reducible rfl
  simp only [Act.put, List.setIfInBounds_toArray, List.set_cons_zero, List.set_cons_succ]
  refine wpAnyH_take (i := 14) (oi := ⟨some 42, _, _, _, _, _⟩) (v := (.pointer (some ⟨D, 77, none⟩))) rfl (by kernel_rfl) (by kernel_rfl) (by kernel_rfl) (fun _ _ _ h => h) (Or.inl ⟨by rfl, ?_⟩) HHd.out ?_
  · intro w' hS; go_simp; try with_reducible rfl
  simp only [Act.put, List.setIfInBounds_toArray, List.set_cons_zero, List.set_cons_succ]
  refine wpAnyH_take (i := 15) (oi := ⟨some 43, _, _, _, _, _⟩) (v := (.agg (AY .u8 nb))) rfl (by kernel_rfl) (by kernel_rfl) (by kernel_rfl) (fun _ _ _ h => h) (Or.inl ⟨by rfl, ?_⟩) HHd.out ?_
  · intro w' hS; exact exec_load_AY 33 _ rfl D 77 (by rfl) .u8 nb _ (range_of_block (HR3.out w2 HXw2.out).2.1.2.1 hS) Try.underlying33 rfl I33b.out
  simp only [Act.put, List.setIfInBounds_toArray, List.set_cons_zero, List.set_cons_succ]
  refine wpAnyH_take (i := 16) (oi := ⟨some 44, _, _, _, _, _⟩) (v := (.pointer (some ⟨D, 45, none⟩))) rfl (by kernel_rfl) (by kernel_rfl) (by kernel_rfl) (fun _ _ _ h => h) (Or.inl ⟨by rfl, ?_⟩) HHd.out ?_
  · intro w' hS; go_simp; try with_reducible rfl
  simp only [Act.put, List.setIfInBounds_toArray, List.set_cons_zero, List.set_cons_succ]
  refine wpAnyH_take (i := 17) (oi := ⟨some 45, _, _, _, _, _⟩) (v := (.pointer (some ⟨D, 89, none⟩))) rfl (by kernel_rfl) (by kernel_rfl) (by kernel_rfl) (fun _ _ _ h => h) (Or.inl ⟨by rfl, ?_⟩) HHd.out ?_
  · intro w' hS; go_simp; try with_reducible rfl
  simp only [Act.put, List.setIfInBounds_toArray, List.set_cons_zero, List.set_cons_succ]
  refine wpAnyH_take (i := 18) (oi := ⟨some 46, _, _, _, _, _⟩) (v := (.int .u32 (cb : Int))) rfl (by kernel_rfl) (by kernel_rfl) (by kernel_rfl) (fun _ _ _ h => h) (Or.inl ⟨by rfl, ?_⟩) HHd.out ?_
  · intro w' hS; have z0 : w'.cell? ⟨D, 89, none⟩ = some (.int .u32 (cb : Int)) := (World.cell?_of_block (w := w2) (w' := w') hS).trans (HR3.out w2 HXw2.out).2.1.2.2; go_simp; try with_reducible rfl
  simp only [Act.put, List.setIfInBounds_toArray, List.set_cons_zero, List.set_cons_succ]
  refine wpAnyH_ready (rs := [9]) (by kernel_rfl) (by simp) ?_
  refine AllReadyH.cons (o := ⟨some 37, _, _, _, _, _⟩) rfl (fun K hK => ?_) AllReadyH.nil
  rw [if_pos (by rfl)]
  go_simp
  refine (HRA.out _).mono ?_
  rintro e w3 ⟨g3, rfl, hg, hb, b⟩
  (try simp only [Act.put, List.setIfInBounds_toArray, List.set_cons_zero, List.set_cons_succ])
  refine hK.out _ _ ((b.block D HXw2.out.lt).trans HHd.out) (fun hHeld => ?_)
  clear hK K
  have HH1 := Lib.hid hHeld
  clear hHeld HHd
  have HXw3 : Hid (Blk w3 D 64 (TWl ka na ca kb nb cb (.slice S1 k1 c1) (.slice S2 k2 c2))) := Lib.hid ((show Blk w2.drew D 64 _ from HXw2.out).below b HXw2.out.lt)
  have Bw3 : Hid (Below D w w3) := Lib.hid ((show Below D w w2.drew from ⟨Bw2.out.os, Bw2.out.tape, Bw2.out.output, Bw2.out.size, Bw2.out.block⟩).trans (b.mono (Nat.le_of_lt HXw2.out.lt)))
  have O23 : Hid (g2 < g3) := Lib.hid (Nat.lt_of_lt_of_le G2.out.lt hg)
  replace G1 := Lib.hid ((show Blk w2.drew _ _ _ from G1.out).below b G1.out.lt)
  replace G2 := Lib.hid ((show Blk w2.drew _ _ _ from G2.out).below b G2.out.lt)
  have G3 := Lib.hid hb
  clear hg hb b
  refine wpAnyH_ready (rs := [19]) (by kernel_rfl) (by simp) ?_
  refine AllReadyH.cons (o := ⟨some 47, _, _, _, _, _⟩) rfl (fun K hK => ?_) AllReadyH.nil
  rw [if_pos (by rfl)]
  go_simp
  refine (HRB.out _).mono ?_
  rintro e w4 ⟨g4, rfl, hg, hb, b⟩
  (try simp only [Act.put, List.setIfInBounds_toArray, List.set_cons_zero, List.set_cons_succ])
  refine hK.out _ _ ((b.block D HXw3.out.lt).trans HH1.out) (fun hHeld => ?_)
  clear hK K
  have HH2 := Lib.hid hHeld
  clear hHeld HH1
  have HXw4 : Hid (Blk w4 D 64 (TWl ka na ca kb nb cb (.slice S1 k1 c1) (.slice S2 k2 c2))) := Lib.hid (HXw3.out.below b HXw3.out.lt)
  have Bw4 : Hid (Below D w w4) := Lib.hid (Bw3.out.trans (b.mono (Nat.le_of_lt HXw3.out.lt)))
  have O34 : Hid (g3 < g4) := Lib.hid (Nat.lt_of_lt_of_le G3.out.lt hg)
  replace G1 := Lib.hid (G1.out.below b G1.out.lt)
  replace G2 := Lib.hid (G2.out.below b G2.out.lt)
  replace G3 := Lib.hid (G3.out.below b G3.out.lt)
  have G4 := Lib.hid hb
  clear hg hb b HXw3 Bw3 HXw2 Bw2
  refine wpAnyH_take (i := 20) (oi := ⟨some 5, _, _, _, _, _⟩) (v := (.pointer (some ⟨g3, 0, none⟩))) rfl (by kernel_rfl) (by kernel_rfl) (by kernel_rfl) (fun _ _ _ h => h) (Or.inl ⟨by rfl, ?_⟩) HH2.out ?_
  · intro w' hS; go_simp; try with_reducible rfl
  simp only [Act.put, List.setIfInBounds_toArray, List.set_cons_zero, List.set_cons_succ]
  refine wpAnyH_take (i := 21) (oi := ⟨some 6, _, _, _, _, _⟩) (v := (.pointer (some ⟨g4, 0, none⟩))) rfl (by kernel_rfl) (by kernel_rfl) (by kernel_rfl) (fun _ _ _ h => h) (Or.inl ⟨by rfl, ?_⟩) HH2.out ?_
  · intro w' hS; go_simp; try with_reducible rfl
  simp only [Act.put, List.setIfInBounds_toArray, List.set_cons_zero, List.set_cons_succ]
  refine wpAnyH_done (by kernel_rfl) ?_ _
  go_upto_region 3 with fail
  have HO : Hid (D < g1 ∧ g1 < g2 ∧ g2 < g3 ∧ g3 < g4) := Lib.hid ⟨OD1.out, O12.out, O23.out, O34.out⟩
  clear OD1 O12 O23 O34
  have K1 := G1
  have K2 := G2
  have K3 := G3
  have K4 := G4
  have hpa : ((64 * (ca : Int)) != (64 * (ca : Int))) = false := by simp
  have hpb : ((64 * (cb : Int)) != (64 * (cb : Int))) = false := by simp
  have X5a := HXw4
  have B5a := Bw4
  refine wp_region_held_drew (S := fun w' => w'.heap[g3]? = w4.heap[g3]? ∧ w'.heap[g4]? = w4.heap[g4]?) (by kernel_rfl) (⟨rfl, rfl⟩) (fun hHeld => ?_)
  have HHd := Lib.hid hHeld
  clear hHeld
  have K3c := K3
  have K4c := K4
  refine wpAnyH_take (i := 0) (oi := ⟨some 48, _, _, _, _, _⟩) (v := (.pointer (some ⟨g1, 0, none⟩))) rfl (by kernel_rfl) (by kernel_rfl) (by kernel_rfl) (fun _ _ _ h => h) (Or.inl ⟨by rfl, ?_⟩) HHd.out ?_
  · intro w' hS; go_simp; try with_reducible rfl
  simp only [Act.put, List.setIfInBounds_toArray, List.set_cons_zero, List.set_cons_succ]
  refine wpAnyH_take (i := 1) (oi := ⟨some 49, _, _, _, _, _⟩) (v := (.bool false)) rfl (by kernel_rfl) (by kernel_rfl) (by kernel_rfl) (fun _ _ _ h => h) (Or.inl ⟨by rfl, ?_⟩) HHd.out ?_
  · intro w' hS; go_simp; try with_reducible rfl
  simp only [Act.put, List.setIfInBounds_toArray, List.set_cons_zero, List.set_cons_succ]
  refine wpAnyH_take (i := 2) (oi := ⟨some 50, _, _, _, _, _⟩) (v := (.bool false)) rfl (by kernel_rfl) (by kernel_rfl) (by kernel_rfl) (fun _ _ _ h => h) (Or.inl ⟨by rfl, ?_⟩) HHd.out ?_
  · intro w' hS; go_simp; try with_reducible rfl
  simp only [Act.put, List.setIfInBounds_toArray, List.set_cons_zero, List.set_cons_succ]
  refine wpAnyH_take (i := 3) (oi := ⟨some 51, _, _, _, _, _⟩) (v := (.pointer (some ⟨g2, 0, none⟩))) rfl (by kernel_rfl) (by kernel_rfl) (by kernel_rfl) (fun _ _ _ h => h) (Or.inl ⟨by rfl, ?_⟩) HHd.out ?_
  · intro w' hS; go_simp; try with_reducible rfl
  simp only [Act.put, List.setIfInBounds_toArray, List.set_cons_zero, List.set_cons_succ]
  refine wpAnyH_take (i := 4) (oi := ⟨some 52, _, _, _, _, _⟩) (v := (.bool false)) rfl (by kernel_rfl) (by kernel_rfl) (by kernel_rfl) (fun _ _ _ h => h) (Or.inl ⟨by rfl, ?_⟩) HHd.out ?_
  · intro w' hS; go_simp; try with_reducible rfl
  simp only [Act.put, List.setIfInBounds_toArray, List.set_cons_zero, List.set_cons_succ]
  refine wpAnyH_take (i := 5) (oi := ⟨some 53, _, _, _, _, _⟩) (v := (.bool false)) rfl (by kernel_rfl) (by kernel_rfl) (by kernel_rfl) (fun _ _ _ h => h) (Or.inl ⟨by rfl, ?_⟩) HHd.out ?_
  · intro w' hS; go_simp; try with_reducible rfl
  simp only [Act.put, List.setIfInBounds_toArray, List.set_cons_zero, List.set_cons_succ]
  refine wpAnyH_take (i := 6) (oi := ⟨some 54, _, _, _, _, _⟩) (v := (.bool false)) rfl (by kernel_rfl) (by kernel_rfl) (by kernel_rfl) (fun _ _ _ h => h) (Or.inl ⟨by rfl, ?_⟩) HHd.out ?_
  · intro w' hS; go_simp; try with_reducible rfl
  simp only [Act.put, List.setIfInBounds_toArray, List.set_cons_zero, List.set_cons_succ]
  refine wpAnyH_take (i := 7) (oi := ⟨some 55, _, _, _, _, _⟩) (v := (.pointer (some ⟨g1, 0, none⟩))) rfl (by kernel_rfl) (by kernel_rfl) (by kernel_rfl) (fun _ _ _ h => h) (Or.inl ⟨by rfl, ?_⟩) HHd.out ?_
  · intro w' hS; go_simp; try with_reducible rfl
  simp only [Act.put, List.setIfInBounds_toArray, List.set_cons_zero, List.set_cons_succ]
  refine wpAnyH_take (i := 9) (oi := ⟨some 57, _, _, _, _, _⟩) (v := (.pointer (some ⟨g3, 0, none⟩))) rfl (by kernel_rfl) (by kernel_rfl) (by kernel_rfl) (fun _ _ _ h => h) (Or.inl ⟨by rfl, ?_⟩) HHd.out ?_
  · intro w' hS; go_simp; try with_reducible rfl
  simp only [Act.put, List.setIfInBounds_toArray, List.set_cons_zero, List.set_cons_succ]
  refine wpAnyH_take (i := 10) (oi := ⟨some 58, _, _, _, _, _⟩) (v := (.pointer (some ⟨g3, 0, none⟩))) rfl (by kernel_rfl) (by kernel_rfl) (by kernel_rfl) (fun _ _ _ h => h) (Or.inl ⟨by rfl, ?_⟩) HHd.out ?_
  · intro w' hS; go_simp; try with_reducible rfl
  simp only [Act.put, List.setIfInBounds_toArray, List.set_cons_zero, List.set_cons_succ]
  refine wpAnyH_take (i := 11) (oi := ⟨some 59, _, _, _, _, _⟩) (v := (.pointer (some ⟨g3, 44, none⟩))) rfl (by kernel_rfl) (by kernel_rfl) (by kernel_rfl) (fun _ _ _ h => h) (Or.inl ⟨by rfl, ?_⟩) HHd.out ?_
  · intro w' hS; go_simp; try with_reducible rfl
  simp only [Act.put, List.setIfInBounds_toArray, List.set_cons_zero, List.set_cons_succ]
  refine wpAnyH_take (i := 12) (oi := ⟨some 60, _, _, _, _, _⟩) (v := (.int .u64 ((64 * ca : Nat) : Int))) rfl (by kernel_rfl) (by kernel_rfl) (by kernel_rfl) (fun _ _ _ h => h) (Or.inl ⟨by rfl, ?_⟩) HHd.out ?_
  · intro w' hS; have z0 : w'.cell? ⟨g3, 44, none⟩ = some (.int .u64 ((64 * ca : Nat) : Int)) := (World.cell?_of_block (w := w4) (w' := w') hS.1).trans (HPLA.out g3 (64 * ca) w4 K3c.out); go_simp; try with_reducible rfl
  simp only [Act.put, List.setIfInBounds_toArray, List.set_cons_zero, List.set_cons_succ]
  refine wpAnyH_ready (rs := [8]) (by kernel_rfl) (by simp) ?_
  refine AllReadyH.cons (o := ⟨some 56, _, _, _, _, _⟩) rfl (fun K hK => ?_) AllReadyH.nil
  rw [if_pos (by rfl)]
  go_simp
  refine (HATA.out g1 (64 * ca) w4.drew K1.out).mono ?_
  rintro e wq ⟨rfl, hq⟩
  (try simp only [Act.put, List.setIfInBounds_toArray, List.set_cons_zero, List.set_cons_succ])
  refine hK.out _ _ (by rw [hq]; exact HHd.out) (fun hHeld => ?_)
  clear hK K
  have HH1 := Lib.hid hHeld
  clear hHeld HHd
  replace K2 : Hid (Blk wq g2 87 (SGl kb nb (64 * cb))) := Lib.hid (by rw [hq]; exact K2.out)
  replace K1 : Hid (Blk wq g1 87 (SGl ka na (64 * ca))) := Lib.hid (by rw [hq]; exact K1.out)
  replace K3 : Hid (Blk wq g3 66 (SGl ka na (64 * ca))) := Lib.hid (by rw [hq]; exact K3.out)
  replace K4 : Hid (Blk wq g4 66 (SGl kb nb (64 * cb))) := Lib.hid (by rw [hq]; exact K4.out)
  have X5b : Hid (Blk wq D 64 (TWl ka na ca kb nb cb (.slice S1 k1 c1) (.slice S2 k2 c2))) := Lib.hid (by rw [hq]; exact X5a.out)
  have B5b : Hid (Below D w wq) := Lib.hid (by rw [hq]; exact ⟨B5a.out.os, B5a.out.tape, B5a.out.output, B5a.out.size, B5a.out.block⟩)
  clear hq X5a B5a
  refine wpAnyH_take (i := 13) (oi := ⟨some 61, _, _, _, _, _⟩) (v := (.bool false)) rfl (by kernel_rfl) (by kernel_rfl) (by kernel_rfl) (fun _ _ _ h => h) (Or.inl ⟨by rfl, ?_⟩) HH1.out ?_
  · intro w' hS; go_simp; try with_reducible rfl
  simp only [Act.put, List.setIfInBounds_toArray, List.set_cons_zero, List.set_cons_succ]
  refine wpAnyH_take (i := 14) (oi := ⟨some 62, _, _, _, _, _⟩) (v := (.bool false)) rfl (by kernel_rfl) (by kernel_rfl) (by kernel_rfl) (fun _ _ _ h => h) (Or.inl ⟨by rfl, ?_⟩) HH1.out ?_
  · intro w' hS; go_simp; try with_reducible rfl
  simp only [Act.put, List.setIfInBounds_toArray, List.set_cons_zero, List.set_cons_succ]
  refine wpAnyH_take (i := 15) (oi := ⟨some 63, _, _, _, _, _⟩) (v := (.bool false)) rfl (by kernel_rfl) (by kernel_rfl) (by kernel_rfl) (fun _ _ _ h => h) (Or.inl ⟨by rfl, ?_⟩) HH1.out ?_
  · intro w' hS; go_simp; try with_reducible rfl
  simp only [Act.put, List.setIfInBounds_toArray, List.set_cons_zero, List.set_cons_succ]
  refine wpAnyH_take (i := 16) (oi := ⟨some 64, _, _, _, _, _⟩) (v := (.pointer (some ⟨g2, 0, none⟩))) rfl (by kernel_rfl) (by kernel_rfl) (by kernel_rfl) (fun _ _ _ h => h) (Or.inl ⟨by rfl, ?_⟩) HH1.out ?_
  · intro w' hS; go_simp; try with_reducible rfl
  simp only [Act.put, List.setIfInBounds_toArray, List.set_cons_zero, List.set_cons_succ]
  refine wpAnyH_take (i := 18) (oi := ⟨some 66, _, _, _, _, _⟩) (v := (.pointer (some ⟨g4, 0, none⟩))) rfl (by kernel_rfl) (by kernel_rfl) (by kernel_rfl) (fun _ _ _ h => h) (Or.inl ⟨by rfl, ?_⟩) HH1.out ?_
  · intro w' hS; go_simp; try with_reducible rfl
  simp only [Act.put, List.setIfInBounds_toArray, List.set_cons_zero, List.set_cons_succ]
  refine wpAnyH_take (i := 19) (oi := ⟨some 67, _, _, _, _, _⟩) (v := (.pointer (some ⟨g4, 0, none⟩))) rfl (by kernel_rfl) (by kernel_rfl) (by kernel_rfl) (fun _ _ _ h => h) (Or.inl ⟨by rfl, ?_⟩) HH1.out ?_
  · intro w' hS; go_simp; try with_reducible rfl
  simp only [Act.put, List.setIfInBounds_toArray, List.set_cons_zero, List.set_cons_succ]
  refine wpAnyH_take (i := 20) (oi := ⟨some 68, _, _, _, _, _⟩) (v := (.pointer (some ⟨g4, 44, none⟩))) rfl (by kernel_rfl) (by kernel_rfl) (by kernel_rfl) (fun _ _ _ h => h) (Or.inl ⟨by rfl, ?_⟩) HH1.out ?_
  · intro w' hS; go_simp; try with_reducible rfl
  simp only [Act.put, List.setIfInBounds_toArray, List.set_cons_zero, List.set_cons_succ]
  refine wpAnyH_take (i := 21) (oi := ⟨some 69, _, _, _, _, _⟩) (v := (.int .u64 ((64 * cb : Nat) : Int))) rfl (by kernel_rfl) (by kernel_rfl) (by kernel_rfl) (fun _ _ _ h => h) (Or.inl ⟨by rfl, ?_⟩) HH1.out ?_
  · intro w' hS; have z0 : w'.cell? ⟨g4, 44, none⟩ = some (.int .u64 ((64 * cb : Nat) : Int)) := (World.cell?_of_block (w := w4) (w' := w') hS.2).trans (HPLB.out g4 (64 * cb) w4 K4c.out); go_simp; try with_reducible rfl
  simp only [Act.put, List.setIfInBounds_toArray, List.set_cons_zero, List.set_cons_succ]
  refine wpAnyH_ready (rs := [17]) (by kernel_rfl) (by simp) ?_
  refine AllReadyH.cons (o := ⟨some 65, _, _, _, _, _⟩) rfl (fun K hK => ?_) AllReadyH.nil
  rw [if_pos (by rfl)]
  go_simp
  refine (HATB.out g2 (64 * cb) wq K2.out).mono ?_
  rintro e w5 ⟨rfl, hq⟩
  (try simp only [Act.put, List.setIfInBounds_toArray, List.set_cons_zero, List.set_cons_succ])
  refine hK.out _ _ (by rw [hq]; exact HH1.out) (fun hHeld => ?_)
  clear hK K
  have HH2 := Lib.hid hHeld
  clear hHeld HH1
  replace K1 : Hid (Blk w5 g1 87 (SGl ka na (64 * ca))) := Lib.hid (by rw [hq]; exact K1.out)
  replace K2 : Hid (Blk w5 g2 87 (SGl kb nb (64 * cb))) := Lib.hid (by rw [hq]; exact K2.out)
  replace K3 : Hid (Blk w5 g3 66 (SGl ka na (64 * ca))) := Lib.hid (by rw [hq]; exact K3.out)
  replace K4 : Hid (Blk w5 g4 66 (SGl kb nb (64 * cb))) := Lib.hid (by rw [hq]; exact K4.out)
  have X5 : Hid (Blk w5 D 64 (TWl ka na ca kb nb cb (.slice S1 k1 c1) (.slice S2 k2 c2))) := Lib.hid (by rw [hq]; exact X5b.out)
  have B5 : Hid (Below D w w5) := Lib.hid (by rw [hq]; exact B5b.out)
  clear hq X5b B5b K3c K4c
  refine wpAnyH_take (i := 22) (oi := ⟨some 70, _, _, _, _, _⟩) (v := (.bool false)) rfl (by kernel_rfl) (by kernel_rfl) (by kernel_rfl) (fun _ _ _ h => h) (Or.inl ⟨by rfl, ?_⟩) HH2.out ?_
  · intro w' hS; go_simp; try with_reducible rfl
  simp only [Act.put, List.setIfInBounds_toArray, List.set_cons_zero, List.set_cons_succ]
  refine wpAnyH_take (i := 23) (oi := ⟨some 71, _, _, _, _, _⟩) (v := (.bool false)) rfl (by kernel_rfl) (by kernel_rfl) (by kernel_rfl) (fun _ _ _ h => h) (Or.inl ⟨by rfl, ?_⟩) HH2.out ?_
  · intro w' hS; go_simp; try with_reducible rfl
  simp only [Act.put, List.setIfInBounds_toArray, List.set_cons_zero, List.set_cons_succ]
  refine wpAnyH_done (by kernel_rfl) ?_ _
  clear hpa hpb
  have DA : Hid (Duo ka na g1 g3 w5) := Lib.hid ⟨64 * ca, HCC.out.1, K1.out, K3.out⟩
  have DB : Hid (Duo kb nb g2 g4 w5) := Lib.hid ⟨64 * cb, HCC.out.2, K2.out, K4.out⟩
  clear K1 K2 K3 K4 G1 G2 G3 G4 HXw4 Bw4 HNA HNB HRA HRB I31a I31b I33a I33b HCC
  go_wp2_with fail
  go_loopw [7] (fun iv wr => ∃ i : Nat, iv = .int .i64 i ∧ Hid (i ≤ k1 ∨ i ≤ k2) ∧ Hid (Below D w wr) ∧ Hid (Blk wr D 64 (TWl ka na ca kb nb cb (.slice S1 k1 c1) (.slice S2 k2 c2))) ∧ Hid (Duo ka na g1 g3 wr) ∧ Hid (Duo kb nb g2 g4 wr)) (fun iv _ => k1 + k2 - (intOf iv).toNat)
  case atStart => exact ⟨0, rfl, Lib.hid (.inl (Nat.zero_le _)), B5, X5, DA, DB⟩
  case round =>
    clear DA DB B5 X5
    obtain ⟨i, rfl, HI, BW, XW, DA, DB⟩ := hrel
    have hi0 : i ≤ 140737488354000 := by have := HI.out; omega
    have x90 : wr.cell? ⟨D, 90, none⟩ = some (.slice S1 k1 c1) := (HR3.out wr XW.out).2.2.1
    have x91 : wr.cell? ⟨D, 91, none⟩ = some (.slice S2 k2 c2) := (HR3.out wr XW.out).2.2.2
    have RA : Hid (RdS wr S1 f1 k1 ∧ RdS wr S2 f2 k2) := Lib.hid ⟨HS1.out.below (by rw [← HDE.out]; exact BW.out), HS2.out.below (by rw [← HDE.out]; exact BW.out)⟩
    by_cases hi1 : i < k1
    · have d1 : decide ((i : Int) < (k1 : Int)) = true := by simp; omega
      obtain ⟨b, off, hA1, hbl1, a0, a1, a2⟩ := RA.out.1 i hi1
      by_cases hi2 : i < k2
      · have d2 : decide ((i : Int) < (k2 : Int)) = true := by simp; omega
        subst hA1
        go_wp2_with fail
        refine (HSTA.out g1 g3 i wr BW.out hi1 (by have := HO.out; omega) (by have := HO.out; omega) DA.out).mono ?_
        rintro e wy ⟨rfl, da, hf⟩
        have DAY : Hid (Duo ka na g1 g3 wy) := Lib.hid da
        have DBY : Hid (Duo kb nb g2 g4 wy) := Lib.hid (DB.out.fr hf.out (by have := HO.out; omega) (by have := HO.out; omega))
        have XY := Lib.hid (XW.out.fr hf.out (by have := HO.out; omega))
        have BY : Hid (Below D w wy) := Lib.hid (BW.out.trans (hf.out.below (Nat.le_of_lt XW.out.lt) (fun j hj => by have := HO.out; omega)))
        clear da hf BW XW DA DB
        clear x90 x91 a0 a1 a2 RA hbl1
        have x91 : wy.cell? ⟨D, 91, none⟩ = some (.slice S2 k2 c2) := (HR3.out wy XY.out).2.2.2
        obtain ⟨b, off, hA2, hbl2, b0, b1, b2⟩ := HS2.out.below (show Below w.heap.size w wy by rw [← HDE.out]; exact BY.out) i hi2
        subst hA2
        go_wp2_with fail
        refine (HSTB.out g2 g4 i wy BY.out hi2 (by have := HO.out; omega) (by have := HO.out; omega) DBY.out).mono ?_
        rintro e wz ⟨rfl, db, hf⟩
        have DAZ : Hid (Duo ka na g1 g3 wz) := Lib.hid (DAY.out.fr hf.out (by have := HO.out; omega) (by have := HO.out; omega))
        have DBZ : Hid (Duo kb nb g2 g4 wz) := Lib.hid db
        have XZ := Lib.hid (XY.out.fr hf.out (by have := HO.out; omega))
        have BZ : Hid (Below D w wz) := Lib.hid (BY.out.trans (hf.out.below (Nat.le_of_lt XY.out.lt) (fun j hj => by have := HO.out; omega)))
        clear db hf BY XY DAY DBY x91 b0 b1 b2 hbl2
        go_wp2_with fail
        go_roundw
        case rel =>
          (repeat apply Exists.intro)
          exact ⟨⟨i + 1, by go_num, Lib.hid (by omega), BZ, XZ, DAZ, DBZ⟩, rfl⟩
        case measure => simp [intOf]; omega
      · have d2 : decide ((i : Int) < (k2 : Int)) = false := by simp; omega
        subst hA1
        go_wp2_with fail
        refine (HSTA.out g1 g3 i wr BW.out hi1 (by have := HO.out; omega) (by have := HO.out; omega) DA.out).mono ?_
        rintro e wy ⟨rfl, da, hf⟩
        have DAY : Hid (Duo ka na g1 g3 wy) := Lib.hid da
        have DBY : Hid (Duo kb nb g2 g4 wy) := Lib.hid (DB.out.fr hf.out (by have := HO.out; omega) (by have := HO.out; omega))
        have XY := Lib.hid (XW.out.fr hf.out (by have := HO.out; omega))
        have BY : Hid (Below D w wy) := Lib.hid (BW.out.trans (hf.out.below (Nat.le_of_lt XW.out.lt) (fun j hj => by have := HO.out; omega)))
        clear da hf BW XW DA DB
        clear x90 x91 a0 a1 a2 RA hbl1
        have x91 : wy.cell? ⟨D, 91, none⟩ = some (.slice S2 k2 c2) := (HR3.out wy XY.out).2.2.2
        go_wp2_with fail
        go_roundw
        case rel =>
          (repeat apply Exists.intro)
          exact ⟨⟨i + 1, by go_num, Lib.hid (by omega), BY, XY, DAY, DBY⟩, rfl⟩
        case measure => simp [intOf]; omega
    · have d1 : decide ((i : Int) < (k1 : Int)) = false := by simp; omega
      by_cases hi2 : i < k2
      · have d2 : decide ((i : Int) < (k2 : Int)) = true := by simp; omega
        obtain ⟨b, off, hA2, hbl2, b0, b1, b2⟩ := RA.out.2 i hi2
        subst hA2
        go_wp2_with fail
        refine (HSTB.out g2 g4 i wr BW.out hi2 (by have := HO.out; omega) (by have := HO.out; omega) DB.out).mono ?_
        rintro e wz ⟨rfl, db, hf⟩
        have DAZ : Hid (Duo ka na g1 g3 wz) := Lib.hid (DA.out.fr hf.out (by have := HO.out; omega) (by have := HO.out; omega))
        have DBZ : Hid (Duo kb nb g2 g4 wz) := Lib.hid db
        have XZ := Lib.hid (XW.out.fr hf.out (by have := HO.out; omega))
        have BZ : Hid (Below D w wz) := Lib.hid (BW.out.trans (hf.out.below (Nat.le_of_lt XW.out.lt) (fun j hj => by have := HO.out; omega)))
        clear db hf BW XW DA DB x90 x91 b0 b1 b2 hbl2
        go_wp2_with fail
        go_roundw
        case rel =>
          (repeat apply Exists.intro)
          exact ⟨⟨i + 1, by go_num, Lib.hid (by omega), BZ, XZ, DAZ, DBZ⟩, rfl⟩
        case measure => simp [intOf]; omega
      · have d2 : decide ((i : Int) < (k2 : Int)) = false := by simp; omega
        obtain ⟨pa, hpa, a3, a4⟩ := DA.out
        obtain ⟨pb, hpb, b3, b4⟩ := DB.out
        have K1 := Lib.hid a3
        have K3 := Lib.hid a4
        have K2 := Lib.hid b3
        have K4 := Lib.hid b4
        clear a3 a4 b3 b4 DA DB
        go_upto_region 10 with fail
        have K3c := K3
        have K4c := K4
        have hpa2 : ((pa : Int) == (pa : Int)) = true := by simp
        have hpb2 : ((pb : Int) == (pb : Int)) = true := by simp
        have hpa3 : (pa == pa) = true := by simp
        have hpb3 : (pb == pb) = true := by simp
        clear x90 x91
        refine wp_region_held_drew (S := fun w' => w'.heap[g3]? = wr.heap[g3]? ∧ w'.heap[g4]? = wr.heap[g4]?) (by kernel_rfl) (⟨rfl, rfl⟩) (fun hHeld => ?_)
        have HHd := Lib.hid hHeld
        clear hHeld
        refine wpAnyH_take (i := 0) (oi := ⟨some 120, _, _, _, _, _⟩) (v := (.pointer (some ⟨g1, 0, none⟩))) rfl (by kernel_rfl) (by kernel_rfl) (by kernel_rfl) (fun _ _ _ h => h) (Or.inl ⟨by rfl, ?_⟩) HHd.out ?_
        · intro w' hS; go_simp; try with_reducible rfl
        simp only [Act.put, List.setIfInBounds_toArray, List.set_cons_zero, List.set_cons_succ]
        refine wpAnyH_take (i := 2) (oi := ⟨some 122, _, _, _, _, _⟩) (v := (.pointer (some ⟨g3, 0, none⟩))) rfl (by kernel_rfl) (by kernel_rfl) (by kernel_rfl) (fun _ _ _ h => h) (Or.inl ⟨by rfl, ?_⟩) HHd.out ?_
        · intro w' hS; go_simp; try with_reducible rfl
        simp only [Act.put, List.setIfInBounds_toArray, List.set_cons_zero, List.set_cons_succ]
        refine wpAnyH_take (i := 3) (oi := ⟨some 123, _, _, _, _, _⟩) (v := (.pointer (some ⟨g3, 0, none⟩))) rfl (by kernel_rfl) (by kernel_rfl) (by kernel_rfl) (fun _ _ _ h => h) (Or.inl ⟨by rfl, ?_⟩) HHd.out ?_
        · intro w' hS; go_simp; try with_reducible rfl
        simp only [Act.put, List.setIfInBounds_toArray, List.set_cons_zero, List.set_cons_succ]
        refine wpAnyH_take (i := 4) (oi := ⟨some 124, _, _, _, _, _⟩) (v := (.pointer (some ⟨g3, 44, none⟩))) rfl (by kernel_rfl) (by kernel_rfl) (by kernel_rfl) (fun _ _ _ h => h) (Or.inl ⟨by rfl, ?_⟩) HHd.out ?_
        · intro w' hS; go_simp; try with_reducible rfl
        simp only [Act.put, List.setIfInBounds_toArray, List.set_cons_zero, List.set_cons_succ]
        refine wpAnyH_take (i := 5) (oi := ⟨some 125, _, _, _, _, _⟩) (v := (.int .u64 ((pa : Nat) : Int))) rfl (by kernel_rfl) (by kernel_rfl) (by kernel_rfl) (fun _ _ _ h => h) (Or.inl ⟨by rfl, ?_⟩) HHd.out ?_
        · intro w' hS; have z0 : w'.cell? ⟨g3, 44, none⟩ = some (.int .u64 ((pa : Nat) : Int)) := (World.cell?_of_block (w := wr) (w' := w') hS.1).trans (HPLA.out g3 (pa) wr K3c.out); go_simp; try with_reducible rfl
        simp only [Act.put, List.setIfInBounds_toArray, List.set_cons_zero, List.set_cons_succ]
        refine wpAnyH_ready (rs := [1]) (by kernel_rfl) (by simp) ?_
        refine AllReadyH.cons (o := ⟨some 121, _, _, _, _, _⟩) rfl (fun K hK => ?_) AllReadyH.nil
        rw [if_pos (by rfl)]
        go_simp
        refine (HATA.out g1 (pa) wr.drew K1.out).mono ?_
        rintro e wq ⟨rfl, hq⟩
        (try simp only [Act.put, List.setIfInBounds_toArray, List.set_cons_zero, List.set_cons_succ])
        refine hK.out _ _ (by rw [hq]; exact HHd.out) (fun hHeld => ?_)
        clear hK K
        have HH1 := Lib.hid hHeld
        clear hHeld HHd
        replace K2 : Hid (Blk wq g2 87 (SGl kb nb pb)) := Lib.hid (by rw [hq]; exact K2.out)
        have B5b : Hid (Below D w wq) := Lib.hid (by rw [hq]; exact ⟨BW.out.os, BW.out.tape, BW.out.output, BW.out.size, BW.out.block⟩)
        clear hq
        refine wpAnyH_take (i := 6) (oi := ⟨some 126, _, _, _, _, _⟩) (v := (.bool true)) rfl (by kernel_rfl) (by kernel_rfl) (by kernel_rfl) (fun _ _ _ h => h) (Or.inl ⟨by rfl, ?_⟩) HH1.out ?_
        · intro w' hS; go_simp; try with_reducible rfl
        simp only [Act.put, List.setIfInBounds_toArray, List.set_cons_zero, List.set_cons_succ]
        refine wpAnyH_take (i := 7) (oi := ⟨some 127, _, _, _, _, _⟩) (v := (.bool true)) rfl (by kernel_rfl) (by kernel_rfl) (by kernel_rfl) (fun _ _ _ h => h) (Or.inl ⟨by rfl, ?_⟩) HH1.out ?_
        · intro w' hS; go_simp; try with_reducible rfl
        simp only [Act.put, List.setIfInBounds_toArray, List.set_cons_zero, List.set_cons_succ]
        refine wpAnyH_take (i := 8) (oi := ⟨some 128, _, _, _, _, _⟩) (v := (.pointer (some ⟨g2, 0, none⟩))) rfl (by kernel_rfl) (by kernel_rfl) (by kernel_rfl) (fun _ _ _ h => h) (Or.inl ⟨by rfl, ?_⟩) HH1.out ?_
        · intro w' hS; go_simp; try with_reducible rfl
        simp only [Act.put, List.setIfInBounds_toArray, List.set_cons_zero, List.set_cons_succ]
        refine wpAnyH_take (i := 10) (oi := ⟨some 130, _, _, _, _, _⟩) (v := (.pointer (some ⟨g4, 0, none⟩))) rfl (by kernel_rfl) (by kernel_rfl) (by kernel_rfl) (fun _ _ _ h => h) (Or.inl ⟨by rfl, ?_⟩) HH1.out ?_
        · intro w' hS; go_simp; try with_reducible rfl
        simp only [Act.put, List.setIfInBounds_toArray, List.set_cons_zero, List.set_cons_succ]
        refine wpAnyH_take (i := 11) (oi := ⟨some 131, _, _, _, _, _⟩) (v := (.pointer (some ⟨g4, 0, none⟩))) rfl (by kernel_rfl) (by kernel_rfl) (by kernel_rfl) (fun _ _ _ h => h) (Or.inl ⟨by rfl, ?_⟩) HH1.out ?_
        · intro w' hS; go_simp; try with_reducible rfl
        simp only [Act.put, List.setIfInBounds_toArray, List.set_cons_zero, List.set_cons_succ]
        refine wpAnyH_take (i := 12) (oi := ⟨some 132, _, _, _, _, _⟩) (v := (.pointer (some ⟨g4, 44, none⟩))) rfl (by kernel_rfl) (by kernel_rfl) (by kernel_rfl) (fun _ _ _ h => h) (Or.inl ⟨by rfl, ?_⟩) HH1.out ?_
        · intro w' hS; go_simp; try with_reducible rfl
        simp only [Act.put, List.setIfInBounds_toArray, List.set_cons_zero, List.set_cons_succ]
        refine wpAnyH_take (i := 13) (oi := ⟨some 133, _, _, _, _, _⟩) (v := (.int .u64 ((pb : Nat) : Int))) rfl (by kernel_rfl) (by kernel_rfl) (by kernel_rfl) (fun _ _ _ h => h) (Or.inl ⟨by rfl, ?_⟩) HH1.out ?_
        · intro w' hS; have z0 : w'.cell? ⟨g4, 44, none⟩ = some (.int .u64 ((pb : Nat) : Int)) := (World.cell?_of_block (w := wr) (w' := w') hS.2).trans (HPLB.out g4 (pb) wr K4c.out); go_simp; try with_reducible rfl
        simp only [Act.put, List.setIfInBounds_toArray, List.set_cons_zero, List.set_cons_succ]
        refine wpAnyH_ready (rs := [9]) (by kernel_rfl) (by simp) ?_
        refine AllReadyH.cons (o := ⟨some 129, _, _, _, _, _⟩) rfl (fun K hK => ?_) AllReadyH.nil
        rw [if_pos (by rfl)]
        go_simp
        refine (HATB.out g2 (pb) wq K2.out).mono ?_
        rintro e w6 ⟨rfl, hq⟩
        (try simp only [Act.put, List.setIfInBounds_toArray, List.set_cons_zero, List.set_cons_succ])
        refine hK.out _ _ (by rw [hq]; exact HH1.out) (fun hHeld => ?_)
        clear hK K
        have HH2 := Lib.hid hHeld
        clear hHeld HH1
        have BE : Hid (Below D w w6) := Lib.hid (by rw [hq]; exact B5b.out)
        clear hq B5b
        refine wpAnyH_take (i := 14) (oi := ⟨some 134, _, _, _, _, _⟩) (v := (.bool true)) rfl (by kernel_rfl) (by kernel_rfl) (by kernel_rfl) (fun _ _ _ h => h) (Or.inl ⟨by rfl, ?_⟩) HH2.out ?_
        · intro w' hS; go_simp; try with_reducible rfl
        simp only [Act.put, List.setIfInBounds_toArray, List.set_cons_zero, List.set_cons_succ]
        refine wpAnyH_take (i := 15) (oi := ⟨some 135, _, _, _, _, _⟩) (v := (.bool true)) rfl (by kernel_rfl) (by kernel_rfl) (by kernel_rfl) (fun _ _ _ h => h) (Or.inl ⟨by rfl, ?_⟩) HH2.out ?_
        · intro w' hS; go_simp; try with_reducible rfl
        simp only [Act.put, List.setIfInBounds_toArray, List.set_cons_zero, List.set_cons_succ]
        refine wpAnyH_take (i := 16) (oi := ⟨some 2, _, _, _, _, _⟩) (v := (.bool true)) rfl (by kernel_rfl) (by kernel_rfl) (by kernel_rfl) (fun _ _ _ h => h) (Or.inl ⟨by rfl, ?_⟩) HH2.out ?_
        · intro w' hS; go_simp; try with_reducible rfl
        simp only [Act.put, List.setIfInBounds_toArray, List.set_cons_zero, List.set_cons_succ]
        refine wpAnyH_done (by kernel_rfl) ?_ _
        go_wp2_with fail
        go_ret
        exact ⟨rfl, by rw [← HDE.out]; exact BE.out⟩
end Go.Proofs.Ytldbmjkecmmmjaa

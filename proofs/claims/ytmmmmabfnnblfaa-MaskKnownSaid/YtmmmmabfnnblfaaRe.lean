/-
  What is known while the rows are written over.
-/
import Derived.Test.YtmmmmabfnnblfaaRg
set_option linter.unusedVariables false
namespace Go.Proofs.Ytmmmmabfnnblfaa
open Go.RowKit

/-- What is known of the rows that were cut. -/
structure Led (w0 w : World) (n : Nat) (xss : Nat → List Int) (F : Option Addr) (fl fc : Nat) (LA : Option Addr) (lc : Nat) (f : Nat → List Int) : Prop where
  b : Below w0.heap.size w0 w
  o : Own w w0.heap.size 5 .u8 (.slice F fl fc) (flatM f n)
  l : OwnV w w0.heap.size 47 (.slice LA n lc) ((List.range n).map fun i => (cutH F xss fc i).v)
  e : ∀ j, j < n → (f j).length = (xss j).length
  c : offM xss n ≤ fc
section
variable {w0 w w' w9 w10 : World} {n fl fc lc tc : Nat} {xss f f1 f2 : Nat → List Int} {F LA TA : Option Addr} {vs : Nat → Value}
theorem rdh_of {w : World} {A : Option Addr} {n : Nat} {ks : Nat → Hd} (h : RdV w A ((List.range n).map fun i => (ks i).v)) : RdH w A ks n := fun i hi => by
  obtain ⟨b, off, hA, hc⟩ := h i (by simpa using hi)
  have e : ((List.range n).map fun i => (ks i).v)[i]? = some (ks i).v := by simp [hi]
  rw [e] at hc
  exact ⟨b, off, hA, World.block_lt_of_cell? w _ hc, hc⟩
theorem Led.below (h : Led w0 w n xss F fl fc LA lc f) (hb : Below w.heap.size w w') : Led w0 w' n xss F fl fc LA lc f :=
  ⟨h.b.trans (hb.mono h.b.size), h.o.below hb, h.l.below hb, h.e, h.c⟩
theorem Led.rdh (h : Led w0 w n xss F fl fc LA lc f) : RdH w LA (cutH F xss fc) n := by
  obtain ⟨A, c, hv, h1, _⟩ := rd_ownV h.l
  injection hv with e1 e2 e3
  subst e1
  exact rdh_of h1
theorem Led.cth (h : Led w0 w n xss F fl fc LA lc f) : CtH w (cutH F xss fc) f n := cut_holds h.o h.e h.c
theorem Led.low (h : Led w0 w n xss F fl fc LA lc f) : ∀ i, i < n → ∀ x, (cutH F xss fc i).A = some x → x.block < w.heap.size := fun i hi x hx => by
  obtain ⟨a, ha, he⟩ := cutA_block hx
  rw [← he]
  exact (h.o.base_le (g := a.block) (by rw [ha]; rfl)).2
theorem Led.hdr (h : Led w0 w n xss F fl fc LA lc f) {i : Nat} (hi : i < n) : ∃ b off A c, LA = some ⟨b, off, none⟩ ∧ w.cell? ⟨b, off + i, none⟩ = some (.slice A (xss i).length c) := by
  obtain ⟨b, off, hL, _, hc⟩ := h.rdh i hi
  exact ⟨b, off, _, _, hL, hc⟩
theorem Led.at (h : Led w0 w n xss F fl fc LA lc f) {i k : Nat} (hi : i < n) (hk : k < (xss i).length) :
    ∃ b off g o y, LA = some ⟨b, off, none⟩ ∧ F = some ⟨g, 0, none⟩ ∧ w.cell? ⟨b, off + i, none⟩ = some (.slice (some ⟨g, o, none⟩) (xss i).length (fc - o)) ∧ w.cell? ⟨g, o + k, none⟩ = some (.int .u8 y) ∧ w.frozen? ⟨g, o + k, none⟩ = false ∧ Hid (o = offM xss i) ∧ Hid (y = (f i).getD k 0) := by
  obtain ⟨b, off, hL, _, hc⟩ := h.rdh i hi
  have hkf : k < (f i).length := by rw [h.e i hi]; exact hk
  have hof : offM f i = offM xss i := offM_congr fun j hj => h.e j (by omega)
  have hm := offM_mono f hi
  have hlt : offM f i + k < (flatM f n).length := by rw [flatM_len]; omega
  obtain ⟨g, c, y, hv, hy, hz⟩ := h.o.cells hlt
  injection hv with e1 e2 e3
  obtain ⟨A, c', hv2, _, _, hr, _⟩ := h.o.slice
  injection hv2 with a1 a2 a3
  subst a1
  obtain ⟨b2, off2, hA, hc2⟩ := hr _ hlt
  rw [e1] at hA
  injection hA with hA
  injection hA with hA1 hA2
  subst hA1 hA2
  rw [Nat.zero_add, hy, flatM_get hi hkf] at hc2
  have hmx := offM_mono xss hi
  have hcc := h.c
  have hcut : (cutH F xss fc i).A = some ⟨g, offM xss i, none⟩ := by
    show cutA F (offM xss i) fc = _
    rw [e1, cutA_some (by omega), Nat.zero_add]
  rw [hcut] at hc
  rw [hof] at hy hz
  injection hc2 with hc2
  injection hc2 with _ hc2
  exact ⟨b, off, g, offM xss i, y, hL, e1, hc, hy, hz, Lib.hid rfl, Lib.hid hc2⟩

/-- What is known between two writes. -/
structure Dbl (w0 w9 w10 w : World) (n : Nat) (xss : Nat → List Int) (F : Option Addr) (fl fc : Nat) (LA : Option Addr) (lc : Nat) (TA : Option Addr) (tc : Nat) (vs : Nat → Value) (f1 f2 : Nat → List Int) : Prop where
  led : Led w0 w n xss F fl fc LA lc f1
  tl : OwnV w w9.heap.size 47 (.slice TA n tc) ((List.range n).map vs)
  sv : Sev w w9.heap.size n vs f2
  e : ∀ j, j < n → (f2 j).length = (xss j).length
  fr : Fr (fun q => (Value.slice F fl fc).ownBlock = some q ∨ Blks n vs q) w10 w
  lo : ∀ g, (Value.slice F fl fc).ownBlock = some g → g < w9.heap.size
  hi : w0.heap.size ≤ w9.heap.size
theorem Dbl.drew (h : Dbl w0 w9 w10 w n xss F fl fc LA lc TA tc vs f1 f2) : Dbl w0 w9 w10 w.drew n xss F fl fc LA lc TA tc vs f1 f2 :=
  ⟨⟨h.led.b.drew, h.led.o, h.led.l, h.led.e, h.led.c⟩, h.tl, h.sv, h.e, h.fr.drew, h.lo, h.hi⟩
theorem Dbl.congr {g1 g2 : Nat → List Int} (h : Dbl w0 w9 w10 w n xss F fl fc LA lc TA tc vs f1 f2) (e1 : ∀ j, j < n → f1 j = g1 j) (e2 : ∀ j, j < n → f2 j = g2 j) : Dbl w0 w9 w10 w n xss F fl fc LA lc TA tc vs g1 g2 :=
  ⟨⟨h.led.b, h.led.o.congr (flatM_congr e1), h.led.l, fun j hj => by rw [← e1 j hj]; exact h.led.e j hj, h.led.c⟩, h.tl, h.sv.congrX e2, fun j hj => by rw [← e2 j hj]; exact h.e j hj, h.fr, h.lo, h.hi⟩
theorem upd1_len {f : Nat → List Int} {i k : Nat} {y : Int} (h : ∀ j, j < n → (f j).length = (xss j).length) : ∀ j, j < n → (upd1 f i ((f i).set k y) j).length = (xss j).length := fun j hj => by
  by_cases e : j = i
  · subst e; rw [upd1_eq, List.length_set]; exact h j hj
  · rw [upd1_ne e]; exact h j hj
theorem Dbl.setF (h : Dbl w0 w9 w10 w n xss F fl fc LA lc TA tc vs f1 f2) {i k g o : Nat} (hi : i < n) (hk : k < (xss i).length) (hF : F = some ⟨g, 0, none⟩) (ho : o = offM xss i) (y : Int) :
    Dbl w0 w9 w10 (w.setCell ⟨g, o + k, none⟩ (.int .u8 y)) n xss F fl fc LA lc TA tc vs (upd1 f1 i ((f1 i).set k y)) f2 := by
  have hkf : k < (f1 i).length := by rw [h.led.e i hi]; exact hk
  have hof : offM f1 i = offM xss i := offM_congr fun j hj => h.led.e j (by omega)
  have hg : (Value.slice F fl fc).ownBlock = some g := by rw [hF]; rfl
  have hF1 : Fr (fun q => q = g) w (w.setCell ⟨g, o + k, none⟩ (.int .u8 y)) := (Fr.refl (fun q => q = g) w).setCell (p := ⟨g, o + k, none⟩) (.inl rfl) _
  have hb := h.led.o.base_le hg
  have hm := offM_mono f1 hi
  have hlt : offM f1 i + k < (flatM f1 n).length := by rw [flatM_len]; omega
  refine ⟨⟨h.led.b.trans (hF1.below h.led.b.size (fun q hq => by subst hq; exact hb.1)), ?_, ?_, upd1_len h.led.e, h.led.c⟩, ?_, ?_, h.e, h.fr.setCell (p := ⟨g, o + k, none⟩) (.inl (.inl hg)) _, h.lo, h.hi⟩
  · have h1 := h.led.o
    rw [hF] at h1 ⊢
    have h2 := h1.setAt hlt y
    rw [flatM_set hi hkf, hof, ← ho] at h2
    exact h2
  · exact h.led.l.fr hF1 (fun q hq e => by subst e; exact OwnV.ne h.led.l h.led.o.toV (by decide) q hq hg)
  · exact h.tl.fr hF1 (fun q hq e => by subst e; exact OwnV.ne h.tl h.led.o.toV (by decide) q hq hg)
  · refine h.sv.fr hF1 (fun j q hj hq e => ?_)
    subst e
    have h1 := ((h.sv.1 j hj).base_le hq).1
    have h2 := h.lo q hg
    omega
theorem Dbl.setT (h : Dbl w0 w9 w10 w n xss F fl fc LA lc TA tc vs f1 f2) {i k g m c : Nat} (hi : i < n) (hk : k < (xss i).length) (hv : vs i = .slice (some ⟨g, 0, none⟩) m c) (y : Int) :
    Dbl w0 w9 w10 (w.setCell ⟨g, k, none⟩ (.int .u8 y)) n xss F fl fc LA lc TA tc vs f1 (upd1 f2 i ((f2 i).set k y)) := by
  have hkf : k < (f2 i).length := by rw [h.e i hi]; exact hk
  have hg : (vs i).ownBlock = some g := by rw [hv]; rfl
  have hF1 : Fr (fun q => q = g) w (w.setCell ⟨g, k, none⟩ (.int .u8 y)) := (Fr.refl (fun q => q = g) w).setCell (p := ⟨g, k, none⟩) (.inl rfl) _
  have hb := (h.sv.1 i hi).base_le hg
  refine ⟨⟨h.led.b.trans (hF1.below h.led.b.size (fun q hq => by subst hq; exact Nat.le_trans h.hi hb.1)), ?_, ?_, h.led.e, h.led.c⟩, ?_, h.sv.set hi hv hkf y, upd1_len h.e, h.fr.setCell (p := ⟨g, k, none⟩) (.inl (.inr ⟨i, hi, hg⟩)) _, h.lo, h.hi⟩
  · refine h.led.o.fr hF1 (fun q hq e => ?_)
    subst e
    have := h.lo q hq
    omega
  · exact h.led.l.fr hF1 (fun q hq e => by subst e; exact OwnV.ne h.led.l (h.sv.1 i hi).toV (by decide) q hq hg)
  · exact h.tl.fr hF1 (fun q hq e => by subst e; exact OwnV.ne h.tl (h.sv.1 i hi).toV (by decide) q hq hg)
theorem Dbl.at2 (h : Dbl w0 w9 w10 w n xss F fl fc LA lc TA tc vs f1 f2) {i k : Nat} (hi : i < n) (hk : k < (xss i).length) :
    ∃ b off g c y, TA = some ⟨b, off, none⟩ ∧ vs i = .slice (some ⟨g, 0, none⟩) (xss i).length c ∧ w.cell? ⟨b, off + i, none⟩ = some (.slice (some ⟨g, 0, none⟩) (xss i).length c) ∧ w.cell? ⟨g, k, none⟩ = some (.int .u8 y) ∧ w.frozen? ⟨g, k, none⟩ = false ∧ Hid (y = (f2 i).getD k 0) := by
  have hkf : k < (f2 i).length := by rw [h.e i hi]; exact hk
  obtain ⟨A, c0, hv0, hr0, _⟩ := rd_ownV h.tl
  injection hv0 with e1 e2 e3
  subst e1
  obtain ⟨b, off, hA, hc⟩ := hr0 i (by simpa using hi)
  have e : ((List.range n).map vs)[i]? = some (vs i) := by simp [hi]
  rw [e] at hc
  have ho := h.sv.1 i hi
  obtain ⟨g, c, y, hv, hy, hz⟩ := ho.cells hkf
  obtain ⟨A2, c2, hv2, _, _, hr, _⟩ := ho.slice
  rw [hv] at hv2
  injection hv2 with a1 a2 a3
  subst a1
  obtain ⟨b3, off3, hA3, hc3⟩ := hr k hkf
  injection hA3 with hA3
  injection hA3 with hA4 hA5
  subst hA4 hA5
  rw [Nat.zero_add, hy] at hc3
  injection hc3 with hc3
  injection hc3 with _ hc3
  rw [h.e i hi] at hv
  rw [hv] at hc
  exact ⟨b, off, g, c, y, hA, hv, hc, hy, hz, Lib.hid hc3⟩
def hdOf : Value → Hd
  | .slice A m c => ⟨A, m, c⟩
  | _ => ⟨none, 0, 0⟩
theorem own_form {w : World} {base T : Nat} {k : IntKind} {v : Value} {xs : List Int} (h : Own w base T k v xs) : ∃ A n c, v = .slice A n c := by
  obtain ⟨A, c, h1, _⟩ := h.slice
  exact ⟨A, _, c, h1⟩
theorem Dbl.rdt (h : Dbl w0 w9 w10 w n xss F fl fc LA lc TA tc vs f1 f2) : RdH w TA (fun i => hdOf (vs i)) n := fun i hi => by
  obtain ⟨A, c0, hv0, hr0, _⟩ := rd_ownV h.tl
  injection hv0 with e1 e2 e3
  subst e1
  obtain ⟨b, off, hA, hc⟩ := hr0 i (by simpa using hi)
  have e : ((List.range n).map vs)[i]? = some (vs i) := by simp [hi]
  rw [e] at hc
  obtain ⟨A1, n1, c1, hv⟩ := own_form (h.sv.1 i hi)
  refine ⟨b, off, hA, World.block_lt_of_cell? w _ hc, ?_⟩
  show w.cell? ⟨b, off + i, none⟩ = some (.slice (hdOf (vs i)).A (hdOf (vs i)).m (hdOf (vs i)).c)
  rw [hc, hv]
  rfl
theorem Dbl.ctt (h : Dbl w0 w9 w10 w n xss F fl fc LA lc TA tc vs f1 f2) : CtH w (fun i => hdOf (vs i)) f2 n := fun i hi => by
  obtain ⟨A, c, hv, _, _, hr, _⟩ := (h.sv.1 i hi).slice
  show (hdOf (vs i)).m = _ ∧ Rd w .u8 (hdOf (vs i)).A _
  rw [hv]
  exact ⟨rfl, hr⟩
theorem Dbl.below (h : Dbl w0 w9 w10 w n xss F fl fc LA lc TA tc vs f1 f2) (hb : Below w.heap.size w w') : Dbl w0 w9 w10 w' n xss F fl fc LA lc TA tc vs f1 f2 :=
  ⟨h.led.below hb, h.tl.below hb, h.sv.below hb, h.e, h.fr.trans (Fr.of_below hb _), h.lo, h.hi⟩
/-- Rows that were written in blocks of their own leave the others as they were. -/
theorem Dbl.apart (h : Dbl w0 w9 w10 w n xss F fl fc LA lc TA tc vs f1 f2) {N base : Nat} {us : Nat → Value} {X : Nat → List Int} (hf : Fr (Blks N us) w w') (ho : ∀ j, j < N → Own w base 5 .u8 (us j) (X j)) (hb : w0.heap.size ≤ base)
    (h1 : ∀ j g, j < N → (us j).ownBlock = some g → (Value.slice F fl fc).ownBlock ≠ some g) (h2 : ∀ j i g, j < N → i < n → (us j).ownBlock = some g → (vs i).ownBlock ≠ some g) :
    Below w0.heap.size w0 w' ∧ RdH w' LA (cutH F xss fc) n ∧ CtH w' (cutH F xss fc) f1 n ∧ RdH w' TA (fun i => hdOf (vs i)) n ∧ CtH w' (fun i => hdOf (vs i)) f2 n := by
  have hB : Below w0.heap.size w0 w' := h.led.b.trans (hf.below h.led.b.size (fun q ⟨j, hj, hq⟩ => Nat.le_trans hb ((ho j hj).base_le hq).1))
  have hl : OwnV w' w0.heap.size 47 (.slice LA n lc) ((List.range n).map fun i => (cutH F xss fc i).v) := h.led.l.fr hf (fun q hq ⟨j, hj, hj2⟩ => OwnV.ne h.led.l (ho j hj).toV (by decide) q hq hj2)
  have hL : Led w0 w' n xss F fl fc LA lc f1 := ⟨hB, h.led.o.fr hf (fun q hq ⟨j, hj, hj2⟩ => h1 j q hj hj2 hq), hl, h.led.e, h.led.c⟩
  have hT : OwnV w' w9.heap.size 47 (.slice TA n tc) ((List.range n).map vs) := h.tl.fr hf (fun q hq ⟨j, hj, hj2⟩ => OwnV.ne h.tl (ho j hj).toV (by decide) q hq hj2)
  have hS : Sev w' w9.heap.size n vs f2 := h.sv.fr hf (fun i q hi hq ⟨j, hj, hj2⟩ => h2 j i q hj hi hj2 hq)
  have hD : Dbl w0 w9 w' w' n xss F fl fc LA lc TA tc vs f1 f2 := ⟨hL, hT, hS, h.e, Fr.refl _ _, h.lo, h.hi⟩
  exact ⟨hB, hL.rdh, hL.cth, hD.rdt, hD.ctt⟩
end
end Go.Proofs.Ytmmmmabfnnblfaa

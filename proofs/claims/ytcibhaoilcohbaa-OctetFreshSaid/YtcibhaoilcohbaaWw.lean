/-
  Walk: the law OctetWrites.
-/
import Derived.Test.YtcibhaoilcohbaaWv
set_option linter.unusedVariables false
set_option linter.unusedSimpArgs false
namespace Go.Proofs.Ytcibhaoilcohbaa
open Go.RowKit

def In4 (p g p2 g2 j : Nat) : Prop := j = p ∨ j = g ∨ j = p2 ∨ j = g2
/-- One side: its writers are there, and lie above. -/
def Side (B : Nat) (w : World) (a : Bool) (p g p2 g2 z : Nat) : Prop := a = true → (∃ bs e, Duo w p g p2 g2 z bs e) ∧ (B ≤ p ∧ B ≤ g ∧ B ≤ p2 ∧ B ≤ g2)
def Sep (p g p2 g2 p3 g3 p4 g4 : Nat) : Prop := ∀ j, In4 p g p2 g2 j → ¬ In4 p3 g3 p4 g4 j
def St (w0 : World) (a b : Bool) (p p2 z p3 p4 y : Nat) (w : World) : Prop :=
  ∃ g g2 g3 g4, Side w0.heap.size w a p g p2 g2 z ∧ Side w0.heap.size w b p3 g3 p4 g4 y ∧ (a = true → b = true → Sep p g p2 g2 p3 g3 p4 g4) ∧ Below w0.heap.size w0 w
theorem Duo.lt {w : World} {p g p2 g2 z : Nat} {bs : List Int} {e : Int} (h : Duo w p g p2 g2 z bs e) {j : Nat} (hj : In4 p g p2 g2 j) : j < w.heap.size := by
  have h1 := h.1.lt
  have h2 := h.2.1.lt
  unfold In4 at hj
  omega
theorem St.fr {w0 : World} {a b : Bool} {p p2 z p3 p4 y : Nat} {w w' : World} (h : St w0 a b p p2 z p3 p4 y w) (hf : Fr (fun _ => False) w w') : St w0 a b p p2 z p3 p4 y w' := by
  obtain ⟨g, g2, g3, g4, h1, h2, h3, h4⟩ := h
  exact ⟨g, g2, g3, g4, fun ha => by obtain ⟨⟨bs, e, hd⟩, hb⟩ := h1 ha; exact ⟨⟨bs, e, hd.fr hf id id id id⟩, hb⟩, fun ha => by obtain ⟨⟨bs, e, hd⟩, hb⟩ := h2 ha; exact ⟨⟨bs, e, hd.fr hf id id id id⟩, hb⟩, h3, h4.trans (hf.below h4.size (fun j h => h.elim))⟩
theorem st_use1 {w0 : World} {b : Bool} {p p2 z p3 p4 y : Nat} {w : World} (h : St w0 true b p p2 z p3 p4 y w) :
    ∃ g g2 bs e, Duo w p g p2 g2 z bs e ∧ (w0.heap.size ≤ p ∧ w0.heap.size ≤ g ∧ w0.heap.size ≤ p2 ∧ w0.heap.size ≤ g2) ∧ Below w0.heap.size w0 w ∧ ∀ w', DuoStep w p g p2 g2 z w' → St w0 true b p p2 z p3 p4 y w' := by
  obtain ⟨g, g2, g3, g4, h1, h2, h3, h4⟩ := h
  obtain ⟨⟨bs, e, hd⟩, hb⟩ := h1 rfl
  refine ⟨g, g2, bs, e, hd, hb, h4, fun w' ⟨g', g2', bs', e', k1, k2, k3, k4⟩ => ?_⟩
  have hs := h4.size
  refine ⟨g', g2', g3, g4, fun _ => ⟨⟨bs', e', k1⟩, by omega⟩, fun hbt => ?_, fun _ hbt j hj hj3 => ?_, h4.trans (k4.below h4.size (fun j hj => by omega))⟩
  · obtain ⟨⟨bs3, e3, hd3⟩, hb3⟩ := h2 hbt
    have hsep := h3 rfl hbt
    exact ⟨⟨bs3, e3, hd3.fr k4 (fun h => hsep p3 h (.inl rfl)) (fun h => hsep g3 h (.inr (.inl rfl))) (fun h => hsep p4 h (.inr (.inr (.inl rfl)))) (fun h => hsep g4 h (.inr (.inr (.inr rfl))))⟩, hb3⟩
  · obtain ⟨⟨bs3, e3, hd3⟩, hb3⟩ := h2 hbt
    have hsep := h3 rfl hbt j
    have hlt := hd3.lt hj3
    refine hsep ?_ hj3
    unfold In4 at hj ⊢
    omega
theorem st_use2 {w0 : World} {a : Bool} {p p2 z p3 p4 y : Nat} {w : World} (h : St w0 a true p p2 z p3 p4 y w) :
    ∃ g g2 bs e, Duo w p3 g p4 g2 y bs e ∧ (w0.heap.size ≤ p3 ∧ w0.heap.size ≤ g ∧ w0.heap.size ≤ p4 ∧ w0.heap.size ≤ g2) ∧ Below w0.heap.size w0 w ∧ ∀ w', DuoStep w p3 g p4 g2 y w' → St w0 a true p p2 z p3 p4 y w' := by
  obtain ⟨g, g2, g3, g4, h1, h2, h3, h4⟩ := h
  obtain ⟨⟨bs, e, hd⟩, hb⟩ := h2 rfl
  refine ⟨g3, g4, bs, e, hd, hb, h4, fun w' ⟨g', g2', bs', e', k1, k2, k3, k4⟩ => ?_⟩
  have hs := h4.size
  refine ⟨g, g2, g', g2', fun hat => ?_, fun _ => ⟨⟨bs', e', k1⟩, by omega⟩, fun hat _ j hj hj3 => ?_, h4.trans (k4.below h4.size (fun j hj => by omega))⟩
  · obtain ⟨⟨bs3, e3, hd3⟩, hb3⟩ := h1 hat
    have hsep := h3 hat rfl
    exact ⟨⟨bs3, e3, hd3.fr k4 (fun h => hsep p (.inl rfl) h) (fun h => hsep g (.inr (.inl rfl)) h) (fun h => hsep p2 (.inr (.inr (.inl rfl))) h) (fun h => hsep g2 (.inr (.inr (.inr rfl))) h)⟩, hb3⟩
  · obtain ⟨⟨bs3, e3, hd3⟩, hb3⟩ := h1 hat
    have hsep := h3 hat rfl j hj
    have hlt := hd3.lt hj
    apply hsep
    unfold In4 at hj3 ⊢
    omega
theorem wfu64 {x : Int} (h : (Lit.int .u64 x).wf = true) : ∃ n : Nat, x = n ∧ n < 18446744073709551616 := by
  have : 0 ≤ x ∧ x ≤ 18446744073709551615 := by simpa [Lit.wf, IntKind.min, IntKind.max, IntKind.signed, IntKind.bits] using h
  exact ⟨x.toNat, by omega, by omega⟩
theorem st_call1 {w0 : World} {b : Bool} {p p2 z p3 p4 y : Nat} {w : World} (h : St w0 true b p p2 z p3 p4 y w) (f : Nat → Stp) (m i : Nat) (hi : i < m) (hn : NumOk f m) (hd : DataOk w0 f m) :
    Calls Try.prog 41 #[.pointer (some ⟨p, 0, none⟩), .pointer (some ⟨p2, 0, none⟩), .agg #[.int .i64 (f i).d, .int .i64 (f i).n, .int .u64 (f i).v, (f i).s]] w fun e w' => e = .returned (.bool true) ∧ Hid (St w0 true b p p2 z p3 p4 y w') := by
  obtain ⟨g, g2, bs, e, hD, hB, hb0, hall⟩ := st_use1 h
  obtain ⟨_, _, w3⟩ := hn i hi
  obtain ⟨X, hX, hX64⟩ := wfu64 w3
  obtain ⟨A, c, xs, hs, r, _, hl⟩ := hd i hi
  rw [hX, hs]
  exact (wrote_any p g p2 g2 z bs e _ _ X A _ c xs w0 w hD hX64 hb0 r rfl (by omega) hB).mono fun e' w' ⟨h1, h2⟩ => ⟨h1, Lib.hid (hall w' h2.out)⟩
theorem st_last1 {w0 : World} {b : Bool} {p p2 z p3 p4 y : Nat} {w : World} (h : St w0 true b p p2 z p3 p4 y w) :
    Calls Try.prog 41 #[.pointer (some ⟨p, 0, none⟩), .pointer (some ⟨p2, 0, none⟩), .agg #[.int .i64 8, .int .i64 0, .int .u64 0, .slice none 0 0]] w fun e w' => e = .returned (.bool true) ∧ Hid (St w0 true b p p2 z p3 p4 y w') := by
  obtain ⟨g, g2, bs, e, hD, hB, hb0, hall⟩ := st_use1 h
  exact (wrote_any p g p2 g2 z bs e 8 0 0 none 0 0 [] w0 w hD (by decide) hb0 (Rd.nil _ _ _) rfl (by simp) hB).mono fun e' w' ⟨h1, h2⟩ => ⟨h1, Lib.hid (hall w' h2.out)⟩
theorem st_left1 {w0 : World} {b : Bool} {p p2 z p3 p4 y : Nat} {w : World} (h : St w0 true b p p2 z p3 p4 y w) :
    ∃ r : Int, (Calls Try.prog 42 #[.pointer (some ⟨p, 0, none⟩)] w fun e w' => e = .returned (.int .i64 r) ∧ ∃ q, w' = w.drewN q) ∧ ∀ q1, (Calls Try.prog 43 #[.pointer (some ⟨p2, 0, none⟩)] (w.drewN q1) fun e w' => e = .returned (.int .i64 r) ∧ ∃ q, w' = (w.drewN q1).drewN q) := by
  obtain ⟨g, g2, bs, e, hD, hB, hb0, hall⟩ := st_use1 h
  have hD2 : ∀ q1, Duo (w.drewN q1) p g p2 g2 z bs e := fun q1 => hD.fr ((Fr.refl (fun _ => False) w).drewN q1) id id id id
  exact ⟨_, wleft_any p g z bs e w hD.1 hD.2.2.2.2 hD.2.2.2.1, fun q1 => qleft_any p2 g2 z bs e _ (hD2 q1).2.1 hD.2.2.2.2 hD.2.2.2.1⟩
theorem st_call2 {w0 : World} {a : Bool} {p p2 z p3 p4 y : Nat} {w : World} (h : St w0 a true p p2 z p3 p4 y w) (f : Nat → Stp) (m i : Nat) (hi : i < m) (hn : NumOk f m) (hd : DataOk w0 f m) :
    Calls Try.prog 41 #[.pointer (some ⟨p3, 0, none⟩), .pointer (some ⟨p4, 0, none⟩), .agg #[.int .i64 (f i).d, .int .i64 (f i).n, .int .u64 (f i).v, (f i).s]] w fun e w' => e = .returned (.bool true) ∧ Hid (St w0 a true p p2 z p3 p4 y w') := by
  obtain ⟨g, g2, bs, e, hD, hB, hb0, hall⟩ := st_use2 h
  obtain ⟨_, _, w3⟩ := hn i hi
  obtain ⟨X, hX, hX64⟩ := wfu64 w3
  obtain ⟨A, c, xs, hs, r, _, hl⟩ := hd i hi
  rw [hX, hs]
  exact (wrote_any p3 g p4 g2 y bs e _ _ X A _ c xs w0 w hD hX64 hb0 r rfl (by omega) hB).mono fun e' w' ⟨h1, h2⟩ => ⟨h1, Lib.hid (hall w' h2.out)⟩
theorem st_last2 {w0 : World} {a : Bool} {p p2 z p3 p4 y : Nat} {w : World} (h : St w0 a true p p2 z p3 p4 y w) :
    Calls Try.prog 41 #[.pointer (some ⟨p3, 0, none⟩), .pointer (some ⟨p4, 0, none⟩), .agg #[.int .i64 8, .int .i64 0, .int .u64 0, .slice none 0 0]] w fun e w' => e = .returned (.bool true) ∧ Hid (St w0 a true p p2 z p3 p4 y w') := by
  obtain ⟨g, g2, bs, e, hD, hB, hb0, hall⟩ := st_use2 h
  exact (wrote_any p3 g p4 g2 y bs e 8 0 0 none 0 0 [] w0 w hD (by decide) hb0 (Rd.nil _ _ _) rfl (by simp) hB).mono fun e' w' ⟨h1, h2⟩ => ⟨h1, Lib.hid (hall w' h2.out)⟩
theorem st_left2 {w0 : World} {a : Bool} {p p2 z p3 p4 y : Nat} {w : World} (h : St w0 a true p p2 z p3 p4 y w) :
    ∃ r : Int, (Calls Try.prog 42 #[.pointer (some ⟨p3, 0, none⟩)] w fun e w' => e = .returned (.int .i64 r) ∧ ∃ q, w' = w.drewN q) ∧ ∀ q1, (Calls Try.prog 43 #[.pointer (some ⟨p4, 0, none⟩)] (w.drewN q1) fun e w' => e = .returned (.int .i64 r) ∧ ∃ q, w' = (w.drewN q1).drewN q) := by
  obtain ⟨g, g2, bs, e, hD, hB, hb0, hall⟩ := st_use2 h
  have hD2 : ∀ q1, Duo (w.drewN q1) p3 g p4 g2 y bs e := fun q1 => hD.fr ((Fr.refl (fun _ => False) w).drewN q1) id id id id
  exact ⟨_, wleft_any p3 g y bs e w hD.1 hD.2.2.2.2 hD.2.2.2.1, fun q1 => qleft_any p4 g2 y bs e _ (hD2 q1).2.1 hD.2.2.2.2 hD.2.2.2.1⟩
end Go.Proofs.Ytcibhaoilcohbaa

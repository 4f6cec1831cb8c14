/-
  What is known while the law NetworkShifts goes on: a ledger of its rows; a call of Shift in it.
-/
import Derived.Test.YtpglocgfdonmaaaSw
set_option linter.unusedVariables false
set_option linter.unusedSimpArgs false
namespace Go.Proofs.Ytpglocgfdonmaaa
open Go.RowKit Go.Shelf

abbrev Ob := Nat × Value × List Int
structure NS (w : World) (Ba : Nat) (av : Value) (pre : List Int) (os : List Ob) (W : World) : Prop where
  bel : Below w.heap.size w W
  ba : w.heap.size ≤ Ba
  bx : Blk W Ba 39 [av]
  ask : Own W w.heap.size 3 .i64 av pre
  ob : ∀ o ∈ os, w.heap.size ≤ o.1 ∧ Own W o.1 3 .i64 o.2.1 o.2.2
theorem NS.below {w : World} {Ba : Nat} {av : Value} {pre : List Int} {os : List Ob} {W W' : World} (h : NS w Ba av pre os W) (hb : Below W.heap.size W W') : NS w Ba av pre os W' :=
  ⟨h.bel.trans (hb.mono h.bel.size), h.ba, h.bx.below hb h.bx.lt, h.ask.below hb, fun o ho => ⟨(h.ob o ho).1, (h.ob o ho).2.below hb⟩⟩
theorem NS.cons {w : World} {Ba : Nat} {av : Value} {pre : List Int} {os : List Ob} {W : World} (h : NS w Ba av pre os W) {b : Nat} {v : Value} {xs : List Int} (hb : w.heap.size ≤ b) (ho : Own W b 3 .i64 v xs) : NS w Ba av pre ((b, v, xs) :: os) W :=
  ⟨h.bel, h.ba, h.bx, h.ask, fun o hm => by
    rcases List.mem_cons.1 hm with rfl | hm
    · exact ⟨hb, ho⟩
    · exact h.ob o hm⟩
theorem NS.get {w : World} {Ba : Nat} {av : Value} {pre : List Int} {os : List Ob} {W : World} (h : NS w Ba av pre os W) (b : Nat) (v : Value) (xs : List Int) (hm : (b, v, xs) ∈ os) : Own W b 3 .i64 v xs := (h.ob _ hm).2
/-- Rows of the ledger that a change leaves alone. -/
theorem NS.fr {w : World} {Ba : Nat} {av : Value} {pre : List Int} {os : List Ob} {W W' : World} {S : Nat → Prop} (h : NS w Ba av pre os W) (hf : Fr S W W') (hlo : ∀ g, S g → w.heap.size ≤ g) (hB : ¬ S Ba) (hav : ∀ g, av.ownBlock = some g → ¬ S g) (hos : ∀ o ∈ os, ∀ g, o.2.1.ownBlock = some g → ¬ S g) : NS w Ba av pre os W' :=
  ⟨h.bel.trans (hf.below h.bel.size hlo), h.ba, h.bx.fr hf hB, h.ask.fr hf hav, fun o ho => ⟨(h.ob o ho).1, (h.ob o ho).2.fr hf (hos o ho)⟩⟩
theorem own_neB {w : World} {base T g Ba : Nat} {kd : IntKind} {v : Value} {xs : List Int} {T' : Nat} {cs : List Value} (h : Own w base T kd v xs) (hB : Blk w Ba T' cs) (hT : T ≠ T') (hg : v.ownBlock = some g) : g ≠ Ba := by
  rcases h.form with ⟨h4, h5⟩ | ⟨g', c', rest, h4, h5, h6, h7, h8⟩
  · rw [h4] at hg; cases hg
  · rw [h4] at hg
    injection hg with hg
    subst hg
    exact Blk.ne h6 hB hT
def asks (n : Nat) (xs : List Int) : List Int := if n ≤ 65536 then xs else []
theorem SHF_len_le (xs : List Int) : (SHF xs).length ≤ xs.length := by
  have := SHL_len_le (xs.map evF)
  simpa [SHF] using this
theorem shift_ns (w : World) (Ba : Nat) (A0 : Option Addr) (m0 c0 : Nat) (pre : List Int) (os : List Ob) (W : World) (A : Option Addr) (n c : Nat) (xs : List Int) (h : NS w Ba (.slice A0 m0 c0) pre os W) (hn : n = xs.length) (hr : Rd W .i64 A xs) (hl : n ≤ 17592186044000) (hx : ∀ i, R64 (xs.getD i 0)) (hpre : pre.length ≤ 1000000)
    (hA : ∀ a, A = some a → a.block ≠ Ba ∧ (Value.slice A0 m0 c0).ownBlock ≠ some a.block) (hos : ∀ o ∈ os, ∀ g, o.2.1.ownBlock = some g → (Value.slice A0 m0 c0).ownBlock ≠ some g) :
    Calls Try.prog 35 #[.slice A n c, .func (.func 33) #[] #[.pointer (some ⟨Ba, 0, none⟩)]] W fun e w' => ∃ A1 k1 c1 A2 m2 c2 hi, e = .returned (.slice A1 k1 c1) ∧ Hid (k1 = (SHF xs).length) ∧ Hid (m2 = (pre ++ asks n xs).length) ∧
      Hid (NS w Ba (.slice A2 m2 c2) (pre ++ asks n xs) ((W.heap.size, .slice A1 k1 c1, SHF xs) :: os) w') ∧ Hid (W.heap.size ≤ w'.heap.size ∧ W.heap.size ≤ hi) ∧ Hid (∀ g, (Value.slice A1 k1 c1).ownBlock = some g → W.heap.size ≤ g ∧ g < hi ∧ g < w'.heap.size) ∧
      Hid (∀ g, (Value.slice A2 m2 c2).ownBlock = some g → (Value.slice A0 m0 c0).ownBlock = some g ∨ hi ≤ g ∧ g < w'.heap.size) := by
  by_cases hbig : 65536 < n
  · refine (shift_big _ A n c W hbig).mono ?_
    rintro e w' ⟨rfl, rfl⟩
    have h1 : SHF xs = [] := by unfold SHF SHL; rw [if_neg (by simp; omega)]; rfl
    have h2 : asks n xs = [] := by unfold asks; rw [if_neg (by omega)]
    have hm : m0 = pre.length := by
      obtain ⟨A', c', hv, -⟩ := h.ask.slice
      injection hv
    rw [h1, h2, List.append_nil]
    exact ⟨none, 0, 0, A0, m0, c0, w'.heap.size, rfl, Lib.hid rfl, Lib.hid hm, Lib.hid (h.cons h.bel.size (Own.nil _ _ _ _)), Lib.hid ⟨Nat.le_refl _, Nat.le_refl _⟩, Lib.hid (fun g hg => by cases hg), Lib.hid (fun g hg => .inl hg)⟩
  · have hBl : Ba < W.heap.size := h.bx.lt
    have hlow : ∀ b, (b = Ba ∨ (Value.slice A0 m0 c0).ownBlock = some b) → b < W.heap.size := fun b hb => by
      rcases hb with rfl | hb
      · exact hBl
      · exact (h.ask.base_le hb).2
    have hAs := live_asks w.heap.size Ba W.heap.size (fun b => b = Ba ∨ (Value.slice A0 m0 c0).ownBlock = some b) pre xs (by omega) hx h.bel.size (.inl rfl) hlow
    have hSt : ∀ hi W', Below W.heap.size W W' → Askd w.heap.size Ba (fun b => b = Ba ∨ (Value.slice A0 m0 c0).ownBlock = some b) pre xs hi 0 W' := fun hi W' hb =>
      ⟨A0, m0, c0, h.bx.below hb hBl, by rw [List.take_zero, List.append_nil]; exact h.ask.below hb, fun g hg => .inl (.inr hg)⟩
    refine (shift_any 33 #[.pointer (some ⟨Ba, 0, none⟩)] (fun k => evF (xs.getD k 0)) A n c xs W _ _ hn hr (by omega) (enters_of Try.func33 (by kernel_rfl) rfl) hAs hSt (fun a ha hc => by
      rcases hc with hc | hc
      · exact (hA a ha).1 hc
      · exact (hA a ha).2 hc)).mono ?_
    rintro e w' ⟨v, hi, rfl, ho, ⟨A2, m2, c2, hb2, ho2, hg2⟩, hf, hv, hWh⟩
    rw [evL xs hn] at ho
    have h1 : (shF (xs.map evF)).map (fun p => xs.getD p 0) = SHF xs := by unfold SHF SHL; rw [if_pos (by simp; omega)]
    rw [h1] at ho
    have h2 : asks n xs = xs := by unfold asks; rw [if_pos (by omega)]
    rw [hn, List.take_length] at ho2
    rw [h2]
    obtain ⟨A1, c1, rfl, -⟩ := ho.slice
    have hm : m2 = (pre ++ xs).length := by
      obtain ⟨A', c', hv, -⟩ := ho2.slice
      injection hv
    refine ⟨A1, _, c1, A2, m2, c2, hi, rfl, Lib.hid rfl, Lib.hid hm, Lib.hid ?_, Lib.hid ⟨hf.size, hWh⟩, Lib.hid (fun g hg => ⟨(ho.base_le hg).1, hv g hg, (ho.base_le hg).2⟩), Lib.hid (fun g hg => ?_)⟩
    · refine NS.cons ⟨h.bel.trans (hf.below h.bel.size (fun k hk => ?_)), h.ba, hb2, ho2, fun o hm => ⟨(h.ob o hm).1, (h.ob o hm).2.fr hf (fun g hg hc => ?_)⟩⟩ h.bel.size ho
      · rcases hk with rfl | hk
        · exact h.ba
        · exact (h.ask.base_le hk).1
      · rcases hc with hc | hc
        · exact own_neB (h.ob o hm).2 h.bx (by decide) hg hc
        · exact hos o hm g hg hc
    · rcases hg2 g hg with (h3 | h3) | h3
      · exact absurd h3 (own_neB ho2 hb2 (by decide) hg)
      · exact .inl h3
      · exact .inr ⟨h3, (ho2.base_le hg).2⟩
end Go.Proofs.Ytpglocgfdonmaaa

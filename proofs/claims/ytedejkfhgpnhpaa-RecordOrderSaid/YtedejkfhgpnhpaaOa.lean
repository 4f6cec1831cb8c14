/-
  The plain law of RecordOrder: ByGroup and ByIndex are orders. No program in sight.
-/
import Derived.Test.YtedejkfhgpnhpaaBg
set_option linter.unusedVariables false
set_option linter.unusedSimpArgs false
namespace Go.Proofs.Ytedejkfhgpnhpaa
open Go.RowKit

theorem bef_irr : ∀ xs : List Int, bef xs xs = false
  | [] => rfl
  | x :: xs => by simp [bef, bef_irr xs]
theorem bef_trans : ∀ {a b c : List Int}, bef a b = true → bef b c = true → bef a c = true
  | [], [], c, h, _ => by simp [bef] at h
  | [], _ :: _, [], _, h => by simp [bef] at h
  | [], _ :: _, _ :: _, _, _ => by simp [bef]
  | _ :: _, [], c, h, _ => by simp [bef] at h
  | _ :: _, _ :: _, [], _, h => by simp [bef] at h
  | x :: xs, y :: ys, z :: zs, h1, h2 => by
    simp only [bef] at h1 h2 ⊢
    by_cases e1 : x = y
    · subst e1
      rw [if_pos rfl] at h1
      by_cases e2 : x = z
      · subst e2
        rw [if_pos rfl] at h2 ⊢
        exact bef_trans h1 h2
      · rw [if_neg e2] at h2 ⊢
        exact h2
    · rw [if_neg e1] at h1
      have l1 : x < y := of_decide_eq_true h1
      by_cases e2 : y = z
      · subst e2
        rw [if_neg e1]; exact h1
      · rw [if_neg e2] at h2
        have l2 : y < z := of_decide_eq_true h2
        rw [if_neg (by omega)]
        exact decide_eq_true (by omega)
theorem bef_asym {a b : List Int} (h : bef a b = true) : bef b a = false := by
  cases h2 : bef b a
  · rfl
  · have := bef_trans h h2
    rw [bef_irr] at this
    cases this
theorem bef_total : ∀ {a b : List Int}, a ≠ b → bef a b = true ∨ bef b a = true
  | [], [], h => absurd rfl h
  | [], _ :: _, _ => .inl rfl
  | _ :: _, [], _ => .inr rfl
  | x :: xs, y :: ys, h => by
    simp only [bef]
    by_cases e : x = y
    · subst e
      rw [if_pos rfl, if_pos rfl]
      exact bef_total (fun e => h (by rw [e]))
    · rw [if_neg e, if_neg (fun e' => e e'.symm)]
      by_cases l : x < y
      · exact .inl (decide_eq_true l)
      · exact .inr (decide_eq_true (by omega))

/-- A record's key. -/
def kb (l : Bool) (g : List Int) (i : Nat) (l2 : Bool) (g2 : List Int) (i2 : Nat) : Bool :=
  if l != l2 then l else if l then (if g = g2 then decide (i < i2) else bef g g2) else decide (i < i2)
theorem kb_irr (l : Bool) (g : List Int) (i : Nat) : kb l g i l g i = false := by simp [kb]
theorem kb_trans {l l2 l3 : Bool} {g g2 g3 : List Int} {i i2 i3 : Nat} (h1 : kb l g i l2 g2 i2 = true) (h2 : kb l2 g2 i2 l3 g3 i3 = true) : kb l g i l3 g3 i3 = true := by
  cases l <;> cases l2 <;> cases l3 <;> simp [kb] at h1 h2 ⊢
  · omega
  · by_cases e1 : g = g2
    · subst e1
      rw [if_pos rfl] at h1
      by_cases e2 : g = g3
      · subst e2
        rw [if_pos rfl] at h2 ⊢
        first | omega | (simp at h1 h2 ⊢; omega)
      · rw [if_neg e2] at h2 ⊢
        exact h2
    · rw [if_neg e1] at h1
      by_cases e2 : g2 = g3
      · subst e2
        rw [if_neg e1]; exact h1
      · rw [if_neg e2] at h2
        have h3 := bef_trans h1 h2
        by_cases e3 : g = g3
        · subst e3
          rw [bef_irr] at h3; cases h3
        · rw [if_neg e3]; exact h3
theorem kb_asym {l l2 : Bool} {g g2 : List Int} {i i2 : Nat} (h1 : kb l g i l2 g2 i2 = true) : kb l2 g2 i2 l g i = false := by
  cases h2 : kb l2 g2 i2 l g i
  · rfl
  · have := kb_trans h1 h2
    rw [kb_irr] at this
    cases this
theorem kb_total {l l2 : Bool} {g g2 : List Int} {i i2 : Nat} (h : i ≠ i2) : kb l2 g2 i2 l g i = !kb l g i l2 g2 i2 := by
  cases h1 : kb l g i l2 g2 i2
  · cases h2 : kb l2 g2 i2 l g i
    · exfalso
      cases l <;> cases l2 <;> simp [kb] at h1 h2
      · omega
      · by_cases e : g = g2
        · subst e
          rw [if_pos rfl] at h1 h2
          first | omega | (simp at h1 h2; omega)
        · rw [if_neg e] at h1
          rw [if_neg (fun e' => e e'.symm)] at h2
          rcases bef_total e with h | h
          · rw [h1] at h; cases h
          · rw [h2] at h; cases h
    · rfl
  · rw [kb_asym h1]; rfl
theorem bgR_kb (xs : List Int) (n : Nat) (ys : List Int) (m : Nat) : bgR xs n ys m = (isR xs n && isR ys m && kb (lvR xs n) (gcut xs) (numR xs 2) (lvR ys m) (gcut ys) (numR ys 2)) := by
  unfold bgR kb ixR
  cases h : (isR xs n && isR ys m)
  · simp
  · simp
theorem bg_irr (xs : List Int) (n : Nat) : bgR xs n xs n = false := by rw [bgR_kb, kb_irr, Bool.and_false]
theorem bg_asym (xs : List Int) (n : Nat) (ys : List Int) (m : Nat) : (bgR xs n ys m && bgR ys m xs n) = false := by
  rw [bgR_kb, bgR_kb]
  cases h : kb (lvR xs n) (gcut xs) (numR xs 2) (lvR ys m) (gcut ys) (numR ys 2)
  · simp
  · rw [kb_asym h]; simp
theorem bg_trans {xs : List Int} {n : Nat} {ys : List Int} {m : Nat} {zs : List Int} {k : Nat} (h1 : bgR xs n ys m = true) (h2 : bgR ys m zs k = true) : bgR xs n zs k = true := by
  rw [bgR_kb] at h1 h2 ⊢
  simp only [Bool.and_eq_true] at h1 h2 ⊢
  exact ⟨⟨h1.1.1, h2.1.2⟩, kb_trans h1.2 h2.2⟩
theorem ix_irr (xs : List Int) (n : Nat) : ixR xs n xs n = false := by simp [ixR]
theorem ix_asym (xs : List Int) (n : Nat) (ys : List Int) (m : Nat) : (ixR xs n ys m && ixR ys m xs n) = false := by
  cases h : (ixR xs n ys m && ixR ys m xs n)
  · rfl
  · simp [ixR] at h; omega
theorem ix_trans {xs : List Int} {n : Nat} {ys : List Int} {m : Nat} {zs : List Int} {k : Nat} (h1 : ixR xs n ys m = true) (h2 : ixR ys m zs k = true) : ixR xs n zs k = true := by
  simp [ixR] at h1 h2 ⊢
  exact ⟨⟨h1.1.1, h2.1.2⟩, by omega⟩
/-- Unlike indexes: just one stands ahead. -/
theorem bg_one {xs : List Int} {n : Nat} {ys : List Int} {m : Nat} (hx : isR xs n = true) (hy : isR ys m = true) (h : numR xs 2 ≠ numR ys 2) : bgR ys m xs n = !bgR xs n ys m := by
  rw [bgR_kb, bgR_kb, hx, hy, kb_total h]; simp
theorem ix_one {xs : List Int} {n : Nat} {ys : List Int} {m : Nat} (hx : isR xs n = true) (hy : isR ys m = true) (h : numR xs 2 ≠ numR ys 2) : ixR ys m xs n = !ixR xs n ys m := by
  simp only [ixR, hx, hy, Bool.true_and]
  by_cases l : numR xs 2 < numR ys 2
  · rw [decide_eq_true l, decide_eq_false (by omega)]; rfl
  · rw [decide_eq_false l, decide_eq_true (by omega)]; rfl
theorem bg_live {xs : List Int} {n : Nat} {ys : List Int} {m : Nat} (hx : isR xs n = true) (hy : isR ys m = true) (h1 : lvR xs n = true) (h2 : lvR ys m = false) : bgR xs n ys m = true := by
  rw [bgR_kb, hx, hy, h1, h2]; rfl
theorem tg_sym (xs : List Int) (n : Nat) (ys : List Int) (m : Nat) : tgR xs n ys m = tgR ys m xs n := by
  unfold tgR
  cases lvR xs n <;> cases lvR ys m <;> simp [eq_comm]
/-- What stands between two that are together is together with them. -/
theorem tg_between {xs : List Int} {n : Nat} {ys : List Int} {m : Nat} {zs : List Int} {k : Nat} (h1 : bgR xs n ys m = true) (h2 : bgR ys m zs k = true) (h3 : tgR xs n zs k = true) : tgR xs n ys m = true := by
  rw [bgR_kb] at h1 h2
  simp only [Bool.and_eq_true] at h1 h2
  unfold tgR at h3 ⊢
  simp only [Bool.and_eq_true, decide_eq_true_eq] at h3 ⊢
  obtain ⟨⟨a1, a2⟩, a3⟩ := h3
  have b1 := h1.2
  have b2 := h2.2
  rw [a1] at b1
  rw [a2] at b2
  cases hl : lvR ys m
  · rw [hl] at b2
    simp [kb] at b2
  · rw [hl] at b1 b2
    refine ⟨⟨a1, rfl⟩, ?_⟩
    by_cases e : gcut xs = gcut ys
    · exact e
    · exfalso
      simp [kb, e] at b1
      rw [← a3] at b2
      simp [kb, fun e' => e (Eq.symm e')] at b2
      rw [if_neg (fun e' => e e'.symm)] at b2
      rw [bef_asym b1] at b2
      cases b2
end Go.Proofs.Ytedejkfhgpnhpaa

/-
  Walk: the law NetworkOrders, its closure; the order of strings.
-/
import Derived.Test.YtpglocgfdonmaaaSu
import Derived.Test.YtpglocgfdonmaaaGa
set_option linter.unusedVariables false
set_option linter.unusedSimpArgs false
namespace Go.Proofs.Ytpglocgfdonmaaa
open Go.RowKit Go.Shelf

theorem bl_irr : ∀ x, Go.Op.bytesLess x x = false
  | [] => rfl
  | a :: x => by simp [Go.Op.bytesLess, bl_irr x]
theorem bl_cons (a b : UInt8) (x y : List UInt8) : Go.Op.bytesLess (a :: x) (b :: y) = true ↔ a.toNat < b.toNat ∨ (a.toNat = b.toNat ∧ Go.Op.bytesLess x y = true) := by
  simp only [Go.Op.bytesLess, Bool.or_eq_true, Bool.and_eq_true, decide_eq_true_eq, beq_iff_eq]
  constructor
  · rintro (h | ⟨h, h2⟩)
    · exact .inl (UInt8.lt_iff_toNat_lt.1 h)
    · exact .inr ⟨by rw [h], h2⟩
  · rintro (h | ⟨h, h2⟩)
    · exact .inl (UInt8.lt_iff_toNat_lt.2 h)
    · exact .inr ⟨UInt8.toNat_inj.1 h, h2⟩
theorem bl_trans : ∀ x y z, Go.Op.bytesLess x y = true → Go.Op.bytesLess y z = true → Go.Op.bytesLess x z = true
  | x, y, [], h1, h2 => by cases y <;> simp [Go.Op.bytesLess] at h2
  | [], y, c :: z, h1, h2 => rfl
  | a :: x, [], c :: z, h1, h2 => by simp [Go.Op.bytesLess] at h1
  | a :: x, b :: y, c :: z, h1, h2 => by
    rw [bl_cons] at h1 h2 ⊢
    rcases h1 with h1 | ⟨h1, h3⟩
    · rcases h2 with h2 | ⟨h2, h4⟩
      · exact .inl (by omega)
      · exact .inl (by omega)
    · rcases h2 with h2 | ⟨h2, h4⟩
      · exact .inl (by omega)
      · exact .inr ⟨by omega, bl_trans x y z h3 h4⟩
theorem bl_neg : ∀ x y z, Go.Op.bytesLess x y = false → Go.Op.bytesLess y z = false → Go.Op.bytesLess x z = false
  | x, y, [], h1, h2 => by cases x <;> rfl
  | x, [], c :: z, h1, h2 => by simp [Go.Op.bytesLess] at h2
  | [], b :: y, c :: z, h1, h2 => by simp [Go.Op.bytesLess] at h1
  | a :: x, b :: y, c :: z, h1, h2 => by
    have n1 : ¬ Go.Op.bytesLess (a :: x) (b :: y) = true := by rw [h1]; simp
    have n2 : ¬ Go.Op.bytesLess (b :: y) (c :: z) = true := by rw [h2]; simp
    rw [bl_cons] at n1 n2
    have n3 : ¬ Go.Op.bytesLess (a :: x) (c :: z) = true := by
      rw [bl_cons]
      rintro (h | ⟨h, h4⟩)
      · omega
      · have e1 : a.toNat = b.toNat := by omega
        have e2 : b.toNat = c.toNat := by omega
        have k1 : Go.Op.bytesLess x y = false := by cases h5 : Go.Op.bytesLess x y; rfl; exact absurd (.inr ⟨e1, h5⟩) n1
        have k2 : Go.Op.bytesLess y z = false := by cases h5 : Go.Op.bytesLess y z; rfl; exact absurd (.inr ⟨e2, h5⟩) n2
        rw [bl_neg x y z k1 k2] at h4
        cases h4
    cases h : Go.Op.bytesLess (a :: x) (c :: z)
    · rfl
    · exact absurd h n3
def kltF (KS : Nat → ByteArray) (p q : Nat) : Bool := Go.Op.bytesLess (KS p).toList (KS q).toList
theorem klt_weak (KS : Nat → ByteArray) : Weak (kltF KS) := ⟨fun x => bl_irr _, fun x y z => bl_trans _ _ _, fun x y z => bl_neg _ _ _⟩
theorem key_less (k1 k2 : ByteArray) (p1 p2 : Int) (W : World) : Calls Try.prog 28 #[.agg #[.string k1, .int .i64 p1], .agg #[.string k2, .int .i64 p2]] W fun e W' => e = .returned (.bool (Go.Op.bytesLess k1.toList k2.toList)) ∧ Below W.heap.size W W' := by
  have HF : Hid (Below W.heap.size W ((W.alloc (.cells #[.string k1, .int .i64 p1] 54)).alloc (.cells #[.string k2, .int .i64 p2] 54))) := Lib.hid (((Below.refl _ W).alloc (Nat.le_refl _) _).alloc (by simp) _)
  go_enter Try.func28, Try.ntmps28
  go_wp2_with fail
  go_ret
  exact ⟨rfl, HF.out⟩
/-- A row of strings that can be read. -/
def RdS (KS : Nat → ByteArray) (n : Nat) (W : World) (A : Option Addr) : Prop := ∀ i, i < n → ∃ b off, A = some ⟨b, off, none⟩ ∧ W.cell? ⟨b, off + i, none⟩ = some (.string (KS i))
theorem RdS.below {KS : Nat → ByteArray} {n : Nat} {w w' : World} {A : Option Addr} (h : RdS KS n w A) (hb : Below w.heap.size w w') : RdS KS n w' A := fun i hi => by
  obtain ⟨b, off, hA, hc⟩ := h i hi
  exact ⟨b, off, hA, (hb.cell (p := ⟨b, _, none⟩) (World.block_lt_of_cell? w _ hc)).trans hc⟩
end Go.Proofs.Ytpglocgfdonmaaa

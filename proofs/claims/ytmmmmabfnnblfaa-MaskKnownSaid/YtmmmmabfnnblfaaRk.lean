/-
  Walk: Row, the document's and the program's.
-/
import Derived.Test.YtmmmmabfnnblfaaRl
import Derived.Test.YtmmmmabfnnblfaaPl
set_option linter.unusedVariables false
set_option linter.unusedSimpArgs false
namespace Go.Proofs.Ytmmmmabfnnblfaa
open Go.RowKit

def likeL (xss : Nat → List Int) (n : Nat) : Bool := (List.range n).all fun i => (xss i).length == (xss 0).length
def rowE (xss : Nat → List Int) (n : Nat) (at_ : Int) : Int := if 0 ≤ at_ ∧ at_ < n then (if likeL xss n = true then 0 else 4) else 2
def rowV (xss : Nat → List Int) (n : Nat) (at_ : Int) : List Int := if 0 ≤ at_ ∧ at_ < n then (if likeL xss n = true then xss at_.toNat else []) else []
theorem like_yes {xss : Nat → List Int} {n : Nat} (h : ∀ i, i < n → (xss i).length = (xss 0).length) : likeL xss n = true := by
  unfold likeL
  rw [List.all_eq_true]
  intro i hi
  simp at hi
  simp [h i hi]
theorem like_no {xss : Nat → List Int} {n i : Nat} (hi : i < n) (h : ¬ (xss i).length = (xss 0).length) : likeL xss n = false := by
  unfold likeL
  rw [List.all_eq_false]
  exact ⟨i, List.mem_range.2 hi, by simpa using h⟩
theorem row_out {xss : Nat → List Int} {n : Nat} {a : Int} (h : ¬ (0 ≤ a ∧ a < n)) : rowE xss n a = 2 ∧ rowV xss n a = [] := by simp [rowE, rowV, h]
theorem row_four {xss : Nat → List Int} {n p : Nat} (hp : p < n) (h : likeL xss n = false) : rowE xss n p = 4 ∧ rowV xss n p = [] := by
  have : (0 ≤ (p : Int) ∧ (p : Int) < n) := by omega
  simp [rowE, rowV, this, h]
theorem row_in {xss : Nat → List Int} {n p : Nat} (hp : p < n) (h : likeL xss n = true) : rowE xss n p = 0 ∧ rowV xss n p = xss p := by
  have : (0 ≤ (p : Int) ∧ (p : Int) < n) := by omega
  simp [rowE, rowV, this, h]
/-- What a Row answers. -/
def RowAns (xss : Nat → List Int) (n : Nat) (at_ : Int) (w : World) (e : Ending) (w' : World) : Prop :=
  ∃ v, e = .returned (.tuple #[v, .int .i64 (rowE xss n at_)]) ∧ Own w' w.heap.size 5 .u8 v (rowV xss n at_) ∧ Below w.heap.size w w'
theorem twin_at (A : Option Addr) (n c : Nat) (xs : List Int) (w : World) (hn : n = xs.length) (hr : Rd w .u8 A xs) (hl : xs.length ≤ 140737488351232) :
    Calls Try.prog 38 #[.slice A n c] w (Made 5 .u8 xs w) := by
  subst hn
  exact twin_any A c xs w hr (by omega)
theorem CtH.draws {w : World} {hs : Nat → Hd} {xss : Nat → List Int} {n : Nat} (h : CtH w hs xss n) (x : Nat) : CtH (w.drewN x) hs xss n := h

set_option maxHeartbeats 1600000 in
theorem rrow_any (L : Option Addr) (n c : Nat) (hs : Nat → Hd) (xss : Nat → List Int) (a : Int) (w : World) (hr : RdH w L hs n) (hc : CtH w hs xss n) (hn : n ≤ 1048576) (hx : ∀ i, i < n → (xss i).length ≤ 1048576) (ha : -9223372036854775808 ≤ a ∧ a ≤ 9223372036854775807) :
    Calls Try.prog 43 #[.slice L n c, .int .i64 a] w (RowAns xss n a w) := by
  have HR := Lib.hid hr
  have HC := Lib.hid hc
  have HX := Lib.hid hx
  clear hr hc hx
  by_cases h0 : a < 0
  · have HQ := Lib.hid (row_out (xss := xss) (n := n) (a := a) (by omega))
    go_enter Try.func43, Try.ntmps43
    go_wp2
    go_ret2
    exact ⟨_, by rw [HQ.out.1]; rfl, by rw [HQ.out.2]; exact Own.nil _ _ _ _, Below.refl _ _⟩
  · obtain ⟨p, rfl⟩ : ∃ p : Nat, a = p := ⟨a.toNat, by omega⟩
    by_cases h1 : n ≤ p
    · have HQ := Lib.hid (row_out (xss := xss) (n := n) (a := p) (by omega))
      go_enter Try.func43, Try.ntmps43
      go_wp2
      go_ret2
      exact ⟨_, by rw [HQ.out.1]; rfl, by rw [HQ.out.2]; exact Own.nil _ _ _ _, Below.refl _ _⟩
    · have hp : p < n := by omega
      clear h0 h1
      obtain ⟨b, off, rfl, hb0, hc0⟩ := HR.out 0 (by omega)
      have hc0' : w.cell? ⟨b, off, none⟩ = some (.slice (hs 0).A (hs 0).m (hs 0).c) := hc0
      have hm0 := (HC.out 0 (by omega)).1
      rw [hm0] at hc0'
      clear hc0 hb0 hm0
      have d0 : decide ((p : Int) < 0) = false := by simp
      have d1 : decide (n ≤ p) = false := decide_eq_false (by omega)
      go_enter Try.func43, Try.ntmps43
      go_wp2
      go_loopw [6] (fun i wr => ∃ k x : Nat, k ≤ n ∧ i = .int .i64 k ∧ Hid (∀ i, i < k → (xss i).length = (xss 0).length) ∧ wr = w.drewN x) (fun i _ => n - (intOf i).toNat)
      case atStart => exact ⟨0, 0, Nat.zero_le _, rfl, Lib.hid (fun i hi => absurd hi (Nat.not_lt_zero _)), rfl⟩
      case round =>
        obtain ⟨k, x, hk, rfl, HT, rfl⟩ := hrel
        by_cases hlt : k < n
        · obtain ⟨b2, off2, he, _, hck⟩ := HR.out k hlt
          injection he with he
          injection he with he1 he2
          subst he1 he2
          have hmk := (HC.out k hlt).1
          rw [hmk] at hck
          clear hmk
          have hl0 := HX.out 0 (by omega)
          have hlk := HX.out k hlt
          by_cases hl : (xss k).length = (xss 0).length
          · have hne : (((xss k).length : Int) != ((xss 0).length : Int)) = false := by simp [hl]
            have HT2 : Hid (∀ i, i < k + 1 → (xss i).length = (xss 0).length) := Lib.hid (fun i hi => by
              by_cases hik : i = k
              · subst hik; exact hl
              · exact HT.out i (by omega))
            clear hl
            go_wp2
            go_quiet (fail)
            go_wp2
            go_roundw
            case rel => exact ⟨k + 1, _, by omega, by go_num, HT2, rfl⟩
            case measure => simp [intOf]; omega
          · have hne : (((xss k).length : Int) != ((xss 0).length : Int)) = true := by simp; omega
            have HQ := Lib.hid (row_four (xss := xss) hp (like_no hlt hl))
            clear hl
            go_wp2
            go_quiet (fail)
            go_wp2
            go_ret2
            exact ⟨_, by rw [HQ.out.1]; rfl, by rw [HQ.out.2]; exact Own.nil _ _ _ _, by rw [World.drewN_drewN]; exact belowN (Below.refl _ _) _⟩
        · obtain rfl : k = n := by omega
          have HQ := Lib.hid (row_in (xss := xss) hp (like_yes HT.out))
          obtain ⟨b2, off2, he, _, hck⟩ := HR.out p hp
          injection he with he
          injection he with he1 he2
          subst he1 he2
          clear hc0'
          go_wp2_with fail
          refine (twin_at _ _ _ (xss p) (w.drewN x) (HC.out p hp).1 (HC.out p hp).2 (by have := HX.out p hp; omega)).mono ?_
          rintro e w1 ⟨v1, rfl, ho1, hb1⟩
          have HO1 := Lib.hid ho1
          have HB1 := Lib.hid hb1
          clear ho1 hb1 hck
          go_wp2_with fail
          go_ret2
          exact ⟨_, by rw [HQ.out.1]; rfl, by rw [HQ.out.2]; exact HO1.out, (belowN (Below.refl _ _) x).trans HB1.out⟩
end Go.Proofs.Ytmmmmabfnnblfaa

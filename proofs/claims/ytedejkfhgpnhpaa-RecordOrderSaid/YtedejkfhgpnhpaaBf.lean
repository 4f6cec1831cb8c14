/-
  Walk: mask.Before.
-/
import Derived.Test.YtedejkfhgpnhpaaLk
import Derived.Deep.RegionWith
set_option linter.unusedVariables false
set_option linter.unusedSimpArgs false
namespace Go.Proofs.Ytedejkfhgpnhpaa
open Go.RowKit

theorem mk_or (a b : Bool) : bits .or .u64 (mk a) (mk b) = mk (a || b) := by cases a <;> cases b <;> decide
theorem mk_xor (a b : Bool) : bits .xor .u64 (mk a) (mk b) = mk (a != b) := by cases a <;> cases b <;> decide
/-! ### Before -/
def bef : List Int → List Int → Bool
  | [], [] => false
  | [], _ :: _ => true
  | _ :: _, [] => false
  | x :: xs, y :: ys => if x = y then bef xs ys else decide (x < y)
theorem bef_drop (xs ys : List Int) (k : Nat) (h1 : k < xs.length) (h2 : k < ys.length) :
    bef (xs.drop k) (ys.drop k) = if xs.getD k 0 = ys.getD k 0 then bef (xs.drop (k + 1)) (ys.drop (k + 1)) else decide (xs.getD k 0 < ys.getD k 0) := by
  rw [List.drop_eq_getElem_cons h1, List.drop_eq_getElem_cons h2, bef]
  simp [List.getD, h1, h2]
theorem bef_end (xs ys : List Int) (k : Nat) (h : ¬ (k < xs.length ∧ k < ys.length)) (h1 : k ≤ xs.length) (h2 : k ≤ ys.length) : bef (xs.drop k) (ys.drop k) = decide (xs.length < ys.length) := by
  by_cases hx : k < xs.length
  · have hy : k = ys.length := by omega
    subst hy
    rw [List.drop_length, List.drop_eq_getElem_cons hx, bef]
    simp; omega
  · have hxe : k = xs.length := by omega
    subst hxe
    rw [List.drop_length]
    by_cases hy : xs.length < ys.length
    · rw [List.drop_eq_getElem_cons hy, bef]; simp [hy]
    · have : ys.drop xs.length = [] := List.drop_of_length_le (by omega)
      rw [this, bef]; simp; omega

attribute [local go_sem] mk_and mk_or

/-- What the two words of Before's loop say after k steps. -/
def BefAt (xs ys : List Int) (k : Nat) (o f : Bool) : Prop :=
  (o = true → f = false ∧ bef xs ys = bef (xs.drop k) (ys.drop k)) ∧ (o = false → f = bef xs ys)
theorem BefAt.start (xs ys : List Int) : BefAt xs ys 0 true false := ⟨fun _ => ⟨rfl, rfl⟩, fun h => by cases h⟩
theorem BefAt.step {xs ys : List Int} {k : Nat} {o f : Bool} (h : BefAt xs ys k o f) (h1 : k < xs.length) (h2 : k < ys.length) {x y : Int} (hx : x = xs.getD k 0) (hy : y = ys.getD k 0) :
    BefAt xs ys (k + 1) (o && decide (x = y)) (f || (o && decide (x < y))) := by
  have hd := bef_drop xs ys k h1 h2
  rw [← hx, ← hy] at hd
  cases o
  · exact ⟨fun h => by simp at h, fun _ => by simpa using h.2 rfl⟩
  · obtain ⟨hf, hb⟩ := h.1 rfl
    subst hf
    by_cases hxy : x = y
    · subst hxy
      exact ⟨fun _ => ⟨by simp, by rw [hb, hd, if_pos rfl]⟩, fun h => by simp at h⟩
    · refine ⟨fun h => by simp [hxy] at h, fun _ => ?_⟩
      rw [hb, hd, if_neg hxy]; simp
theorem BefAt.done {xs ys : List Int} {k : Nat} {o f : Bool} (h : BefAt xs ys k o f) (h1 : ¬ (k < xs.length ∧ k < ys.length)) (h2 : k ≤ xs.length) (h3 : k ≤ ys.length) :
    (f || (o && decide (xs.length < ys.length))) = bef xs ys := by
  cases o
  · simpa using h.2 rfl
  · obtain ⟨hf, hb⟩ := h.1 rfl
    rw [hb, hf, bef_end xs ys k h1 h2 h3]; simp
theorem nat_int_lt (a b : Nat) : decide ((a : Int) < (b : Int)) = decide (a < b) := by simp
set_option maxHeartbeats 1000000 in
theorem before_any (A B : Option Addr) (c d : Nat) (xs ys : List Int) (w : World) (hx : Rd w .u8 A xs) (hy : Rd w .u8 B ys) (hl : xs.length ≤ 9223372036854775807) (hm : ys.length ≤ 9223372036854775807) (bx : B8 xs) (yb : B8 ys) :
    Calls Try.prog 43 #[.slice A xs.length c, .slice B ys.length d] w fun e w' => ∃ n, e = .returned (.int .u64 (mk (bef xs ys))) ∧ w' = w.drewN n := by
  have HX := Lib.hid hx
  have HYY := Lib.hid hy
  have BX := Lib.hid bx
  have BY := Lib.hid yb
  clear hx hy bx yb
  by_cases hh : ys.length < xs.length
  · go_enter Try.func43, Try.ntmps43
    go_wp2_with fail
    go_loopw [6, 7, 17] (fun o f i wr => ∃ (k n : Nat) (b1 b2 : Bool), k ≤ ys.length ∧ i = .int .i64 k ∧ o = .int .u64 (mk b1) ∧ f = .int .u64 (mk b2) ∧ Hid (BefAt xs ys k b1 b2) ∧ wr = w.drewN n) (fun _ _ i _ => ys.length - (intOf i).toNat)
    case atStart => exact ⟨0, 0, true, false, Nat.zero_le _, rfl, rfl, rfl, Lib.hid (BefAt.start xs ys), rfl⟩
    case round =>
      obtain ⟨k, n, b1, b2, hk, rfl, rfl, rfl, HT, rfl⟩ := hrel
      by_cases hlt : k < ys.length
      · have hlt1 : k < xs.length := by omega
        obtain ⟨b, off, x, rfl, hc, HXK⟩ := HX.out.at k hlt1
        obtain ⟨b2, off2, y, rfl, hc2, HYK⟩ := HYY.out.at k hlt
        have px := BX.out k
        have py := BY.out k
        rw [← HXK.out] at px
        rw [← HYK.out] at py
        obtain ⟨px0, px1⟩ := px
        obtain ⟨py0, py1⟩ := py
        have HZ := Lib.hid (HT.out.step hlt1 hlt HXK.out HYK.out)
        go_wp2_with fail
        go_region_with (fail)
        all_goals
          go_wp2_with fail
          refine (less_any x y _ px0 (by omega) py0 (by omega)).mono ?_
          rintro e w' ⟨rfl, rfl⟩
          go_wp2_with fail
          refine (equal_any x y _ px0 (by omega) py0 (by omega)).mono ?_
          rintro e w' ⟨rfl, rfl⟩
          go_wp2_with fail
          go_roundw
          case rel => exact ⟨k + 1, _, _, _, by omega, by go_num, rfl, rfl, HZ, rfl⟩
          case measure => simp [intOf]; omega
      · have HK : Hid (k = ys.length) := Lib.hid (by omega)
        have hge : decide ((k : Int) < (ys.length : Int)) = false := by simp; omega
        have HF := Lib.hid (HT.out.done (by omega) (by omega) hk)
        have hnn := nat_int_lt xs.length ys.length
        go_wp2_with fail
        refine (less_any (xs.length : Int) (ys.length : Int) _ (by omega) (by omega) (by omega) (by omega)).mono ?_
        rintro e w' ⟨rfl, rfl⟩
        go_wp2_with fail
        go_ret
        exact ⟨_, congrArg (fun z => Ending.returned (Value.int _ (mk z))) HF.out, rfl⟩
  · go_enter Try.func43, Try.ntmps43
    go_wp2_with fail
    go_loopw [6, 7, 17] (fun o f i wr => ∃ (k n : Nat) (b1 b2 : Bool), k ≤ xs.length ∧ i = .int .i64 k ∧ o = .int .u64 (mk b1) ∧ f = .int .u64 (mk b2) ∧ Hid (BefAt xs ys k b1 b2) ∧ wr = w.drewN n) (fun _ _ i _ => xs.length - (intOf i).toNat)
    case atStart => exact ⟨0, 0, true, false, Nat.zero_le _, rfl, rfl, rfl, Lib.hid (BefAt.start xs ys), rfl⟩
    case round =>
      obtain ⟨k, n, b1, b2, hk, rfl, rfl, rfl, HT, rfl⟩ := hrel
      by_cases hlt1 : k < xs.length
      · have hlt : k < ys.length := by omega
        obtain ⟨b, off, x, rfl, hc, HXK⟩ := HX.out.at k hlt1
        obtain ⟨b2, off2, y, rfl, hc2, HYK⟩ := HYY.out.at k hlt
        have px := BX.out k
        have py := BY.out k
        rw [← HXK.out] at px
        rw [← HYK.out] at py
        obtain ⟨px0, px1⟩ := px
        obtain ⟨py0, py1⟩ := py
        have HZ := Lib.hid (HT.out.step hlt1 hlt HXK.out HYK.out)
        go_wp2_with fail
        go_region_with (fail)
        all_goals
          go_wp2_with fail
          refine (less_any x y _ px0 (by omega) py0 (by omega)).mono ?_
          rintro e w' ⟨rfl, rfl⟩
          go_wp2_with fail
          refine (equal_any x y _ px0 (by omega) py0 (by omega)).mono ?_
          rintro e w' ⟨rfl, rfl⟩
          go_wp2_with fail
          go_roundw
          case rel => exact ⟨k + 1, _, _, _, by omega, by go_num, rfl, rfl, HZ, rfl⟩
          case measure => simp [intOf]; omega
      · have HK : Hid (k = xs.length) := Lib.hid (by omega)
        have hge : decide ((k : Int) < (xs.length : Int)) = false := by simp; omega
        have HF := Lib.hid (HT.out.done (by omega) hk (by omega))
        have hnn := nat_int_lt xs.length ys.length
        go_wp2_with fail
        refine (less_any (xs.length : Int) (ys.length : Int) _ (by omega) (by omega) (by omega) (by omega)).mono ?_
        rintro e w' ⟨rfl, rfl⟩
        go_wp2_with fail
        go_ret
        exact ⟨_, congrArg (fun z => Ending.returned (Value.int _ (mk z))) HF.out, rfl⟩
end Go.Proofs.Ytedejkfhgpnhpaa

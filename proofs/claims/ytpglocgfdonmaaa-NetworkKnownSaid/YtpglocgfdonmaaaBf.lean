/-
  Walks: left, Before, the law's closure over it; Sort where the length is no size.
-/
import Derived.Test.YtpglocgfdonmaaaWs
set_option linter.unusedVariables false
set_option linter.unusedSimpArgs false
namespace Go.Proofs.Ytpglocgfdonmaaa
open Go.RowKit Go.Shelf

def leftF (a m : Int) : Int := if a.tmod m < 0 then a.tmod m + m else a.tmod m
def befF (m a b : Int) : Bool := if m < 2 then false else decide (leftF a m < leftF b m)
theorem left_any (a m : Int) (w : World) (ha : R64 a) (hm : 2 ≤ m ∧ m ≤ 9223372036854775807) : Calls Try.prog 43 #[.int .i64 a, .int .i64 m] w fun e w' => e = .returned (.int .i64 (leftF a m)) ∧ w' = w := by
  have hr := ha
  unfold R64 at hr
  have h0 : (m == 0) = false := by simp; omega
  have h1 : ¬ m = 0 := by omega
  have h3 : ¬ m = -1 := by omega
  obtain ⟨r, hrd⟩ : ∃ r, r = a.tmod m := ⟨_, rfl⟩
  have hb : -m < r ∧ r < m := by
    rw [hrd]
    have h := Int.natAbs_tmod a m
    have h2 : a.natAbs % m.natAbs < m.natAbs := Nat.mod_lt _ (by omega)
    omega
  have HF : Hid (leftF a m = if r < 0 then r + m else r) := Lib.hid (by rw [hrd]; rfl)
  have h2 : IntKind.i64.wrap (a.tmod m) = r := by rw [← hrd, IntKind.wrap_i64] <;> omega
  have h4 : wrap64 (a.tmod m) = r := by rw [← hrd]; exact IntWalk.wrap64_in r (by omega)
  have h5 : a.tmod m = r := hrd.symm
  clear hrd ha
  by_cases hneg : r < 0
  · have h6 : IntKind.i64.wrap (r + m) = r + m := by rw [IntKind.wrap_i64] <;> omega
    go_enter Try.func43, Try.ntmps43
    go_wp2_with fail
    go_ret
    exact ⟨by rw [HF.out, if_pos (by omega)]; rfl, rfl⟩
  · go_enter Try.func43, Try.ntmps43
    go_wp2_with fail
    go_ret
    exact ⟨by rw [HF.out, if_neg (by omega)]; rfl, rfl⟩
theorem before_any (a b m : Int) (w : World) (ha : R64 a) (hb : R64 b) (hm : R64 m) : Calls Try.prog 21 #[.int .i64 a, .int .i64 b, .int .i64 m] w fun e w' => e = .returned (.bool (befF m a b)) ∧ w' = w := by
  by_cases h : m < 2
  · have HF : Hid (befF m a b = false) := Lib.hid (by unfold befF; rw [if_pos h])
    go_enter Try.func21, Try.ntmps21
    go_wp2_with fail
    go_ret
    exact ⟨by rw [HF.out]; rfl, rfl⟩
  · have HF : Hid (befF m a b = decide (leftF a m < leftF b m)) := Lib.hid (by unfold befF; rw [if_neg h])
    have hm2 : 2 ≤ m ∧ m ≤ 9223372036854775807 := by unfold R64 at hm; omega
    have HA := Lib.hid (left_any a m w ha hm2)
    have HB := Lib.hid (left_any b m w hb hm2)
    clear hm ha hb
    generalize leftF a m = x at *
    generalize leftF b m = y at *
    go_enter Try.func21, Try.ntmps21
    go_wp2_with fail
    refine HA.out.mono ?_
    rintro e w' ⟨rfl, hw⟩
    obtain rfl : w = w' := hw.symm
    go_wp2_with fail
    refine HB.out.mono ?_
    rintro e w' ⟨rfl, hw⟩
    obtain rfl : w = w' := hw.symm
    go_wp2_with fail
    go_ret
    exact ⟨by rw [HF.out]; rfl, rfl⟩
theorem clos_any (a b m : Int) (B : Nat) (w : World) (ha : R64 a) (hb : R64 b) (hm : R64 m) (hc : w.cell? ⟨B, 0, none⟩ = some (.int .i64 m)) :
    Calls Try.prog 20 #[.int .i64 a, .int .i64 b, .pointer (some ⟨B, 0, none⟩)] w fun e w' => e = .returned (.bool (befF m a b)) ∧ w' = w := by
  have HC := Lib.hid (before_any a b m w ha hb hm)
  go_enter Try.func20, Try.ntmps20
  go_wp2_with fail
  refine HC.out.mono ?_
  rintro e w' ⟨rfl, hw⟩
  obtain rfl : w = w' := hw.symm
  go_wp2_with fail
  go_ret
  exact ⟨rfl, rfl⟩
theorem sort_no (F : Nat) (bs : Array Value) (A : Option Addr) (n c : Nat) (w : World) (hpos : 0 < n) (hs : sizeB (n : Int) = false) (hn : n ≤ 140737488355328) :
    Calls Try.prog 23 #[.slice A n c, .func (.func F) #[] bs] w fun e w' => e = .returned (.tuple #[.slice none 0 0, .int .i64 170]) ∧ Below w.heap.size w w' := by
  have h1 := fun W => size_any (n : Int) W
  rw [hs] at h1
  have HS := Lib.hid h1
  clear h1 hs
  go_enter Try.func23, Try.ntmps23
  go_wp2_with fail
  refine (HS.out _).mono ?_
  rintro e w' ⟨rfl, hw⟩
  obtain rfl := hw
  go_wp2_with fail
  go_ret2
  exact ⟨rfl, (Below.refl _ _).alloc (Nat.le_refl _) _⟩
end Go.Proofs.Ytpglocgfdonmaaa

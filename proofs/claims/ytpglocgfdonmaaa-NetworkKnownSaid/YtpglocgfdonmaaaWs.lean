/-
  Walks: works; the law's own size; the law NetworkSizes.
-/
import Derived.Test.YtpglocgfdonmaaaSo
set_option linter.unusedVariables false
set_option linter.unusedSimpArgs false
namespace Go.Proofs.Ytpglocgfdonmaaa
open Go.RowKit

theorem less_any (a b : Int) (w : World) : Calls Try.prog 45 #[.int .i64 a, .int .i64 b] w fun e w' => e = .returned (.bool (decide (a < b))) ∧ w' = w := by
  go_enter Try.func45, Try.ntmps45
  go_wp2_with fail
  go_ret
  exact ⟨rfl, rfl⟩
theorem works_sorted : sortF (0 : Int) (fun a b => decide (a < b)) [3, 1, 2, 0] = [0, 1, 2, 3] := by decide +kernel
theorem rd_blk {w : World} {g T : Nat} {kd : IntKind} {xs : List Int} (h : Blk w g T (xs.map (Value.int kd))) : Rd w kd (some ⟨g, 0, none⟩) xs := fun i hi => by
  refine ⟨g, 0, rfl, ?_⟩
  rw [h.cell]
  simp [hi, List.getD]
theorem r64_small {xs : List Int} (h : xs.all (fun x => decide (-100 ≤ x ∧ x ≤ 100)) = true) : ∀ i, R64 (xs.getD i 0) := fun i => by
  rw [List.all_eq_true] at h
  unfold R64
  rcases Nat.lt_or_ge i xs.length with hi | hi
  · have := h _ (List.getElem_mem hi)
    rw [decide_eq_true_eq] at this
    rw [List.getD_eq_getElem?_getD, List.getElem?_eq_getElem hi]
    simp only [Option.getD_some]
    omega
  · rw [List.getD_eq_getElem?_getD, List.getElem?_eq_none hi]
    simp
theorem eqi_at (A B : Option Addr) (n m c d : Nat) (xs ys : List Int) (w : World) (hn : n = xs.length) (hm : m = ys.length) (hx : Rd w .i64 A xs) (hy : Rd w .i64 B ys) (hl : xs.length ≤ 9223372036854775807) (hl2 : ys.length ≤ 9223372036854775807) :
    Calls Try.prog 24 #[.slice A n c, .slice B m d] w fun e w' => e = .returned (.bool (decide (xs = ys))) ∧ Hid (Below w.heap.size w w') := by
  subst hn hm
  refine (eqi_any A B c d xs ys w hx hy hl hl2).mono ?_
  rintro e w' ⟨n, rfl, rfl⟩
  exact ⟨rfl, Lib.hid ((Fr.drewN (Fr.refl (fun _ => False) w) n).below (Nat.le_refl _) (fun _ h => h.elim))⟩
/-- works -/
theorem works_any (w : World) : Calls Try.prog 26 #[] w fun e w' => e = .returned (.bool true) ∧ Hid (Below w.heap.size w w') := by
  have HS : Hid (∀ W, Rd W .i64 (some ⟨w.heap.size, 0, none⟩) [3, 1, 2, 0] → Calls Try.prog 23 #[.slice (some ⟨w.heap.size, 0, none⟩) 4 4, .func (.func 45) #[] #[]] W fun e w' => ∃ A c, e = .returned (.tuple #[.slice A 4 c, .int .i64 0]) ∧ Hid (Rd w' .i64 A [0, 1, 2, 3]) ∧ Hid (Below W.heap.size W w')) := Lib.hid (fun W hr => by
    refine (sort_any 45 #[] (fun a b => decide (a < b)) (some ⟨w.heap.size, 0, none⟩) 4 4 [3, 1, 2, 0] W rfl hr (by decide) (r64_small (by decide)) (enters_of Try.func45 (by kernel_rfl) rfl) (fun W' _ a b _ _ => less_any a b W') (.inl (by decide))).mono ?_
    rintro e w' ⟨v, rfl, ho, hb⟩
    rw [works_sorted] at ho
    obtain ⟨A, c, rfl, -, -, hr', -⟩ := ho.slice
    exact ⟨A, c, rfl, Lib.hid hr', Lib.hid hb⟩)
  go_enter Try.func26, Try.ntmps26
  go_wp2_with fail
  refine (HS.out _ (rd_blk (Blk.new w 3 ([3, 1, 2, 0].map (Value.int .i64))))).mono ?_
  rintro e w1 ⟨A, c, rfl, HR, HB⟩
  have HP := fun W => pad5 W
  have HB0 : Hid (Below w.heap.size w w1) := Lib.hid (((Below.refl w.heap.size w).alloc (Nat.le_refl _) _).trans (HB.out.mono (by simp)))
  go_wp2_with fail
  refine (eqi_at A (some ⟨w1.heap.size, 0, none⟩) 4 4 c 4 [0, 1, 2, 3] [0, 1, 2, 3] _ rfl rfl (HR.out.below ((Below.refl w1.heap.size w1).alloc (Nat.le_refl _) _)) (rd_blk (Blk.new w1 3 ([0, 1, 2, 3].map (Value.int .i64)))) (by decide) (by decide)).mono ?_
  rintro e w2 ⟨rfl, HB2⟩
  go_wp2_with fail
  refine (pad5 w2).mono ?_
  rintro e w3 ⟨rfl, hw⟩
  obtain rfl : w2 = w3 := hw.symm
  go_wp2_with fail
  go_ret
  exact ⟨rfl, Lib.hid (HB0.out.trans (((Below.refl w1.heap.size w1).alloc (Nat.le_refl _) _).mono HB0.out.size |>.trans (HB2.out.mono (by have := HB0.out.size; simp; omega))))⟩
/-- the law's own size -/
theorem lsize_any (N : Int) (w : World) : Calls Try.prog 29 #[.int .i64 N] w fun e w' => e = .returned (.bool (sizeB N)) ∧ w' = w := by
  by_cases h1 : 1 ≤ N
  · by_cases h2 : N ≤ 65536
    · obtain ⟨n, rfl⟩ : ∃ n : Nat, N = n := ⟨N.toNat, by omega⟩
      have ha : bits .and .i64 (n : Int) ((n : Int) - 1) = ((n &&& (n - 1) : Nat) : Int) := by
        rw [show (n : Int) - 1 = ((n - 1 : Nat) : Int) from by omega]
        exact i64_and_nat n (n - 1) (by omega) (by omega)
      have hm : IntKind.i64.wrap ((n : Int) - 1) = (n : Int) - 1 := by rw [IntKind.wrap_i64] <;> omega
      have hS : Hid ((((n &&& (n - 1) : Nat) : Int) == 0) = sizeB (n : Int)) := Lib.hid (by
        have h := size_bits n (by omega) (by omega)
        cases hs : sizeB (n : Int)
        · have h3 : ¬ n &&& (n - 1) = 0 := fun h4 => by rw [h.1 h4] at hs; cases hs
          simp; omega
        · have h3 := h.2 hs
          simp [h3])
      have d1 : decide ((1 : Int) ≤ (n : Int)) = true := decide_eq_true h1
      have d2 : decide ((n : Int) ≤ 65536) = true := decide_eq_true h2
      go_enter Try.func29, Try.ntmps29
      go_wp2_with fail
      go_ret
      exact ⟨by rw [← hS.out]; rfl, rfl⟩
    · have d2 : decide (N ≤ 65536) = false := decide_eq_false h2
      have hS : Hid (sizeB N = false) := Lib.hid (by
        cases h : sizeB N
        · rfl
        · have := size_range h; omega)
      go_enter Try.func29, Try.ntmps29
      go_wp2_with fail
      go_ret
      exact ⟨by rw [hS.out]; rfl, rfl⟩
  · have d1 : decide (1 ≤ N) = false := decide_eq_false h1
    have hS : Hid (sizeB N = false) := Lib.hid (by
      cases h : sizeB N
      · rfl
      · have := size_range h; omega)
    go_enter Try.func29, Try.ntmps29
    go_wp2_with fail
    go_ret
    exact ⟨by rw [hS.out]; rfl, rfl⟩
end Go.Proofs.Ytpglocgfdonmaaa

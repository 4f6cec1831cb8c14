/-
  Plain law of budgets: sums of floats that are at least 0 are told; what is spent. No program in sight.
-/
import Derived.Test.YtcfbaildcocnhaaFi
set_option linter.unusedVariables false
set_option linter.unusedSimpArgs false
namespace Go.Proofs.Ytcfbaildcocnhaa
open Go.RowKit

/-- A number that is at least 0. -/
def nn (x : Nat) : Prop := ∃ s m e, Ieee.double.read x = .number s m e ∧ (s = true → m = 0)

theorem shl_zero {m k : Nat} (h : m <<< k = 0) : m = 0 := by have := shl_le m k; omega
theorem fin_nn {x : Nat} (h : fin (fv x) = true) : nn x := by
  by_cases hn : (Ieee.double.read x).isNaN = true
  · rw [fv_none hn] at h
    simp [fin, ge0, ford] at h
  · have hn' : (Ieee.double.read x).isNaN = false := by simpa using hn
    rw [fv_some hn'] at h
    simp only [fin, ge0, fv_0, fv_top, ford, Option.bind_some, Ieee.Format.order, read_0, read_top] at h
    cases hr : Ieee.double.read x with
    | nan s f => rw [hr] at hn'; simp [Ieee.Datum.isNaN] at hn'
    | infinity s => rw [hr] at h; cases s <;> simp [Ieee.Datum.order] at h
    | number s m e =>
      refine ⟨s, m, e, hr, ?_⟩
      rintro rfl
      rw [hr] at h
      simp only [Ieee.Datum.order, Ieee.signed, Bool.false_eq_true, if_false, if_true, Nat.zero_shiftLeft, Bool.and_eq_true, Bool.or_eq_true, beq_iff_eq, Option.some.injEq] at h
      have h1 := h.1
      rw [Int.compare_eq_gt, Int.compare_eq_eq] at h1
      refine shl_zero (k := (e - min e (-1074)).toNat) ?_
      generalize m <<< (e - min e (-1074)).toNat = z at h1 ⊢
      omega
theorem signed_nn {s : Bool} {m k : Nat} (h : s = true → m = 0) : 0 ≤ Ieee.signed s m k := by
  unfold Ieee.signed
  cases s
  · rw [if_neg (by simp)]; exact Int.natCast_nonneg _
  · rw [h rfl, Nat.zero_shiftLeft]; simp
theorem read_word {r : Nat} (hr : r ≤ 9218868437227405312) : nn r ∨ Ieee.double.read r = .infinity false := by
  have hb : Ieee.double.binade = 4503599627370496 := by decide
  have hw : Ieee.double.signWeight = 9223372036854775808 := by decide
  have hi : Ieee.double.infRung = 9218868437227405312 := by decide
  have hl : Ieee.double.leastPlace = -1074 := by decide
  unfold nn Ieee.Format.read
  have e2 : r / 9223372036854775808 % 2 = 0 := by omega
  have e3 : r % 9223372036854775808 = r := by omega
  simp only [hw, hb, hi, hl, e2, e3]
  by_cases h1 : r < 4503599627370496
  · left; rw [if_pos h1]; exact ⟨_, _, _, rfl, by simp⟩
  · rw [if_neg h1]
    by_cases h2 : r < 9218868437227405312
    · left; rw [if_pos h2]; exact ⟨_, _, _, rfl, by simp⟩
    · right; rw [if_neg h2, if_pos (by omega)]; rfl
theorem near_nn (u : Bool) (k : Nat) (b : Int) (hu : u = true → k = 0) : nn (Ieee.double.nearest u k b) ∨ Ieee.double.read (Ieee.double.nearest u k b) = .infinity false := by
  unfold Ieee.Format.nearest
  by_cases hk : k = 0
  · rw [if_pos hk]
    left
    cases u
    · exact ⟨false, 0, -1074, by decide, by simp⟩
    · exact ⟨true, 0, -1074, by decide, by simp⟩
  · rw [if_neg hk]
    obtain rfl : u = false := by cases u <;> simp_all
    refine read_word ?_
    have hi : Ieee.double.infRung = 9218868437227405312 := by decide
    unfold Ieee.Format.word
    rw [if_neg (by simp), hi]
    exact Nat.min_le_right _ _
theorem sum_nn {x y : Nat} (hx : nn x) (hy : nn y) : ∃ r, floatBits .add .f64 x y = some r ∧ (nn r ∨ Ieee.double.read r = .infinity false) := by
  obtain ⟨s, m, e, hr, hs⟩ := hx
  obtain ⟨t, n, j, hq, ht⟩ := hy
  have p1 := signed_nn (k := (e - min e j).toNat) hs
  have p2 := signed_nn (k := (j - min e j).toNat) ht
  have h : floatBits .add .f64 x y = ((Ieee.double.read x).sum (Ieee.double.read y)).map Ieee.double.write := rfl
  rw [h, hr, hq]
  refine ⟨Ieee.double.nearest (if Ieee.signed s m (e - min e j).toNat + Ieee.signed t n (j - min e j).toNat = 0 then s && t else decide (Ieee.signed s m (e - min e j).toNat + Ieee.signed t n (j - min e j).toNat < 0)) (Ieee.signed s m (e - min e j).toNat + Ieee.signed t n (j - min e j).toNat).natAbs (min e j), rfl, ?_⟩
  refine near_nn _ _ _ ?_
  intro hu
  by_cases h0 : Ieee.signed s m (e - min e j).toNat + Ieee.signed t n (j - min e j).toNat = 0
  · rw [h0]; rfl
  · rw [if_neg h0] at hu
    have := of_decide_eq_true hu
    omega
def gtB (x y : Nat) : Bool := FloatKind.f64.format.order x y == some .gt
theorem gt_inf {r y : Nat} (h : Ieee.double.read r = .infinity false) (hy : nn y) : gtB r y = true := by
  obtain ⟨s, m, e, hr, _⟩ := hy
  unfold gtB
  show (Ieee.double.order r y == some .gt) = true
  unfold Ieee.Format.order
  rw [h, hr]
  rfl
def addF (x y : Nat) : Nat := (floatBits .add .f64 x y).getD 0
theorem addF_eq {x y : Nat} (hx : nn x) (hy : nn y) : floatBits .add .f64 x y = some (addF x y) := by
  obtain ⟨r, h, _⟩ := sum_nn hx hy
  rw [addF, h]; rfl
theorem addF_nn {x y z : Nat} (hx : nn x) (hy : nn y) (hz : nn z) (h : gtB (addF x y) z = false) : nn (addF x y) := by
  obtain ⟨r, h1, h2⟩ := sum_nn hx hy
  have e : addF x y = r := by rw [addF, h1]; rfl
  rw [e] at h ⊢
  rcases h2 with h2 | h2
  · exact h2
  · rw [gt_inf h2 hz] at h; cases h

/-- What Spend answers, and what is spent behind it. -/
def spB (me md se sd le ld : Nat) : Int × Nat × Nat :=
  if fin (fv le) && fin (fv ld) then
    (if gtB (addF se le) me || gtB (addF sd ld) md then (261, se, sd) else (0, addF se le, addF sd ld))
  else (260, se, sd)
theorem spB_nn {me md se sd le ld : Nat} (h1 : nn me) (h2 : nn md) (h3 : nn se) (h4 : nn sd) : nn (spB me md se sd le ld).2.1 ∧ nn (spB me md se sd le ld).2.2 := by
  unfold spB
  by_cases hg : (fin (fv le) && fin (fv ld)) = true
  · rw [if_pos hg]
    simp only [Bool.and_eq_true] at hg
    cases hq : gtB (addF se le) me || gtB (addF sd ld) md
    · simp only [Bool.or_eq_false_iff] at hq
      rw [if_neg (by simp)]
      exact ⟨addF_nn h3 (fin_nn hg.1) h1 hq.1, addF_nn h4 (fin_nn hg.2) h2 hq.2⟩
    · rw [if_pos rfl]; exact ⟨h3, h4⟩
  · rw [if_neg hg]; exact ⟨h3, h4⟩

/-- What is spent behind n spendings. -/
def stB (me md se sd le ld : Nat) : Nat → Nat × Nat
  | 0 => (se, sd)
  | n + 1 => (spB me md (stB me md se sd le ld n).1 (stB me md se sd le ld n).2 le ld).2
theorem stB_nn {me md se sd le ld : Nat} (h1 : nn me) (h2 : nn md) (h3 : nn se) (h4 : nn sd) : ∀ n, nn (stB me md se sd le ld n).1 ∧ nn (stB me md se sd le ld n).2
  | 0 => ⟨h3, h4⟩
  | n + 1 => spB_nn h1 h2 (stB_nn h1 h2 h3 h4 n).1 (stB_nn h1 h2 h3 h4 n).2
/-- May the next one be spent behind n spendings? -/
def okB (me md se sd le ld : Nat) (n : Nat) : Bool := (spB me md (stB me md se sd le ld n).1 (stB me md se sd le ld n).2 le ld).1 == 0
/-- How many rounds from n on, f at most. -/
def cnt (ok : Nat → Bool) : Nat → Nat → Nat
  | 0, n => n
  | f + 1, n => if ok n then cnt ok f (n + 1) else n
def rnd (me md se sd le ld : Nat) : Nat := cnt (okB me md se sd le ld) 65536 0
theorem cnt_step {ok : Nat → Bool} {n : Nat} (h : n < 65536) (hk : ok n = true) : cnt ok (65536 - n) n = cnt ok (65536 - (n + 1)) (n + 1) := by
  rw [show 65536 - n = (65536 - (n + 1)) + 1 from by omega]
  simp only [cnt]
  rw [if_pos hk]
theorem cnt_stop {ok : Nat → Bool} {n : Nat} (h : n < 65536) (hk : ok n = false) : cnt ok (65536 - n) n = n := by
  rw [show 65536 - n = (65536 - (n + 1)) + 1 from by omega]
  simp only [cnt]
  rw [hk]; rfl
theorem cnt_le (ok : Nat → Bool) : ∀ f n, cnt ok f n ≤ n + f
  | 0, n => Nat.le_refl _
  | f + 1, n => by
    simp only [cnt]
    split
    · have := cnt_le ok f (n + 1); omega
    · omega
theorem rnd_le (me md se sd le ld : Nat) : rnd me md se sd le ld ≤ 65536 := by
  have := cnt_le (okB me md se sd le ld) 65536 0
  unfold rnd; omega
end Go.Proofs.Ytcfbaildcocnhaa

/-
  Plain law: a float that is at least 0 is not above the greatest one just if it less itself is 0. No program in sight.
-/
import Derived.Test.YtcfbaildcocnhaaFl
namespace Go.Proofs.Ytcfbaildcocnhaa
open Go.RowKit

def top : Nat := 9218868437227405311
/-- From 0 on? -/
def ge0 (v : Option Nat) : Bool := ford v (fv 0) == some .gt || ford v (fv 0) == some .eq
/-- A number, at least 0, and finite. -/
def fin (v : Option Nat) : Bool := ge0 v && !(ford v (fv top) == some .gt)

theorem fv_0 : fv 0 = some 0 := by decide
theorem fv_top : fv top = some top := by decide
theorem read_0 : Ieee.double.read 0 = .number false 0 (-1074) := by decide
theorem read_top : Ieee.double.read top = .number false 9007199254740991 971 := by decide

theorem read_num {x : Nat} {s : Bool} {m : Nat} {e : Int} (h : Ieee.double.read x = .number s m e) : m ≤ 9007199254740991 ∧ e ≤ 971 := by
  have hs : Ieee.double.signWeight = 9223372036854775808 := by decide
  have hb : Ieee.double.binade = 4503599627370496 := by decide
  have hi : Ieee.double.infRung = 9218868437227405312 := by decide
  have hl : Ieee.double.leastPlace = -1074 := by decide
  unfold Ieee.Format.read at h
  simp only [hs, hb, hi, hl] at h
  generalize x % 9223372036854775808 = r at h
  by_cases h1 : r < 4503599627370496
  · rw [if_pos h1] at h
    injection h with _ h2 h3
    omega
  · rw [if_neg h1] at h
    by_cases h2 : r < 9218868437227405312
    · rw [if_pos h2] at h
      injection h with _ h3 h4
      omega
    · rw [if_neg h2] at h
      split at h <;> cases h

theorem shl_le (M k : Nat) : M ≤ M <<< k := by
  rw [Nat.shiftLeft_eq]
  exact Nat.le_mul_of_pos_right _ (Nat.two_pow_pos _)
theorem fin_less (x : Nat) (h : ge0 (fv x) = true) : (ford (fop .sub (fv x) (fv x)) (fv 0) == some .eq) = !(ford (fv x) (fv top) == some .gt) := by
  by_cases hn : (Ieee.double.read x).isNaN = true
  · rw [fv_none hn] at h
    simp [ge0, ford] at h
  · have hn' : (Ieee.double.read x).isNaN = false := by simpa using hn
    rw [fv_some hn'] at h ⊢
    simp only [fv_0, fv_top] at h ⊢
    simp only [ge0, fv_0, ford, fop, Option.bind_some, Ieee.Format.order, read_0, read_top, floatBits, FloatKind.format, Ieee.Format.sub] at h ⊢
    cases hr : Ieee.double.read x with
    | nan s f => rw [hr] at hn'; simp [Ieee.Datum.isNaN] at hn'
    | infinity s =>
      rw [hr] at h
      cases s
      · simp [Ieee.Datum.opposite, Ieee.Datum.sum, Ieee.Datum.order]
      · simp [Ieee.Datum.order] at h
    | number s m e =>
      obtain ⟨hm, he⟩ := read_num hr
      have hsum : (Ieee.Datum.number s m e).sum (Ieee.Datum.number s m e).opposite = some (.number false 0 e) := by
        have hz : Ieee.signed s m 0 + Ieee.signed (!s) m 0 = 0 := by cases s <;> simp [Ieee.signed] <;> omega
        simp [Ieee.Datum.opposite, Ieee.Datum.sum, hz]
      have hw : Ieee.double.write (.number false 0 e) = 0 := by simp [Ieee.Format.write, Ieee.Format.nearest, Ieee.Format.word]
      rw [hsum]
      simp only [Option.map_some, Option.bind_some, hw, fv_0, read_0]
      have h1 : (Ieee.Datum.number false 0 (-1074)).order (Ieee.Datum.number false 0 (-1074)) = some .eq := by decide
      have h2 : (Ieee.Datum.number s m e).order (Ieee.Datum.number false 9007199254740991 971) ≠ some .gt := by
        have hmin : min e 971 = e := by omega
        simp only [Ieee.Datum.order, hmin, Int.sub_self]
        have a1 : Ieee.signed s m (0 : Int).toNat ≤ (m : Int) := by cases s <;> simp [Ieee.signed] <;> omega
        have a2 : (9007199254740991 : Int) ≤ Ieee.signed false 9007199254740991 (971 - e).toNat := by
          have := shl_le 9007199254740991 (971 - e).toNat
          unfold Ieee.signed
          rw [if_neg (by simp)]
          omega
        intro hc
        have hc2 : compare (Ieee.signed s m (0 : Int).toNat) (Ieee.signed false 9007199254740991 (971 - e).toNat) = .gt := by simpa using hc
        rw [Int.compare_eq_gt] at hc2
        omega
      rw [h1]
      simp [h2]
/-- As the document has it. -/
theorem fin_ref (x : Nat) : fin (fv x) = (ge0 (fv x) && (ford (fop .sub (fv x) (fv x)) (fv 0) == some .eq)) := by
  unfold fin
  cases h : ge0 (fv x)
  · rfl
  · rw [fin_less x h]
end Go.Proofs.Ytcfbaildcocnhaa

/-
  Walk: awake.
-/
import Derived.Test.YtcfbaildcocnhaaLa
import Derived.Test.YtcfbaildcocnhaaBt
import Derived.Test.YtcfbaildcocnhaaLo
set_option linter.unusedVariables false
set_option linter.unusedSimpArgs false
namespace Go.Proofs.Ytcfbaildcocnhaa
open Go.RowKit

/-- A key of one byte. -/
def Kc (x : Int) : List Int := x :: List.replicate 31 0
theorem Kc_len (x : Int) : (Kc x).length = 32 := rfl
theorem Kc_8 {x : Int} (h : 0 ≤ x ∧ x ≤ 255) : B8 (Kc x) := B8.of fun y hy => by
  unfold Kc at hy
  rcases List.mem_cons.1 hy with rfl | hy
  · exact h
  · obtain rfl := List.eq_of_mem_replicate hy; decide
theorem key_built (x : Int) : Try.prog.built 53 [(0, .int .u8 x)] = some (AY .u8 (Kc x)) := by rw [AY_eq]; kernel_rfl
theorem rows_unlike : rowB (Kc 1) 0 ≠ rowB (Kc 2) 0 := by decide +kernel
theorem rows_unlike16 : ¬ rowL (Kc 1) 0 16 = rowL (Kc 2) 0 16 := fun h => rows_unlike (by
  have : (rowL (Kc 1) 0 16).getD 0 0 = (rowL (Kc 2) 0 16).getD 0 0 := by rw [h]
  rw [rowL_at _ _ _ _ (by omega), rowL_at _ _ _ _ (by omega)] at this
  exact this)
theorem uW_nn (m : Nat) (h : m < 9007199254740992) : ∃ K e, Ieee.double.read (uW m) = .number false K e := by
  unfold uW
  by_cases hm : m = 0
  · rw [if_pos hm, read_0]; exact ⟨_, _, rfl⟩
  · have hl := log2_52 h
    rw [if_neg hm, read_W m (-53) (by omega) h (by omega) (by omega)]; exact ⟨_, _, rfl⟩
theorem lt_zero (m : Nat) (h : m < 9007199254740992) : ltB (uW m) 0 = false := by
  obtain ⟨K, e, hr⟩ := uW_nn m h
  have h0 : Ieee.double.read 0 = .number false 0 (-1074) := read_0
  show ((Ieee.double.read (uW m)).order (Ieee.double.read 0) == some .lt) = false
  rw [hr, h0]
  simp only [Ieee.Datum.order, Ieee.signed, Bool.false_eq_true, if_false, Nat.zero_shiftLeft]
  have hc : ∀ X : Nat, (some (compare ((X : Nat) : Int) ((0 : Nat) : Int)) == some Ordering.lt) = false := fun X => by
    have h : compare ((X : Nat) : Int) ((0 : Nat) : Int) ≠ .lt := fun hlt => by
      have := Int.compare_eq_lt.1 hlt
      omega
    simpa using h
  exact hc _
theorem unit_lt (ks : List Int) (p : Nat) : numN ks p / 2048 < 9007199254740992 := by have := numN_lt ks p; omega
theorem run_zero (ks : List Int) (f p : Nat) : runF ks 0 (f + 1) p = (0, p + 8) := by
  rw [runF_succ]
  rw [lt_zero _ (unit_lt ks p)]
  rw [if_neg (by decide)]
theorem lap_zero' (ks : List Int) (M X p f : Nat) (hf : M + X = f + 1) : lapN ks 0 M X p = lapM M X 0 0 ∧ lapP ks 0 M X p = p + 8 + 8 := by
  unfold lapN lapP
  rw [hf, run_zero]
  dsimp only
  rw [run_zero]
  exact ⟨rfl, rfl⟩
theorem lapM_38 : lapM 3 8 0 0 = 3 := by decide
theorem lap_zero (ks : List Int) (p : Nat) : lapN ks 0 3 8 p = 3 ∧ lapP ks 0 3 8 p = p + 8 + 8 := by
  have h := lap_zero' ks 3 8 p 10 rfl
  rw [lapM_38] at h
  exact h
theorem Src.keep {w w' : World} {S S1 : Nat} {ks k1 : List Int} {p p1 : Nat} (h : Src w S ks p) (h1 : Src w S1 k1 p1) (hne : S ≠ S1) (hf : Fr (fun b => b = S1) w w') : Src w' S ks p :=
  h.fr hf hne (fun g bs hg e => h1.ne hg (by decide) e.symm)
theorem Own.keepS {w w' : World} {base S : Nat} {T : TypeId} {kd : IntKind} {v : Value} {xs ks : List Int} {p : Nat} (h : Own w base T kd v xs) (h1 : Src w S ks p) (hT : T ≠ 102) (hf : Fr (fun b => b = S) w w') : Own w' base T kd v xs := by
  obtain ⟨A, c, nx, r, hb, -⟩ := h1
  exact h.fr hf (fun g hg e => own_neB h hb hT hg e)
theorem Bud.keepS {w w' : World} {q S me md se sd : Nat} {ks : List Int} {p : Nat} (h : Bud 96 w q me md se sd) (h1 : Src w S ks p) (hf : Fr (fun b => b = S) w w') : Bud 96 w' q me md se sd := Blk.fr h hf (fun e => h1.ne h (by decide) e.symm)
theorem fin_one : (fin (fv 4607182418800017408) && fin (fv 4602678819172646912)) = true := by decide +kernel
theorem spend1 : spB 4607182418800017408 4602678819172646912 0 0 4604930618986332160 0 = (0, 4604930618986332160, 0) := by decide +kernel
theorem spend2 : spB 4607182418800017408 4602678819172646912 4604930618986332160 0 4602678819172646912 0 = (261, 4604930618986332160, 0) := by decide +kernel
theorem nn_a : nn 4607182418800017408 := ⟨false, 4503599627370496, -52, by decide, fun h => by cases h⟩
theorem nn_b : nn 4602678819172646912 := ⟨false, 4503599627370496, -53, by decide, fun h => by cases h⟩
theorem nn_c : nn 4604930618986332160 := ⟨false, 6755399441055744, -53, by decide, fun h => by cases h⟩
theorem nn_z : nn 0 := ⟨false, 0, -1074, by decide, fun h => by cases h⟩
theorem exp_zero : inE (fv 0) = true ∧ expF (fv 0) = some 4607182418800017408 := by decide +kernel
theorem exp_at0 {r : Nat} {c : Int} (h : ExpOK (fv 0) r c) : r = 4607182418800017408 ∧ c = 0 := by
  obtain ⟨_, ⟨_, h2, h3⟩ | ⟨h1, _⟩⟩ := h
  · rw [exp_zero.2] at h3
    unfold fv at h3
    split at h3
    · cases h3
    · injection h3 with h3
      exact ⟨h3, h2⟩
  · rw [exp_zero.1] at h1; cases h1
theorem run_eq_float {P : Program} (w : World) (d : Nat) (t : TypeId) (k : FloatKind) (a b : Nat) (h : P.underlying t = some (.float k)) : (Op.equalIn (d + 1) t (.float k a) (.float k b)).run P w = .ok (Op.floatEq k a b) w := by
  simp [Op.equalIn, Sem.run_bind, run_underlying h]
theorem eq22 (w : World) (a b : Nat) : (Op.equalIn 9999 22 (.float .f64 a) (.float .f64 b)).run Try.prog w = .ok (Op.floatEq .f64 a b) w := run_eq_float w 9998 22 .f64 a b Try.underlying22
end Go.Proofs.Ytcfbaildcocnhaa

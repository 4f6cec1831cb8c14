/-
  Walks: finite, good, told: the program's and the document's.
-/
import Derived.Test.YtcfbaildcocnhaaNoiseExps
import Derived.Test.YtcfbaildcocnhaaFi
set_option linter.unusedVariables false
set_option linter.unusedSimpArgs false
namespace Go.Proofs.Ytcfbaildcocnhaa
open Go.RowKit

/-- '+', '-', '*', '/' on floats behind a guard that lets it be done. -/
theorem wpList_floatG {P : Program} {w : World} {ops : Array Oper} {rest : List Oper} {o : Oper} {a : Act} {Q : Exit → Act → World → Prop}
    (hg : Region.wanted o (yielded ops a.tmps) = true) (op : BinOp) (hop : isArith op = true) (t u : TypeId) (x y : Operand) (ho : o.op = .binOp op t x y u) (bx cx : Nat) (hx : a.eval x = .float .f64 bx) (hy : a.eval y = .float .f64 cx)
    (hK : ∀ r n, fv r = fop op (fv bx) (fv cx) → (Lit.float .f64 r).wf = true → wpList P ops Q rest (a.put o.dst (.float .f64 r)) (w.drewN n)) :
    wpList P ops Q (o :: rest) a w := by
  refine wpList_step fun K hK' => ?_
  simp only [hg, if_true]
  obtain ⟨r, n, hrun, h1, h2⟩ := run_float_any (P := P) w op hop t bx cx
  unfold Oper.wp
  simp [execOp, ho, hx, hy, Result.andThen]
  have hgd : (eqGuard op t x y (.float .f64 bx) (.float .f64 cx)).run P w = .ok () w := by
    cases op <;> simp [isArith] at hop <;> simp [eqGuard]
  rw [hgd]
  simp only [hrun]
  exact hK' _ _ (hK r n h1 h2)
theorem isinf_any (x : Nat) (w : World) : Calls Try.prog 80 #[.float .f64 x, .int .i64 1] w fun e w' => e = .returned (.bool (ford (fv x) (fv top) == some .gt)) ∧ w' = w := by
  have he : (FloatKind.f64.format.order x 9218868437227405311 == some .gt) = (ford (fv x) (fv top) == some .gt) := by rw [ford_eq]; rfl
  have HE := Lib.hid he
  clear he
  go_enter Try.func80, Try.ntmps80
  go_wp2_with fail
  go_ret
  exact ⟨by rw [← HE.out]; rfl, rfl⟩
theorem ge0_eq (x : Nat) : (FloatKind.f64.format.order x 0 == some .gt || FloatKind.f64.format.order x 0 == some .eq) = ge0 (fv x) := by rw [ford_eq]; rfl
theorem finite_any (x : Nat) (w : World) : Calls Try.prog 70 #[.float .f64 x] w fun e w' => e = .returned (.bool (fin (fv x))) ∧ w' = w := by
  obtain ⟨B, hB⟩ : ∃ B, ge0 (fv x) = B := ⟨_, rfl⟩
  have h1 := ge0_eq x
  rw [hB] at h1
  have HB := Lib.hid hB
  clear hB
  cases B
  · go_enter Try.func70, Try.ntmps70
    go_wp2_with fail
    go_ret
    exact ⟨by unfold fin; rw [HB.out]; rfl, rfl⟩
  · go_enter Try.func70, Try.ntmps70
    go_wp2_with fail
    refine (isinf_any x _).mono ?_
    rintro e w' ⟨rfl, rfl⟩
    go_wp2_with fail
    go_ret
    exact ⟨by unfold fin; rw [HB.out]; rfl, rfl⟩
theorem rfinite_any (x : Nat) (w : World) : Calls Try.prog 71 #[.float .f64 x] w fun e w' => e = .returned (.bool (fin (fv x))) ∧ ∃ n, w' = w.drewN n := by
  obtain ⟨B, hB⟩ : ∃ B, ge0 (fv x) = B := ⟨_, rfl⟩
  have h1 := ge0_eq x
  rw [hB] at h1
  have HB := Lib.hid hB
  clear hB
  cases B
  · go_enter Try.func71, Try.ntmps71
    go_wp2_with fail
    go_ret
    exact ⟨by rw [fin_ref, HB.out]; rfl, 0, rfl⟩
  · go_enter Try.func71, Try.ntmps71
    go_wp2_with (refine wpList_floatG rfl .sub rfl _ _ _ _ rfl _ _ rfl rfl ?_; intro r n hr hw; have HR := Lib.hid hr; clear hr)
    go_ret
    exact ⟨by rw [fin_ref, HB.out, ← HR.out, ← ford_eq]; rfl, n, rfl⟩

/-! ### good, told -/
theorem good_any (E D : Nat) (w : World) : Calls Try.prog 48 #[.agg #[.float .f64 E, .float .f64 D]] w fun e w' => e = .returned (.bool (fin (fv E) && fin (fv D))) ∧ Below w.heap.size w w' := by
  have hb : Below w.heap.size w (w.alloc (.cells #[.float .f64 E, .float .f64 D] 34)) := (Below.refl _ _).alloc (Nat.le_refl _) _
  have HB := Lib.hid hb
  clear hb
  go_enter Try.func48, Try.ntmps48
  go_wp2_with fail
  refine (finite_any E _).mono ?_
  rintro e' w' ⟨rfl, rfl⟩
  cases hE : fin (fv E)
  · have HE := Lib.hid hE
    clear hE
    go_wp2_with fail
    go_ret
    exact ⟨by rw [HE.out]; rfl, HB.out⟩
  · have HE := Lib.hid hE
    clear hE
    go_wp2_with fail
    refine (finite_any D _).mono ?_
    rintro e' w' ⟨rfl, rfl⟩
    go_wp2_with fail
    go_ret
    exact ⟨by rw [HE.out]; rfl, HB.out⟩
theorem rgood_any (E D : Nat) (w : World) : Calls Try.prog 49 #[.agg #[.float .f64 E, .float .f64 D]] w fun e w' => e = .returned (.bool (fin (fv E) && fin (fv D))) ∧ Below w.heap.size w w' := by
  have hb : Below w.heap.size w (w.alloc (.cells #[.float .f64 E, .float .f64 D] 34)) := (Below.refl _ _).alloc (Nat.le_refl _) _
  have HB := Lib.hid hb
  clear hb
  go_enter Try.func49, Try.ntmps49
  go_wp2_with fail
  refine (rfinite_any E _).mono ?_
  rintro e' w' ⟨rfl, n, rfl⟩
  cases hE : fin (fv E)
  · have HE := Lib.hid hE
    clear hE
    go_wp2_with fail
    go_ret
    exact ⟨by rw [HE.out]; rfl, belowN HB.out _⟩
  · have HE := Lib.hid hE
    clear hE
    go_wp2_with fail
    refine (rfinite_any D _).mono ?_
    rintro e' w' ⟨rfl, m, rfl⟩
    go_wp2_with fail
    go_ret
    exact ⟨by rw [HE.out]; rfl, belowN HB.out _⟩
end Go.Proofs.Ytcfbaildcocnhaa

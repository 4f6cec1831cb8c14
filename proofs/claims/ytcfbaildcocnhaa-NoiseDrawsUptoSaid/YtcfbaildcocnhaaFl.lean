/-
  Floats as values without a NaN's bits: what an operation on floats gives, whatever the tape draws for a NaN.
-/
import Derived.WalkKit
import Derived.Laws.FloatArith
import Derived.Deep.Draws
namespace Go.Proofs.Ytcfbaildcocnhaa
open Go.RowKit

/-- A float's bits; none: no number. -/
def fv (b : Nat) : Option Nat := if (Ieee.double.read b).isNaN then none else some b
/-- An operation on such values. -/
def fop (op : BinOp) (x y : Option Nat) : Option Nat := x.bind fun a => y.bind fun b => (floatBits op .f64 a b).bind fv
def ford (x y : Option Nat) : Option Ordering := x.bind fun a => y.bind fun b => Ieee.double.order a b

theorem fv_some {b : Nat} (h : (Ieee.double.read b).isNaN = false) : fv b = some b := by simp [fv, h]
theorem fv_none {b : Nat} (h : (Ieee.double.read b).isNaN = true) : fv b = none := by simp [fv, h]
theorem sum_nan_left {d e : Ieee.Datum} (h : d.isNaN = true) : d.sum e = none := by cases d <;> simp_all [Ieee.Datum.isNaN, Ieee.Datum.sum]
theorem sum_nan_right {d e : Ieee.Datum} (h : e.isNaN = true) : d.sum e = none := by cases e <;> cases d <;> simp_all [Ieee.Datum.isNaN, Ieee.Datum.sum]
theorem product_nan_left {d e : Ieee.Datum} (h : d.isNaN = true) : d.product e = none := by cases d <;> simp_all [Ieee.Datum.isNaN, Ieee.Datum.product]
theorem product_nan_right {d e : Ieee.Datum} (h : e.isNaN = true) : d.product e = none := by cases e <;> cases d <;> simp_all [Ieee.Datum.isNaN, Ieee.Datum.product]
theorem quotient_nan_left {n : Nat} {d e : Ieee.Datum} (h : d.isNaN = true) : d.quotient n e = none := by cases d <;> simp_all [Ieee.Datum.isNaN, Ieee.Datum.quotient]
theorem quotient_nan_right {n : Nat} {d e : Ieee.Datum} (h : e.isNaN = true) : d.quotient n e = none := by cases e <;> cases d <;> simp_all [Ieee.Datum.isNaN, Ieee.Datum.quotient]
theorem order_nan_left {d e : Ieee.Datum} (h : d.isNaN = true) : d.order e = none := by cases d <;> simp_all [Ieee.Datum.isNaN, Ieee.Datum.order]
theorem order_nan_right {d e : Ieee.Datum} (h : e.isNaN = true) : d.order e = none := by cases e <;> cases d <;> simp_all [Ieee.Datum.isNaN, Ieee.Datum.order]
theorem opposite_nan {d : Ieee.Datum} : d.opposite.isNaN = d.isNaN := by cases d <;> rfl

theorem floatBits_nan_left {op : BinOp} {x y : Nat} (h : (Ieee.double.read x).isNaN = true) : floatBits op .f64 x y = none := by
  cases op <;> simp only [floatBits, FloatKind.format, Ieee.Format.add, Ieee.Format.sub, Ieee.Format.mul, Ieee.Format.div]
  · rw [sum_nan_left h]; rfl
  · rw [sum_nan_left h]; rfl
  · rw [product_nan_left h]; rfl
  · rw [quotient_nan_left h]; rfl
theorem floatBits_nan_right {op : BinOp} {x y : Nat} (h : (Ieee.double.read y).isNaN = true) : floatBits op .f64 x y = none := by
  cases op <;> simp only [floatBits, FloatKind.format, Ieee.Format.add, Ieee.Format.sub, Ieee.Format.mul, Ieee.Format.div]
  · rw [sum_nan_right h]; rfl
  · rw [sum_nan_right (by rw [opposite_nan]; exact h)]; rfl
  · rw [product_nan_right h]; rfl
  · rw [quotient_nan_right h]; rfl

theorem fop_some {op : BinOp} {x y r : Nat} (h : floatBits op .f64 x y = some r) : fv r = fop op (fv x) (fv y) := by
  by_cases hx : (Ieee.double.read x).isNaN = true
  · rw [floatBits_nan_left hx] at h; cases h
  · by_cases hy : (Ieee.double.read y).isNaN = true
    · rw [floatBits_nan_right hy] at h; cases h
    · rw [fv_some (b := x) (by simpa using hx), fv_some (b := y) (by simpa using hy)]; simp [fop, h]
theorem fop_none {op : BinOp} {x y : Nat} (h : floatBits op .f64 x y = none) : fop op (fv x) (fv y) = none := by
  by_cases hx : (Ieee.double.read x).isNaN = true
  · rw [fv_none hx]; rfl
  · by_cases hy : (Ieee.double.read y).isNaN = true
    · rw [fv_none hy]; cases fv x <;> rfl
    · rw [fv_some (by simpa using hx), fv_some (by simpa using hy)]; simp [fop, h]
theorem ford_eq (x y : Nat) : FloatKind.f64.format.order x y = ford (fv x) (fv y) := by
  show Ieee.double.order x y = _
  unfold Ieee.Format.order
  by_cases hx : (Ieee.double.read x).isNaN = true
  · rw [order_nan_left hx, fv_none hx]; rfl
  · by_cases hy : (Ieee.double.read y).isNaN = true
    · rw [order_nan_right hy, fv_none hy]; cases fv x <;> rfl
    · rw [fv_some (by simpa using hx), fv_some (by simpa using hy)]; rfl

theorem nan_drawn (t a b : Nat) : fv (Question.cut (.nanBits .f64 a b) t) = none ∧ (Lit.float .f64 (Question.cut (.nanBits .f64 a b) t)).wf = true := by
  have h0 : Question.cut (.nanBits .f64 a b) t = (t % 2) * 9223372036854775808 + (9218868437227405313 + (t / 2) % 4503599627370495) := by
    simp only [Question.cut]; omega
  have hs : Ieee.double.signWeight = 9223372036854775808 := by decide
  have hb : Ieee.double.binade = 4503599627370496 := by decide
  have hi : Ieee.double.infRung = 9218868437227405312 := by decide
  have hm : (t / 2) % 4503599627370495 < 4503599627370495 := Nat.mod_lt _ (by omega)
  rw [h0]
  generalize (t / 2) % 4503599627370495 = m at hm
  have hc : (t % 2 * 9223372036854775808 + (9218868437227405313 + m)) % 9223372036854775808 = 9218868437227405313 + m := by omega
  constructor
  · apply fv_none
    unfold Ieee.Format.read
    simp only [hs, hb, hi, hc]
    rw [if_neg (by omega), if_neg (by omega), if_neg (by omega)]
    rfl
  · refine wf_of_lt .f64 _ ?_
    show _ < 2 ^ 64
    omega

theorem compare_self (d : Ieee.Datum) (h : d.isNaN = false) : d.order d = some .eq := by
  cases d with
  | number s m e => simp [Ieee.Datum.order]
  | infinity s => cases s <;> rfl
  | nan s f => simp [Ieee.Datum.isNaN] at h
/-- Either the two are alike, or each is no number. -/
theorem ford_self (b : Nat) : (fv b = none ∧ ford (fv b) (fv b) = none) ∨ ((∃ c, fv b = some c) ∧ ford (fv b) (fv b) = some .eq) := by
  by_cases h : (Ieee.double.read b).isNaN = true
  · rw [fv_none h]; exact .inl ⟨rfl, rfl⟩
  · rw [fv_some (by simpa using h)]; exact .inr ⟨⟨b, rfl⟩, compare_self _ (by simpa using h)⟩

def isArith : BinOp → Bool
  | .add | .sub | .mul | .quo => true
  | _ => false
theorem run_float_any {P : Program} (w : World) (op : BinOp) (hop : isArith op = true) (t : TypeId) (x y : Nat) :
    ∃ r n, (binOp op t (.float .f64 x) (.float .f64 y)).run P w = .ok (.float .f64 r) (w.drewN n) ∧ fv r = fop op (fv x) (fv y) ∧ (Lit.float .f64 r).wf = true := by
  cases h : floatBits op .f64 x y with
  | some r => exact ⟨r, 0, run_float_arith w op t .f64 x y r h, fop_some h, floatBits_wf h⟩
  | none =>
    obtain ⟨h1, h2⟩ := nan_drawn (w.tape w.drawn (.nanBits .f64 x y)) x y
    refine ⟨_, 1, ?_, h1.trans (fop_none h).symm, h2⟩
    cases op <;> simp [isArith] at hop
    all_goals
      simp only [floatBits] at h
      simp [binOp, Op.floatArith, h, Question.forced]
      rfl

/-- '+', '-', '*', '/' on floats, as the walk takes it. -/
theorem wpList_float {P : Program} {w : World} {ops : Array Oper} {rest : List Oper} {o : Oper} {a : Act} {Q : Exit → Act → World → Prop}
    (hg : o.guard = none) (op : BinOp) (hop : isArith op = true) (t u : TypeId) (x y : Operand) (ho : o.op = .binOp op t x y u) (bx cx : Nat) (hx : a.eval x = .float .f64 bx) (hy : a.eval y = .float .f64 cx)
    (hK : ∀ r n, fv r = fop op (fv bx) (fv cx) → (Lit.float .f64 r).wf = true → wpList P ops Q rest (a.put o.dst (.float .f64 r)) (w.drewN n)) :
    wpList P ops Q (o :: rest) a w := by
  refine wpList_plain hg fun K hK' => ?_
  obtain ⟨r, n, hrun, h1, h2⟩ := run_float_any (P := P) w op hop t bx cx
  unfold Oper.wp
  simp [execOp, ho, hx, hy, Result.andThen]
  have hgd : (eqGuard op t x y (.float .f64 bx) (.float .f64 cx)).run P w = .ok () w := by
    cases op <;> simp [isArith] at hop <;> simp [eqGuard]
  rw [hgd]
  simp only [hrun]
  exact hK' _ _ (hK r n h1 h2)
theorem belowN {B : Nat} {a w : World} (h : Below B a w) (n : Nat) : Below B a (w.drewN n) := ⟨h.os, h.tape, h.output, h.size, h.block⟩
end Go.Proofs.Ytcfbaildcocnhaa

/-
  Plain: what the law NoiseGrows asks of Exp, Simple, Advanced.
-/
import Derived.Test.YtcfbaildcocnhaaGr
set_option linter.unusedVariables false
set_option linter.unusedSimpArgs false
namespace Go.Proofs.Ytcfbaildcocnhaa
open Go.RowKit

def geB (x y : Nat) : Bool := FloatKind.f64.format.order x y == some .gt || FloatKind.f64.format.order x y == some .eq
def leB (x y : Nat) : Bool := FloatKind.f64.format.order x y == some .lt || FloatKind.f64.format.order x y == some .eq
theorem geB_of {x y : Nat} {s t : Bool} {m n : Nat} {e j : Int} (hx : Ieee.double.read x = .number s m e) (hy : Ieee.double.read y = .number t n j) (hs : s = true → m = 0) (ht : t = true → n = 0) (h : leP n j m e) : geB x y = true := by
  unfold geB
  rw [order_nn hx hy hs ht]
  have h1 := (leP_base (min e j) (by omega) (by omega)).1 h
  have h2 : compare ((m * 2 ^ (e - min e j).toNat : Nat) : Int) ((n * 2 ^ (j - min e j).toNat : Nat) : Int) ≠ .lt := by
    rw [Ne, Int.compare_eq_lt]; omega
  generalize compare ((m * 2 ^ (e - min e j).toNat : Nat) : Int) ((n * 2 ^ (j - min e j).toNat : Nat) : Int) = c at h2 ⊢
  cases c <;> first | rfl | exact absurd rfl h2
theorem leB_of {x y : Nat} {s t : Bool} {m n : Nat} {e j : Int} (hx : Ieee.double.read x = .number s m e) (hy : Ieee.double.read y = .number t n j) (hs : s = true → m = 0) (ht : t = true → n = 0) (h : leP m e n j) : leB x y = true := by
  unfold leB
  rw [order_nn hx hy hs ht]
  have h1 := (leP_base (min e j) (by omega) (by omega)).1 h
  have h2 : compare ((m * 2 ^ (e - min e j).toNat : Nat) : Int) ((n * 2 ^ (j - min e j).toNat : Nat) : Int) ≠ .gt := by
    rw [Ne, Int.compare_eq_gt]; omega
  generalize compare ((m * 2 ^ (e - min e j).toNat : Nat) : Int) ((n * 2 ^ (j - min e j).toNat : Nat) : Int) = c at h2 ⊢
  cases c <;> first | rfl | exact absurd rfl h2
theorem ge_one {t : Nat} (h1 : 4607182418800017408 ≤ t) (h2 : t ≤ 9218868437227405312) : geB t 4607182418800017408 = true := by
  rcases read_pos h2 with ⟨m, p, h, hR, -⟩ | rfl
  · exact geB_of h read_one (fun h => by cases h) (fun h => by cases h) (rung_mono rung_one hR h1)
  · decide
theorem in_unit {t : Nat} (h1 : t ≤ 4607182418800017408) : geB t 0 = true ∧ leB t 4607182418800017408 = true := by
  obtain ⟨m, p, h, hR⟩ := read_rung (r := t) (by omega)
  refine ⟨geB_of h read_0 (fun h => by cases h) (fun h => by cases h) ?_, leB_of h read_one (fun h => by cases h) (fun h => by cases h) (rung_mono hR rung_one h1)⟩
  unfold leP
  rw [Nat.zero_mul]
  exact Nat.zero_le _
theorem read_700 : Ieee.double.read 4649368480934526976 = .number false 6157265115545600 (-43) := by decide
theorem read_700' : Ieee.double.read 13872740517789302784 = .number true 6157265115545600 (-43) := by decide
theorem inE_num {v : Nat} (h : inE (fv v) = true) : ∃ s m e, Ieee.double.read v = .number s m e ∧ (s = true → leP m e 4503599627370496 (-42)) := by
  unfold inE at h
  rw [← ford_eq, ← ford_eq] at h
  have hf : ∀ a b, FloatKind.f64.format.order a b = (Ieee.double.read a).order (Ieee.double.read b) := fun _ _ => rfl
  rw [hf, hf, read_700, read_700'] at h
  cases hr : Ieee.double.read v with
  | nan s f => rw [hr] at h; simp [Ieee.Datum.order] at h
  | infinity s => rw [hr] at h; cases s <;> simp [Ieee.Datum.order] at h
  | number s m e =>
    refine ⟨s, m, e, rfl, ?_⟩
    rintro rfl
    rw [hr] at h
    simp only [Ieee.Datum.order, sg_neg, sg_pos, Bool.and_eq_true, Bool.or_eq_true, beq_iff_eq, Option.some.injEq] at h
    have h1 := h.1
    rw [Int.compare_eq_gt, Int.compare_eq_eq] at h1
    have h2 : leP m e 6157265115545600 (-43) := by
      refine (leP_base (min e (-43)) (by omega) (by omega)).2 ?_
      generalize m * 2 ^ (e - min e (-43)).toNat = a at h1 ⊢
      generalize 6157265115545600 * 2 ^ (-43 - min e (-43)).toNat = b at h1 ⊢
      omega
    exact leP_trans h2 (leP_up (by omega) (by omega))
/-- Exp, where it answers. -/
theorem exp_grows {v r : Nat} (h : inE (fv v) = true) (hr : fv r = expF (fv v)) :
    (ge0 (fv v) = true → geB r 4607182418800017408 = true) ∧ (ge0 (fv v) = false → geB r 0 = true ∧ leB r 4607182418800017408 = true) := by
  obtain ⟨s, m, e, hv, hl⟩ := inE_num h
  have hone : ∀ t, t ≤ 9218868437227405312 → fv r = fv t → r = t := by
    intro t ht hrt
    rw [fv_pos ht] at hrt
    unfold fv at hrt
    split at hrt
    · cases hrt
    · injection hrt
  constructor
  · intro h0
    have hs : s = true → m = 0 := by
      rintro rfl
      rw [← ge0_eq] at h0
      have hf : ∀ a b, FloatKind.f64.format.order a b = (Ieee.double.read a).order (Ieee.double.read b) := fun _ _ => rfl
      rw [hf, hv, read_0] at h0
      simp only [Ieee.Datum.order, sg_neg, sg_pos, Bool.or_eq_true, beq_iff_eq, Option.some.injEq] at h0
      rw [Int.compare_eq_gt, Int.compare_eq_eq, Nat.zero_mul] at h0
      rcases Nat.eq_zero_or_pos m with h3 | h3
      · exact h3
      · have := Nat.mul_pos h3 (pow_pos' (e - min e (-1074)).toNat)
        generalize m * 2 ^ (e - min e (-1074)).toNat = a at h0 this
        omega
    obtain ⟨t, ht, h1, h2⟩ := exp_up hv hs
    rw [hone t h2 (hr.trans ht)]
    exact ge_one h1 h2
  · intro h0
    have hs : s = true := by
      cases s
      · exfalso
        rw [← ge0_eq] at h0
        have := geB_of hv read_0 (fun h => by cases h) (fun h => by cases h) (by unfold leP; rw [Nat.zero_mul]; exact Nat.zero_le _)
        unfold geB at this
        rw [this] at h0
        cases h0
      · rfl
    subst hs
    obtain ⟨t, ht, h1⟩ := exp_low hv (hl rfl)
    rw [hone t (by omega) (hr.trans ht)]
    exact in_unit h1
theorem lt_ge {v : Nat} (h : ge0 (fv v) = true) : (FloatKind.f64.format.order v 0 == some .lt) = false := by
  rw [← ge0_eq] at h
  generalize FloatKind.f64.format.order v 0 = o at h ⊢
  cases o with
  | none => rfl
  | some c => cases c <;> first | rfl | cases h

/-! ### Simple -/
theorem nn_of {x : Nat} (h : fin (fv x) = true) : ∃ s m e, Ieee.double.read x = .number s m e ∧ (s = true → m = 0) := fin_nn h
theorem wf_lt {x : Nat} (h : (Lit.float .f64 x).wf = true) : x < 18446744073709551616 := by
  simpa [Lit.wf] using h
theorem mul_one' {x : Nat} (hw : (Lit.float .f64 x).wf = true) (h : fin (fv x) = true) : fop .mul (kF 1) (fv x) = fv x := by
  have hk : kF 1 = fv one := by decide
  obtain ⟨s, m, e, hr, hs⟩ := nn_of h
  have hx := wf_lt hw
  have hR := rung_of hr
  rw [hk]
  refine fop_eq (x := one) (fv_num read_one) (fv_num hr) ((mul_num read_one hr).trans (congrArg some ?_))
  have hb : (x / 9223372036854775808 % 2 == 1) = s := by
    unfold Ieee.Format.read at hr
    simp only [dSw] at hr
    split at hr
    · injection hr
    · split at hr
      · injection hr
      · split at hr <;> cases hr
  cases s
  · show Ieee.double.nearest false _ _ = x
    have hb2 : ¬ x / 9223372036854775808 % 2 = 1 := by simpa using hb
    have hmod : x % 9223372036854775808 = x := by omega
    rw [hmod] at hR
    refine near_self hR ?_ ?_
    · refine (leP_base (-52 + e) (by omega) (by omega)).2 ?_
      rw [show (e - (-52 + e)).toNat = 52 from by omega, show (-52 + e - (-52 + e)).toNat = 0 from by omega, Nat.pow_zero, Nat.mul_one, Nat.mul_comm]
      exact Nat.le_refl _
    · refine (leP_base (-52 + e) (by omega) (by omega)).2 ?_
      rw [show (e - (-52 + e)).toNat = 52 from by omega, show (-52 + e - (-52 + e)).toNat = 0 from by omega, Nat.pow_zero, Nat.mul_one, Nat.mul_comm]
      exact Nat.le_refl _
  · obtain rfl := hs rfl
    show Ieee.double.nearest true _ _ = x
    rw [near_true, Nat.mul_zero, near_zero]
    have hb2 : x / 9223372036854775808 % 2 = 1 := by simpa using hb
    obtain ⟨h1, h2, h3, h4, h5⟩ := hR
    omega
theorem mul_zero' {x : Nat} (h : fin (fv x) = true) : fop .mul (kF 0) (fv x) = fv 0 ∨ fop .mul (kF 0) (fv x) = fv 9223372036854775808 := by
  have hk : kF 0 = fv 0 := by decide
  obtain ⟨s, m, e, hr, hs⟩ := nn_of h
  rw [hk, fop_eq (fv_num read_0) (fv_num hr) (mul_num read_0 hr), Nat.zero_mul]
  cases s
  · left; show fv (Ieee.double.nearest false 0 _) = _; rw [near_zero]
  · right; show fv (Ieee.double.nearest true 0 _) = _; rw [near_true, near_zero]
theorem fv_inj {a b : Nat} (h : fv a = fv b) (hb : fv b = some b) : a = b := by
  rw [hb] at h
  unfold fv at h
  split at h
  · cases h
  · injection h
theorem fin_some {x : Nat} (h : fin (fv x) = true) : fv x = some x := by
  obtain ⟨s, m, e, hr, -⟩ := nn_of h
  exact fv_num hr
theorem simple_one {E D : Nat} (hE : (Lit.float .f64 E).wf = true) (hD : (Lit.float .f64 D).wf = true) (h : (fin (fv E) && fin (fv D)) = true) : simpleF (fv E) (fv D) 1 = (fv E, fv D, 0) := by
  have h2 := h
  simp only [Bool.and_eq_true] at h2
  unfold simpleF
  rw [show outN 1 = false from by decide, h, mul_one' hE h2.1, mul_one' hD h2.2]
  unfold toldF
  rw [h]; rfl
theorem simple_zero {E D : Nat} (h : (fin (fv E) && fin (fv D)) = true) : ∃ a b, simpleF (fv E) (fv D) 0 = (fv a, fv b, 0) ∧ (a = 0 ∨ a = 9223372036854775808) ∧ (b = 0 ∨ b = 9223372036854775808) := by
  have h2 := h
  simp only [Bool.and_eq_true] at h2
  have f0 : fin (fv 0) = true := by decide
  have f1 : fin (fv 9223372036854775808) = true := by decide
  unfold simpleF
  rw [show outN 0 = false from by decide, h]
  rcases mul_zero' h2.1 with e1 | e1 <;> rcases mul_zero' h2.2 with e2 | e2 <;> rw [e1, e2] <;> unfold toldF <;> simp only [f0, f1]
  · exact ⟨_, _, rfl, .inl rfl, .inl rfl⟩
  · exact ⟨_, _, rfl, .inl rfl, .inr rfl⟩
  · exact ⟨_, _, rfl, .inr rfl, .inl rfl⟩
  · exact ⟨_, _, rfl, .inr rfl, .inr rfl⟩
theorem zero_or {a r : Nat} (h : fv r = fv a) (ha : a = 0 ∨ a = 9223372036854775808) : FloatKind.f64.format.order r 0 = some .eq := by
  rcases ha with rfl | rfl
  · rw [fv_inj h (by decide)]; decide
  · rw [fv_inj h (by decide)]; decide
theorem simple_bad {E D : Option Nat} (h : (fin E && fin D) = false) (n : Int) : ∃ c, simpleF E D n = (fv 0, fv 0, c) ∧ (c = 2 ∨ c = 260) ∧ (outN n = false → c = 260) := by
  unfold simpleF
  cases hn : outN n
  · rw [h]; exact ⟨260, rfl, .inr rfl, fun _ => rfl⟩
  · exact ⟨2, rfl, .inl rfl, fun h => by cases h⟩
theorem told_ok (e d : Option Nat) : (toldF e d).2.2 = 0 ∧ toldF e d = (e, d, 0) ∧ (fin e && fin d) = true ∨ toldF e d = (fv 0, fv 0, 260) := by
  unfold toldF
  cases h : fin e && fin d
  · right; rfl
  · left; exact ⟨rfl, rfl, rfl⟩
theorem simple_code (E D : Option Nat) (n : Int) : (fin (simpleF E D n).1 && fin (simpleF E D n).2.1) = true := by
  have f0 : (fin (fv 0) && fin (fv 0)) = true := by decide
  unfold simpleF
  cases outN n
  · cases fin E && fin D
    · exact f0
    · rcases told_ok (fop .mul (kF n) E) (fop .mul (kF n) D) with ⟨-, h, h2⟩ | h
      · show (fin (toldF _ _).1 && fin (toldF _ _).2.1) = true
        rw [h]; exact h2
      · show (fin (toldF _ _).1 && fin (toldF _ _).2.1) = true
        rw [h]; exact f0
  · exact f0

/-! ### Advanced -/
theorem kF_nn (n : Int) (h : outN n = false) : ∃ k, kF n = fv k ∧ nn k := by
  have h2 : 0 ≤ n ∧ n ≤ 65536 := by
    unfold outN at h
    simp only [Bool.or_eq_false_iff, decide_eq_false_iff_not] at h
    omega
  obtain ⟨N, rfl⟩ : ∃ N : Nat, n = N := ⟨n.toNat, by omega⟩
  unfold kF
  rcases Nat.eq_zero_or_pos N with rfl | hN
  · exact ⟨0, by decide, ⟨false, 0, -1074, by decide, fun h => by cases h⟩⟩
  · obtain ⟨k, j, hd, -, -⟩ := dv N hN (by omega)
    exact ⟨_, rfl, false, k, j, hd, fun h => by cases h⟩
theorem mul_nn {x y : Nat} (hx : nn x) (hy : nn y) : ∃ r, fop .mul (fv x) (fv y) = fv r ∧ (nn r ∨ Ieee.double.read r = .infinity false) := by
  obtain ⟨s, m, e, hr, hs⟩ := hx
  obtain ⟨t, n, j, hq, ht⟩ := hy
  refine ⟨_, fop_eq (fv_num hr) (fv_num hq) (mul_num hr hq), near_nn _ _ _ ?_⟩
  cases s <;> cases t <;> simp_all
theorem fin_inf {r : Nat} (h : Ieee.double.read r = .infinity false) : fin (fv r) = false := by
  cases hf : fin (fv r)
  · rfl
  · obtain ⟨s, m, e, hr, -⟩ := nn_of hf
    rw [h] at hr; cases hr
theorem add_inf {x y : Nat} (hx : Ieee.double.read x = .infinity false) (hy : nn y) : fop .add (fv x) (fv y) = fv 9218868437227405312 := by
  obtain ⟨t, n, j, hq, ht⟩ := hy
  refine fop_eq (fv_some (by rw [hx]; rfl)) (fv_num hq) ?_
  have h : floatBits .add .f64 x y = ((Ieee.double.read x).sum (Ieee.double.read y)).map Ieee.double.write := rfl
  rw [h, hx, hq]
  rfl
theorem add_comm_nn {x y : Nat} (hx : nn x) (hy : nn y) : addF x y = addF y x := by
  obtain ⟨s, m, e, hr, hs⟩ := hx
  obtain ⟨t, n, j, hq, ht⟩ := hy
  have h : ∀ a b, floatBits .add .f64 a b = ((Ieee.double.read a).sum (Ieee.double.read b)).map Ieee.double.write := fun _ _ => rfl
  unfold addF
  rw [h, h, hr, hq]
  simp only [Ieee.Datum.sum, Int.min_comm j e, Int.add_comm (Ieee.signed t n _) _, Bool.and_comm t s]
/-- What is told is at least the slack. -/
theorem slack_ge {X S d : Nat} {k D : Option Nat} (hX : D = fv X) (hk : ∃ n, k = fv n ∧ nn n) (hD : fin D = true) (hS : nn S) (hd : fv d = fop .add (fop .mul k D) (fv S)) (hf : fin (fv d) = true) : geB d S = true := by
  subst hX
  obtain ⟨n, rfl, hn⟩ := hk
  obtain ⟨r, hr, hr2⟩ := mul_nn hn (fin_nn hD)
  rw [hr] at hd
  rcases hr2 with hr2 | hr2
  · have hs2 := hS
    obtain ⟨s, m, e, h1, h2⟩ := hr2
    obtain ⟨t, q, j, h3, h4⟩ := hS
    have hr3 : nn r := ⟨s, m, e, h1, h2⟩
    have ha := fop_eq (fv_num h1) (fv_num h3) (addF_eq hr3 hs2)
    rw [ha] at hd
    have hfd := hf
    rw [hd] at hf
    have he : d = addF r S := fv_inj hd (fin_some hf)
    have hnd := fin_nn hf
    rw [he]
    rw [add_comm_nn hr3 hs2] at hnd ⊢
    have hlt := sum_ge hs2 hr3 hnd
    obtain ⟨u, a, b, h5, h6⟩ := hnd
    unfold geB
    rw [order_nn h5 h3 h6 h4] at hlt ⊢
    generalize compare ((a * 2 ^ (b - min b j).toNat : Nat) : Int) ((q * 2 ^ (j - min b j).toNat : Nat) : Int) = c at hlt ⊢
    cases c <;> first | rfl | cases hlt
  · rw [add_inf hr2 hS] at hd
    rw [hd, fin_inf read_inf] at hf
    cases hf
theorem ge0_le1_nn {S : Nat} (h1 : ge0 (fv S) = true) (h2 : le1 (fv S) = true) : nn S := by
  refine fin_nn ?_
  unfold fin
  rw [h1]
  unfold le1 at h2
  have hf : ∀ a b, ford (fv a) (fv b) = (Ieee.double.read a).order (Ieee.double.read b) := fun a b => by rw [← ford_eq]; rfl
  rw [hf, read_one] at h2
  rw [hf, read_top]
  cases hr : Ieee.double.read S with
  | nan s f => rw [hr] at h2; simp [Ieee.Datum.order] at h2
  | infinity s =>
    rw [hr] at h2
    cases s
    · simp [Ieee.Datum.order] at h2
    · simp [Ieee.Datum.order]
  | number s m e =>
    rw [hr] at h2
    cases s
    · have hle : leP m e 4503599627370496 (-52) := by
        simp only [Ieee.Datum.order, sg_pos, Bool.or_eq_true, beq_iff_eq, Option.some.injEq] at h2
        rw [Int.compare_eq_lt, Int.compare_eq_eq] at h2
        refine (leP_base (min e (-52)) (by omega) (by omega)).2 ?_
        generalize m * 2 ^ (e - min e (-52)).toNat = a at h2 ⊢
        generalize 4503599627370496 * 2 ^ (-52 - min e (-52)).toNat = b at h2 ⊢
        omega
      have hle2 := (leP_base (min e 971) (by omega) (by omega)).1 (leP_trans hle (leP_mono (a := 4503599627370496) (b := 9007199254740991) (p := -52) (q := 971) (by omega) (by omega)))
      simp only [Ieee.Datum.order, sg_pos]
      have h5 : compare ((m * 2 ^ (e - min e 971).toNat : Nat) : Int) ((9007199254740991 * 2 ^ (971 - min e 971).toNat : Nat) : Int) ≠ .gt := by
        rw [Ne, Int.compare_eq_gt]
        generalize m * 2 ^ (e - min e 971).toNat = a at hle2 ⊢
        generalize 9007199254740991 * 2 ^ (971 - min e 971).toNat = b at hle2 ⊢
        omega
      generalize compare ((m * 2 ^ (e - min e 971).toNat : Nat) : Int) ((9007199254740991 * 2 ^ (971 - min e 971).toNat : Nat) : Int) = c at h5 ⊢
      cases c <;> first | rfl | exact absurd rfl h5
    · simp only [Ieee.Datum.order, sg_pos, sg_neg]
      have h5 : compare (-((m * 2 ^ (e - min e 971).toNat : Nat) : Int)) ((9007199254740991 * 2 ^ (971 - min e 971).toNat : Nat) : Int) ≠ .gt := by
        rw [Ne, Int.compare_eq_gt]
        generalize m * 2 ^ (e - min e 971).toNat = a
        generalize 9007199254740991 * 2 ^ (971 - min e 971).toNat = b
        omega
      generalize compare (-((m * 2 ^ (e - min e 971).toNat : Nat) : Int)) ((9007199254740991 * 2 ^ (971 - min e 971).toNat : Nat) : Int) = c at h5 ⊢
      cases c <;> first | rfl | exact absurd rfl h5
/-- What Advanced answers. -/
theorem adv_cases (E D : Nat) (n : Int) (N : Option Nat) (S : Nat) (hg : (fin (fv E) && fin (fv D)) = true) :
    (∃ c, advF (fv E) (fv D) n N (fv S) = (fv 0, fv 0, c) ∧ (c = 2 ∨ c = 260)) ∨
    (∃ e d, advF (fv E) (fv D) n N (fv S) = (e, d, 0) ∧ (fin e && fin d) = true ∧ 0 ≤ n ∧ ∀ q, fv q = d → geB q S = true) := by
  unfold advF
  cases hn : outN n
  · cases hm : mayF N (fv S)
    · rw [hg]; exact .inl ⟨260, rfl, .inr rfl⟩
    · rw [hg]
      cases hb : badF (fv E) N (fv S)
      · simp only [Bool.false_eq_true, if_false, Bool.and_self, if_true]
        rcases told_ok (fop .add (fop .mul (rootF (fop .mul (fop .mul (fv 4611686018427387904) (kF n)) N)) (fv E)) (fop .mul (fop .mul (kF n) (fv E)) (fop .sub (exF (fv E)) (fv 4607182418800017408)))) (fop .add (fop .mul (kF n) (fv D)) (fv S)) with ⟨-, h, h2⟩ | h
        · right
          refine ⟨_, _, h, h2, ?_, ?_⟩
          · unfold outN at hn
            simp only [Bool.or_eq_false_iff, decide_eq_false_iff_not] at hn
            omega
          · intro q hq
            unfold mayF at hm
            simp only [Bool.and_eq_true] at hm h2 hg
            exact slack_ge rfl (kF_nn n hn) hg.2 (ge0_le1_nn hm.1.2 hm.2) hq (by rw [hq]; exact h2.2)
        · left; exact ⟨260, h, .inr rfl⟩
      · exact .inl ⟨260, rfl, .inr rfl⟩
  · exact .inl ⟨2, rfl, .inl rfl⟩
end Go.Proofs.Ytcfbaildcocnhaa

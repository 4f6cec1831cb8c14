/-
  Plain: Exp is at least 1 from 0 on, and from 0 to 1 below.
-/
import Derived.Test.YtcfbaildcocnhaaPo
import Derived.Test.YtcfbaildcocnhaaLo
set_option linter.unusedVariables false
set_option linter.unusedSimpArgs false
namespace Go.Proofs.Ytcfbaildcocnhaa
open Go.RowKit

theorem rung_one : Rung 4607182418800017408 4503599627370496 (-52) := ⟨by omega, by omega, by omega, by omega, .inl (by omega)⟩
theorem read_one : Ieee.double.read 4607182418800017408 = .number false 4503599627370496 (-52) := by decide
theorem near_zero (e : Int) : Ieee.double.nearest false 0 e = 0 := by simp [Ieee.Format.nearest, Ieee.Format.word]
theorem near_cap (n : Nat) (e : Int) : Ieee.double.nearest false n e ≤ 9218868437227405312 := by
  by_cases hn : n = 0
  · subst hn; rw [near_zero]; omega
  · rw [near_is n e hn]; exact Nat.min_le_right _ _
theorem dSw : Ieee.double.signWeight = 9223372036854775808 := by decide
theorem near_true (n : Nat) (e : Int) : Ieee.double.nearest true n e = 9223372036854775808 + Ieee.double.nearest false n e := by
  unfold Ieee.Format.nearest
  by_cases hn : n = 0
  · rw [if_pos hn, if_pos hn]; unfold Ieee.Format.word; rw [if_pos rfl, if_neg (by simp), dSw]
  · rw [if_neg hn, if_neg hn]
    unfold Ieee.Format.word
    rw [if_pos rfl, if_neg (by simp), dSw]
    rfl
theorem read_flip {r m : Nat} {p : Int} (hr : r ≤ 9218868437227405312) (h : Ieee.double.read r = .number false m p) : Ieee.double.read (9223372036854775808 + r) = .number true m p := by
  unfold Ieee.Format.read at h ⊢
  have e1 : r / 9223372036854775808 % 2 = 0 := by omega
  have e2 : r % 9223372036854775808 = r := by omega
  have e3 : (9223372036854775808 + r) / 9223372036854775808 % 2 = 1 := by omega
  have e4 : (9223372036854775808 + r) % 9223372036854775808 = r := by omega
  simp only [dSw, dBin, dInf, least, e1, e2, e3, e4] at h ⊢
  by_cases h1 : r < 4503599627370496
  · rw [if_pos h1] at h ⊢
    injection h with _ h2 h3
    rw [h2, h3]; rfl
  · rw [if_neg h1] at h ⊢
    by_cases h2 : r < 9218868437227405312
    · rw [if_pos h2] at h ⊢
      injection h with _ h3 h4
      rw [h3, h4]; rfl
    · rw [if_neg h2] at h
      split at h <;> cases h
theorem read_pos {r : Nat} (hr : r ≤ 9218868437227405312) : (∃ m p, Ieee.double.read r = .number false m p ∧ Rung r m p ∧ r < 9218868437227405312) ∨ r = 9218868437227405312 := by
  rcases Nat.lt_or_ge r 9218868437227405312 with h | h
  · obtain ⟨m, p, h1, h2⟩ := read_rung h; exact .inl ⟨m, p, h1, h2, h⟩
  · exact .inr (by omega)
theorem fv_pos {r : Nat} (hr : r ≤ 9218868437227405312) : fv r = some r := by
  refine fv_some ?_
  rcases read_pos hr with ⟨m, p, h, -, -⟩ | rfl
  · rw [h]; rfl
  · rw [read_inf]; rfl
theorem fv_neg {r : Nat} (hr : r < 9218868437227405312) : fv (9223372036854775808 + r) = some (9223372036854775808 + r) := by
  refine fv_some ?_
  obtain ⟨m, p, h, -⟩ := read_rung hr
  rw [read_flip (by omega) h]; rfl
theorem leP_mono {a b : Nat} {p q : Int} (h : a ≤ b) (hpq : p ≤ q) : leP a p b q := by
  refine (leP_base p (Int.le_refl _) hpq).2 ?_
  rw [show (p - p).toNat = 0 from by omega, Nat.pow_zero, Nat.mul_one]
  have := Nat.le_mul_of_pos_right b (pow_pos' (q - p).toNat)
  omega
theorem leP_mul {a b m n : Nat} {p q e f : Int} (h1 : leP a p m e) (h2 : leP b q n f) : leP (a * b) (p + q) (m * n) (e + f) := by
  refine (leP_base (min p e + min q f) (by omega) (by omega)).2 ?_
  have h := Nat.mul_le_mul h1 h2
  rw [show (p + q - (min p e + min q f)).toNat = (p - min p e).toNat + (q - min q f).toNat from by omega, show (e + f - (min p e + min q f)).toNat = (e - min p e).toNat + (f - min q f).toNat from by omega, Nat.pow_add, Nat.pow_add]
  rw [Nat.mul_mul_mul_comm, Nat.mul_mul_mul_comm m] at h
  exact h
theorem one_one : leP (4503599627370496 * 4503599627370496) (-52 + -52) 4503599627370496 (-52) := by
  refine (leP_base (-104) (by omega) (by omega)).2 ?_
  decide
theorem one_one' : leP 4503599627370496 (-52) (4503599627370496 * 4503599627370496) (-52 + -52) := by
  refine (leP_base (-104) (by omega) (by omega)).2 ?_
  decide
theorem leP_pos {a b : Nat} {p q : Int} (ha : 0 < a) (h : leP a p b q) : b ≠ 0 := by
  rintro rfl
  unfold leP at h
  rw [Nat.zero_mul] at h
  have := Nat.mul_pos ha (pow_pos' (p - min p q).toNat)
  omega

/-! ### Products -/
theorem mul_num {x y m n : Nat} {s t : Bool} {p q : Int} (hx : Ieee.double.read x = .number s m p) (hy : Ieee.double.read y = .number t n q) : floatBits .mul .f64 x y = some (Ieee.double.nearest (s ^^ t) (m * n) (p + q)) := by
  have h : floatBits .mul .f64 x y = ((Ieee.double.read x).product (Ieee.double.read y)).map Ieee.double.write := rfl
  rw [h, hx, hy]
  rfl
theorem mul_inf {x y n : Nat} {t : Bool} {q : Int} (hx : Ieee.double.read x = .infinity false) (hy : Ieee.double.read y = .number t n q) (hn : n ≠ 0) : floatBits .mul .f64 x y = some (Ieee.double.write (.infinity t)) := by
  have h : floatBits .mul .f64 x y = ((Ieee.double.read x).product (Ieee.double.read y)).map Ieee.double.write := rfl
  rw [h, hx, hy]
  simp [Ieee.Datum.product, hn]
theorem mul_inf' {x y n : Nat} {t : Bool} {q : Int} (hx : Ieee.double.read x = .number t n q) (hy : Ieee.double.read y = .infinity false) (hn : n ≠ 0) : floatBits .mul .f64 x y = some (Ieee.double.write (.infinity t)) := by
  have h : floatBits .mul .f64 x y = ((Ieee.double.read x).product (Ieee.double.read y)).map Ieee.double.write := rfl
  rw [h, hx, hy]
  simp [Ieee.Datum.product, hn]
theorem mul_infs {x y : Nat} (hx : Ieee.double.read x = .infinity false) (hy : Ieee.double.read y = .infinity false) : floatBits .mul .f64 x y = some (Ieee.double.write (.infinity false)) := by
  have h : floatBits .mul .f64 x y = ((Ieee.double.read x).product (Ieee.double.read y)).map Ieee.double.write := rfl
  rw [h, hx, hy]
  rfl
theorem write_inf : Ieee.double.write (.infinity false) = 9218868437227405312 := by decide
/-- A product of two numbers that are more than 0, infinity among them. -/
theorem mul_some {x y : Nat} (hx : 0 < x) (hx2 : x ≤ 9218868437227405312) (hy : 0 < y) (hy2 : y ≤ 9218868437227405312) : ∃ r, floatBits .mul .f64 x y = some r ∧ r ≤ 9218868437227405312 := by
  have hz : ∀ {r m p}, Rung r m p → 0 < r → m ≠ 0 := by
    rintro r m p ⟨h1, h2, h3, h4, h5⟩ hr rfl
    omega
  rcases read_pos hx2 with ⟨m, p, h, hR, -⟩ | rfl
  · rcases read_pos hy2 with ⟨n, q, k, hS, -⟩ | rfl
    · exact ⟨_, mul_num h k, near_cap _ _⟩
    · exact ⟨_, mul_inf' h read_inf (hz hR hx), by rw [write_inf]; omega⟩
  · rcases read_pos hy2 with ⟨n, q, k, hS, -⟩ | rfl
    · exact ⟨_, mul_inf read_inf k (hz hS hy), by rw [write_inf]; omega⟩
    · exact ⟨_, mul_infs read_inf read_inf, by rw [write_inf]; omega⟩
theorem mul_up {x y : Nat} (hx : 4607182418800017408 ≤ x) (hx2 : x ≤ 9218868437227405312) (hy : 4607182418800017408 ≤ y) (hy2 : y ≤ 9218868437227405312) : ∃ r, floatBits .mul .f64 x y = some r ∧ 4607182418800017408 ≤ r ∧ r ≤ 9218868437227405312 := by
  rcases read_pos hx2 with ⟨m, p, h, hR, -⟩ | rfl
  · have a1 := rung_mono rung_one hR hx
    rcases read_pos hy2 with ⟨n, q, k, hS, -⟩ | rfl
    · have a2 := rung_mono rung_one hS hy
      refine ⟨_, mul_num h k, ?_, near_cap _ _⟩
      have a3 := leP_trans one_one' (leP_mul a1 a2)
      exact near_ge rung_one a3 (leP_pos (by omega) a3)
    · exact ⟨_, mul_inf' h read_inf (leP_pos (by omega) a1), by rw [write_inf]; omega, by rw [write_inf]; omega⟩
  · rcases read_pos hy2 with ⟨n, q, k, hS, -⟩ | rfl
    · exact ⟨_, mul_inf read_inf k (leP_pos (by omega) (rung_mono rung_one hS hy)), by rw [write_inf]; omega, by rw [write_inf]; omega⟩
    · exact ⟨_, mul_infs read_inf read_inf, by rw [write_inf]; omega, by rw [write_inf]; omega⟩
theorem mul_low {x y : Nat} (hx : x ≤ 4607182418800017408) (hy : y ≤ 4607182418800017408) : ∃ r, floatBits .mul .f64 x y = some r ∧ r ≤ 4607182418800017408 := by
  obtain ⟨m, p, h, hR⟩ := read_rung (r := x) (by omega)
  obtain ⟨n, q, k, hS⟩ := read_rung (r := y) (by omega)
  refine ⟨_, mul_num h k, ?_⟩
  exact near_le rung_one (leP_trans (leP_mul (rung_mono hR rung_one hx) (rung_mono hS rung_one hy)) one_one)
theorem mul_neg {x y : Nat} (hx : x ≤ 4607182418800017408) (hy : y ≤ 4607182418800017408) : ∃ r, floatBits .mul .f64 (9223372036854775808 + x) y = some (9223372036854775808 + r) ∧ r ≤ 4607182418800017408 := by
  obtain ⟨m, p, h, hR⟩ := read_rung (r := x) (by omega)
  obtain ⟨n, q, k, hS⟩ := read_rung (r := y) (by omega)
  refine ⟨_, (mul_num (read_flip (by omega) h) k).trans (congrArg some (near_true _ _)), ?_⟩
  exact near_le rung_one (leP_trans (leP_mul (rung_mono hR rung_one hx) (rung_mono hS rung_one hy)) one_one)

/-! ### Quotients -/
/-- A quotient's digits. -/
def quoN (m n : Nat) : Nat := 2 * ((m <<< (54 + n.log2 - m.log2)) / n) + (((m <<< (54 + n.log2 - m.log2)) % n != 0)).toNat
def quoP (m n : Nat) (i j : Int) : Int := i - j - ((54 + n.log2 - m.log2 : Nat) : Int) - 1
theorem quo_num {x y m n : Nat} {s t : Bool} {i j : Int} (hx : Ieee.double.read x = .number s m i) (hy : Ieee.double.read y = .number t n j) (hn : n ≠ 0) : floatBits .quo .f64 x y = some (Ieee.double.nearest (s ^^ t) (quoN m n) (quoP m n i j)) := by
  have h : floatBits .quo .f64 x y = ((Ieee.double.read x).quotient 54 (Ieee.double.read y)).map Ieee.double.write := rfl
  rw [h, hx, hy]
  simp only [Ieee.Datum.quotient, if_neg hn]
  rfl
theorem quo_inf {x y n : Nat} {j : Int} (hx : Ieee.double.read x = .infinity false) (hy : Ieee.double.read y = .number false n j) : floatBits .quo .f64 x y = some (Ieee.double.write (.infinity false)) := by
  have h : floatBits .quo .f64 x y = ((Ieee.double.read x).quotient 54 (Ieee.double.read y)).map Ieee.double.write := rfl
  rw [h, hx, hy]
  rfl
theorem leP_log {m n : Nat} {i j : Int} (hm : m ≠ 0) (h : leP m i n j) : (m.log2 : Int) + i ≤ n.log2 + j := by
  have h0 := log2_le (M := m) (by omega)
  have h1 := log2_lt (M := n)
  have h2 := (leP_base (min i j) (by omega) (by omega)).1 h
  have h3 := Nat.lt_of_le_of_lt (Nat.le_trans (Nat.mul_le_mul_right _ h0) h2) (Nat.mul_lt_mul_of_pos_right h1 (pow_pos' _))
  rw [← Nat.pow_add, ← Nat.pow_add] at h3
  have h4 := (Nat.pow_lt_pow_iff_right (a := 2) (by omega)).1 h3
  omega
theorem quo_le {m n : Nat} {i j : Int} (hm : m < 9007199254740992) (hn : n ≠ 0) (h : leP m i n j) : Ieee.double.nearest false (quoN m n) (quoP m n i j) ≤ 4607182418800017408 := by
  by_cases h0 : m = 0
  · subst h0
    have : quoN 0 n = 0 := by unfold quoN; simp
    rw [this, near_zero]; omega
  have hl := leP_log h0 h
  have h52 := log2_52 hm
  obtain ⟨M, hM⟩ : ∃ M : Nat, 54 + n.log2 - m.log2 = M := ⟨_, rfl⟩
  have hMi : (M : Int) = 54 + n.log2 - m.log2 := by omega
  obtain ⟨k, hk⟩ : ∃ k : Nat, (k : Int) = j - i + M := ⟨(j - i + M).toNat, by omega⟩
  have hD : m * 2 ^ M ≤ 2 ^ k * n := by
    have h2 := (leP_base (min i j) (by omega) (by omega)).1 h
    have h3 := Nat.mul_le_mul_right (2 ^ M) h2
    rw [Nat.mul_assoc, Nat.mul_assoc, ← Nat.pow_add, ← Nat.pow_add] at h3
    rw [show (i - min i j).toNat + M = M + (i - min i j).toNat from by omega, show (j - min i j).toNat + M = k + (i - min i j).toNat from by omega, Nat.pow_add, Nat.pow_add, ← Nat.mul_assoc, ← Nat.mul_assoc] at h3
    have h4 := Nat.le_of_mul_le_mul_right h3 (pow_pos' _)
    rw [Nat.mul_comm (2 ^ k)]
    exact h4
  have hq : quoN m n ≤ 2 ^ (k + 1) := by
    unfold quoN
    rw [hM, Nat.shiftLeft_eq]
    generalize m * 2 ^ M = D at hD
    have hn0 : 0 < n := by omega
    have h5 : D / n ≤ 2 ^ k := by
      rw [Nat.div_le_iff_le_mul hn0]
      omega
    have hb : ∀ b : Bool, b.toNat ≤ 1 := by intro b; cases b <;> decide
    rw [Nat.pow_succ]
    rcases Nat.lt_or_ge (D / n) (2 ^ k) with h6 | h6
    · have := hb (D % n != 0); omega
    · have h7 : D / n = 2 ^ k := by omega
      have h8 := Nat.div_add_mod D n
      rw [h7, Nat.mul_comm] at h8
      have h9 : D % n = 0 := by omega
      rw [h9, h7]
      simp
      omega
  refine near_le rung_one ?_
  have hp : quoP m n i j = -(k : Int) - 1 := by unfold quoP; rw [hM]; omega
  rw [hp]
  refine (leP_base (min (-(k : Int) - 1) (-52)) (by omega) (by omega)).2 ?_
  refine Nat.le_trans (Nat.mul_le_mul_right _ hq) ?_
  have e1 : (4503599627370496 : Nat) = 2 ^ 52 := by decide
  rw [e1, ← Nat.pow_add, ← Nat.pow_add]
  refine Nat.pow_le_pow_right (by omega) ?_
  omega

/-! ### Sums with 1 -/
theorem add_num {x y m n : Nat} {s t : Bool} {i j : Int} (hx : Ieee.double.read x = .number s m i) (hy : Ieee.double.read y = .number t n j) (u : Bool) (tot : Nat) (ht : Ieee.signed s m (i - min i j).toNat + Ieee.signed t n (j - min i j).toNat = (tot : Int)) (hu : tot = 0 → (s && t) = false) :
    floatBits .add .f64 x y = some (Ieee.double.nearest false tot (min i j)) := by
  have h : floatBits .add .f64 x y = ((Ieee.double.read x).sum (Ieee.double.read y)).map Ieee.double.write := rfl
  rw [h, hx, hy]
  simp only [Ieee.Datum.sum, Option.map_some, Ieee.Format.write, ht, Int.natAbs_natCast]
  by_cases h0 : tot = 0
  · rw [if_pos (by omega), hu h0]
  · rw [if_neg (by omega), decide_eq_false (by omega)]
theorem sg_pos (m k : Nat) : Ieee.signed false m k = ((m * 2 ^ k : Nat) : Int) := by
  unfold Ieee.signed
  rw [if_neg (by simp), Nat.shiftLeft_eq]
theorem sg_neg (m k : Nat) : Ieee.signed true m k = -((m * 2 ^ k : Nat) : Int) := by
  unfold Ieee.signed
  rw [if_pos rfl, Nat.shiftLeft_eq]
theorem add_up {z : Nat} (hz : z ≤ 9218868437227405312) : ∃ r, floatBits .add .f64 4607182418800017408 z = some r ∧ 4607182418800017408 ≤ r ∧ r ≤ 9218868437227405312 := by
  rcases read_pos hz with ⟨n, q, k, hS, -⟩ | rfl
  · have hp : 0 < 4503599627370496 * 2 ^ (-52 - min (-52) q).toNat := Nat.mul_pos (by omega) (pow_pos' _)
    refine ⟨_, add_num read_one k true (4503599627370496 * 2 ^ (-52 - min (-52) q).toNat + n * 2 ^ (q - min (-52) q).toNat) (by rw [sg_pos, sg_pos]; omega) (fun h => rfl), ?_, near_cap _ _⟩
    refine near_ge rung_one ?_ (by omega)
    refine (leP_base (min (-52) q) (by omega) (by omega)).2 ?_
    rw [show (min (-52) q - min (-52) q).toNat = 0 from by omega, Nat.pow_zero, Nat.mul_one]
    omega
  · exact ⟨9218868437227405312, by decide, by omega, by omega⟩
theorem add_low {z : Nat} (hz : z ≤ 4607182418800017408) : ∃ r, floatBits .add .f64 4607182418800017408 (9223372036854775808 + z) = some r ∧ r ≤ 4607182418800017408 := by
  obtain ⟨n, q, k, hS⟩ := read_rung (r := z) (by omega)
  have hl := (leP_base (min (-52) q) (by omega) (by omega)).1 (rung_mono hS rung_one hz)
  refine ⟨_, add_num read_one (read_flip (by omega) k) true (4503599627370496 * 2 ^ (-52 - min (-52) q).toNat - n * 2 ^ (q - min (-52) q).toNat) (by rw [sg_pos, sg_neg]; omega) (fun h => rfl), ?_⟩
  refine near_le rung_one ?_
  refine (leP_base (min (-52) q) (by omega) (by omega)).2 ?_
  rw [show (min (-52) q - min (-52) q).toNat = 0 from by omega, Nat.pow_zero, Nat.mul_one]
  omega

/-! ### The row -/
theorem fop_eq {op : BinOp} {x y r : Nat} (hx : fv x = some x) (hy : fv y = some y) (h : floatBits op .f64 x y = some r) : fop op (fv x) (fv y) = fv r := by
  unfold fop
  rw [hx, hy, Option.bind_some, Option.bind_some, h, Option.bind_some]
theorem dv (N : Nat) (h : 0 < N) (h53 : N < 9007199254740992) : ∃ n j, Ieee.double.read (floatOfInt .f64 (N : Int)) = .number false n j ∧ n ≠ 0 ∧ leP 4503599627370496 (-52) n j := by
  have hl := log2_52 h53
  have h1 : floatOfInt .f64 (N : Int) = Ieee.double.nearest false N 0 := by
    show Ieee.double.write (.number (decide ((N : Int) < 0)) (N : Int).natAbs 0) = _
    rw [decide_eq_false (by omega), Int.natAbs_natCast]
    rfl
  rw [h1, near_W0 N 0 h h53 (by omega) (by omega), read_W N 0 h h53 (by omega) (by omega)]
  have hk := kept_range h h53
  exact ⟨_, _, rfl, by omega, leP_mono hk.1 (by omega)⟩
theorem dv' (j : Nat) (hj : j < 18) : ∃ n q, Ieee.double.read (floatOfInt .f64 (18 - (j : Int))) = .number false n q ∧ n ≠ 0 ∧ leP 4503599627370496 (-52) n q := by
  have h := dv (18 - j) (by omega) (by omega)
  rwa [show ((18 - j : Nat) : Int) = 18 - (j : Int) from by omega] at h
theorem fv_num {d n : Nat} {s : Bool} {j : Int} (h : Ieee.double.read d = .number s n j) : fv d = some d := fv_some (by rw [h]; rfl)
theorem ser_up {y : Nat} (h0 : 0 < y) (hy : y ≤ 9218868437227405312) : ∀ j, j ≤ 18 → ∃ t, serF (fv y) j = fv t ∧ 4607182418800017408 ≤ t ∧ t ≤ 9218868437227405312
  | 0, _ => ⟨one, rfl, Nat.le_refl _, by unfold one; omega⟩
  | j + 1, hj => by
    obtain ⟨t, ht, h1, h2⟩ := ser_up h0 hy j (by omega)
    obtain ⟨n, q, hd, hn, -⟩ := dv' j (by omega)
    unfold serF
    rw [ht]
    obtain ⟨r, hr, hr2⟩ := mul_some h0 hy (by omega : 0 < t) h2
    rw [fop_eq (fv_pos hy) (fv_pos h2) hr]
    obtain ⟨z, hz, hz2⟩ : ∃ z, floatBits .quo .f64 r (floatOfInt .f64 (18 - (j : Int))) = some z ∧ z ≤ 9218868437227405312 := by
      rcases read_pos hr2 with ⟨m, p, h, hR, -⟩ | rfl
      · exact ⟨_, quo_num h hd hn, near_cap _ _⟩
      · exact ⟨_, quo_inf read_inf hd, by rw [write_inf]; omega⟩
    rw [fop_eq (fv_pos hr2) (fv_num hd) hz]
    obtain ⟨u, hu, hu1, hu2⟩ := add_up hz2
    exact ⟨u, fop_eq (x := one) (fv_num read_one) (fv_pos hz2) hu, hu1, hu2⟩
theorem ser_low {y : Nat} (hy : y ≤ 4607182418800017408) : ∀ j, j ≤ 18 → ∃ t, serF (fv (9223372036854775808 + y)) j = fv t ∧ t ≤ 4607182418800017408
  | 0, _ => ⟨one, rfl, Nat.le_refl _⟩
  | j + 1, hj => by
    obtain ⟨t, ht, h1⟩ := ser_low hy j (by omega)
    obtain ⟨n, q, hd, hn, hd1⟩ := dv' j (by omega)
    unfold serF
    rw [ht]
    obtain ⟨r, hr, hr2⟩ := mul_neg hy h1
    rw [fop_eq (fv_neg (by omega)) (fv_pos (by omega)) hr]
    obtain ⟨m, p, h, hR⟩ := read_rung (r := r) (by omega)
    have hz := (quo_num (read_flip (by omega) h) hd hn).trans (congrArg some (near_true _ _))
    have hz2 := quo_le hR.lt hn (leP_trans (rung_mono hR rung_one hr2) hd1)
    rw [fop_eq (fv_neg (by omega)) (fv_num hd) hz]
    obtain ⟨u, hu, hu1⟩ := add_low hz2
    exact ⟨u, fop_eq (x := one) (fv_num read_one) (fv_neg (by omega)) hu, hu1⟩
theorem sq_up {t : Nat} (h1 : 4607182418800017408 ≤ t) (h2 : t ≤ 9218868437227405312) : ∀ k, ∃ r, sqF (fv t) k = fv r ∧ 4607182418800017408 ≤ r ∧ r ≤ 9218868437227405312
  | 0 => ⟨t, rfl, h1, h2⟩
  | k + 1 => by
    obtain ⟨r, hr, h3, h4⟩ := sq_up h1 h2 k
    unfold sqF
    rw [hr]
    obtain ⟨u, hu, hu1, hu2⟩ := mul_up h3 h4 h3 h4
    exact ⟨u, fop_eq (fv_pos h4) (fv_pos h4) hu, hu1, hu2⟩
theorem sq_low {t : Nat} (h1 : t ≤ 4607182418800017408) : ∀ k, ∃ r, sqF (fv t) k = fv r ∧ r ≤ 4607182418800017408
  | 0 => ⟨t, rfl, h1⟩
  | k + 1 => by
    obtain ⟨r, hr, h3⟩ := sq_low h1 k
    unfold sqF
    rw [hr]
    obtain ⟨u, hu, hu1⟩ := mul_low h3 h3
    exact ⟨u, fop_eq (fv_pos (by omega)) (fv_pos (by omega)) hu, hu1⟩
theorem ser_zero : serF (fv 0) 18 = fv one := by decide +kernel
theorem ser_zero' : serF (fv 9223372036854775808) 18 = fv one := by decide +kernel
theorem read_1024 : Ieee.double.read 4652218415073722368 = .number false 4503599627370496 (-42) := by decide
theorem exp_up {v m : Nat} {s : Bool} {e : Int} (hv : Ieee.double.read v = .number s m e) (hs : s = true → m = 0) : ∃ t, expF (fv v) = fv t ∧ 4607182418800017408 ≤ t ∧ t ≤ 9218868437227405312 := by
  unfold expF
  have hq := quo_num hv read_1024 (by omega)
  rw [fop_eq (fv_num hv) (fv_num read_1024) hq]
  have hone : ∃ t, fv one = fv t ∧ 4607182418800017408 ≤ t ∧ t ≤ 9218868437227405312 := ⟨one, rfl, Nat.le_refl _, by unfold one; omega⟩
  have hc : ∃ t, serF (fv (Ieee.double.nearest (s ^^ false) (quoN m 4503599627370496) (quoP m 4503599627370496 e (-42)))) 18 = fv t ∧ 4607182418800017408 ≤ t ∧ t ≤ 9218868437227405312 := by
    cases s
    · have hcap := near_cap (quoN m 4503599627370496) (quoP m 4503599627370496 e (-42))
      show ∃ t, serF (fv (Ieee.double.nearest false (quoN m 4503599627370496) (quoP m 4503599627370496 e (-42)))) 18 = fv t ∧ _
      generalize Ieee.double.nearest false (quoN m 4503599627370496) (quoP m 4503599627370496 e (-42)) = y at hcap
      rcases Nat.eq_zero_or_pos y with rfl | h0
      · rw [ser_zero]; exact hone
      · exact ser_up h0 hcap 18 (Nat.le_refl _)
    · obtain rfl := hs rfl
      have e1 : quoN 0 4503599627370496 = 0 := by unfold quoN; simp
      show ∃ t, serF (fv (Ieee.double.nearest true (quoN 0 4503599627370496) (quoP 0 4503599627370496 e (-42)))) 18 = fv t ∧ _
      rw [near_true, e1, near_zero]
      rw [ser_zero']; exact hone
  obtain ⟨t, ht, h1, h2⟩ := hc
  rw [ht]
  exact sq_up h1 h2 10
theorem exp_low {v m : Nat} {e : Int} (hv : Ieee.double.read v = .number true m e) (hl : leP m e 4503599627370496 (-42)) : ∃ t, expF (fv v) = fv t ∧ t ≤ 4607182418800017408 := by
  unfold expF
  have hq := quo_num hv read_1024 (by omega)
  rw [fop_eq (fv_num hv) (fv_num read_1024) hq]
  show ∃ t, sqF (serF (fv (Ieee.double.nearest true _ _)) 18) 10 = fv t ∧ _
  rw [near_true]
  have h1 := quo_le (rung_of hv).lt (by omega) hl
  obtain ⟨t, ht, h2⟩ := ser_low h1 18 (Nat.le_refl _)
  rw [ht]
  exact sq_low h2 10
end Go.Proofs.Ytcfbaildcocnhaa

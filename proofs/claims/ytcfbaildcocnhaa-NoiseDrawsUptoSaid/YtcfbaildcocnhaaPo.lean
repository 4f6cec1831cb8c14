/-
  Plain: what is spent never falls, never rises above the most; how often it may be spent yet, behind one spending.
-/
import Derived.Test.YtcfbaildcocnhaaMo
set_option linter.unusedVariables false
set_option linter.unusedSimpArgs false
namespace Go.Proofs.Ytcfbaildcocnhaa
open Go.RowKit

theorem rung_of {x m : Nat} {s : Bool} {e : Int} (h : Ieee.double.read x = .number s m e) : Rung (x % 9223372036854775808) m e := by
  have hw : Ieee.double.signWeight = 9223372036854775808 := by decide
  unfold Ieee.Format.read at h
  simp only [hw, dBin, dInf, least] at h
  generalize x % 9223372036854775808 = r at h ⊢
  by_cases h1 : r < 4503599627370496
  · rw [if_pos h1] at h
    injection h with _ h2 h3
    subst h2 h3
    exact ⟨by omega, by omega, by omega, by omega, .inr rfl⟩
  · rw [if_neg h1] at h
    by_cases h2 : r < 9218868437227405312
    · rw [if_pos h2] at h
      injection h with _ h3 h4
      subst h3 h4
      exact ⟨by omega, by omega, by omega, by omega, .inl (by omega)⟩
    · rw [if_neg h2] at h
      split at h <;> cases h
theorem leP_up {a b : Nat} {p q : Int} (h : a ≤ 2 * b) (hpq : p < q) : leP a p b q := by
  refine (leP_base p (Int.le_refl _) (by omega)).2 ?_
  rw [show (p - p).toNat = 0 from by omega, Nat.pow_zero, Nat.mul_one]
  have h2 : 2 ^ 1 ≤ 2 ^ (q - p).toNat := Nat.pow_le_pow_right (by omega) (by omega)
  have h3 : b * 2 ^ 1 ≤ b * 2 ^ (q - p).toNat := Nat.mul_le_mul_left _ h2
  omega
theorem rung_mono {r m r' m' : Nat} {p p' : Int} (h : Rung r m p) (h' : Rung r' m' p') (hr : r ≤ r') : leP m p m' p' := by
  obtain ⟨h1, h2, h3, h4, h5⟩ := h
  obtain ⟨g1, g2, g3, g4, g5⟩ := h'
  rcases Int.lt_trichotomy p p' with hp | hp | hp
  · exact leP_up (by omega) hp
  · subst hp
    exact leP_of (by omega)
  · exfalso; omega
/-- The order of two numbers that are at least 0. -/
theorem order_nn {x y : Nat} {s t : Bool} {m n : Nat} {e j : Int} (hx : Ieee.double.read x = .number s m e) (hy : Ieee.double.read y = .number t n j) (hs : s = true → m = 0) (ht : t = true → n = 0) :
    FloatKind.f64.format.order x y = some (compare ((m * 2 ^ (e - min e j).toNat : Nat) : Int) ((n * 2 ^ (j - min e j).toNat : Nat) : Int)) := by
  show Ieee.double.order x y = _
  have hz : ∀ (b : Bool) (k u : Nat), (b = true → k = 0) → Ieee.signed b k u = ((k * 2 ^ u : Nat) : Int) := by
    intro b k u h
    unfold Ieee.signed
    rw [Nat.shiftLeft_eq]
    cases b
    · rw [if_neg (by simp)]
    · rw [h rfl, Nat.zero_mul]; simp
  unfold Ieee.Format.order
  rw [hx, hy]
  simp only [Ieee.Datum.order, hz _ _ _ hs, hz _ _ _ ht]
theorem not_lt_of {x y : Nat} {s t : Bool} {m n : Nat} {e j : Int} (hx : Ieee.double.read x = .number s m e) (hy : Ieee.double.read y = .number t n j) (hs : s = true → m = 0) (ht : t = true → n = 0) (h : leP n j m e) :
    (FloatKind.f64.format.order x y == some .lt) = false := by
  rw [order_nn hx hy hs ht]
  have h1 := (leP_base (min e j) (by omega) (by omega)).1 h
  have h2 : compare ((m * 2 ^ (e - min e j).toNat : Nat) : Int) ((n * 2 ^ (j - min e j).toNat : Nat) : Int) ≠ .lt := by
    rw [Ne, Int.compare_eq_lt]; omega
  generalize compare ((m * 2 ^ (e - min e j).toNat : Nat) : Int) ((n * 2 ^ (j - min e j).toNat : Nat) : Int) = c at h2 ⊢
  cases c <;> first | rfl | exact absurd rfl h2
/-- A sum of two numbers that are at least 0 is rounded to the first one at least. -/
theorem sum_ge {x l : Nat} (hx : nn x) (hl : nn l) (hn : nn (addF x l)) : (FloatKind.f64.format.order (addF x l) x == some .lt) = false := by
  obtain ⟨s, m, e, hr, hs⟩ := hx
  obtain ⟨t, n, j, hq, ht⟩ := hl
  obtain ⟨u, k, f, hk, hu⟩ := hn
  have p1 := signed_nn (k := (e - min e j).toNat) hs
  have p2 := signed_nn (k := (j - min e j).toNat) ht
  refine not_lt_of hk hr hu hs ?_
  by_cases hm : m = 0
  · subst hm
    unfold leP
    rw [Nat.zero_mul]
    exact Nat.zero_le _
  have hs' : s = false := by cases s <;> simp_all
  have h : floatBits .add .f64 x l = ((Ieee.double.read x).sum (Ieee.double.read l)).map Ieee.double.write := rfl
  rw [hr, hq] at h
  obtain ⟨tot, htot⟩ : ∃ T : Nat, T = (Ieee.signed s m (e - min e j).toNat + Ieee.signed t n (j - min e j).toNat).natAbs := ⟨_, rfl⟩
  have e1 : Ieee.signed s m (e - min e j).toNat = ((m * 2 ^ (e - min e j).toNat : Nat) : Int) := by
    unfold Ieee.signed
    rw [hs', if_neg (by simp), Nat.shiftLeft_eq]
  have hp : 0 < m * 2 ^ (e - min e j).toNat := Nat.mul_pos (by omega) (pow_pos' _)
  have hge : m * 2 ^ (e - min e j).toNat ≤ tot := by rw [htot, e1]; omega
  have hadd : addF x l = Ieee.double.nearest false tot (min e j) := by
    unfold addF
    rw [h, htot]
    have h0 : ¬ (Ieee.signed s m (e - min e j).toNat + Ieee.signed t n (j - min e j).toNat = 0) := by omega
    have h1 : ¬ (Ieee.signed s m (e - min e j).toNat + Ieee.signed t n (j - min e j).toNat < 0) := by omega
    simp only [Ieee.Datum.sum, Option.map_some, Option.getD_some, Ieee.Format.write, if_neg h0, decide_eq_false h1]
  have hle : leP m e tot (min e j) := by
    refine (leP_base (min e j) (by omega) (by omega)).2 ?_
    rw [show (min e j - min e j).toNat = 0 from by omega, Nat.pow_zero, Nat.mul_one]
    exact hge
  have hbig : x % 9223372036854775808 ≤ addF x l := by rw [hadd]; exact near_ge (rung_of hr) hle (by omega)
  have hcap : addF x l ≤ 9218868437227405312 := by
    rw [hadd, near_is _ _ (by omega)]
    exact Nat.min_le_right _ _
  have hmod : addF x l % 9223372036854775808 = addF x l := Nat.mod_eq_of_lt (by omega)
  have hk2 := rung_of hk
  rw [hmod] at hk2
  exact rung_mono (rung_of hr) hk2 hbig
theorem same_lt {x : Nat} (hx : nn x) : (FloatKind.f64.format.order x x == some .lt) = false := by
  obtain ⟨s, m, e, hr, hs⟩ := hx
  exact not_lt_of hr hr hs hs (leP_of (Nat.le_refl _))
theorem same_eq {x : Nat} (hx : nn x) : FloatKind.f64.format.order x x = some .eq := by
  obtain ⟨s, m, e, hr, hs⟩ := hx
  rw [order_nn hr hr hs hs]
  simp
theorem zero_le {x : Nat} (hx : nn x) : gtB 0 x = false := by
  obtain ⟨s, m, e, hr, hs⟩ := hx
  unfold gtB
  rw [order_nn read_0 hr (fun h => by cases h) hs, Nat.zero_mul]
  generalize m * 2 ^ (e - min (-1074) e).toNat = z
  have h2 : compare ((0 : Nat) : Int) (z : Int) ≠ .gt := by
    rw [Ne, Int.compare_eq_gt]; omega
  generalize compare ((0 : Nat) : Int) (z : Int) = c at h2 ⊢
  cases c <;> first | rfl | exact absurd rfl h2

/-! ### Rounds behind one spending -/
theorem cnt_succ (ok : Nat → Bool) (f k : Nat) : cnt ok (f + 1) k = if ok k then cnt ok f (k + 1) else k := rfl
theorem cnt_shift (ok : Nat → Bool) : ∀ f k, cnt (fun i => ok (i + 1)) f k + 1 = cnt ok f (k + 1)
  | 0, k => rfl
  | f + 1, k => by
    rw [cnt_succ, cnt_succ]
    cases ok (k + 1)
    · rfl
    · exact cnt_shift ok f (k + 1)
theorem cnt_more (ok : Nat → Bool) : ∀ f k, cnt ok f k < k + f → cnt ok (f + 1) k = cnt ok f k
  | 0, k, h => by have : cnt ok 0 k = k := rfl; omega
  | f + 1, k, h => by
    rw [cnt_succ] at h ⊢
    rw [cnt_succ ok f k]
    cases hk : ok k
    · rfl
    · rw [hk, if_pos rfl] at h
      rw [if_pos rfl, if_pos rfl]
      exact cnt_more ok f (k + 1) (by omega)
theorem cnt_base (ok : Nat → Bool) : ∀ f k, k ≤ cnt ok f k
  | 0, k => Nat.le_refl _
  | f + 1, k => by
    rw [cnt_succ]
    cases ok k
    · exact Nat.le_refl _
    · have := cnt_base ok f (k + 1); rw [if_pos rfl]; omega
theorem rnd_pos {me md se sd le ld : Nat} : 0 < rnd me md se sd le ld ↔ (spB me md se sd le ld).1 = 0 := by
  obtain ⟨G, hG⟩ : ∃ G, 65536 = G + 1 := ⟨65535, rfl⟩
  unfold rnd
  rw [hG, cnt_succ]
  have h0 : okB me md se sd le ld 0 = ((spB me md se sd le ld).1 == 0) := rfl
  rw [h0]
  by_cases h : (spB me md se sd le ld).1 = 0
  · rw [h]
    have := cnt_base (okB me md se sd le ld) G (0 + 1)
    refine ⟨fun _ => rfl, fun _ => ?_⟩
    rw [if_pos (by rfl)]
    omega
  · have h2 : ((spB me md se sd le ld).1 == 0) = false := by simpa using h
    rw [h2]
    simp [h]
theorem stB_next (me md se sd le ld : Nat) : ∀ n, stB me md (spB me md se sd le ld).2.1 (spB me md se sd le ld).2.2 le ld n = stB me md se sd le ld (n + 1)
  | 0 => rfl
  | n + 1 => by
    have ih := stB_next me md se sd le ld n
    show (spB me md (stB me md (spB me md se sd le ld).2.1 (spB me md se sd le ld).2.2 le ld n).1 (stB me md (spB me md se sd le ld).2.1 (spB me md se sd le ld).2.2 le ld n).2 le ld).2 = (spB me md (stB me md se sd le ld (n + 1)).1 (stB me md se sd le ld (n + 1)).2 le ld).2
    rw [ih]
theorem okB_next (me md se sd le ld : Nat) : okB me md (spB me md se sd le ld).2.1 (spB me md se sd le ld).2.2 le ld = fun i => okB me md se sd le ld (i + 1) := by
  funext i
  unfold okB
  rw [stB_next]
theorem rnd_next {me md se sd le ld : Nat} (h : (spB me md se sd le ld).1 = 0) (hl : rnd me md se sd le ld < 65536) :
    rnd me md (spB me md se sd le ld).2.1 (spB me md se sd le ld).2.2 le ld + 1 = rnd me md se sd le ld := by
  obtain ⟨G, hG⟩ : ∃ G, 65536 = G + 1 := ⟨65535, rfl⟩
  unfold rnd at hl ⊢
  rw [okB_next]
  rw [cnt_shift]
  rw [hG] at hl ⊢
  have h0 : okB me md se sd le ld 0 = true := by
    have h1 : okB me md se sd le ld 0 = ((spB me md se sd le ld).1 == 0) := rfl
    rw [h1, h]; rfl
  have e1 : cnt (okB me md se sd le ld) (G + 1) 0 = cnt (okB me md se sd le ld) G (0 + 1) := by rw [cnt_succ, h0]; rfl
  rw [e1] at hl ⊢
  exact cnt_more _ _ _ (by omega)

/-! ### One spending -/
/-- Neither is above the most. -/
def Under (me md se sd : Nat) : Prop := gtB se me = false ∧ gtB sd md = false
theorem spB_under {me md se sd le ld : Nat} (h : Under me md se sd) : Under me md (spB me md se sd le ld).2.1 (spB me md se sd le ld).2.2 := by
  unfold spB
  cases hg : fin (fv le) && fin (fv ld)
  · exact h
  · cases hq : gtB (addF se le) me || gtB (addF sd ld) md
    · simp only [Bool.or_eq_false_iff] at hq
      exact hq
    · exact h
theorem spB_up {me md se sd le ld : Nat} (h1 : nn me) (h2 : nn md) (h3 : nn se) (h4 : nn sd) :
    (FloatKind.f64.format.order (spB me md se sd le ld).2.1 se == some .lt) = false ∧ (FloatKind.f64.format.order (spB me md se sd le ld).2.2 sd == some .lt) = false := by
  have hn := spB_nn (le := le) (ld := ld) h1 h2 h3 h4
  unfold spB at hn ⊢
  cases hg : fin (fv le) && fin (fv ld)
  · exact ⟨same_lt h3, same_lt h4⟩
  · rw [hg] at hn
    cases hq : gtB (addF se le) me || gtB (addF sd ld) md
    · rw [hq] at hn
      simp only [Bool.and_eq_true] at hg
      exact ⟨sum_ge h3 (fin_nn hg.1) hn.1, sum_ge h4 (fin_nn hg.2) hn.2⟩
    · exact ⟨same_lt h3, same_lt h4⟩
theorem spB_code {me md se sd le ld : Nat} : ((spB me md se sd le ld).1 = 0 ∧ (fin (fv le) && fin (fv ld)) = true) ∨
    (((spB me md se sd le ld).1 = 260 ∧ (fin (fv le) && fin (fv ld)) = false ∨ (spB me md se sd le ld).1 = 261 ∧ (fin (fv le) && fin (fv ld)) = true) ∧ (spB me md se sd le ld).2.1 = se ∧ (spB me md se sd le ld).2.2 = sd) := by
  unfold spB
  cases hg : fin (fv le) && fin (fv ld)
  · exact .inr ⟨.inl ⟨rfl, rfl⟩, rfl, rfl⟩
  · cases hq : gtB (addF se le) me || gtB (addF sd ld) md
    · exact .inl ⟨rfl, rfl⟩
    · exact .inr ⟨.inr ⟨rfl, rfl⟩, rfl, rfl⟩
end Go.Proofs.Ytcfbaildcocnhaa

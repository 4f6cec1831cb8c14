/-
  Plain law: the bitonic network sorts. No program in sight.
-/
import Derived.Test.YtpglocgfdonmaaaGm
set_option linter.unusedVariables false
namespace Go.Proofs.Ytpglocgfdonmaaa

/-! ### one row of noughts and ones, cleaned by halves -/
theorem half_true (h p q : Nat) (G : Nat → Bool) (hq : q ≤ 2 * h) (hG : ∀ i, i < 2 * h → G i = if p ≤ i ∧ i < q then true else false) :
    (∃ p q v, ∀ i, i < h → (G i && G (i + h)) = if p ≤ i ∧ i < q then v else !v) ∧ (∃ p q v, ∀ i, i < h → (G i || G (i + h)) = if p ≤ i ∧ i < q then v else !v) ∧
    ((∀ i, i < h → (G i && G (i + h)) = false) ∨ (∀ i, i < h → (G i || G (i + h)) = true)) := by
  have e1 : ∀ i, i < h → G i = decide (p ≤ i ∧ i < q) := fun i hi => by rw [hG i (by omega)]; by_cases hc : p ≤ i ∧ i < q <;> simp [hc]
  have e2 : ∀ i, i < h → G (i + h) = decide (p ≤ i + h ∧ i + h < q) := fun i hi => by rw [hG (i + h) (by omega)]; by_cases hc : p ≤ i + h ∧ i + h < q <;> simp [hc]
  have ea : ∀ i, i < h → (G i && G (i + h)) = decide (p ≤ i ∧ i + h < q) := fun i hi => by
    rw [e1 i hi, e2 i hi, ← Bool.decide_and]
    apply decide_eq_decide.2
    omega
  have eo : ∀ i, i < h → (G i || G (i + h)) = decide ((p ≤ i ∧ i < q) ∨ (p ≤ i + h ∧ i + h < q)) := fun i hi => by
    rw [e1 i hi, e2 i hi, ← Bool.decide_or]
  have ite_d : ∀ (c : Prop) [Decidable c], (if c then true else !true) = decide c := fun c _ => by by_cases hc : c <;> simp [hc]
  have ite_n : ∀ (c : Prop) [Decidable c], (if c then false else !false) = decide (¬ c) := fun c _ => by by_cases hc : c <;> simp [hc]
  refine ⟨⟨p, q - h, true, fun i hi => ?_⟩, ?_, ?_⟩
  · rw [ea i hi, ite_d]
    apply decide_eq_decide.2
    omega
  · by_cases c1 : q ≤ h
    · refine ⟨p, q, true, fun i hi => ?_⟩
      rw [eo i hi, ite_d]
      apply decide_eq_decide.2
      omega
    · by_cases c2 : h ≤ p
      · refine ⟨p - h, q - h, true, fun i hi => ?_⟩
        rw [eo i hi, ite_d]
        apply decide_eq_decide.2
        omega
      · refine ⟨q - h, p, false, fun i hi => ?_⟩
        rw [eo i hi, ite_n]
        apply decide_eq_decide.2
        omega
  · by_cases c : q ≤ p + h
    · refine .inl fun i hi => ?_
      rw [ea i hi, decide_eq_false_iff_not]
      omega
    · refine .inr fun i hi => ?_
      rw [eo i hi, decide_eq_true_iff]
      omega
theorem half_any (h p q : Nat) (v : Bool) (G : Nat → Bool) (hG : ∀ i, i < 2 * h → G i = if p ≤ i ∧ i < q then v else !v) :
    (∃ p q v, ∀ i, i < h → (G i && G (i + h)) = if p ≤ i ∧ i < q then v else !v) ∧ (∃ p q v, ∀ i, i < h → (G i || G (i + h)) = if p ≤ i ∧ i < q then v else !v) ∧
    ((∀ i, i < h → (G i && G (i + h)) = false) ∨ (∀ i, i < h → (G i || G (i + h)) = true)) := by
  cases v
  · have hH : ∀ i, i < 2 * h → (!G i) = if p ≤ i ∧ i < min q (2 * h) then true else false := fun i hi => by
      rw [hG i hi]
      by_cases hc : p ≤ i ∧ i < q
      · rw [if_pos hc, if_pos (by omega)]; rfl
      · rw [if_neg hc, if_neg (by omega)]; rfl
    obtain ⟨⟨p1, q1, v1, h1⟩, ⟨p2, q2, v2, h2⟩, h3⟩ := half_true h p (min q (2 * h)) (fun i => !G i) (Nat.min_le_right _ _) hH
    have n1 : ∀ i, (G i && G (i + h)) = !((!G i) || (!G (i + h))) := fun i => by cases G i <;> cases G (i + h) <;> rfl
    have n2 : ∀ i, (G i || G (i + h)) = !((!G i) && (!G (i + h))) := fun i => by cases G i <;> cases G (i + h) <;> rfl
    refine ⟨⟨p2, q2, !v2, fun i hi => ?_⟩, ⟨p1, q1, !v1, fun i hi => ?_⟩, ?_⟩
    · rw [n1, h2 i hi]; split <;> simp
    · rw [n2, h1 i hi]; split <;> simp
    · rcases h3 with h3 | h3
      · exact .inr fun i hi => by rw [n2, h3 i hi]; rfl
      · exact .inl fun i hi => by rw [n1, h3 i hi]; rfl
  · refine half_true h p (min q (2 * h)) G (Nat.min_le_right _ _) fun i hi => ?_
    rw [hG i hi]
    by_cases hc : p ≤ i ∧ i < q
    · rw [if_pos hc, if_pos (by omega)]
    · rw [if_neg hc, if_neg (by omega)]; rfl

/-! ### rows as functions -/
/-- Up, then down, or the other way round: block number c of width w. -/
def Uni (g : Nat → Bool) (w c : Nat) : Prop := ∃ p q v, ∀ i, i < w → g (c * w + i) = if p ≤ i ∧ i < q then v else !v
def ascR (j : Nat) (g : Nat → Bool) (i : Nat) : Bool := if i / j % 2 = 1 then g (i - j) || g i else g i && g (i + j)
theorem asc_lo {j c i : Nat} (hi : i < j) (g : Nat → Bool) : ascR j g (2 * c * j + i) = (g (2 * c * j + i) && g (2 * c * j + i + j)) := by
  unfold ascR
  have h : (2 * c * j + i) / j = 2 * c := by
    rw [Nat.mul_comm (2 * c) j, Nat.mul_add_div (by omega), Nat.div_eq_of_lt hi, Nat.add_zero]
  rw [h, if_neg (by omega)]
theorem asc_hi {j c i : Nat} (hi : i < j) (g : Nat → Bool) : ascR j g ((2 * c + 1) * j + i) = (g (2 * c * j + i) || g (2 * c * j + i + j)) := by
  unfold ascR
  have h : ((2 * c + 1) * j + i) / j = 2 * c + 1 := by
    rw [Nat.mul_comm (2 * c + 1) j, Nat.mul_add_div (by omega), Nat.div_eq_of_lt hi, Nat.add_zero]
  have e : (2 * c + 1) * j = 2 * c * j + j := by rw [Nat.add_mul, Nat.one_mul]
  rw [h, if_pos (by omega), e, show 2 * c * j + j + i - j = 2 * c * j + i from by omega, show 2 * c * j + j + i = 2 * c * j + i + j from by omega]
/-- A place by its block. -/
theorem place (x j : Nat) (hj : 0 < j) : ∃ c i, i < j ∧ x = c * j + i ∧ x / j = c := ⟨x / j, x % j, Nat.mod_lt _ hj, by rw [Nat.mul_comm]; exact (Nat.div_add_mod x j).symm, rfl⟩
theorem mul2 (c j : Nat) : c * (2 * j) = 2 * c * j := by rw [Nat.mul_comm 2 c, Nat.mul_assoc]
structure Ph (n m t : Nat) (g : Nat → Bool) : Prop where
  uni : ∀ c, (c + 1) * 2 ^ t ≤ n → Uni g (2 ^ t) c
  ord : ∀ x y, x < y → y < n → x / 2 ^ m = y / 2 ^ m → x / 2 ^ t ≠ y / 2 ^ t → g x = true → g y = true
theorem Ph.step {n m t : Nat} {g : Nat → Bool} (h : Ph n m (t + 1) g) (ht : t < m) (hn : ∃ q, n = q * 2 ^ (t + 1)) : Ph n m t (ascR (2 ^ t) g) := by
  have hj : 0 < 2 ^ t := Nat.two_pow_pos t
  have hs : 2 ^ (t + 1) = 2 * 2 ^ t := by rw [Nat.pow_succ, Nat.mul_comm]
  have hm : ∃ r, 2 ^ m = r * 2 ^ (t + 1) := ⟨2 ^ (m - (t + 1)), by rw [← Nat.pow_add]; congr 1; omega⟩
  obtain ⟨nq, hnq⟩ := hn
  have huni := h.uni
  have hord := h.ord
  rw [hs] at huni hord hnq hm
  suffices h2 : (∀ c, (c + 1) * 2 ^ t ≤ n → Uni (ascR (2 ^ t) g) (2 ^ t) c) ∧ (∀ x y, x < y → y < n → x / 2 ^ m = y / 2 ^ m → x / 2 ^ t ≠ y / 2 ^ t → ascR (2 ^ t) g x = true → ascR (2 ^ t) g y = true) from ⟨h2.1, h2.2⟩
  generalize 2 ^ t = j at *
  -- one block of twice the width
  have blk : ∀ c, (2 * c + 1) * j < n → ∃ p q v, ∀ i, i < 2 * j → g (2 * c * j + i) = if p ≤ i ∧ i < q then v else !v := fun c hc => by
    have hcn : (c + 1) * (2 * j) ≤ n := by
      have h1 : c < nq := by
        rcases Nat.lt_or_ge c nq with h2 | h2
        · exact h2
        · exfalso
          have h3 := Nat.mul_le_mul_right (2 * j) h2
          rw [← hnq] at h3
          have h4 : (2 * c + 1) * j = c * (2 * j) + j := by rw [Nat.add_mul, Nat.one_mul, Nat.mul_assoc, Nat.mul_comm 2 (c * j), Nat.mul_assoc, Nat.mul_comm j 2]
          omega
      rw [hnq]
      exact Nat.mul_le_mul_right _ h1
    obtain ⟨p, q, v, hv⟩ := huni c hcn
    refine ⟨p, q, v, fun i hi => ?_⟩
    rw [show 2 * c * j = c * (2 * j) from by rw [Nat.mul_comm 2 c, Nat.mul_assoc]]
    exact hv i hi
  refine ⟨fun c hc => ?_, fun x y hxy hy hb hne hx => ?_⟩
  · rcases Nat.mod_two_eq_zero_or_one c with hm2 | hm2
    · obtain ⟨d, rfl⟩ : ∃ d, c = 2 * d := ⟨c / 2, by omega⟩
      have hlt : (2 * d + 1) * j < n := by
        rcases Nat.lt_or_ge ((2 * d + 1) * j) n with h1 | h1
        · exact h1
        · exfalso
          have e : (2 * d + 1) * j = n := by omega
          have h2 : n = (2 * nq) * j := by rw [hnq, Nat.mul_comm 2 nq, Nat.mul_assoc]
          rw [h2] at e
          have := Nat.eq_of_mul_eq_mul_right hj e
          omega
      obtain ⟨p, q, v, hv⟩ := blk d hlt
      obtain ⟨⟨p1, q1, v1, h1⟩, -, -⟩ := half_any j p q v (fun i => g (2 * d * j + i)) hv
      refine ⟨p1, q1, v1, fun i hi => ?_⟩
      rw [asc_lo hi, ← h1 i hi, Nat.add_assoc]
    · obtain ⟨d, rfl⟩ : ∃ d, c = 2 * d + 1 := ⟨c / 2, by omega⟩
      have hlt : (2 * d + 1) * j < n := by
        have e : (2 * d + 1 + 1) * j = (2 * d + 1) * j + j := by rw [Nat.add_mul, Nat.one_mul]
        omega
      obtain ⟨p, q, v, hv⟩ := blk d hlt
      obtain ⟨-, ⟨p1, q1, v1, h1⟩, -⟩ := half_any j p q v (fun i => g (2 * d * j + i)) hv
      refine ⟨p1, q1, v1, fun i hi => ?_⟩
      rw [asc_hi hi, ← h1 i hi, Nat.add_assoc]
  · obtain ⟨cx, ix, hix, hxe, hxd⟩ := place x j hj
    obtain ⟨cy, iy, hiy, hye, hyd⟩ := place y j hj
    have hcxy : cx < cy := by
      rcases Nat.lt_trichotomy cx cy with h1 | h1 | h1
      · exact h1
      · exact absurd (hxd.trans (h1.trans hyd.symm)) hne
      · exfalso
        have h2 := Nat.mul_le_mul_right j h1
        have h3 : (cy + 1) * j = cy * j + j := by rw [Nat.add_mul, Nat.one_mul]
        rw [Nat.succ_eq_add_one] at h2
        omega
    by_cases hsame : cx / 2 = cy / 2
    · obtain ⟨d, rfl⟩ : ∃ d, cx = 2 * d := ⟨cx / 2, by omega⟩
      obtain rfl : cy = 2 * d + 1 := by omega
      have hlt : (2 * d + 1) * j < n := by omega
      obtain ⟨p, q, v, hv⟩ := blk d hlt
      obtain ⟨-, -, h3⟩ := half_any j p q v (fun i => g (2 * d * j + i)) hv
      rw [hxe, asc_lo hix] at hx
      rw [hye, asc_hi hiy]
      rcases h3 with h3 | h3
      · have := h3 ix hix
        rw [show 2 * d * j + (ix + j) = 2 * d * j + ix + j from by omega] at this
        rw [this] at hx; cases hx
      · have := h3 iy hiy
        rw [show 2 * d * j + (iy + j) = 2 * d * j + iy + j from by omega] at this
        exact this
    · -- places of unlike wide blocks
      have div2 : ∀ c i, i < 2 * j → (c * (2 * j) + i) / (2 * j) = c := fun c i hi => by rw [Nat.mul_comm c, Nat.mul_add_div (by omega), Nat.div_eq_of_lt hi, Nat.add_zero]
      obtain ⟨r, hr⟩ := hm
      have wide : ∀ c i, i < 2 * j → (c * (2 * j) + i) / 2 ^ m = c / r := fun c i hi => by
        rw [hr, Nat.mul_comm r, ← Nat.div_div_eq_div_mul, div2 c i hi]
      have half2 : ∀ c i, i < j → ∃ i', i' < 2 * j ∧ c * j + i = (c / 2) * (2 * j) + i' ∧ (i' = i ∧ c = 2 * (c / 2) ∨ i' = i + j ∧ c = 2 * (c / 2) + 1) := fun c i hi => by
        rcases Nat.mod_two_eq_zero_or_one c with h1 | h1
        · refine ⟨i, by omega, ?_, .inl ⟨rfl, by omega⟩⟩
          have e : c = (c / 2) * 2 := by omega
          calc c * j + i = (c / 2) * 2 * j + i := by rw [← e]
            _ = (c / 2) * (2 * j) + i := by rw [Nat.mul_assoc]
        · refine ⟨i + j, by omega, ?_, .inr ⟨rfl, by omega⟩⟩
          have e : c = (c / 2) * 2 + 1 := by omega
          calc c * j + i = ((c / 2) * 2 + 1) * j + i := by rw [← e]
            _ = (c / 2) * (2 * j) + (i + j) := by rw [Nat.add_mul, Nat.mul_assoc]; omega
      obtain ⟨ix', hix', hxe', hxc⟩ := half2 cx ix hix
      obtain ⟨iy', hiy', hye', hyc⟩ := half2 cy iy hiy
      have hbb : cx / 2 / r = cy / 2 / r := by
        rw [hxe, hye, hxe', hye', wide _ _ hix', wide _ _ hiy'] at hb
        exact hb
      have hny : (cy / 2) * (2 * j) + 2 * j ≤ n := by
        have h1 : cy / 2 < nq := by
          rcases Nat.lt_or_ge (cy / 2) nq with h2 | h2
          · exact h2
          · exfalso
            have h3 := Nat.mul_le_mul_right (2 * j) h2
            rw [← hnq] at h3
            omega
        have h2 := Nat.mul_le_mul_right (2 * j) h1
        rw [Nat.succ_eq_add_one, Nat.add_mul, Nat.one_mul, ← hnq] at h2
        exact h2
      have hlt2 : cx / 2 < cy / 2 := by omega
      have all : ∀ a b, a < 2 * j → b < 2 * j → g ((cx / 2) * (2 * j) + a) = true → g ((cy / 2) * (2 * j) + b) = true := fun a b ha hb' hg => by
        refine hord _ _ ?_ (by omega) (by rw [wide _ _ ha, wide _ _ hb']; exact hbb) (by rw [div2 _ _ ha, div2 _ _ hb']; omega) hg
        have h2 := Nat.mul_le_mul_right (2 * j) hlt2
        rw [Nat.succ_eq_add_one, Nat.add_mul, Nat.one_mul] at h2
        omega
      have any : ∃ a, a < 2 * j ∧ g ((cx / 2) * (2 * j) + a) = true := by
        rcases hxc with ⟨-, hc⟩ | ⟨-, hc⟩
        · rw [hxe, hc, asc_lo hix, Bool.and_eq_true] at hx
          refine ⟨ix, by omega, ?_⟩
          rw [mul2]
          exact hx.1
        · rw [hxe, hc, asc_hi hix, Bool.or_eq_true] at hx
          rw [mul2]
          rcases hx with hx | hx
          · exact ⟨ix, by omega, hx⟩
          · exact ⟨ix + j, by omega, by rw [← Nat.add_assoc]; exact hx⟩
      obtain ⟨a, ha, hga⟩ := any
      have e1 := all a iy ha (by omega) hga
      have e2 := all a (iy + j) ha (by omega) hga
      rw [mul2] at e1 e2
      rw [← Nat.add_assoc] at e2
      rcases hyc with ⟨-, hc⟩ | ⟨-, hc⟩
      · rw [hye, hc, asc_lo hiy, e1, e2]; rfl
      · rw [hye, hc, asc_hi hiy, e1]; rfl
/-- Rows of width 2^(t-1), .., 1. -/
def ascAll : Nat → (Nat → Bool) → Nat → Bool
  | 0, g => g
  | t + 1, g => ascAll t (ascR (2 ^ t) g)
theorem Ph.all {n m e : Nat} (hn : n = 2 ^ e) (hme : m ≤ e) : ∀ (t : Nat) {g : Nat → Bool}, t ≤ m → Ph n m t g → Ph n m 0 (ascAll t g)
  | 0, g, _, h => h
  | t + 1, g, ht, h => Ph.all hn hme t (by omega) (h.step (by omega) ⟨2 ^ (e - (t + 1)), by rw [hn, ← Nat.pow_add]; congr 1; omega⟩)
theorem mono_at (f : Nat → Bool) : ∀ w, (∀ x y, x < y → y < w → f x = true → f y = true) → ∃ a, a ≤ w ∧ ∀ i, i < w → f i = decide (a ≤ i)
  | 0, _ => ⟨0, Nat.le_refl _, fun i hi => by omega⟩
  | w + 1, h => by
    obtain ⟨a, ha, hf⟩ := mono_at f w (fun x y hxy hy => h x y hxy (by omega))
    by_cases haw : a < w
    · refine ⟨a, by omega, fun i hi => ?_⟩
      rcases Nat.lt_or_ge i w with h1 | h1
      · exact hf i h1
      · obtain rfl : i = w := by omega
        have h2 := hf a haw
        rw [decide_eq_true (Nat.le_refl a)] at h2
        rw [h a i haw (by omega) h2, decide_eq_true (by omega)]
    · obtain rfl : a = w := by omega
      cases hfa : f a
      · exact ⟨a + 1, Nat.le_refl _, fun i hi => by
          rcases Nat.lt_or_ge i a with h1 | h1
          · rw [hf i h1, decide_eq_false (by omega), decide_eq_false (by omega)]
          · obtain rfl : i = a := by omega
            rw [hfa, decide_eq_false (by omega)]⟩
      · exact ⟨a, by omega, fun i hi => by
          rcases Nat.lt_or_ge i a with h1 | h1
          · exact hf i h1
          · obtain rfl : i = a := by omega
            rw [hfa, decide_eq_true (Nat.le_refl _)]⟩
/-- Blocks of odd number are seen upside down. -/
def tw (m : Nat) (b : Nat → Bool) (i : Nat) : Bool := if i / 2 ^ m % 2 = 1 then !b i else b i
theorem Ph.next {e m : Nat} {b : Nat → Bool} (hm : m < e) (h : Ph (2 ^ e) m 0 (tw m b)) : Ph (2 ^ e) (m + 1) (m + 1) (tw (m + 1) b) := by
  refine ⟨fun c hc => ?_, fun x y _ _ hb hne => absurd hb hne⟩
  have hw : 0 < 2 ^ m := Nat.two_pow_pos m
  have hs : 2 ^ (m + 1) = 2 * 2 ^ m := by rw [Nat.pow_succ, Nat.mul_comm]
  have hord := h.ord
  unfold Uni tw
  unfold tw at hord
  rw [hs] at hc ⊢
  generalize 2 ^ e = n at *
  generalize 2 ^ m = w at *
  have hc' : c * (2 * w) + 2 * w ≤ n := by rw [Nat.add_mul, Nat.one_mul] at hc; exact hc
  have e2 : c * (2 * w) = 2 * c * w := by rw [Nat.mul_comm 2 c, Nat.mul_assoc]
  rw [e2] at hc' ⊢
  have d0 : ∀ i, i < w → (2 * c * w + i) / w = 2 * c := fun i hi => by rw [Nat.mul_comm (2 * c), Nat.mul_add_div (by omega), Nat.div_eq_of_lt hi, Nat.add_zero]
  have d1 : ∀ i, i < w → (2 * c * w + (w + i)) / w = 2 * c + 1 := fun i hi => by
    rw [show 2 * c * w + (w + i) = (2 * c + 1) * w + i from by rw [Nat.add_mul, Nat.one_mul]; omega, Nat.mul_comm (2 * c + 1), Nat.mul_add_div (by omega), Nat.div_eq_of_lt hi, Nat.add_zero]
  obtain ⟨a, ha, hfa⟩ := mono_at (fun i => b (2 * c * w + i)) w (fun x y hxy hy hx => by
    have := hord (2 * c * w + x) (2 * c * w + y) (by omega) (by omega) (by rw [d0 x (by omega), d0 y hy]) (by simp; omega)
    rw [d0 x (by omega), d0 y hy, if_neg (by omega), if_neg (by omega)] at this
    exact this hx)
  obtain ⟨a2, ha2, hfa2⟩ := mono_at (fun i => !b (2 * c * w + (w + i))) w (fun x y hxy hy hx => by
    have := hord (2 * c * w + (w + x)) (2 * c * w + (w + y)) (by omega) (by omega) (by rw [d1 x (by omega), d1 y hy]) (by simp; omega)
    rw [d1 x (by omega), d1 y hy, if_pos (by omega), if_pos (by omega)] at this
    exact this hx)
  have hb : ∀ i, i < 2 * w → b (2 * c * w + i) = if a ≤ i ∧ i < w + a2 then true else false := fun i hi => by
    rcases Nat.lt_or_ge i w with h1 | h1
    · have := hfa i h1
      rw [this]
      by_cases h2 : a ≤ i
      · rw [decide_eq_true h2, if_pos (by omega)]
      · rw [decide_eq_false h2, if_neg (by omega)]
    · have := hfa2 (i - w) (by omega)
      rw [show w + (i - w) = i from by omega] at this
      by_cases h2 : a2 ≤ i - w
      · rw [decide_eq_true h2] at this
        rw [if_neg (by omega)]
        simpa using this
      · rw [decide_eq_false h2] at this
        rw [if_pos (by omega)]
        simpa using this
  have dc : ∀ i, i < 2 * w → (2 * c * w + i) / (2 * w) = c := fun i hi => by rw [← e2, Nat.mul_comm c, Nat.mul_add_div (by omega), Nat.div_eq_of_lt hi, Nat.add_zero]
  by_cases hodd : c % 2 = 1
  · refine ⟨a, w + a2, false, fun i hi => ?_⟩
    rw [dc i hi, if_pos hodd, hb i hi]
    split <;> rfl
  · refine ⟨a, w + a2, true, fun i hi => ?_⟩
    rw [dc i hi, if_neg hodd, hb i hi]
    split <;> rfl
end Go.Proofs.Ytpglocgfdonmaaa

/-
  Plain law: the shift network brings the live ones to the front, in their order. No program in sight.
-/
import Derived.Test.YtpglocgfdonmaaaSp
set_option linter.unusedVariables false
namespace Go.Proofs.Ytpglocgfdonmaaa

/-- The live ones ahead of a place. -/
def liveF (L : List Bool) (i : Nat) : Nat := (L.take i).count true
theorem live_succ (L : List Bool) (i : Nat) (h : i < L.length) : liveF L (i + 1) = if L.getD i false = true then liveF L i + 1 else liveF L i := by
  unfold liveF
  rw [List.take_add_one, List.getElem?_eq_getElem h, List.count_append, List.getD_eq_getElem?_getD, List.getElem?_eq_getElem h]
  cases L[i] <;> simp
theorem live_dead (L : List Bool) : ∀ i, i ≤ L.length → liveF L i + deadF L i = i
  | 0, _ => by simp [liveF, deadF]
  | i + 1, h => by
    have := live_dead L i (by omega)
    rw [live_succ L i (by omega), dead_succ L i (by omega)]
    split <;> omega
theorem live_mono (L : List Bool) {p : Nat} : ∀ q, p ≤ q → q ≤ L.length → liveF L p ≤ liveF L q
  | 0, h, _ => by rw [show p = 0 from by omega]; omega
  | q + 1, h, hq => by
    rcases Nat.lt_or_ge p (q + 1) with h1 | h1
    · have := live_mono L (p := p) q (by omega) (by omega)
      rw [live_succ L q (by omega)]
      split <;> omega
    · rw [show p = q + 1 from by omega]; omega
theorem dead_mono (L : List Bool) {p : Nat} : ∀ q, p ≤ q → q ≤ L.length → deadF L p ≤ deadF L q
  | 0, h, _ => by rw [show p = 0 from by omega]; omega
  | q + 1, h, hq => by
    rcases Nat.lt_or_ge p (q + 1) with h1 | h1
    · have := dead_mono L (p := p) q (by omega) (by omega)
      rw [dead_succ L q (by omega)]
      split <;> omega
    · rw [show p = q + 1 from by omega]; omega
theorem live_lt (L : List Bool) {p q : Nat} (hp : L.getD p false = true) (h : p < q) (hq : q ≤ L.length) : liveF L p < liveF L q := by
  have := live_mono L (p := p + 1) q (by omega) hq
  rw [live_succ L p (by omega), if_pos hp] at this
  omega
/-- Where the live one of place p stands ahead of the row of width 2^k. -/
def posF (L : List Bool) (k p : Nat) : Nat := liveF L p + 2 ^ k * (deadF L p / 2 ^ k)
theorem pos_zero (L : List Bool) (p : Nat) (h : p ≤ L.length) : posF L 0 p = p := by
  have := live_dead L p h
  unfold posF
  rw [Nat.pow_zero, Nat.one_mul, Nat.div_one]
  exact this
theorem pos_lt (L : List Bool) (k : Nat) {p q : Nat} (hp : L.getD p false = true) (h : p < q) (hq : q ≤ L.length) : posF L k p < posF L k q := by
  have h1 := live_lt L hp h hq
  have h2 := Nat.mul_le_mul_left (2 ^ k) (Nat.div_le_div_right (c := 2 ^ k) (dead_mono L q (by omega) hq : deadF L p ≤ deadF L q))
  unfold posF
  omega
theorem pos_inj (L : List Bool) (k : Nat) {p q : Nat} (hp : L.getD p false = true) (hq : L.getD q false = true) (h1 : p < L.length) (h2 : q < L.length) (h : posF L k p = posF L k q) : p = q := by
  rcases Nat.lt_trichotomy p q with h3 | h3 | h3
  · have := pos_lt L k hp h3 (by omega); omega
  · exact h3
  · have := pos_lt L k hq h3 (by omega); omega
theorem pos_next (L : List Bool) (k p : Nat) : posF L k p = posF L (k + 1) p + 2 ^ k * (deadF L p / 2 ^ k % 2) := by
  unfold posF
  have h1 : deadF L p / 2 ^ (k + 1) = deadF L p / 2 ^ k / 2 := by rw [Nat.pow_succ, Nat.div_div_eq_div_mul]
  have h2 := Nat.div_add_mod (deadF L p / 2 ^ k) 2
  rw [h1, Nat.pow_succ, Nat.mul_assoc]
  have h3 : 2 ^ k * (deadF L p / 2 ^ k) = 2 ^ k * (2 * (deadF L p / 2 ^ k / 2)) + 2 ^ k * (deadF L p / 2 ^ k % 2) := by
    rw [← Nat.mul_add, h2]
  omega
theorem pos_le (L : List Bool) (k p : Nat) (h : p ≤ L.length) : posF L k p ≤ p := by
  have h1 := live_dead L p h
  have h2 : 2 ^ k * (deadF L p / 2 ^ k) ≤ deadF L p := Nat.mul_div_le _ _
  unfold posF
  omega
theorem pos_small (L : List Bool) (k p : Nat) (h : posF L k p < 2 ^ k) : posF L (k + 1) p = posF L k p := by
  have h0 : deadF L p / 2 ^ k = 0 := by
    rcases Nat.eq_zero_or_pos (deadF L p / 2 ^ k) with h1 | h1
    · exact h1
    · have := Nat.mul_le_mul_left (2 ^ k) h1
      unfold posF at h
      omega
  have := pos_next L k p
  rw [h0] at this
  simpa using this.symm
theorem pos_end (L : List Bool) (k p : Nat) (h : p < L.length) (hk : L.length ≤ 2 ^ k) : posF L k p = liveF L p := by
  have h1 := dead_le L p
  unfold posF
  rw [Nat.div_eq_of_lt (by omega)]
  rfl
def mixF (L : List Bool) (k i p : Nat) : Nat := if posF L k p < i then posF L (k + 1) p else posF L k p
/-- One place for each. -/
def Inj (n : Nat) (P : List Nat) : Prop := ∀ i j, i < n → j < n → P.getD i 0 = P.getD j 0 → i = j
theorem Inj.range (n : Nat) : Inj n (List.range n) := fun i j hi hj h => by
  simpa [hi, hj] using h
theorem swap_at {P : List Nat} {a b : Nat} (ha : a < P.length) (hb : b < P.length) (i : Nat) : (swapL 0 P a b).getD i 0 = if i = a then P.getD b 0 else if i = b then P.getD a 0 else P.getD i 0 := by
  unfold swapL
  rw [getD_set, getD_set, List.length_set]
  by_cases h1 : i = a
  · subst h1; rw [if_pos ⟨rfl, ha⟩, if_pos rfl]
  · rw [if_neg (fun h => h1 h.1.symm), if_neg h1]
    by_cases h2 : i = b
    · subst h2; rw [if_pos ⟨rfl, hb⟩, if_pos rfl]
    · rw [if_neg (fun h => h2 h.1.symm), if_neg h2]
theorem Inj.swap {n : Nat} {P : List Nat} (h : Inj n P) (hl : P.length = n) {a b : Nat} (ha : a < n) (hb : b < n) : Inj n (swapL 0 P a b) := fun i j hi hj he => by
  rw [swap_at (by omega) (by omega), swap_at (by omega) (by omega)] at he
  have h1 := h i j hi hj
  have h2 := h b j hb hj
  have h3 := h a j ha hj
  have h4 := h i b hi hb
  have h5 := h i a hi ha
  have h6 := h a b ha hb
  have h7 := h b a hb ha
  by_cases c1 : i = a <;> by_cases c2 : j = a <;> by_cases c3 : i = b <;> by_cases c4 : j = b <;> by_cases c5 : b = a <;> simp [c1, c2, c3, c4, c5] at he h1 h2 h3 h4 h5 h6 h7 ⊢ <;> first | omega | (have := h1 he; omega) | (have := h2 he; omega) | (have := h3 he; omega) | (have := h4 he; omega) | (have := h5 he; omega) | (have := h6 he; omega) | (have := h7 he; omega) | skip
/-- What is known within the row of width 2^k, ahead of place i. -/
structure Gat (L : List Bool) (k i : Nat) (P : List Nat) : Prop where
  pl : Pl L.length P
  inj : Inj L.length P
  at_ : ∀ p, p < L.length → L.getD p false = true → P.getD (mixF L k i p) 0 = p
theorem Gat.step {L : List Bool} {k i : Nat} {P : List Nat} (h : Gat L k i P) (hi : i < L.length) (hd : 2 ^ k ≤ i) : Gat L k (i + 1) (stepH L P ((i : Int), (i : Int) - (2 ^ k : Nat))) := by
  have hp : 0 < 2 ^ k := Nat.two_pow_pos k
  obtain ⟨d, hdd⟩ : ∃ d, d = 2 ^ k := ⟨_, rfl⟩
  have hlen := h.pl.1
  have hx := h.pl.2 i hi
  have hst : stepH L P ((i : Int), (i : Int) - (2 ^ k : Nat)) = if goF L (P.getD i 0) d = true then swapL 0 P i (i - d) else P := by
    unfold stepH
    rw [← hdd, Int.toNat_natCast, show ((i : Int) - ((i : Int) - (d : Int))).toNat = d from by omega, show ((i : Int) - (d : Int)).toNat = i - d from by omega]
  rw [hst]
  have hle : ∀ y, y < L.length → posF L (k + 1) y ≤ posF L k y := fun y _ => by rw [pos_next L k y]; omega
  generalize hxe : P.getD i 0 = x at hx
  -- where the one at place i stands, if it lives
  have hpos : L.getD x false = true → posF L k x = i := fun hl => by
    have h1 := h.at_ x hx hl
    have hm : mixF L k i x < L.length := by
      have h2 := pos_le L k x (by omega)
      have h3 := hle x hx
      unfold mixF
      split <;> omega
    have h4 := h.inj _ _ hm hi (h1.trans hxe.symm)
    unfold mixF at h4
    split at h4
    · have := hle x hx; omega
    · exact h4
  have hmix : ∀ y, y < L.length → posF L k y ≠ i → mixF L k (i + 1) y = mixF L k i y := fun y _ hne => by
    unfold mixF
    by_cases h1 : posF L k y < i
    · rw [if_pos h1, if_pos (by omega)]
    · rw [if_neg h1, if_neg (by omega)]
  have hnx := pos_next L k x
  rw [← hdd] at hnx hd hp
  split
  · rename_i hgo
    unfold goF at hgo
    rw [Bool.and_eq_true, beq_iff_eq] at hgo
    obtain ⟨hl, hbit⟩ := hgo
    have hpx := hpos hl
    rw [hbit, hpx] at hnx
    refine ⟨h.pl.swap hi (by omega), h.inj.swap hlen hi (by omega), fun y hy hly => ?_⟩
    rw [swap_at (by omega) (by omega)]
    by_cases hyx : y = x
    · subst hyx
      have hm : mixF L k (i + 1) y = i - d := by unfold mixF; rw [if_pos (by omega)]; omega
      rw [hm, if_neg (by omega), if_pos rfl]
      exact hxe
    · have hne : posF L k y ≠ i := fun e => hyx (pos_inj L k hly hl hy hx (by omega))
      have h1 := h.at_ y hy hly
      rw [hmix y hy hne]
      have n1 : mixF L k i y ≠ i := fun e => by rw [e, hxe] at h1; exact hyx h1.symm
      have n2 : mixF L k i y ≠ i - d := fun e => by
        unfold mixF at e
        split at e
        · exact hyx (pos_inj L (k + 1) hly hl hy hx (by omega))
        · omega
      rw [if_neg n1, if_neg n2]
      exact h1
  · rename_i hgo
    refine ⟨h.pl, h.inj, fun y hy hly => ?_⟩
    by_cases hne : posF L k y = i
    · have h1 := h.at_ y hy hly
      have hm : mixF L k i y = i := by unfold mixF; rw [if_neg (by omega)]; exact hne
      rw [hm, hxe] at h1
      subst h1
      have hb : ¬ deadF L x / d % 2 = 1 := fun e => hgo (by unfold goF; rw [hly, e]; rfl)
      have hb0 : deadF L x / d % 2 = 0 := by omega
      have h2 := pos_next L k x
      rw [← hdd, hb0] at h2
      have hm2 : mixF L k (i + 1) x = i := by unfold mixF; rw [if_pos (by omega)]; omega
      rw [hm2]
      exact hxe
    · rw [hmix y hy hne]
      exact h.at_ y hy hly
theorem Gat.row {L : List Bool} {k : Nat} : ∀ (f i : Nat) {P : List Nat}, f = L.length - i → Gat L k i P → 2 ^ k ≤ i → i ≤ L.length → Gat L k L.length (shG L P (rowF L.length (2 ^ k) i))
  | 0, i, P, hf, h, hd, hi => by
    rw [rowF_nil (by omega)]
    rw [show i = L.length from by omega] at h
    exact h
  | f + 1, i, P, hf, h, hd, hi => by
    rw [rowF_cons (by omega)]
    exact Gat.row f (i + 1) (by omega) (h.step (by omega) hd) (by omega) (by omega)
/-- Ahead of the row of width 2^k. -/
structure Gan (L : List Bool) (k : Nat) (P : List Nat) : Prop where
  pl : Pl L.length P
  inj : Inj L.length P
  at_ : ∀ p, p < L.length → L.getD p false = true → P.getD (posF L k p) 0 = p
theorem Gan.row {L : List Bool} {k : Nat} {P : List Nat} (h : Gan L k P) (hk : 2 ^ k ≤ L.length) : Gan L (k + 1) (shG L P (rowF L.length (2 ^ k) (2 ^ k))) := by
  have h1 : Gat L k (2 ^ k) P := ⟨h.pl, h.inj, fun p hp hl => by
    unfold mixF
    split
    · rename_i hs
      rw [pos_small L k p hs]
      exact h.at_ p hp hl
    · exact h.at_ p hp hl⟩
  have h2 := h1.row _ _ rfl (Nat.le_refl _) hk
  refine ⟨h2.pl, h2.inj, fun p hp hl => ?_⟩
  have h3 := h2.at_ p hp hl
  unfold mixF at h3
  rw [if_pos (by have := pos_le L k p (by omega); omega)] at h3
  exact h3
theorem shG_append (L : List Bool) (P : List Nat) (as bs : List (Int × Int)) : shG L P (as ++ bs) = shG L (shG L P as) bs := by simp [shG]
theorem Gan.all {L : List Bool} (hn : L.length ≤ 65536) : ∀ (f k : Nat) {P : List Nat}, f + k = 17 → Gan L k P → ∃ k', L.length ≤ 2 ^ k' ∧ Gan L k' (shG L P (hopF L.length f (2 ^ k)))
  | 0, k, P, hf, h => ⟨k, by rw [show k = 17 from by omega]; omega, h⟩
  | f + 1, k, P, hf, h => by
    simp only [hopF]
    split
    · rename_i hk
      rw [shG_append, show 2 * 2 ^ k = 2 ^ (k + 1) from by rw [Nat.pow_succ, Nat.mul_comm]]
      exact Gan.all hn f (k + 1) (by omega) (h.row (by omega))
    · exact ⟨k, by omega, h⟩
theorem shF_gan (L : List Bool) (hn : L.length ≤ 65536) : Inj L.length (shF L) ∧ ∀ p, p < L.length → L.getD p false = true → (shF L).getD (liveF L p) 0 = p := by
  have h0 : Gan L 0 (List.range L.length) := ⟨Pl.range _, Inj.range _, fun p hp hl => by rw [pos_zero L p (by omega)]; simp [hp]⟩
  obtain ⟨k, hk, h⟩ := Gan.all hn 17 0 rfl h0
  have he : shF L = shG L (List.range L.length) (hopF L.length 17 (2 ^ 0)) := by
    unfold shF
    rw [hops_small (by omega), Int.toNat_natCast]
  rw [he]
  refine ⟨h.inj, fun p hp hl => ?_⟩
  have := h.at_ p hp hl
  rwa [pos_end L k p hp hk] at this
theorem live_onto (L : List Bool) (i : Nat) : ∀ q, q ≤ L.length → i < liveF L q → ∃ p, p < q ∧ L.getD p false = true ∧ liveF L p = i
  | 0, _, h => by simp [liveF] at h
  | q + 1, hq, h => by
    rw [live_succ L q (by omega)] at h
    by_cases hl : L.getD q false = true
    · rw [if_pos hl] at h
      by_cases h1 : i < liveF L q
      · obtain ⟨p, a, b, c⟩ := live_onto L i q (by omega) h1
        exact ⟨p, by omega, b, c⟩
      · exact ⟨q, by omega, hl, by omega⟩
    · rw [if_neg hl] at h
      obtain ⟨p, a, b, c⟩ := live_onto L i q (by omega) h
      exact ⟨p, by omega, b, c⟩
/-- The live ones stand in front. -/
theorem gather_live (L : List Bool) (hn : L.length ≤ 65536) (i : Nat) (hi : i < L.length) : L.getD ((shF L).getD i 0) false = decide (i < liveF L L.length) := by
  obtain ⟨hinj, hat⟩ := shF_gan L hn
  by_cases h : i < liveF L L.length
  · obtain ⟨p, hp, hl, he⟩ := live_onto L i L.length (Nat.le_refl _) h
    have := hat p hp hl
    rw [he] at this
    rw [this, hl, decide_eq_true h]
  · rw [decide_eq_false h]
    cases hl : L.getD ((shF L).getD i 0) false
    · rfl
    · exfalso
      have hq := (Pl.shF L).2 i hi
      have h1 := hat _ hq hl
      have h2 := live_lt L hl hq (Nat.le_refl _)
      have h3 := live_dead L L.length (Nat.le_refl _)
      have := hinj _ _ (by omega) hi h1
      omega
/-- In their order. -/
theorem gather_order (L : List Bool) (hn : L.length ≤ 65536) (i : Nat) (hi : i + 1 < liveF L L.length) : (shF L).getD i 0 < (shF L).getD (i + 1) 0 := by
  obtain ⟨hinj, hat⟩ := shF_gan L hn
  obtain ⟨p, hp, hl, he⟩ := live_onto L i L.length (Nat.le_refl _) (by omega)
  obtain ⟨q, hq, hl2, he2⟩ := live_onto L (i + 1) L.length (Nat.le_refl _) hi
  have h1 := hat p hp hl
  have h2 := hat q hq hl2
  rw [he] at h1
  rw [he2] at h2
  rw [h1, h2]
  rcases Nat.lt_or_ge p q with h | h
  · exact h
  · have := live_mono L (p := q) p h (by omega); omega
end Go.Proofs.Ytpglocgfdonmaaa

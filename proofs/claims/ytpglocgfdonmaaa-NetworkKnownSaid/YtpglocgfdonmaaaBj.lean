/-
  Plain law: what the gates sort rises, in any weak order. No program in sight.
-/
import Derived.Test.YtpglocgfdonmaaaBi
import Derived.Test.YtpglocgfdonmaaaSq
set_option linter.unusedVariables false
namespace Go.Proofs.Ytpglocgfdonmaaa

def ltB (x y : Bool) : Bool := !x && y
def fn (l : List Bool) (i : Nat) : Bool := l.getD i false
/-- A row of gates, as a function: k tells which way. -/
def rowR (k j : Nat) (b : Nat → Bool) (i : Nat) : Bool :=
  if i / j % 2 = 1 then (if i / k % 2 = 1 then b (i - j) && b i else b (i - j) || b i)
  else (if i / k % 2 = 1 then b i || b (i + j) else b i && b (i + j))
theorem stepB_at {l : List Bool} {a b : Nat} (ha : a < l.length) (hb : b < l.length) (hab : a ≠ b) (p : Nat) :
    fn (stepS false ltB l ((a : Int), (b : Int))) p = if p = a then fn l a && fn l b else if p = b then fn l a || fn l b else fn l p := by
  unfold stepS fn
  rw [Int.toNat_natCast, Int.toNat_natCast]
  unfold ltB
  generalize hx : l.getD a false = x
  generalize hy : l.getD b false = y
  by_cases hc : (!y && x) = true
  · rw [if_pos hc]
    unfold swapL
    rw [getD_set, getD_set, List.length_set, hx, hy]
    rw [Bool.and_eq_true, Bool.not_eq_true'] at hc
    obtain ⟨hc1, hc2⟩ := hc
    subst hc1 hc2
    by_cases h1 : p = a
    · subst h1; rw [if_pos ⟨rfl, ha⟩, if_pos rfl]; rfl
    · rw [if_neg (fun h => h1 h.1.symm), if_neg h1]
      by_cases h2 : p = b
      · subst h2; rw [if_pos ⟨rfl, hb⟩, if_pos rfl]; rfl
      · rw [if_neg (fun h => h2 h.1.symm), if_neg h2]
  · rw [if_neg hc]
    have e1 : (x && y) = x := by cases x <;> cases y <;> simp at hc ⊢
    have e2 : (x || y) = y := by cases x <;> cases y <;> simp at hc ⊢
    rw [e1, e2]
    by_cases h1 : p = a
    · subst h1; rw [if_pos rfl, hx]
    · rw [if_neg h1]
      by_cases h2 : p = b
      · subst h2; rw [if_pos rfl, hy]
      · rw [if_neg h2]
/-- What is known ahead of place i. -/
def Mid (k j n i : Nat) (l0 l : List Bool) : Prop := l.length = n ∧ ∀ p, p < n → fn l p = if (if p / j % 2 = 1 then p - j else p) < i then rowR k j (fn l0) p else fn l0 p
theorem low_bit {p j : Nat} (hj : 0 < j) (h : p / j % 2 = 1) : (p - j) / j % 2 = 0 ∧ j ≤ p := by
  have h1 : j ≤ p := by
    rcases Nat.lt_or_ge p j with h2 | h2
    · rw [Nat.div_eq_of_lt h2] at h; simp at h
    · exact h2
  obtain ⟨q, rfl⟩ : ∃ q, p = q + j := ⟨p - j, by omega⟩
  rw [Nat.add_div_right _ hj] at h
  rw [Nat.add_sub_cancel]
  exact ⟨by omega, h1⟩
theorem up_bit {i j : Nat} (hj : 0 < j) (h : ¬ i / j % 2 = 1) : (i + j) / j % 2 = 1 := by
  rw [Nat.add_div_right _ hj]; omega
theorem same_k {i t m : Nat} (ht : t < m) (h : ¬ i / 2 ^ t % 2 = 1) : (i + 2 ^ t) / 2 ^ m = i / 2 ^ m := by
  have hj : 0 < 2 ^ t := Nat.two_pow_pos t
  have e : 2 ^ m = 2 ^ t * 2 ^ (m - t) := by rw [← Nat.pow_add]; congr 1; omega
  rw [e, ← Nat.div_div_eq_div_mul, ← Nat.div_div_eq_div_mul, Nat.add_div_right _ hj]
  have e2 : 2 ^ (m - t) = 2 * 2 ^ (m - t - 1) := by rw [← Nat.pow_succ']; congr 1; omega
  rw [e2, ← Nat.div_div_eq_div_mul, ← Nat.div_div_eq_div_mul]
  congr 1
  omega
theorem Mid.step {m t e i : Nat} {l0 l : List Bool} (ht : t < m) (hme : m ≤ e) (h : Mid (2 ^ m) (2 ^ t) (2 ^ e) i l0 l) (hi : i < 2 ^ e) :
    (i / 2 ^ t % 2 = 1 → Mid (2 ^ m) (2 ^ t) (2 ^ e) (i + 1) l0 l) ∧ (¬ i / 2 ^ t % 2 = 1 → Mid (2 ^ m) (2 ^ t) (2 ^ e) (i + 1) l0 (stepS false ltB l (gate (2 ^ m) (2 ^ t) i))) := by
  have hj : 0 < 2 ^ t := Nat.two_pow_pos t
  obtain ⟨hlen, hat⟩ := h
  refine ⟨fun hb => ⟨hlen, fun p hp => ?_⟩, fun hb => ?_⟩
  · rw [hat p hp]
    by_cases hpb : p / 2 ^ t % 2 = 1
    · have := low_bit hj hpb
      rw [if_pos hpb]
      have hne : p - 2 ^ t ≠ i := fun e => by rw [e] at this; omega
      by_cases h1 : p - 2 ^ t < i
      · rw [if_pos h1, if_pos (by omega)]
      · rw [if_neg h1, if_neg (by omega)]
    · rw [if_neg hpb]
      have hne : p ≠ i := fun e => hpb (e ▸ hb)
      by_cases h1 : p < i
      · rw [if_pos h1, if_pos (by omega)]
      · rw [if_neg h1, if_neg (by omega)]
  · have hpl := partner_lt (b := t) (e := e) (by omega) hi hb
    have hup := up_bit hj hb
    have hk := same_k ht hb
    have hlo : fn l i = fn l0 i := by rw [hat i hi, if_neg hb, if_neg (by omega)]
    have hhi : fn l (i + 2 ^ t) = fn l0 (i + 2 ^ t) := by rw [hat _ hpl, if_pos hup, Nat.add_sub_cancel, if_neg (by omega)]
    refine ⟨by rw [step_len]; exact hlen, fun p hp => ?_⟩
    have hother : p ≠ i → p ≠ i + 2 ^ t → fn l p = if (if p / 2 ^ t % 2 = 1 then p - 2 ^ t else p) < i + 1 then rowR (2 ^ m) (2 ^ t) (fn l0) p else fn l0 p := fun n1 n2 => by
      rw [hat p hp]
      by_cases hpb : p / 2 ^ t % 2 = 1
      · have := low_bit hj hpb
        rw [if_pos hpb]
        by_cases h1 : p - 2 ^ t < i
        · rw [if_pos h1, if_pos (by omega)]
        · rw [if_neg h1, if_neg (by omega)]
      · rw [if_neg hpb]
        by_cases h1 : p < i
        · rw [if_pos h1, if_pos (by omega)]
        · rw [if_neg h1, if_neg (by omega)]
    have ri : rowR (2 ^ m) (2 ^ t) (fn l0) i = if i / 2 ^ m % 2 = 1 then fn l0 i || fn l0 (i + 2 ^ t) else fn l0 i && fn l0 (i + 2 ^ t) := by unfold rowR; rw [if_neg hb]
    have rj : rowR (2 ^ m) (2 ^ t) (fn l0) (i + 2 ^ t) = if i / 2 ^ m % 2 = 1 then fn l0 i && fn l0 (i + 2 ^ t) else fn l0 i || fn l0 (i + 2 ^ t) := by unfold rowR; rw [if_pos hup, hk, Nat.add_sub_cancel]
    have q1 : (if i / 2 ^ t % 2 = 1 then i - 2 ^ t else i) < i + 1 := by rw [if_neg hb]; omega
    have q2 : (if (i + 2 ^ t) / 2 ^ t % 2 = 1 then i + 2 ^ t - 2 ^ t else i + 2 ^ t) < i + 1 := by rw [if_pos hup]; omega
    unfold gate
    by_cases hd : i / 2 ^ m % 2 = 1
    · rw [if_pos hd, stepB_at (by omega) (by omega) (by omega)]
      by_cases h1 : p = i + 2 ^ t
      · subst h1
        rw [if_pos rfl, if_pos q2, rj, if_pos hd, hlo, hhi, Bool.and_comm]
      · rw [if_neg h1]
        by_cases h2 : p = i
        · subst h2
          rw [if_pos rfl, if_pos q1, ri, if_pos hd, hlo, hhi, Bool.or_comm]
        · rw [if_neg h2]
          exact hother h2 h1
    · rw [if_neg hd, stepB_at (by omega) (by omega) (by omega)]
      by_cases h2 : p = i
      · subst h2
        rw [if_pos rfl, if_pos q1, ri, if_neg hd, hlo, hhi]
      · rw [if_neg h2]
        by_cases h1 : p = i + 2 ^ t
        · subst h1
          rw [if_pos rfl, if_pos q2, rj, if_neg hd, hlo, hhi]
        · rw [if_neg h1]
          exact hother h2 h1
theorem sortG_cons {α : Type} (d : α) (lt : α → α → Bool) (l : List α) (g : Int × Int) (gs : List (Int × Int)) : sortG d lt l (g :: gs) = sortG d lt (stepS d lt l g) gs := rfl
theorem sortG_app {α : Type} (d : α) (lt : α → α → Bool) (l : List α) (as bs : List (Int × Int)) : sortG d lt l (as ++ bs) = sortG d lt (sortG d lt l as) bs := by simp [sortG]
theorem Mid.row {m t e : Nat} {l0 : List Bool} (ht : t < m) (hme : m ≤ e) : ∀ (f i : Nat) {l : List Bool}, f + i = 2 ^ e → Mid (2 ^ m) (2 ^ t) (2 ^ e) i l0 l → Mid (2 ^ m) (2 ^ t) (2 ^ e) (2 ^ e) l0 (sortG false ltB l (rowG (2 ^ m) (2 ^ t) f i))
  | 0, i, l, hf, h => by
    simp only [rowG]
    rw [show i = 2 ^ e from by omega] at h
    exact h
  | f + 1, i, l, hf, h => by
    have hs := h.step ht hme (by omega)
    simp only [rowG]
    by_cases hb : i / 2 ^ t % 2 = 1
    · rw [if_pos hb]
      exact Mid.row ht hme f (i + 1) (by omega) (hs.1 hb)
    · rw [if_neg hb, sortG_cons]
      exact Mid.row ht hme f (i + 1) (by omega) (hs.2 hb)
theorem row_fn {m t e : Nat} (ht : t < m) (hme : m ≤ e) {l : List Bool} (hl : l.length = 2 ^ e) : (sortG false ltB l (rowG (2 ^ m) (2 ^ t) (2 ^ e) 0)).length = 2 ^ e ∧ ∀ p, p < 2 ^ e → fn (sortG false ltB l (rowG (2 ^ m) (2 ^ t) (2 ^ e) 0)) p = rowR (2 ^ m) (2 ^ t) (fn l) p := by
  have h0 : Mid (2 ^ m) (2 ^ t) (2 ^ e) 0 l l := ⟨hl, fun p hp => by rw [if_neg (by omega)]⟩
  obtain ⟨h1, h2⟩ := h0.row ht hme (2 ^ e) 0 (by omega)
  refine ⟨h1, fun p hp => ?_⟩
  rw [h2 p hp, if_pos]
  split
  · exact Nat.lt_of_le_of_lt (Nat.sub_le _ _) hp
  · exact hp
/-- A row, seen upside down where it must be, goes up everywhere. -/
theorem tw_row {m t : Nat} (ht : t < m) (b : Nat → Bool) (i : Nat) : tw m (rowR (2 ^ m) (2 ^ t) b) i = ascR (2 ^ t) (tw m b) i := by
  have hj : 0 < 2 ^ t := Nat.two_pow_pos t
  unfold ascR
  by_cases hb : i / 2 ^ t % 2 = 1
  · obtain ⟨h1, h2⟩ := low_bit hj hb
    have hk : (i - 2 ^ t) / 2 ^ m = i / 2 ^ m := by
      have := same_k ht (i := i - 2 ^ t) (by omega)
      rw [Nat.sub_add_cancel h2] at this
      exact this.symm
    rw [if_pos hb]
    unfold tw rowR
    rw [if_pos hb, hk]
    by_cases hd : i / 2 ^ m % 2 = 1
    · simp only [if_pos hd]
      cases b (i - 2 ^ t) <;> cases b i <;> rfl
    · simp only [if_neg hd]
  · have hk := same_k ht hb
    rw [if_neg hb]
    unfold tw rowR
    rw [if_neg hb, hk]
    by_cases hd : i / 2 ^ m % 2 = 1
    · simp only [if_pos hd]
      cases b (i + 2 ^ t) <;> cases b i <;> rfl
    · simp only [if_neg hd]
theorem Ph.congr {n m t : Nat} {g g' : Nat → Bool} (h : Ph n m t g) (he : ∀ p, p < n → g' p = g p) : Ph n m t g' := by
  refine ⟨fun c hc => ?_, fun x y hxy hy hb hne hx => ?_⟩
  · obtain ⟨p, q, v, hv⟩ := h.uni c hc
    refine ⟨p, q, v, fun i hi => ?_⟩
    rw [he _ (by rw [Nat.add_mul, Nat.one_mul] at hc; omega)]
    exact hv i hi
  · rw [he y hy]
    rw [he x (by omega)] at hx
    exact h.ord x y hxy hy hb hne hx
theorem rows_ph {m e : Nat} (hme : m ≤ e) : ∀ (t f : Nat) {l : List Bool}, t < f → t < m → l.length = 2 ^ e → Ph (2 ^ e) m (t + 1) (tw m (fn l)) →
    (sortG false ltB l (rowsJ (2 ^ e) (2 ^ m) f (2 ^ t)).flatten).length = 2 ^ e ∧ Ph (2 ^ e) m 0 (tw m (fn (sortG false ltB l (rowsJ (2 ^ e) (2 ^ m) f (2 ^ t)).flatten)))
  | t, 0, l, hf, _, _, _ => by omega
  | t, f + 1, l, hf, ht, hl, h => by
    simp only [rowsJ]
    rw [if_pos (Nat.two_pow_pos t), List.flatten_cons, sortG_app]
    obtain ⟨hl2, hr⟩ := row_fn ht hme hl
    have h2 : Ph (2 ^ e) m t (tw m (fn (sortG false ltB l (rowG (2 ^ m) (2 ^ t) (2 ^ e) 0)))) := by
      have h3 := h.step ht ⟨2 ^ (e - (t + 1)), by rw [← Nat.pow_add]; congr 1; omega⟩
      refine h3.congr fun p hp => ?_
      rw [← tw_row ht]
      unfold tw
      rw [hr p hp]
    cases t with
    | zero =>
      rw [show 2 ^ 0 / 2 = 0 from rfl, rowsJ_stop]
      exact ⟨hl2, h2⟩
    | succ t =>
      rw [show 2 ^ (t + 1) / 2 = 2 ^ t from by rw [Nat.pow_succ]; simp]
      exact rows_ph hme t f (by omega) (by omega) hl2 h2
theorem phases {e : Nat} (he : e ≤ 16) : ∀ (f m : Nat) {l : List Bool}, f + m = 18 → 1 ≤ m → m ≤ e + 1 → l.length = 2 ^ e → Ph (2 ^ e) (m - 1) 0 (tw (m - 1) (fn l)) →
    (sortG false ltB l (rowsK (2 ^ e) f (2 ^ m)).flatten).length = 2 ^ e ∧ Ph (2 ^ e) e 0 (tw e (fn (sortG false ltB l (rowsK (2 ^ e) f (2 ^ m)).flatten)))
  | 0, m, l, hf, _, hm, _, _ => by omega
  | f + 1, m, l, hf, h1, hm, hl, h => by
    simp only [rowsK]
    by_cases hk : 2 ^ m ≤ 2 ^ e
    · have hme : m ≤ e := by
        rcases Nat.lt_or_ge e m with h2 | h2
        · have : 2 ^ (e + 1) ≤ 2 ^ m := Nat.pow_le_pow_right (by omega) h2
          have h3 : 0 < 2 ^ e := Nat.two_pow_pos e
          rw [Nat.pow_succ] at this
          omega
        · exact h2
      obtain ⟨q, rfl⟩ : ∃ q, m = q + 1 := ⟨m - 1, by omega⟩
      rw [Nat.add_sub_cancel] at h
      rw [if_pos hk, List.flatten_append, sortG_app, show 2 ^ (q + 1) / 2 = 2 ^ q from by rw [Nat.pow_succ]; simp, show 2 * 2 ^ (q + 1) = 2 ^ (q + 1 + 1) from by rw [Nat.pow_succ 2 (q + 1), Nat.mul_comm]]
      obtain ⟨hl2, h2⟩ := rows_ph hme q 17 (by omega) (by omega) hl (h.next (by omega))
      exact phases he f (q + 1 + 1) (by omega) (by omega) (by omega) hl2 (by rw [Nat.add_sub_cancel]; exact h2)
    · have hme : m = e + 1 := by
        rcases Nat.lt_or_ge e m with h2 | h2
        · omega
        · exact absurd (Nat.pow_le_pow_right (by omega) h2) hk
      subst hme
      rw [if_neg hk]
      exact ⟨hl, h⟩
/-- Noughts and ones are sorted. -/
theorem bits_sorted {e : Nat} (he : e ≤ 16) {l : List Bool} (hl : l.length = 2 ^ e) : ∀ x y, x < y → y < 2 ^ e → fn (sortF false ltB l) x = true → fn (sortF false ltB l) y = true := by
  have h0 : Ph (2 ^ e) 0 0 (tw 0 (fn l)) := by
    refine ⟨fun c hc => ?_, fun x y hxy hy hb hne _ => absurd hb hne⟩
    refine ⟨0, 1, tw 0 (fn l) (c * 2 ^ 0), fun i hi => ?_⟩
    rw [Nat.pow_zero] at hi
    obtain rfl : i = 0 := by omega
    rfl
  obtain ⟨hl2, h⟩ := phases he 17 1 (by omega) (by omega) (by omega) hl (by simpa using h0)
  have hF : sortF false ltB l = sortG false ltB l (rowsK (2 ^ e) 17 (2 ^ 1)).flatten := by
    unfold sortF gatesF layersF
    rw [hl]
    have hs : sizeB ((2 ^ e : Nat) : Int) = true := pow_mem (by have : 2 ^ e ≤ 2 ^ 16 := Nat.pow_le_pow_right (by omega) he; omega)
    rw [hs, if_pos rfl, Int.toNat_natCast]
  rw [hF]
  intro x y hxy hy hx
  have hz : ∀ z, z < 2 ^ e → tw e (fn (sortG false ltB l (rowsK (2 ^ e) 17 (2 ^ 1)).flatten)) z = fn (sortG false ltB l (rowsK (2 ^ e) 17 (2 ^ 1)).flatten) z := fun z hz => by
    unfold tw
    rw [Nat.div_eq_of_lt hz, if_neg (by omega)]
  rw [← hz y hy]
  rw [← hz x (by omega)] at hx
  exact h.ord x y hxy hy (by rw [Nat.div_eq_of_lt hy, Nat.div_eq_of_lt (by omega)]) (by rw [Nat.pow_zero, Nat.div_one, Nat.div_one]; omega) hx

/-! ### any weak order -/
structure Weak {α : Type} (lt : α → α → Bool) : Prop where
  irr : ∀ x, lt x x = false
  trans : ∀ x y z, lt x y = true → lt y z = true → lt x z = true
  neg : ∀ x y z, lt x y = false → lt y z = false → lt x z = false
theorem step_bits {α : Type} {d : α} {lt : α → α → Bool} (hw : Weak lt) (t : α) (l : List α) (g : Int × Int) (ha : g.1.toNat < l.length) (hb : g.2.toNat < l.length) :
    (stepS d lt l g).map (fun x => !lt x t) = stepS false ltB (l.map (fun x => !lt x t)) g := by
  have gd : ∀ i, i < l.length → (l.map (fun x => !lt x t)).getD i false = !lt (l.getD i d) t := fun i hi => by
    rw [List.getD_eq_getElem?_getD, List.getD_eq_getElem?_getD, List.getElem?_map, List.getElem?_eq_getElem hi]; rfl
  unfold stepS
  rw [gd _ ha, gd _ hb]
  generalize hx : l.getD g.1.toNat d = x
  generalize hy : l.getD g.2.toNat d = y
  unfold ltB
  have hsw : (swapL d l g.1.toNat g.2.toNat).map (fun x => !lt x t) = ((l.map (fun x => !lt x t)).set g.2.toNat (!lt x t)).set g.1.toNat (!lt y t) := by
    unfold swapL
    rw [List.map_set, List.map_set, hx, hy]
  have hsb : swapL false (l.map (fun x => !lt x t)) g.1.toNat g.2.toNat = ((l.map (fun x => !lt x t)).set g.2.toNat (!lt x t)).set g.1.toNat (!lt y t) := by
    unfold swapL
    rw [gd _ ha, gd _ hb, hx, hy]
  cases hlt : lt y x
  · rw [if_neg (by simp)]
    have hno : ¬ (!!lt y t && !lt x t) = true := fun h => by
      rw [Bool.and_eq_true, Bool.not_not, Bool.not_eq_true'] at h
      have := hw.neg y x t hlt h.2
      rw [h.1] at this; cases this
    rw [if_neg hno]
  · rw [if_pos rfl, hsw]
    by_cases hc : (!!lt y t && !lt x t) = true
    · rw [if_pos hc, hsb]
    · rw [if_neg hc]
      -- both lie on one side
      have he : lt y t = lt x t := by
        cases h1 : lt x t
        · cases h2 : lt y t
          · rfl
          · rw [h1, h2] at hc; simp at hc
        · exact hw.trans y x t hlt h1
      apply List.ext_getElem?
      intro i
      rw [List.getElem?_set, List.getElem?_set, List.length_set, List.length_map]
      by_cases h1 : g.1.toNat = i
      · rw [if_pos h1, if_pos (by omega)]
        subst h1
        rw [List.getElem?_map, List.getElem?_eq_getElem ha]
        rw [List.getD_eq_getElem?_getD, List.getElem?_eq_getElem ha] at hx
        simp only [Option.getD_some] at hx
        simp [hx, he]
      · rw [if_neg h1]
        by_cases h2 : g.2.toNat = i
        · rw [if_pos h2, if_pos (by omega)]
          subst h2
          rw [List.getElem?_map, List.getElem?_eq_getElem hb]
          rw [List.getD_eq_getElem?_getD, List.getElem?_eq_getElem hb] at hy
          simp only [Option.getD_some] at hy
          simp [hy, he]
        · rw [if_neg h2]
theorem sort_bits {α : Type} {d : α} {lt : α → α → Bool} (hw : Weak lt) (t : α) : ∀ (gs : List (Int × Int)) (l : List α), (∀ g ∈ gs, g.1.toNat < l.length ∧ g.2.toNat < l.length) →
    (sortG d lt l gs).map (fun x => !lt x t) = sortG false ltB (l.map (fun x => !lt x t)) gs
  | [], l, _ => rfl
  | g :: gs, l, h => by
    have h1 := h g (by simp)
    rw [sortG_cons, sortG_cons, ← step_bits hw t l g h1.1 h1.2]
    exact sort_bits hw t gs _ (fun x hx => by rw [step_len]; exact h x (by simp [hx]))
/-- What the gates sort rises. -/
theorem sort_rises {α : Type} {d : α} {lt : α → α → Bool} (hw : Weak lt) {e : Nat} (he : e ≤ 16) (l : List α) (hl : l.length = 2 ^ e) (x y : Nat) (hxy : x < y) (hy : y < 2 ^ e) :
    lt ((sortF d lt l).getD y d) ((sortF d lt l).getD x d) = false := by
  have hg : ∀ g ∈ gatesF l.length, g.1.toNat < l.length ∧ g.2.toNat < l.length := fun g hg => by
    obtain ⟨a, b, n, h1, rfl, h2, h3, -⟩ := gates_mem hg
    simp
    omega
  have hlen : (sortF d lt l).length = 2 ^ e := by unfold sortF; rw [sortG_len]; exact hl
  generalize ht : (sortF d lt l).getD x d = t
  have hm : (sortF d lt l).map (fun x => !lt x t) = sortF false ltB (l.map (fun x => !lt x t)) := by
    unfold sortF
    rw [sort_bits hw t _ l hg, List.length_map]
  have hs := bits_sorted he (l := l.map (fun x => !lt x t)) (by rw [List.length_map]; exact hl) x y hxy hy
  rw [← hm] at hs
  have gd : ∀ i, i < 2 ^ e → fn ((sortF d lt l).map (fun x => !lt x t)) i = !lt ((sortF d lt l).getD i d) t := fun i hi => by
    unfold fn
    rw [List.getD_eq_getElem?_getD, List.getD_eq_getElem?_getD, List.getElem?_map, List.getElem?_eq_getElem (by omega)]; rfl
  rw [gd x (by omega), gd y hy, ht, hw.irr] at hs
  have := hs rfl
  rwa [Bool.not_eq_true'] at this
/-- Each of them once. -/
theorem sort_inj (lt : Nat → Nat → Bool) : ∀ (gs : List (Int × Int)) (n : Nat) (P : List Nat), (∀ g ∈ gs, g.1.toNat < n ∧ g.2.toNat < n) → Pl n P → Inj n P → Pl n (sortG 0 lt P gs) ∧ Inj n (sortG 0 lt P gs)
  | [], n, P, _, h1, h2 => ⟨h1, h2⟩
  | g :: gs, n, P, h, h1, h2 => by
    have hg := h g (by simp)
    rw [sortG_cons]
    refine sort_inj lt gs n _ (fun x hx => h x (by simp [hx])) ?_ ?_
    · unfold stepS
      split
      · exact h1.swap hg.1 hg.2
      · exact h1
    · unfold stepS
      split
      · exact h2.swap h1.1 hg.1 hg.2
      · exact h2
end Go.Proofs.Ytpglocgfdonmaaa

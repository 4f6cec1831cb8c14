/-
  Plain lemmas on words: the borrow of a difference, masks, picking bit by bit. No program in sight.
-/
import Derived.WalkKit
import Derived.Laws.BitsAllLaws
set_option linter.unusedVariables false
namespace Go.Proofs.Ytmmmmabfnnblfaa

/-- The mask of a bool. -/
def mk (b : Bool) : Int := if b then 18446744073709551615 else 0
theorem mk_true : mk true = 18446744073709551615 := rfl
theorem mk_false : mk false = 0 := rfl

theorem div63_and (a b : Nat) : (a &&& b) / 9223372036854775808 = (a / 9223372036854775808) &&& (b / 9223372036854775808) := by
  have h := Nat.shiftRight_and_distrib (a := a) (b := b) (i := 63)
  simpa [Nat.shiftRight_eq_div_pow] using h
theorem div63_or (a b : Nat) : (a ||| b) / 9223372036854775808 = (a / 9223372036854775808) ||| (b / 9223372036854775808) := by
  have h := Nat.shiftRight_or_distrib (a := a) (b := b) (i := 63)
  simpa [Nat.shiftRight_eq_div_pow] using h

theorem borrow (X Y : Nat) (hX : X < 18446744073709551616) (hY : Y < 18446744073709551616) :
    (((18446744073709551615 - X) &&& Y) ||| (((18446744073709551615 - X) ||| Y) &&& ((X + (18446744073709551616 - Y)) % 18446744073709551616))) / 9223372036854775808 = if X < Y then 1 else 0 := by
  simp only [div63_and, div63_or]
  have d : (X + (18446744073709551616 - Y)) % 18446744073709551616 = if X < Y then X + (18446744073709551616 - Y) else X - Y := by split <;> omega
  rw [d]
  have hx : X / 9223372036854775808 = 0 ∨ X / 9223372036854775808 = 1 := by omega
  have hy : Y / 9223372036854775808 = 0 ∨ Y / 9223372036854775808 = 1 := by omega
  have hn : (18446744073709551615 - X) / 9223372036854775808 = 1 - X / 9223372036854775808 := by omega
  rw [hn]
  split
  · have hd : (X + (18446744073709551616 - Y)) / 9223372036854775808 = 0 ∨ (X + (18446744073709551616 - Y)) / 9223372036854775808 = 1 := by omega
    rcases hx with hx | hx <;> rcases hy with hy | hy <;> rcases hd with hd | hd <;> rw [hx, hy, hd] <;> first | rfl | (exfalso; omega)
  · have hd : (X - Y) / 9223372036854775808 = 0 ∨ (X - Y) / 9223372036854775808 = 1 := by omega
    rcases hx with hx | hx <;> rcases hy with hy | hy <;> rcases hd with hd | hd <;> rw [hx, hy, hd] <;> first | rfl | (exfalso; omega)

theorem and_one (x : Nat) : x &&& 1 = x % 2 := Nat.and_two_pow_sub_one_eq_mod x 1

/-- Bit. -/
theorem bit_spec (x : Int) (h0 : 0 ≤ x) (h1 : x < 18446744073709551616) : IntKind.u64.wrap (-(bits .and .u64 x 1)) = mk (decide (x % 2 = 1)) := by
  obtain ⟨n, rfl⟩ := Int.eq_ofNat_of_zero_le h0
  have h := u64_and_nat n 1 (by omega) (by omega)
  rw [show ((1 : Nat) : Int) = 1 from rfl] at h
  rw [h, and_one]
  simp only [IntKind.wrap_u64]
  unfold mk
  by_cases h2 : n % 2 = 1
  · rw [if_pos (by simp; omega), h2]; decide
  · rw [if_neg (by simp; omega)]; omega

/-- 1 or 0. -/
def zb (b : Bool) : Int := if b then 1 else 0
theorem zb_bd (b : Bool) : 0 ≤ zb b ∧ zb b < 18446744073709551616 := by cases b <;> decide
theorem zb_odd (b : Bool) : decide (zb b % 2 = 1) = b := by cases b <;> decide

/-- Zero's word ahead of Bit. -/
theorem zero_word (x : Int) (h0 : 0 ≤ x) (h1 : x < 18446744073709551616) :
    bits .xor .u64 ((bits .or .u64 x (IntKind.u64.wrap (-x))) / 9223372036854775808) 1 = zb (decide (x = 0)) := by
  obtain ⟨n, rfl⟩ := Int.eq_ofNat_of_zero_le h0
  have hw : IntKind.u64.wrap (-(n : Int)) = (((18446744073709551616 - n) % 18446744073709551616 : Nat) : Int) := by
    simp only [IntKind.wrap_u64]; omega
  rw [hw, u64_or_nat n _ (by omega) (Nat.mod_lt _ (by omega))]
  have e : (((n ||| (18446744073709551616 - n) % 18446744073709551616 : Nat) : Int)) / 9223372036854775808 = (((n ||| (18446744073709551616 - n) % 18446744073709551616) / 9223372036854775808 : Nat) : Int) := by omega
  rw [e, div63_or]
  have hb : (n / 9223372036854775808) ||| ((18446744073709551616 - n) % 18446744073709551616 / 9223372036854775808) = if n = 0 then 0 else 1 := by
    have hx : n / 9223372036854775808 = 0 ∨ n / 9223372036854775808 = 1 := by omega
    by_cases hz : n = 0
    · subst hz; rfl
    · rw [if_neg hz]
      have hd : (18446744073709551616 - n) % 18446744073709551616 / 9223372036854775808 = 0 ∨ (18446744073709551616 - n) % 18446744073709551616 / 9223372036854775808 = 1 := by omega
      rcases hx with hx | hx <;> rcases hd with hd | hd <;> rw [hx, hd] <;> first | rfl | (exfalso; omega)
  rw [hb]
  by_cases hz : n = 0
  · subst hz; decide
  · rw [if_neg hz]; simp [zb, hz]; decide

theorem less_word (x y : Int) (hx : 0 ≤ x) (hx' : x < 18446744073709551616) (hy : 0 ≤ y) (hy' : y < 18446744073709551616) :
    bits .or .u64 (bits .and .u64 (bits .xor .u64 IntKind.u64.max x) y) (bits .and .u64 (bits .or .u64 (bits .xor .u64 IntKind.u64.max x) y) (IntKind.u64.wrap (x - y))) / 9223372036854775808 = zb (decide (x < y)) := by
  obtain ⟨X, rfl⟩ := Int.eq_ofNat_of_zero_le hx
  obtain ⟨Y, rfl⟩ := Int.eq_ofNat_of_zero_le hy
  have hX : X < 18446744073709551616 := by omega
  have hY : Y < 18446744073709551616 := by omega
  have hn : bits .xor .u64 IntKind.u64.max (X : Int) = ((18446744073709551615 - X : Nat) : Int) := by
    have h := u64_xor_nat 18446744073709551615 X (by omega) hX
    rw [show ((18446744073709551615 : Nat) : Int) = IntKind.u64.max from rfl] at h
    rw [h]
    have e : 18446744073709551615 ^^^ X = 18446744073709551615 - X := by
      apply Nat.eq_of_testBit_eq
      intro i
      have h1 : (18446744073709551615 - X).testBit i = (decide (i < 64) && !X.testBit i) := by
        have := Nat.testBit_two_pow_sub_succ (n := 64) (x := X) (by simpa using hX) i
        simpa [show 2 ^ 64 - (X + 1) = 18446744073709551615 - X by omega] using this
      rw [h1, Nat.testBit_xor]
      have h2 : Nat.testBit 18446744073709551615 i = decide (i < 64) := Nat.testBit_two_pow_sub_one 64 i
      rw [h2]
      by_cases hi : i < 64
      · simp [hi]
      · have : X.testBit i = false := by
          have h64 : 64 ≤ i := by omega
          have hp := Nat.pow_le_pow_right (n := 2) (by omega) h64
          exact Nat.testBit_lt_two_pow (Nat.lt_of_lt_of_le hX hp)
        simp [hi, this]
    rw [e]
  have hs : IntKind.u64.wrap ((X : Int) - (Y : Int)) = (((X + (18446744073709551616 - Y)) % 18446744073709551616 : Nat) : Int) := by
    simp only [IntKind.wrap_u64]; omega
  have hm : 18446744073709551615 - X < 18446744073709551616 := by omega
  have hor : ∀ {a b : Nat}, a < 18446744073709551616 → b < 18446744073709551616 → a ||| b < 18446744073709551616 := fun ha hb => Nat.or_lt_two_pow (n := 64) ha hb
  have hand : ∀ {a b : Nat}, b < 18446744073709551616 → a &&& b < 18446744073709551616 := fun {a b} hb => Nat.lt_of_le_of_lt (Nat.and_le_right) hb
  have hd : (X + (18446744073709551616 - Y)) % 18446744073709551616 < 18446744073709551616 := Nat.mod_lt _ (by omega)
  rw [hn, hs, u64_and_nat _ Y hm hY, u64_or_nat _ Y hm hY, u64_and_nat _ _ (hor hm hY) hd, u64_or_nat _ _ (hand hY) (hand hd)]
  have hb := borrow X Y hX hY
  have e : ∀ E : Nat, ((E : Int)) / 9223372036854775808 = ((E / 9223372036854775808 : Nat) : Int) := fun E => by omega
  rw [e, hb]
  by_cases h : X < Y
  · rw [if_pos h]; simp [zb, h]
  · rw [if_neg h]; simp [zb, h]

/-- Pick. -/
def pk (m x y : Int) : Int := bits .xor .u64 y (bits .and .u64 m (bits .xor .u64 x y))
def pkN (m x y : Nat) : Nat := y ^^^ (m &&& (x ^^^ y))
theorem pkN_lt {m x y : Nat} (hm : m < 18446744073709551616) (hy : y < 18446744073709551616) : pkN m x y < 18446744073709551616 :=
  Nat.xor_lt_two_pow (n := 64) hy (Nat.lt_of_le_of_lt Nat.and_le_left hm)
theorem pk_nat (m x y : Nat) (hm : m < 18446744073709551616) (hx : x < 18446744073709551616) (hy : y < 18446744073709551616) : pk m x y = ((pkN m x y : Nat) : Int) := by
  unfold pk pkN
  rw [u64_xor_nat x y hx hy, u64_and_nat m _ hm (Nat.xor_lt_two_pow (n := 64) hx hy), u64_xor_nat y _ hy (Nat.lt_of_le_of_lt Nat.and_le_left hm)]
theorem pkN_bit (m x y i : Nat) : (pkN m x y).testBit i = if m.testBit i then x.testBit i else y.testBit i := by
  unfold pkN
  rw [Nat.testBit_xor, Nat.testBit_and, Nat.testBit_xor]
  cases m.testBit i <;> cases x.testBit i <;> cases y.testBit i <;> rfl

/-! ### what is swapped -/
def sw (m x y : Int) : Int := bits .xor .u64 x (bits .and .u64 m (bits .xor .u64 x y))
def swN (m x y : Nat) : Nat := x ^^^ (m &&& (x ^^^ y))
theorem swN_lt {m x y : Nat} (hm : m < 18446744073709551616) (hx : x < 18446744073709551616) : swN m x y < 18446744073709551616 :=
  Nat.xor_lt_two_pow (n := 64) hx (Nat.lt_of_le_of_lt Nat.and_le_left hm)
theorem sw_nat (m x y : Nat) (hm : m < 18446744073709551616) (hx : x < 18446744073709551616) (hy : y < 18446744073709551616) : sw m x y = ((swN m x y : Nat) : Int) := by
  unfold sw swN
  rw [u64_xor_nat x y hx hy, u64_and_nat m _ hm (Nat.xor_lt_two_pow (n := 64) hx hy), u64_xor_nat x _ hx (Nat.lt_of_le_of_lt Nat.and_le_left hm)]
theorem swN_bit (m x y i : Nat) : (swN m x y).testBit i = if m.testBit i then y.testBit i else x.testBit i := by
  unfold swN
  rw [Nat.testBit_xor, Nat.testBit_and, Nat.testBit_xor]
  cases m.testBit i <;> cases x.testBit i <;> cases y.testBit i <;> rfl
theorem max_bit (i : Nat) (h : i < 64) : Nat.testBit 18446744073709551615 i = true := by
  have h2 : Nat.testBit 18446744073709551615 i = decide (i < 64) := Nat.testBit_two_pow_sub_one 64 i
  rw [h2]; simpa using h
theorem bit_high {x i : Nat} (hx : x < 18446744073709551616) (hi : ¬ i < 64) : x.testBit i = false := by
  have h64 : 64 ≤ i := by omega
  have hp := Nat.pow_le_pow_right (n := 2) (by omega) h64
  exact Nat.testBit_lt_two_pow (Nat.lt_of_lt_of_le hx hp)
theorem pkN_all (x y : Nat) (hx : x < 18446744073709551616) (hy : y < 18446744073709551616) : pkN 18446744073709551615 x y = x := by
  apply Nat.eq_of_testBit_eq; intro i; rw [pkN_bit]
  by_cases hi : i < 64
  · rw [max_bit i hi]; simp
  · rw [bit_high hx hi, bit_high hy hi]; simp
theorem swN_all (x y : Nat) (hx : x < 18446744073709551616) (hy : y < 18446744073709551616) : swN 18446744073709551615 x y = y := by
  apply Nat.eq_of_testBit_eq; intro i; rw [swN_bit]
  by_cases hi : i < 64
  · rw [max_bit i hi]; simp
  · rw [bit_high hx hi, bit_high hy hi]; simp
theorem pkN_zero (x y : Nat) : pkN 0 x y = y := by simp [pkN]
theorem swN_zero (x y : Nat) : swN 0 x y = x := by simp [swN]
theorem pkN_same (m x : Nat) : pkN m x x = x := by simp [pkN]
theorem twice_sw (m x y : Nat) : swN m (swN m x y) (pkN m x y) = x := by
  apply Nat.eq_of_testBit_eq; intro i; rw [swN_bit, swN_bit, pkN_bit]; cases m.testBit i <;> simp
theorem twice_pk (m x y : Nat) : pkN m (swN m x y) (pkN m x y) = y := by
  apply Nat.eq_of_testBit_eq; intro i; rw [pkN_bit, swN_bit, pkN_bit]; cases m.testBit i <;> simp
theorem sw_xor_pk (m x y : Nat) : swN m x y ^^^ pkN m x y = x ^^^ y := by
  apply Nat.eq_of_testBit_eq; intro i; rw [Nat.testBit_xor, Nat.testBit_xor, swN_bit, pkN_bit]; cases m.testBit i <;> cases x.testBit i <;> cases y.testBit i <;> simp
theorem sw_and_pk (m x y : Nat) : swN m x y &&& pkN m x y = x &&& y := by
  apply Nat.eq_of_testBit_eq; intro i; rw [Nat.testBit_and, Nat.testBit_and, swN_bit, pkN_bit]; cases m.testBit i <;> cases x.testBit i <;> cases y.testBit i <;> simp
theorem add_xor_and (a : Nat) : ∀ b : Nat, a + b = (a ^^^ b) + 2 * (a &&& b) := by
  induction a using Nat.strongRecOn with
  | _ a ih =>
    intro b
    by_cases h0 : a = 0
    · subst h0; simp
    · have h := ih (a / 2) (by omega) (b / 2)
      have h1 : (a ^^^ b) / 2 = a / 2 ^^^ b / 2 := by
        have := Nat.shiftRight_xor_distrib (a := a) (b := b) (i := 1); simpa [Nat.shiftRight_eq_div_pow] using this
      have h2 : (a &&& b) / 2 = a / 2 &&& b / 2 := by
        have := Nat.shiftRight_and_distrib (a := a) (b := b) (i := 1); simpa [Nat.shiftRight_eq_div_pow] using this
      have h3 : (a ^^^ b) % 2 = (a + b) % 2 := by
        have := Nat.testBit_xor a b 0
        simp only [Nat.testBit_zero] at this
        rcases Nat.mod_two_eq_zero_or_one a with ha | ha <;> rcases Nat.mod_two_eq_zero_or_one b with hb | hb <;> rcases Nat.mod_two_eq_zero_or_one (a ^^^ b) with hc | hc <;> simp [ha, hb, hc] at this <;> omega
      have h4 : (a &&& b) % 2 = (a % 2) * (b % 2) := by
        have := Nat.testBit_and a b 0
        simp only [Nat.testBit_zero] at this
        rcases Nat.mod_two_eq_zero_or_one a with ha | ha <;> rcases Nat.mod_two_eq_zero_or_one b with hb | hb <;> rcases Nat.mod_two_eq_zero_or_one (a &&& b) with hc | hc <;> simp [ha, hb, hc] at this <;> simp [ha, hb, hc]
      rw [h1.symm, h2.symm] at h
      clear h1 h2 ih
      generalize a ^^^ b = X at *
      generalize a &&& b = N at *
      rcases Nat.mod_two_eq_zero_or_one a with ha | ha <;> rcases Nat.mod_two_eq_zero_or_one b with hb | hb <;> rw [ha, hb] at h4 <;> omega
theorem sw_add_pk (m x y : Nat) : swN m x y + pkN m x y = x + y := by
  rw [add_xor_and, sw_xor_pk, sw_and_pk, ← add_xor_and]
end Go.Proofs.Ytmmmmabfnnblfaa

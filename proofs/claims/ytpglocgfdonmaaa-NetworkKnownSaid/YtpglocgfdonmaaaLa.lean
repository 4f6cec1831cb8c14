/-
  Plain law: the rows of gates: half as long as there are places; in each row each place stands once. No program in sight.
-/
import Derived.Test.YtpglocgfdonmaaaGm
import Derived.Test.YtpglocgfdonmaaaBj
set_option linter.unusedVariables false
namespace Go.Proofs.Ytpglocgfdonmaaa

theorem rowH_app (k j : Nat) : ∀ f1 f2 i, rowG k j (f1 + f2) i = rowG k j f1 i ++ rowG k j f2 (i + f1)
  | 0, f2, i => by simp [rowG]
  | f1 + 1, f2, i => by
    rw [show f1 + 1 + f2 = (f1 + f2) + 1 from by omega]
    simp only [rowG]
    rw [rowH_app k j f1 f2 (i + 1), show i + 1 + f1 = i + (f1 + 1) from by omega]
    split
    · rfl
    · rfl
theorem rowH_zero (k j : Nat) : ∀ f i, (∀ t, i ≤ t → t < i + f → ¬ t / j % 2 = 1) → (rowG k j f i).length = f
  | 0, i, _ => rfl
  | f + 1, i, h => by
    simp only [rowG]
    rw [if_neg (h i (by omega) (by omega)), List.length_cons, rowH_zero k j f (i + 1) (fun t h1 h2 => h t (by omega) (by omega))]
theorem rowH_one (k j : Nat) : ∀ f i, (∀ t, i ≤ t → t < i + f → t / j % 2 = 1) → rowG k j f i = []
  | 0, i, _ => rfl
  | f + 1, i, h => by
    simp only [rowG]
    rw [if_pos (h i (by omega) (by omega)), rowH_one k j f (i + 1) (fun t h1 h2 => h t (by omega) (by omega))]
theorem rowH_half (k j : Nat) (hj : 0 < j) : ∀ q c, (rowG k j (q * (2 * j)) (c * (2 * j))).length = q * j
  | 0, c => by simp [rowG]
  | q + 1, c => by
    have e : (q + 1) * (2 * j) = j + (j + q * (2 * j)) := by rw [Nat.add_mul, Nat.one_mul]; omega
    have hd0 : ∀ t, c * (2 * j) ≤ t → t < c * (2 * j) + j → t / j = 2 * c := fun t h1 h2 => by
      obtain ⟨r, rfl⟩ : ∃ r, t = c * (2 * j) + r := ⟨t - c * (2 * j), by omega⟩
      rw [mul2, Nat.mul_comm (2 * c), Nat.mul_add_div hj, Nat.div_eq_of_lt (by omega), Nat.add_zero]
    have hd1 : ∀ t, c * (2 * j) + j ≤ t → t < c * (2 * j) + j + j → t / j = 2 * c + 1 := fun t h1 h2 => by
      obtain ⟨r, rfl⟩ : ∃ r, t = c * (2 * j) + j + r := ⟨t - (c * (2 * j) + j), by omega⟩
      rw [show c * (2 * j) + j + r = (2 * c + 1) * j + r from by rw [Nat.add_mul, Nat.one_mul, mul2], Nat.mul_comm (2 * c + 1), Nat.mul_add_div hj, Nat.div_eq_of_lt (by omega), Nat.add_zero]
    rw [e, rowH_app, rowH_app, List.length_append, List.length_append, rowH_zero k j j (c * (2 * j)) (fun t h1 h2 => by rw [hd0 t h1 h2]; omega), rowH_one k j j (c * (2 * j) + j) (fun t h1 h2 => by rw [hd1 t h1 h2]; omega),
      show c * (2 * j) + j + j = (c + 1) * (2 * j) from by rw [Nat.add_mul, Nat.one_mul]; omega, rowH_half k j hj q (c + 1), Nat.add_mul, Nat.one_mul]
    simp
    omega
/-- Where a gate stands. -/
theorem row_of {N : Int} {row : List (Int × Int)} (h : row ∈ layersF N) : ∃ e m b : Nat, e ≤ 16 ∧ N = ((2 ^ e : Nat) : Int) ∧ b < m ∧ m ≤ e ∧ row = rowG (2 ^ m) (2 ^ b) (2 ^ e) 0 := by
  unfold layersF at h
  split at h
  · rename_i hs
    obtain ⟨e, he, rfl⟩ := size_pow hs
    rw [Int.toNat_natCast] at h
    obtain ⟨m, b, hm, hb, rfl⟩ := rowsK_mem 17 1 row (by omega) h
    refine ⟨e, m, b, he, rfl, hb, ?_, rfl⟩
    rcases Nat.lt_or_ge e m with h1 | h1
    · have : 2 ^ (e + 1) ≤ 2 ^ m := Nat.pow_le_pow_right (by omega) h1
      have h2 : 0 < 2 ^ e := Nat.two_pow_pos e
      rw [Nat.pow_succ] at this
      omega
    · exact h1
  · simp at h
theorem row_half {N : Int} {row : List (Int × Int)} (h : row ∈ layersF N) : 2 * (row.length : Int) = N ∧ 0 < row.length := by
  obtain ⟨e, m, b, he, rfl, hb, hm, rfl⟩ := row_of h
  have hj : 0 < 2 ^ b := Nat.two_pow_pos b
  have hq : 0 < 2 ^ (e - (b + 1)) := Nat.two_pow_pos _
  have e1 : 2 ^ e = 2 ^ (e - (b + 1)) * (2 * 2 ^ b) := by rw [← Nat.pow_succ', ← Nat.pow_add]; congr 1; omega
  have h1 := rowH_half (2 ^ m) (2 ^ b) hj (2 ^ (e - (b + 1))) 0
  rw [Nat.zero_mul, ← e1] at h1
  rw [h1]
  refine ⟨?_, Nat.mul_pos hq hj⟩
  rw [e1, mul2, show 2 * 2 ^ (e - (b + 1)) * 2 ^ b = 2 * (2 ^ (e - (b + 1)) * 2 ^ b) from Nat.mul_assoc _ _ _]
  rw [Int.natCast_mul]
  rfl
/-- Of the gates ahead of it none stands where this one does. -/
theorem rowG_apart (k b : Nat) : ∀ f i, (rowG k (2 ^ b) f i).Pairwise (fun x y => x.1 ≠ y.1 ∧ x.1 ≠ y.2 ∧ x.2 ≠ y.1 ∧ x.2 ≠ y.2)
  | 0, i => by simp [rowG]
  | f + 1, i => by
    have hj : 0 < 2 ^ b := Nat.two_pow_pos b
    simp only [rowG]
    split
    · exact rowG_apart k b f (i + 1)
    · rename_i hb
      refine List.Pairwise.cons (fun y hy => ?_) (rowG_apart k b f (i + 1))
      obtain ⟨t, h1, h2, h3, rfl⟩ := rowG_mem f (i + 1) y hy
      have u1 := up_bit hj hb
      have u2 := up_bit hj h3
      have n1 : i + 2 ^ b ≠ t := fun e => by rw [e] at u1; exact h3 u1
      have n2 : t + 2 ^ b ≠ i := fun e => by rw [e] at u2; exact hb u2
      unfold gate
      split <;> split <;> simp only [ne_eq] <;> omega
theorem row_apart {N : Int} {row : List (Int × Int)} (h : row ∈ layersF N) : row.Pairwise (fun x y => x.1 ≠ y.1 ∧ x.1 ≠ y.2 ∧ x.2 ≠ y.1 ∧ x.2 ≠ y.2) := by
  obtain ⟨e, m, b, he, rfl, hb, hm, rfl⟩ := row_of h
  exact rowG_apart _ b _ 0
theorem row_in {N : Int} {row : List (Int × Int)} (h : row ∈ layersF N) {x : Int × Int} (hx : x ∈ row) : ∃ a b n : Nat, N = n ∧ x = ((a : Int), (b : Int)) ∧ a < n ∧ b < n ∧ a ≠ b :=
  gates_mem (by unfold gatesF; exact List.mem_flatten.2 ⟨row, h, hx⟩)

/-! ### rows, one gate after the other -/
def pushS (N : Int) (st : List (List (Int × Int)) × List (Int × Int)) (x : Int × Int) : List (List (Int × Int)) × List (Int × Int) :=
  if 2 * ((st.2.length + 1 : Nat) : Int) = N then (st.1 ++ [st.2 ++ [x]], []) else (st.1, st.2 ++ [x])
def accS (N : Int) (xs : List (Int × Int)) : List (List (Int × Int)) × List (Int × Int) := xs.foldl (pushS N) ([], [])
theorem accS_snoc (N : Int) (xs : List (Int × Int)) (x : Int × Int) : accS N (xs ++ [x]) = pushS N (accS N xs) x := by simp [accS]
theorem acc_part (N : Int) : ∀ (r cur : List (Int × Int)) (rows : List (List (Int × Int))), r ≠ [] → 2 * ((cur.length + r.length : Nat) : Int) = N → r.foldl (pushS N) (rows, cur) = (rows ++ [cur ++ r], [])
  | [], cur, rows, h, _ => absurd rfl h
  | [x], cur, rows, _, hN => by
    simp only [List.foldl_cons, List.foldl_nil, pushS]
    rw [if_pos (by simpa using hN)]
  | x :: y :: r, cur, rows, _, hN => by
    simp only [List.length_cons] at hN
    show (y :: r).foldl (pushS N) (pushS N (rows, cur) x) = _
    have : pushS N (rows, cur) x = (rows, cur ++ [x]) := by
      unfold pushS
      rw [if_neg]
      dsimp only
      omega
    rw [this, acc_part N (y :: r) (cur ++ [x]) rows (by simp) (by simp; omega)]
    simp
theorem acc_rows (N : Int) : ∀ (rs rows : List (List (Int × Int))), (∀ r ∈ rs, 2 * (r.length : Int) = N ∧ 0 < r.length) → rs.flatten.foldl (pushS N) (rows, []) = (rows ++ rs, [])
  | [], rows, _ => by simp
  | r :: rs, rows, h => by
    have h1 := h r (by simp)
    rw [List.flatten_cons, List.foldl_append, acc_part N r [] rows (by intro e; rw [e] at h1; simp at h1) (by simpa using h1.1), acc_rows N rs (rows ++ [[] ++ r]) (fun x hx => h x (by simp [hx]))]
    simp
theorem acc_all (N : Int) : accS N (gatesF N) = (layersF N, []) := by
  have := acc_rows N (layersF N) [] (fun r hr => row_half hr)
  unfold accS gatesF
  rw [this]
  simp
/-- No row grows beyond its half, and there are no more rows than gates. -/
theorem acc_len (N : Int) : ∀ (xs : List (Int × Int)), (accS N xs).1.length ≤ xs.length ∧ (accS N xs).2.length ≤ xs.length := fun xs => by
  have : ∀ (n : Nat) (xs : List (Int × Int)), xs.length = n → (accS N xs).1.length ≤ n ∧ (accS N xs).2.length ≤ n := fun n => by
    induction n with
    | zero => intro xs h; rw [List.eq_nil_of_length_eq_zero h]; simp [accS]
    | succ n ih =>
      intro xs h
      obtain ⟨ys, y, rfl⟩ : ∃ ys y, xs = ys ++ [y] := ⟨xs.dropLast, xs.getLast (by intro e; rw [e] at h; simp at h), (List.dropLast_concat_getLast _).symm⟩
      have := ih ys (by simpa using h)
      rw [accS_snoc]
      unfold pushS
      split
      · simp; omega
      · simp; omega
  exact this _ xs rfl
end Go.Proofs.Ytpglocgfdonmaaa

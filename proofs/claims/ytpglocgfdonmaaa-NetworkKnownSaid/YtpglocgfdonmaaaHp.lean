/-
  Plain law: the hops over n places, one behind the other. No program in sight.
-/
import Derived.WalkKit
namespace Go.Proofs.Ytpglocgfdonmaaa

/-- The hops of width d from place i on. -/
def rowF (n d i : Nat) : List (Int × Int) := (List.range (n - i)).map fun j => (((i + j : Nat) : Int), ((i + j : Nat) : Int) - d)
theorem rowF_nil {n d i : Nat} (h : n ≤ i) : rowF n d i = [] := by unfold rowF; rw [Nat.sub_eq_zero_of_le h]; rfl
theorem rowF_cons {n d i : Nat} (h : i < n) : rowF n d i = (((i : Nat) : Int), ((i : Nat) : Int) - d) :: rowF n d (i + 1) := by
  unfold rowF
  rw [show n - i = (n - (i + 1)) + 1 from by omega, List.range_succ_eq_map]
  simp only [List.map_cons, List.map_map, Nat.add_zero]
  congr 1
  apply List.map_congr_left
  intro j _
  simp only [Function.comp]
  rw [show i + (j + 1) = i + 1 + j from by omega]
/-- The rows from width d on, f at most. -/
def hopF (n : Nat) : Nat → Nat → List (Int × Int)
  | 0, _ => []
  | f + 1, d => if d < n then rowF n d d ++ hopF n f (2 * d) else []
theorem hopF_stop {n f d : Nat} (h : n ≤ d) : hopF n f d = [] := by
  cases f with
  | zero => rfl
  | succ f => simp only [hopF]; rw [if_neg (by omega)]
theorem hopF_go {n f d : Nat} (h : d < n) : hopF n (f + 1) d = rowF n d d ++ hopF n f (2 * d) := by simp only [hopF]; rw [if_pos h]
theorem hopF_len (n : Nat) : ∀ f d, (hopF n f d).length ≤ f * n
  | 0, _ => by simp [hopF]
  | f + 1, d => by
    simp only [hopF]
    split
    · have := hopF_len n f (2 * d)
      rw [List.length_append]
      have h2 : (rowF n d d).length ≤ n := by simp [rowF]
      have hm : (f + 1) * n = f * n + n := Nat.succ_mul f n
      omega
    · simp
/-- The hops over n places. -/
def hops (n : Int) : List (Int × Int) := if 65536 < n then [] else hopF n.toNat 17 1
theorem hops_len (n : Int) : (hops n).length ≤ 1114112 := by
  unfold hops
  split
  · simp
  · have := hopF_len n.toNat 17 1
    have h : n.toNat ≤ 65536 := by omega
    omega
theorem hops_big {n : Int} (h : 65536 < n) : hops n = [] := by unfold hops; rw [if_pos h]
theorem hops_small {n : Int} (h : ¬ 65536 < n) : hops n = hopF n.toNat 17 1 := by unfold hops; rw [if_neg h]
end Go.Proofs.Ytpglocgfdonmaaa

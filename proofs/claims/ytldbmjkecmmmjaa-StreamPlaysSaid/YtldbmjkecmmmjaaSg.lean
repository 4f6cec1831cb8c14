/-
  A stream's cells: built out of a key, a nonce and a place. And the key stream, plain.
-/
import Derived.Test.YtldbmjkecmmmjaaBl
import Derived.Laws.Tables
set_option linter.unusedVariables false
set_option linter.unusedSimpArgs false
namespace Go.Proofs.Ytldbmjkecmmmjaa
open Go.RowKit

/-! ### a struct built of parts -/
theorem fold_put (off : Nat) : ∀ (A : List Value) (k : Nat) (cells : Array Value), off + k + A.length ≤ cells.size →
    ((A.zipIdx k).foldl (fun cs (x : Value × Nat) => cs.setIfInBounds (off + x.2) x.1) cells).toList = cells.toList.take (off + k) ++ (A ++ cells.toList.drop (off + k + A.length))
  | [], k, cells, _ => by simp
  | a :: A, k, cells, h => by
    simp only [List.length_cons] at h
    rw [List.zipIdx_cons, List.foldl_cons, fold_put off A (k + 1) _ (by simp; omega)]
    simp only [Array.toList_setIfInBounds, List.length_cons]
    have hlen : off + k < cells.toList.length := by simp; omega
    have e1 : List.take (off + (k + 1)) (cells.toList.set (off + k) a) = cells.toList.take (off + k) ++ [a] := by
      rw [show off + (k + 1) = (off + k) + 1 from by omega, List.take_set, List.take_add_one]
      rw [List.set_append_right _ _ (by simp; omega)]
      have : (off + k) - (cells.toList.take (off + k)).length = 0 := by simp; omega
      rw [this, List.getElem?_eq_getElem hlen]
      rfl
    have e2 : List.drop (off + (k + 1) + A.length) (cells.toList.set (off + k) a) = cells.toList.drop (off + k + (A.length + 1)) := by
      rw [List.drop_set_of_lt (by omega)]
      congr 1
      omega
    rw [e1, e2, List.append_assoc]
    rfl
theorem fill_step (place : Nat → Option (Nat × Nat)) (cells : Array Value) (i off size : Nat) (v : Value) (rest : List (Nat × Value)) (hp : place i = some (off, size)) (hv : v.cells.size = size) (hf : off + size ≤ cells.size) :
    Instr.fill place cells ((i, v) :: rest) = Instr.fill place (cells.toList.take off ++ (v.cells.toList ++ cells.toList.drop (off + size))).toArray rest := by
  have hfp := fold_put off v.cells.toList 0 cells (by rw [Array.length_toList, hv]; omega)
  rw [Array.length_toList, hv, Nat.add_zero] at hfp
  have hfp2 : v.cells.zipIdx.foldl (fun cs (x : Value × Nat) => cs.setIfInBounds (off + x.2) x.1) cells = (cells.toList.take off ++ (v.cells.toList ++ cells.toList.drop (off + size))).toArray := by
    rw [← hfp, ← Array.foldl_toList, Array.toList_zipIdx]
  conv => lhs; unfold Instr.fill
  rw [hp]
  simp only [hv]
  rw [if_neg (by simp; omega)]
  exact congrArg (fun c => Instr.fill place c rest) hfp2
/-- A stream's cells. -/
def SGl (ks ns : List Int) (p : Nat) : List Value := ks.map (Value.int .u8) ++ (ns.map (Value.int .u8) ++ [.int .u64 (p : Int)])
def SG (ks ns : List Int) (p : Nat) : Array Value := (SGl ks ns p).toArray
theorem SG_eq (ks ns : List Int) (p : Nat) : SG ks ns p = (SGl ks ns p).toArray := rfl
attribute [irreducible] SG
def Z45 : List Value := List.replicate 44 (Value.int .u8 0) ++ [.int .u64 0]
theorem built87 (parts : List (Nat × Value)) : Try.prog.built 87 parts = Instr.fill (fun i => (#[(0, 32), (32, 12), (44, 1)] : Array (Nat × Nat))[i]?) Z45.toArray parts := by kernel_rfl
theorem built66 (parts : List (Nat × Value)) : Try.prog.built 66 parts = Instr.fill (fun i => (#[(0, 32), (32, 12), (44, 1)] : Array (Nat × Nat))[i]?) Z45.toArray parts := by kernel_rfl
theorem fill_SG (ks ns : List Int) (p : Nat) (hk : ks.length = 32) (hn : ns.length = 12) :
    Instr.fill (fun i => (#[(0, 32), (32, 12), (44, 1)] : Array (Nat × Nat))[i]?) Z45.toArray [(0, .agg (AY .u8 ks)), (1, .agg (AY .u8 ns)), (2, .int .u64 (p : Int))] = some (SG ks ns p) := by
  have hc : (Value.agg (AY .u8 ks)).cells.toList = ks.map (Value.int .u8) := by rw [AY_cells, AY_eq]
  have hc2 : (Value.agg (AY .u8 ns)).cells.toList = ns.map (Value.int .u8) := by rw [AY_cells, AY_eq]
  have hz : Z45.length = 45 := rfl
  rw [fill_step _ _ 0 0 32 _ _ rfl (by rw [AY_cells, AY_size, hk]) (by rw [List.size_toArray, hz]; decide)]
  rw [fill_step _ _ 1 32 12 _ _ rfl (by rw [AY_cells, AY_size, hn]) (by rw [hc]; simp [hk, hz])]
  rw [fill_step _ _ 2 44 1 _ _ rfl rfl (by rw [hc, hc2]; simp [hk, hn, hz])]
  unfold Instr.fill
  rw [SG_eq, hc, hc2]
  congr 1
  apply congrArg List.toArray
  simp only [List.take_zero, List.nil_append]
  generalize hK : ks.map (Value.int .u8) = K
  generalize hN : ns.map (Value.int .u8) = N
  have a1 : K.length = 32 := by rw [← hK]; simp [hk]
  have a2 : N.length = 12 := by rw [← hN]; simp [hn]
  have hA : List.take 32 (K ++ List.drop (0 + 32) Z45) = K := by rw [List.take_append_of_le_length (by omega), List.take_of_length_le (by omega)]
  rw [hA]
  have hB : List.take 44 (K ++ (N ++ List.drop (32 + 12) (K ++ List.drop (0 + 32) Z45))) = K ++ N := by
    rw [List.take_append, List.take_of_length_le (by omega), a1, List.take_append_of_le_length (by omega), List.take_of_length_le (by omega)]
  have hC : List.drop (44 + 1) (K ++ (N ++ List.drop (32 + 12) (K ++ List.drop (0 + 32) Z45))) = [] := List.drop_of_length_le (by simp [a1, a2, hz])
  rw [hB, hC]
  unfold SGl
  rw [hK, hN, List.append_assoc]
  rfl
end Go.Proofs.Ytldbmjkecmmmjaa

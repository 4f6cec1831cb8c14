/-
  Walks: New, Next, Bytes of a source.
-/
import Derived.Test.YtcfbaildcocnhaaSc
set_option linter.unusedVariables false
set_option linter.unusedSimpArgs false
namespace Go.Proofs.Ytcfbaildcocnhaa
open Go.RowKit

/-! ### a struct built of parts -/
theorem fold_put (off : Nat) : ∀ (A : List Value) (k : Nat) (cells : Array Value), off + k + A.length ≤ cells.size →
    ((A.zipIdx k).foldl (fun cs (x : Value × Nat) => cs.setIfInBounds (off + x.2) x.1) cells).toList = cells.toList.take (off + k) ++ (A ++ cells.toList.drop (off + k + A.length))
  | [], k, cells, _ => by simp
  | a :: A, k, cells, h => by
    simp only [List.length_cons] at h
    rw [List.zipIdx_cons, List.foldl_cons, fold_put off A (k + 1) _ (by simp; omega)]
    simp only [Array.toList_setIfInBounds, List.length_cons]
    have hlen : off + k < cells.toList.length := by simp; omega
    have e1 : List.take (off + (k + 1)) (cells.toList.set (off + k) a) = cells.toList.take (off + k) ++ [a] := by
      rw [show off + (k + 1) = (off + k) + 1 from by omega, List.take_set, List.take_add_one]
      rw [List.set_append_right _ _ (by simp; omega)]
      have : (off + k) - (cells.toList.take (off + k)).length = 0 := by simp; omega
      rw [this, List.getElem?_eq_getElem hlen]
      rfl
    have e2 : List.drop (off + (k + 1) + A.length) (cells.toList.set (off + k) a) = cells.toList.drop (off + k + (A.length + 1)) := by
      rw [List.drop_set_of_lt (by omega)]
      congr 1
      omega
    rw [e1, e2, List.append_assoc]
    rfl
theorem fill_step (place : Nat → Option (Nat × Nat)) (cells : Array Value) (i off size : Nat) (v : Value) (rest : List (Nat × Value)) (hp : place i = some (off, size)) (hv : v.cells.size = size) (hf : off + size ≤ cells.size) :
    Instr.fill place cells ((i, v) :: rest) = Instr.fill place (cells.toList.take off ++ (v.cells.toList ++ cells.toList.drop (off + size))).toArray rest := by
  have hfp := fold_put off v.cells.toList 0 cells (by rw [Array.length_toList, hv]; omega)
  rw [Array.length_toList, hv, Nat.add_zero] at hfp
  have hfp2 : v.cells.zipIdx.foldl (fun cs (x : Value × Nat) => cs.setIfInBounds (off + x.2) x.1) cells = (cells.toList.take off ++ (v.cells.toList ++ cells.toList.drop (off + size))).toArray := by
    rw [← hfp, ← Array.foldl_toList, Array.toList_zipIdx]
  conv => lhs; unfold Instr.fill
  rw [hp]
  simp only [hv]
  rw [if_neg (by simp; omega)]
  exact congrArg (fun c => Instr.fill place c rest) hfp2
theorem wpList_buildE {P : Program} {ops : Array Oper} {rest : List Oper} {o : Oper} {a : Act} {w : World} {Q : Exit → Act → World → Prop} (hg : o.guard = none) (t : TypeId) (parts : Array (Nat × Operand)) (ho : o.op = .build t parts)
    (cells : Array Value) (hc : P.built t (parts.map fun (i, x) => (i, a.eval x)).toList = some cells) (h : wpList P ops Q rest (a.put o.dst (.agg cells)) w) : wpList P ops Q (o :: rest) a w :=
  wpList_build hg t parts ho (by rw [hc]; rfl) (by rw [hc]; exact h)
/-- A new source's cells. -/
def SN (ks : List Int) : Array Value := (SRl ks 0 none [] 0).toArray
theorem SN_eq (ks : List Int) : SN ks = (SRl ks 0 none [] 0).toArray := rfl
attribute [irreducible] SN
def Z34 : List Value := List.replicate 32 (Value.int .u8 0) ++ [.int .u64 0, .slice none 0 0]
theorem built102 (parts : List (Nat × Value)) : Try.prog.built 102 parts = Instr.fill (fun i => (#[(0, 32), (32, 1), (33, 1)] : Array (Nat × Nat))[i]?) Z34.toArray parts := by kernel_rfl
theorem fill_SN (ks : List Int) (hk : ks.length = 32) :
    Instr.fill (fun i => (#[(0, 32), (32, 1), (33, 1)] : Array (Nat × Nat))[i]?) Z34.toArray [(0, .agg (AY .u8 ks))] = some (SN ks) := by
  have hc : (Value.agg (AY .u8 ks)).cells.toList = ks.map (Value.int .u8) := by rw [AY_cells, AY_eq]
  rw [fill_step _ _ 0 0 32 _ _ rfl (by rw [AY_cells, AY_size, hk]) (by decide)]
  unfold Instr.fill
  rw [SN_eq, hc]
  congr 1

set_option maxRecDepth 100000 in
set_option maxHeartbeats 4000000 in
theorem new_any (ks : List Int) (w : World) (hk : ks.length = 32) :
    Calls Try.prog 25 #[.agg (AY .u8 ks)] w fun e w' => ∃ S, e = .returned (.pointer (some ⟨S, 0, none⟩)) ∧ w.heap.size ≤ S ∧ Src w' S ks 0 ∧ Below w.heap.size w w' := by
  have I53 : Hid ((Try.prog.info? 53).map (·.size) = some (AY .u8 ks).size) := Lib.hid (by rw [info31, AY_size, hk])
  have HBD : Hid (Try.prog.built 102 [(0, .agg (AY .u8 ks))] = some (SN ks)) := Lib.hid (by rw [built102, fill_SN ks hk])
  clear hk
  go_enter Try.func25, Try.ntmps25
  go_upto_region 1 with fail
  generalize hG : w.heap.size = G
  generalize hW2 : w.alloc _ = w2
  have K2 : Hid (w2.heap[G]? = some (.cells (AY .u8 ks) 53 (0, 0))) := Lib.hid (blk_AY (by rw [← hW2]; exact AY_new_at .u8 w 53 ks hG.symm))
  have F2 : Hid (Below G w w2) := Lib.hid (by rw [← hW2]; exact (Below.refl _ w).alloc (by omega) _)
  have HGE := Lib.hid hG
  clear hG hW2
  go_wp2_with (first
    | (show wpList _ _ _ ({ dst := some 3, op := _, type := _, pos := _, after := _, guard := _ } :: _) _ _; refine wpList_load_row rfl 53 _ rfl G rfl 53 (AY .u8 ks) (0, 0) _ K2.out Try.underlying53 rfl I53.out ?_)
    | (show wpList _ _ _ ({ dst := some 4, op := _, type := _, pos := _, after := _, guard := _ } :: _) _ _; refine wpList_buildE rfl 102 _ rfl (SN ks) (by simp only [List.map_toArray, List.map_cons, List.map_nil]; exact HBD.out) ?_))
  go_ret
  have hlt := (Array.getElem?_eq_some_iff.1 K2.out).1
  exact ⟨w2.heap.size, rfl, by rw [HGE.out]; omega, ⟨none, 0, 0, [], by rw [SN_eq]; exact Blk.new w2 102 _, .inl ⟨rfl, rfl, rfl⟩, .inl rfl⟩, by rw [HGE.out]; exact F2.out.alloc (by omega) _⟩

/-- The number that eight bytes are. -/
def numN (ks : List Int) (p : Nat) : Nat := leV (rowL ks p 8) 8
theorem numN_lt (ks : List Int) (p : Nat) : numN ks p < 18446744073709551616 := leV_lt (rowL_B8 ks p 8) 8
theorem next_any (S : Nat) (ks : List Int) (p : Nat) (w : World) (hs : Src w S ks p) (hk : ks.length = 32) (bk : B8 ks) :
    Calls Try.prog 28 #[.pointer (some ⟨S, 0, none⟩)] w fun e w' => e = .returned (.int .u64 (numN ks p : Nat)) ∧ Src w' S ks (p + 8) ∧ Fr (fun b => b = S) w w' := by
  have HT : Hid (Calls Try.prog 63 #[.pointer (some ⟨S, 0, none⟩), .int .i64 8] w fun e w' => ∃ v, e = .returned v ∧ Own w' w.heap.size 5 .u8 v (rowL ks p 8) ∧ Src w' S ks (p + 8) ∧ Fr (fun b => b = S) w w') := Lib.hid (take_any S 8 ks p w hs hk bk (by omega))
  clear hs
  go_enter Try.func28, Try.ntmps28
  go_wp2_with fail
  refine HT.out.mono ?_
  rintro e w1 ⟨v, rfl, ho, hs1, hf⟩
  obtain ⟨A, c, rfl, -, -, hr, -⟩ := ho.slice
  rw [rowL_len]
  have HL : Hid (∀ W, Rd W .u8 A (rowL ks p 8) → Calls Try.prog 62 #[.slice A 8 c] W fun e w' => e = .returned (.tuple #[.int .u64 (numN ks p : Nat), .int .i64 0]) ∧ w' = W) := Lib.hid (fun W h => by
    have h2 := little64_any A 8 c (rowL ks p 8) W (rowL_len _ _ _).symm h (rowL_B8 _ _ _)
    have e1 : litR (rowL ks p 8) 8 8 = numN ks p := by unfold litR numN; rw [if_pos rfl]
    have e2 : errR 8 8 = 0 := by decide
    rw [e1, e2] at h2
    exact h2)
  have HR := Lib.hid hr
  have HS1 := Lib.hid hs1
  have HF := Lib.hid hf
  clear ho hs1 hf hr HT
  go_wp2_with fail
  refine (HL.out w1 HR.out).mono ?_
  rintro e w2 ⟨rfl, hw⟩
  obtain rfl : w1 = w2 := hw.symm
  go_wp2_with fail
  go_ret
  exact ⟨rfl, HS1.out, HF.out⟩
theorem bytes_some (S n : Nat) (ks : List Int) (p : Nat) (w : World) (hs : Src w S ks p) (hk : ks.length = 32) (bk : B8 ks) (h1 : 1 ≤ n) (h2 : n ≤ 1048576) :
    Calls Try.prog 35 #[.pointer (some ⟨S, 0, none⟩), .int .i64 (n : Int)] w fun e w' => ∃ v, e = .returned v ∧ Own w' w.heap.size 5 .u8 v (rowL ks p n) ∧ Src w' S ks (p + n) ∧ Fr (fun b => b = S) w w' := by
  have HT := Lib.hid (take_any S n ks p w hs hk bk (by omega))
  clear hs
  have d1 : decide ((n : Int) < 1) = false := by simp; omega
  have d2 : decide (1048576 < (n : Int)) = false := by simp; omega
  have d3 : ¬ n = 0 := by omega
  go_enter Try.func35, Try.ntmps35
  go_wp2_with fail
  refine HT.out.mono ?_
  rintro e w1 ⟨v, rfl, ho⟩
  have HO := Lib.hid ho
  clear ho
  go_wp2_with fail
  go_ret
  exact ⟨v, rfl, HO.out⟩
theorem bytes_none (A : Option Addr) (n : Int) (w : World) (h : A = none ∨ n < 1 ∨ 1048576 < n) :
    Calls Try.prog 35 #[.pointer A, .int .i64 n] w fun e w' => e = .returned (.slice none 0 0) ∧ w' = w := by
  rcases h with rfl | h | h
  · go_enter Try.func35, Try.ntmps35
    go_wp2_with fail
    go_ret
    exact ⟨rfl, rfl⟩
  · cases A
    · go_enter Try.func35, Try.ntmps35
      go_wp2_with fail
      go_ret
      exact ⟨rfl, rfl⟩
    · have d1 : decide (n < 1) = true := by simpa using h
      go_enter Try.func35, Try.ntmps35
      go_wp2_with fail
      go_ret
      exact ⟨rfl, rfl⟩
  · cases A
    · go_enter Try.func35, Try.ntmps35
      go_wp2_with fail
      go_ret
      exact ⟨rfl, rfl⟩
    · have d1 : decide (n < 1) = false := by simp; omega
      have d2 : decide (1048576 < n) = true := by simpa using h
      go_enter Try.func35, Try.ntmps35
      go_wp2_with fail
      go_ret
      exact ⟨rfl, rfl⟩
end Go.Proofs.Ytcfbaildcocnhaa

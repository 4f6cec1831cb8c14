/-
  Words of a state: plain.
-/
import Derived.Test.YtcfbaildcocnhaaQr
import Derived.Test.YtcfbaildcocnhaaKv
import Derived.Test.YtcfbaildcocnhaaRow
import Derived.Laws.Rows
import Derived.LoopTactic
import Derived.Deep.Cut
set_option linter.unusedVariables false
set_option linter.unusedSimpArgs false
namespace Go.Proofs.Ytcfbaildcocnhaa
open Go.RowKit

/-- Words as cells. -/
def U (L : List Nat) : List Value := L.map (fun x : Nat => Value.int .u32 (x : Int))
def A16 (L : List Nat) : Array Value := (U L).toArray
theorem A16_size (L : List Nat) : (A16 L).size = L.length := by simp [A16, U]
theorem A16_eq (L : List Nat) : A16 L = (U L).toArray := rfl
theorem blk_A16 {w : World} {g T : Nat} {L : List Nat} (h : Blk w g T (U L)) : w.heap[g]? = some (.cells (A16 L) T (0, 0)) := h
theorem A16_blk {w : World} {T : Nat} {L : List Nat} : Blk (w.alloc (.cells (A16 L) T)) w.heap.size T (U L) := Blk.new w T (U L)
theorem A16_cells (L : List Nat) : (Value.agg (A16 L)).cells = A16 L := rfl
theorem A16_one (L : List Nat) : (A16 L).all (·.oneCell') = true := by simp [A16, U, Array.all_eq_true]; intros; rfl
attribute [irreducible] A16
structure W16 (L : List Nat) : Prop where
  len : L.length = 16
  lt : ∀ i, L.getD i 0 < 4294967296
def qst (L : List Nat) (i b c d : Nat) : List Nat :=
  let q := quarter ⟨L.getD i 0, L.getD b 0, L.getD c 0, L.getD d 0⟩
  (((L.set i q.a).set b q.b).set c q.c).set d q.d
def step2 (L : List Nat) (k : Nat) : List Nat := qst L (k % 4) (4 + (k % 4 + k / 4) % 4) (8 + (k % 4 + 2 * (k / 4)) % 4) (12 + (k % 4 + 3 * (k / 4)) % 4)
def twTo (L : List Nat) (k : Nat) : List Nat := (List.range k).foldl step2 L
/-- Two rounds. -/
def tw8 (L : List Nat) : List Nat := twTo L 8
theorem tw8_eq (L : List Nat) : tw8 L = twTo L 8 := rfl
theorem twTo_succ (L : List Nat) (k : Nat) : twTo L (k + 1) = step2 (twTo L k) k := by simp [twTo, List.range_succ]
theorem nat_getD_set (l : List Nat) (i j x : Nat) : (l.set i x).getD j 0 = if i = j ∧ j < l.length then x else l.getD j 0 := by
  rw [List.getD_eq_getElem?_getD, List.getElem?_set, List.getD_eq_getElem?_getD]
  by_cases h : i = j
  · subst h
    by_cases h2 : i < l.length
    · simp [h2]
    · simp [h2]
  · simp [h]
theorem W16.set {L : List Nat} (h : W16 L) (i x : Nat) (hx : x < 4294967296) : W16 (L.set i x) := ⟨by rw [List.length_set]; exact h.len, fun j => by
  rw [nat_getD_set]
  split
  · exact hx
  · exact h.lt j⟩
theorem quarter_ok {q : Q4} (h : q.ok) : (quarter q).ok := half_ok (half_ok h 16 12 (.inl rfl) (.inr (.inl rfl))) 8 7 (.inr (.inr (.inl rfl))) (.inr (.inr (.inr rfl)))
theorem W16.qst {L : List Nat} (h : W16 L) (i b c d : Nat) : W16 (qst L i b c d) := by
  have hq := quarter_ok (q := ⟨L.getD i 0, L.getD b 0, L.getD c 0, L.getD d 0⟩) ⟨h.lt _, h.lt _, h.lt _, h.lt _⟩
  exact (((h.set _ _ hq.1).set _ _ hq.2.1).set _ _ hq.2.2.1).set _ _ hq.2.2.2
theorem W16.tw {L : List Nat} (h : W16 L) : ∀ k, W16 (twTo L k)
  | 0 => h
  | k + 1 => by rw [twTo_succ]; exact (h.tw k).qst _ _ _ _
theorem U_at {w : World} {g T : Nat} {L : List Nat} (h : Blk w g T (U L)) (i : Nat) (hi : i < L.length) : w.cell? ⟨g, i, none⟩ = some (.int .u32 ((L.getD i 0 : Nat) : Int)) := by
  rw [h.cell i]
  unfold U
  rw [List.getElem?_map, List.getD_eq_getElem?_getD, List.getElem?_eq_getElem hi]
  rfl
theorem U_set {w : World} {g T : Nat} {L : List Nat} (h : Blk w g T (U L)) (i x : Nat) : Blk (w.setCell ⟨g, i, none⟩ (.int .u32 (x : Int))) g T (U (L.set i x)) := by
  have := Blk.set h i (.int .u32 (x : Int))
  unfold U at this ⊢
  rw [List.map_set]
  exact this
theorem info77 : (Try.prog.info? 125).map (·.size) = some 16 := by kernel_rfl

theorem W16.tw8 {L : List Nat} (h : W16 L) : W16 (tw8 L) := h.tw 8
attribute [irreducible] tw8
end Go.Proofs.Ytcfbaildcocnhaa

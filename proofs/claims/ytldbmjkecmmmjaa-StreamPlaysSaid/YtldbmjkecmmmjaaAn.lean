/-
  What a stream's Xor answers, in one form for refused and laid texts.
-/
import Derived.Test.YtldbmjkecmmmjaaX1
import Derived.Test.YtldbmjkecmmmjaaXr
set_option linter.unusedVariables false
set_option linter.unusedSimpArgs false
namespace Go.Proofs.Ytldbmjkecmmmjaa
open Go.RowKit

def ansL (ks ns : List Int) (p : Nat) (xs : List Int) : List Int := if xs.length ≤ 274877906944 - p then lay ks ns p xs else []
def ansE (p n : Nat) : Int := if n ≤ 274877906944 - p then 0 else 50
def plc (p n : Nat) : Nat := if n ≤ 274877906944 - p then p + n else p
theorem ansL_le (ks ns : List Int) (p : Nat) (xs : List Int) : (ansL ks ns p xs).length ≤ xs.length := by
  unfold ansL
  split
  · rw [lay_len]; exact Nat.le_refl _
  · exact Nat.zero_le _
theorem ansL_B8 {ks ns : List Int} {p : Nat} {xs : List Int} (h : B8 xs) : B8 (ansL ks ns p xs) := by
  unfold ansL
  split
  · exact lay_B8 h
  · exact B8.of (fun _ h => by simp at h)
theorem plc_le {p n : Nat} (h : p ≤ 274877906944) : plc p n ≤ 274877906944 := by unfold plc; split <;> omega
def xorA (T : Nat) (ks ns : List Int) (p : Nat) (xs : List Int) (g : Nat) (kd : IntKind) (w : World) (e : Ending) (w' : World) : Prop :=
  ∃ v, e = .returned (.tuple #[v, .int kd (ansE p xs.length)]) ∧ Own w' w.heap.size 5 .u8 v (ansL ks ns p xs) ∧ Blk w' g T (SGl ks ns (plc p xs.length)) ∧ Fr (fun j => j = g) w w'
theorem xorV.ans {T : Nat} {ks ns : List Int} {p : Nat} {xs : List Int} {g : Nat} {kd : IntKind} {w : World} (hg : Blk w g T (SGl ks ns p)) {e : Ending} {w' : World} (h : xorV T ks ns p xs g kd w e w') : xorA T ks ns p xs g kd w e w' := by
  unfold xorA ansL ansE plc
  rcases h with ⟨h1, rfl, rfl⟩ | ⟨h1, v, rfl, ho, hb, hf⟩
  · rw [if_neg (by omega), if_neg (by omega), if_neg (by omega)]
    exact ⟨_, rfl, Own.nil _ _ _ _, hg, Fr.refl _ _⟩
  · rw [if_pos h1, if_pos h1, if_pos h1]
    exact ⟨v, rfl, ho, hb, hf⟩
def xor1A (ks ns : List Int) (p : Nat) (xs : List Int) (w : World) (e : Ending) (w' : World) : Prop :=
  ∃ v, e = .returned (.tuple #[v, .int .i64 (ansE p xs.length)]) ∧ Own w' w.heap.size 5 .u8 v (ansL ks ns p xs) ∧ Below w.heap.size w w'
theorem xor1V.ans {ks ns : List Int} {p : Nat} {xs : List Int} {w : World} {e : Ending} {w' : World} (h : xor1V ks ns p xs w e w') : xor1A ks ns p xs w e w' := by
  unfold xor1A ansL ansE
  rcases h with ⟨h1, rfl, hb⟩ | ⟨h1, v, rfl, ho, hb⟩
  · rw [if_neg (by omega), if_neg (by omega)]
    exact ⟨_, rfl, Own.nil _ _ _ _, hb⟩
  · rw [if_pos h1, if_pos h1]
    exact ⟨v, rfl, ho, hb⟩
theorem wpList_load_AY {ops : Array Oper} {rest : List Oper} {o : Oper} {a : Act} {w : World} {Q : Exit → Act → World → Prop} (hgd : o.guard = none) (ty : TypeId) (x : Operand) (ho : o.op = .load ty x)
    (b off : Nat) (hx : a.eval x = .pointer (some ⟨b, off, none⟩)) (k : IntKind) (L : List Int) (d : TypeDesc) (hc : w.rangeAt b off (L.map (Value.int k)))
    (hu : Try.prog.underlying ty = some d) (hd : d.isRow = true) (hi : (Try.prog.info? ty).map (·.size) = some L.length)
    (h : wpList Try.prog ops Q rest (a.put o.dst (.agg (AY k L))) w) : wpList Try.prog ops Q (o :: rest) a w := by
  refine wpList_load_mid hgd ty x ho b off hx _ d hc hu hd (by rw [List.length_map]; exact hi) ?_
  rw [← AY_eq]
  exact h
theorem Lent.set {w : World} {g c : Nat} {xs : List Int} {rest : List Value} (h : Lent w g c xs rest) {k : Nat} (hk : k < xs.length) (y : Int) : Lent (w.setCell ⟨g, k, none⟩ (.int .u8 y)) g c (xs.set k y) rest := by
  refine ⟨?_, by rw [List.length_set]; exact h.len, h.max⟩
  have := h.blk.set k (.int .u8 y)
  unfold ltL at this ⊢
  rw [List.map_append, List.append_assoc, List.set_append_left _ _ (by simpa using hk), ← List.map_set] at this
  rw [List.map_append, List.append_assoc]
  exact this
theorem Lent.drewN {w : World} {g c : Nat} {xs : List Int} {rest : List Value} (h : Lent w g c xs rest) (q : Nat) : Lent (w.drewN q) g c xs rest := ⟨h.blk, h.len, h.max⟩
theorem B8.set {xs : List Int} (h : B8 xs) (k : Nat) {y : Int} (hy : 0 ≤ y ∧ y ≤ 255) : B8 (xs.set k y) := fun i => by
  rw [List.getD_eq_getElem?_getD, List.getElem?_set]
  by_cases e : k = i
  · rw [if_pos e]
    split
    · exact hy
    · exact ⟨by decide, by decide⟩
  · rw [if_neg e, ← List.getD_eq_getElem?_getD]; exact h i
theorem own_rd {w : World} {base T : Nat} {k : IntKind} {A : Option Addr} {n c : Nat} {xs : List Int} (h : Own w base T k (.slice A n c) xs) : Rd w k A xs ∧ n = xs.length := by
  obtain ⟨A', c', e, _, _, r, _⟩ := h.slice
  injection e with e1 e2 _
  subst e1 e2
  exact ⟨r, rfl⟩
end Go.Proofs.Ytldbmjkecmmmjaa

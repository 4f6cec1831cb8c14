/-
  What the second form's bound gives: the length of what comes in.
-/
import Derived.Test.YtpglocgfdonmaaaRows
import Derived.Test.YtpglocgfdonmaaaOpn
set_option linter.unusedVariables false
namespace Go.Proofs.Ytpglocgfdonmaaa
open Go.ChangeShapes Go.WideShapes Go.ChangeAt Go.RowKit

theorem bulk_one {H : Type} (d : DataW H) : 1 ≤ Rows.uptoBulk d := by
  cases d with
  | lit l => cases l <;> simp [Rows.uptoBulk]
  | nil => simp [Rows.uptoBulk]
  | ptr d => simp [Rows.uptoBulk]
  | slice elems spare => simp [Rows.uptoBulk]
  | agg parts => simp [Rows.uptoBulk]
  | iface t d => simp [Rows.uptoBulk]
  | map entries => simp [Rows.uptoBulk]
  | held h => simp [Rows.uptoBulk]
theorem bulk_part {H : Type} {d : DataW H} {l : List (DataW H)} (h : d ∈ l) : Rows.uptoBulk d ≤ Rows.uptoBulkAll l := by
  induction l with
  | nil => cases h
  | cons x r ih =>
    simp only [Rows.uptoBulkAll]
    cases List.mem_cons.1 h with
    | inl e => subst e; omega
    | inr e => have := ih e; omega
theorem bulk_length {H : Type} (l : List (DataW H)) : l.length ≤ Rows.uptoBulkAll l := by
  induction l with
  | nil => simp [Rows.uptoBulkAll]
  | cons x r ih => have := bulk_one x; simp only [Rows.uptoBulkAll, List.length_cons]; omega
theorem bulk_slice {H : Type} (elems spare : List (DataW H)) : elems.length + spare.length + 1 ≤ Rows.uptoBulk (.slice elems spare) := by
  have h1 := bulk_length elems
  have h2 := bulk_length spare
  simp only [Rows.uptoBulk]
  omega
theorem bulk_elem {H : Type} {elems spare : List (DataW H)} {d : DataW H} (h : d ∈ elems) : Rows.uptoBulk d ≤ Rows.uptoBulk (.slice elems spare) := by
  have h1 := bulk_part h
  simp only [Rows.uptoBulk]
  omega
theorem bulk_field {H : Type} {parts : List (DataW H)} {d : DataW H} (h : d ∈ parts) : Rows.uptoBulk d ≤ Rows.uptoBulk (.agg parts) := by
  have h1 := bulk_part h
  simp only [Rows.uptoBulk]
  omega
theorem bulk_string {H : Type} (bytes : List UInt8) : Rows.uptoBulk (DataW.lit (H := H) (.string bytes)) = bytes.length + 1 := by
  simp [Rows.uptoBulk]
theorem bulk_all {H : Type} {l : List (DataW H)} (hk : Rows.uptoSmall H l = true) : Rows.uptoBulkAll l ≤ 1048576 := of_decide_eq_true hk
theorem bulk_of {H : Type} {l : List (DataW H)} (hk : Rows.uptoSmall H l = true) (j : Nat) {d : DataW H} (hd : l[j]? = some d) : Rows.uptoBulk d ≤ 1048576 :=
  Nat.le_trans (bulk_part (List.mem_of_getElem? hd)) (bulk_all hk)
/-- A row of whole numbers, and its room against its bulk. -/
theorem row_of_trodu {H : Type} {enc : TypeId × Value → H} {P : Program} {W : World} {b0 : Nat} {held : Bool} {t e : TypeId} {k : IntKind} {v : Value} {y : DataW H × List MemPlace} {fuel : Nat}
    (hu : P.underlying t = some (.slice e)) (he : P.underlying e = some (.int k)) (hc : P.cellsOf e = 1)
    (hf : DataW.trod enc P W b0 (fun _ => true) held fuel t [v] = some y) :
    ∃ A c xs, v = .slice A (xs : List Int).length c ∧ Rd W k A xs ∧ Fit k xs ∧ xs.length ≤ c ∧ c ≤ maxLen ∧ c ≤ Rows.uptoBulk y.1 := by
  rcases open_ints hu he hc hf with ⟨hcs, _⟩ | ⟨x, l, c, zs, hcs, _, hl, hm, hz, hx, hcell, hwz⟩
  · obtain rfl : v = .slice none 0 0 := by simpa using hcs
    exact ⟨none, 0, [], rfl, Rd.nil _ _ _, (fun x h => by simp at h), by simp, by decide, by omega⟩
  · obtain rfl : v = .slice (some x) l c := by simpa using hcs
    subst hx
    have hz' : zs.length = c := by simpa using hz
    have hb := bulk_slice (lits (H := H) k (zs.take l)) (lits (H := H) k (zs.drop l))
    have h1 : (lits (H := H) k (zs.take l)).length + (lits (H := H) k (zs.drop l)).length = zs.length := by
      simp [lits]
      omega
    have hlen : (zs.take l).length = l := by simp; omega
    refine ⟨some x, c, zs.take l, by rw [hlen], ?_, fun y hy => hwz y (List.mem_of_mem_take hy), by omega, hm, by show c ≤ Rows.uptoBulk (DataW.slice (lits (H := H) k (zs.take l)) (lits (H := H) k (zs.drop l))); omega⟩
    obtain ⟨b, off, spot⟩ := x
    refine Rd.take (xs := zs) ?_ l
    intro i hi
    have h0 := hcell i hi
    have hspot : spot = none := by
      have := World.cell?_spot (hcell 0 (by omega))
      simpa [Addr.add] using this
    subst hspot
    refine ⟨b, off, rfl, ?_⟩
    rw [← h0]
    by_cases hi0 : i = 0
    · subst hi0; simp [Addr.add]
    · simp [Addr.add, hi0]
theorem open_rowu {H : Type} {enc : TypeId × Value → H} {P : Program} {W : World} {base b0 : Nat} {r : Reach} {held : Bool} {t e : TypeId} {k : IntKind} {v : Value} {d : DataW H} {ps : List MemPlace}
    (hu : P.underlying t = some (.slice e)) (he : P.underlying e = some (.int k)) (hc : P.cellsOf e = 1)
    (o : Value.okWide P W r base t v) (h : DataW.Trod enc P W b0 (fun _ => true) held t v d ps) :
    ∃ A c xs, v = .slice A (xs : List Int).length c ∧ Rd W k A xs ∧ Fit k xs ∧ xs.length ≤ c ∧ c ≤ maxLen ∧ c ≤ Rows.uptoBulk d := by
  obtain ⟨A, len, cap, rfl⟩ := okWide_slice hu o
  obtain ⟨fuel, hf⟩ := h
  exact row_of_trodu (y := (d, ps)) hu he hc (by simpa [Value.cells] using hf)
end Go.Proofs.Ytpglocgfdonmaaa

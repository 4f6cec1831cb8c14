/-
  What a row's reader hands in: rows of whole numbers, structs, and what their weight allows. No program in sight.
-/
import Derived.Test.YtcfbaildcocnhaaMem
import Derived.ProofKit
import Derived.SizedLaws
import Derived.ChangeSlices
import Derived.OpenShut
set_option linter.unusedVariables false
namespace Go.Proofs.Ytcfbaildcocnhaa
open Go.ChangeShapes Go.WideShapes Go.ChangeAt Go.RowKit

/-- Each element is a number of the kind. -/
def Fit (k : IntKind) (xs : List Int) : Prop := ∀ x ∈ xs, (Lit.int k x).wf = true
theorem Fit.u8 {xs : List Int} (h : Fit .u8 xs) (i : Nat) : 0 ≤ xs.getD i 0 ∧ xs.getD i 0 ≤ 255 := by
  by_cases hi : i < xs.length
  · have := h (xs[i]) (List.getElem_mem hi)
    simp [List.getD, hi]
    simpa [Lit.wf, IntKind.min, IntKind.max, IntKind.signed, IntKind.bits] using this
  · simp [List.getD, Nat.le_of_not_lt hi]

/-- No part of it is heavier than the row's reach. -/
def Light {H : Type} (P : Program) (t : TypeId) (d : DataW H) : Prop := ∀ n ∈ d.weights P t, n ≤ reachBytes
theorem Light.of_each {H : Type} {P : Program} {ts : List TypeId} {ds : List (DataW H)} (hsz : (DataW.weightsEach P ts ds).all (· ≤ reachBytes) = true) (j : Nat) {t : TypeId} {d : DataW H} (hj : ts[j]? = some t) (hd : ds[j]? = some d) : Light P t d :=
  fun n hn => by simpa using List.all_eq_true.1 hsz n (DataW.weights_mem_each hj hd n hn)
theorem Light.field {H : Type} {P : Program} {t : TypeId} {fs : Array Field} {parts : List (DataW H)} (hs : P.underlying t = some (.struct fs)) (h : Light P t (.agg parts)) {i : Nat} {f : Field} {d : DataW H} (hf : fs[i]? = some f) (hd : parts[i]? = some d) : Light P f.type d := by
  intro n hn
  refine h n ?_
  simp only [DataW.weights, hs]
  exact DataW.weights_mem_each (by simp [hf]) hd n hn
theorem weightsAll_mem {H : Type} {P : Program} {e : TypeId} : ∀ {l : List (DataW H)} {d : DataW H}, d ∈ l → ∀ n ∈ d.weights P e, n ∈ DataW.weightsAll P e l
  | d' :: r, d, hd, n, hn => by
    simp only [DataW.weightsAll, List.mem_append]
    rcases List.mem_cons.1 hd with rfl | h
    · exact Or.inl hn
    · exact Or.inr (weightsAll_mem h n hn)
theorem Light.elem {H : Type} {P : Program} {t e : TypeId} {elems spare : List (DataW H)} (hs : P.underlying t = some (.slice e)) (h : Light P t (.slice elems spare)) {d : DataW H} (hd : d ∈ elems) : Light P e d := by
  intro n hn
  refine h n ?_
  simp only [DataW.weights, hs, List.mem_cons, List.mem_append]
  exact Or.inr (Or.inl (weightsAll_mem hd n hn))
theorem Light.len {H : Type} {P : Program} {t e : TypeId} {elems spare : List (DataW H)} (hs : P.underlying t = some (.slice e)) (h : Light P t (.slice elems spare)) : (elems.length + spare.length) * P.bytesOf e ≤ reachBytes :=
  h _ (by simp [DataW.weights, hs])

/-- A row of whole numbers, one cell. -/
theorem row_of_trod {H : Type} {enc : TypeId × Value → H} {P : Program} {W : World} {b0 : Nat} {held : Bool} {t e : TypeId} {k : IntKind} {v : Value} {y : DataW H × List MemPlace} {fuel : Nat}
    (hu : P.underlying t = some (.slice e)) (he : P.underlying e = some (.int k)) (hc : P.cellsOf e = 1) {B : Nat} (hB : P.bytesOf e = B)
    (hf : DataW.trod enc P W b0 (fun _ => true) held fuel t [v] = some y) (L : Light P t y.1) :
    ∃ A c xs, v = .slice A (xs : List Int).length c ∧ Rd W k A xs ∧ Fit k xs ∧ xs.length * B ≤ 140737488351232 := by
  rcases open_ints hu he hc hf with ⟨hcs, _⟩ | ⟨x, l, c, zs, hcs, _, hl, hm, hz, hx, hcell, hwz⟩
  · obtain rfl : v = .slice none 0 0 := by simpa using hcs
    exact ⟨none, 0, [], rfl, Rd.nil _ _ _, (fun x h => by simp at h), by simp⟩
  · obtain rfl : v = .slice (some x) l c := by simpa using hcs
    subst hx
    have z := L.len hu
    rw [hB] at z
    have hz' : zs.length = c := by simpa using hz
    have h1 : (lits (H := H) k (zs.take l)).length + (lits (H := H) k (zs.drop l)).length = zs.length := by
      simp [lits]
      omega
    rw [h1] at z
    have hlen : (zs.take l).length = l := by simp; omega
    refine ⟨some x, c, zs.take l, by rw [hlen], ?_, fun y hy => hwz y (List.mem_of_mem_take hy), Nat.le_trans (Nat.mul_le_mul_right _ (by simp; omega)) z⟩
    obtain ⟨b, off, spot⟩ := x
    refine Rd.take (xs := zs) ?_ l
    intro i hi
    have h0 := hcell i hi
    have hspot : spot = none := by
      have := World.cell?_spot (hcell 0 (by omega))
      simpa [Addr.add] using this
    subst hspot
    refine ⟨b, off, rfl, ?_⟩
    rw [← h0]
    by_cases hi0 : i = 0
    · subst hi0; simp [Addr.add]
    · simp [Addr.add, hi0]

theorem open_row {H : Type} {enc : TypeId × Value → H} {P : Program} {W : World} {base b0 : Nat} {r : Reach} {held : Bool} {t e : TypeId} {k : IntKind} {v : Value} {d : DataW H} {ps : List MemPlace} {ts : List TypeId} {ds : List (DataW H)}
    (j : Nat) (hsz : (DataW.weightsEach P ts ds).all (· ≤ reachBytes) = true) (hj : ts[j]? = some t) (hd : ds[j]? = some d) (hu : P.underlying t = some (.slice e)) (he : P.underlying e = some (.int k)) (hc : P.cellsOf e = 1) {B : Nat} (hB : P.bytesOf e = B)
    (o : Value.okWide P W r base t v) (h : DataW.Trod enc P W b0 (fun _ => true) held t v d ps) :
    ∃ A c xs, v = .slice A (xs : List Int).length c ∧ Rd W k A xs ∧ Fit k xs ∧ xs.length * B ≤ 140737488351232 := by
  obtain ⟨A, len, cap, rfl⟩ := okWide_slice hu o
  obtain ⟨fuel, hf⟩ := h
  exact row_of_trod (y := (d, ps)) hu he hc hB (by simpa [Value.cells] using hf) (Light.of_each hsz j hj hd)

/-- The same, with the row's capacity. -/
theorem row_of_trodc {H : Type} {enc : TypeId × Value → H} {P : Program} {W : World} {b0 : Nat} {held : Bool} {t e : TypeId} {k : IntKind} {v : Value} {y : DataW H × List MemPlace} {fuel : Nat}
    (hu : P.underlying t = some (.slice e)) (he : P.underlying e = some (.int k)) (hc : P.cellsOf e = 1) {B : Nat} (hB : P.bytesOf e = B)
    (hf : DataW.trod enc P W b0 (fun _ => true) held fuel t [v] = some y) (L : Light P t y.1) :
    ∃ A c xs, v = .slice A (xs : List Int).length c ∧ Rd W k A xs ∧ Fit k xs ∧ xs.length * B ≤ 140737488351232 ∧ xs.length ≤ c ∧ c ≤ maxLen := by
  rcases open_ints hu he hc hf with ⟨hcs, _⟩ | ⟨x, l, c, zs, hcs, _, hl, hm, hz, hx, hcell, hwz⟩
  · obtain rfl : v = .slice none 0 0 := by simpa using hcs
    exact ⟨none, 0, [], rfl, Rd.nil _ _ _, (fun x h => by simp at h), by simp, by simp, by decide⟩
  · obtain rfl : v = .slice (some x) l c := by simpa using hcs
    subst hx
    have z := L.len hu
    rw [hB] at z
    have hz' : zs.length = c := by simpa using hz
    have h1 : (lits (H := H) k (zs.take l)).length + (lits (H := H) k (zs.drop l)).length = zs.length := by
      simp [lits]
      omega
    rw [h1] at z
    have hlen : (zs.take l).length = l := by simp; omega
    refine ⟨some x, c, zs.take l, by rw [hlen], ?_, fun y hy => hwz y (List.mem_of_mem_take hy), Nat.le_trans (Nat.mul_le_mul_right _ (by simp; omega)) z, by omega, hm⟩
    obtain ⟨b, off, spot⟩ := x
    refine Rd.take (xs := zs) ?_ l
    intro i hi
    have h0 := hcell i hi
    have hspot : spot = none := by
      have := World.cell?_spot (hcell 0 (by omega))
      simpa [Addr.add] using this
    subst hspot
    refine ⟨b, off, rfl, ?_⟩
    rw [← h0]
    by_cases hi0 : i = 0
    · subst hi0; simp [Addr.add]
    · simp [Addr.add, hi0]

theorem open_rowc {H : Type} {enc : TypeId × Value → H} {P : Program} {W : World} {base b0 : Nat} {r : Reach} {held : Bool} {t e : TypeId} {k : IntKind} {v : Value} {d : DataW H} {ps : List MemPlace} {ts : List TypeId} {ds : List (DataW H)}
    (j : Nat) (hsz : (DataW.weightsEach P ts ds).all (· ≤ reachBytes) = true) (hj : ts[j]? = some t) (hd : ds[j]? = some d) (hu : P.underlying t = some (.slice e)) (he : P.underlying e = some (.int k)) (hc : P.cellsOf e = 1) {B : Nat} (hB : P.bytesOf e = B)
    (o : Value.okWide P W r base t v) (h : DataW.Trod enc P W b0 (fun _ => true) held t v d ps) :
    ∃ A c xs, v = .slice A (xs : List Int).length c ∧ Rd W k A xs ∧ Fit k xs ∧ xs.length * B ≤ 140737488351232 ∧ xs.length ≤ c ∧ c ≤ maxLen := by
  obtain ⟨A, len, cap, rfl⟩ := okWide_slice hu o
  obtain ⟨fuel, hf⟩ := h
  exact row_of_trodc (y := (d, ps)) hu he hc hB (by simpa [Value.cells] using hf) (Light.of_each hsz j hj hd)

/-- A struct by value: its cells, and each field's reading. -/
theorem open_struct {H : Type} {enc : TypeId × Value → H} {P : Program} {W : World} {base b0 : Nat} {r : Reach} {held : Bool} {spare : Nat → Bool} {t : TypeId} {fs : Array Field} {v : Value} {d : DataW H} {ps : List MemPlace}
    (hs : P.underlying t = some (.struct fs)) (o : Value.okWide P W r base t v) (h : DataW.Trod enc P W b0 spare held t v d ps) :
    ∃ (cs : Array Value) (xs : List (DataW H × List MemPlace)) (n : Nat), v = .agg cs ∧ cs.size = P.cellsOf t ∧ d = .agg (xs.map (·.1)) ∧ xs.length = fs.size ∧
      ∀ (i : Nat) (f : Field), fs[i]? = some f → DataW.trod enc P W b0 spare held n f.type ((cs.toList.drop f.offset).take (P.cellsOf f.type)) = xs[i]? := by
  obtain ⟨cs, rfl, hsz⟩ := okWide_struct hs o
  obtain ⟨fuel, hf⟩ := h
  obtain ⟨xs, n, _, hx, _, hl, hf'⟩ := DataW.trod_struct hs hf
  exact ⟨cs, xs, n, rfl, hsz, (Prod.mk.inj hx).1, hl, hf'⟩

/-! ### arrays of whole numbers -/
theorem okWide_array {P : Program} {w : World} {r : Reach} {base : Nat} {t : TypeId} {v : Value} {n : Nat} {e : TypeId} (ht : P.underlying t = some (.array n e)) (h : Value.okWide P w r base t v) : ∃ cs, v = .agg cs ∧ cs.size = P.cellsOf t := by
  simp only [Value.okWide, ht] at h
  obtain ⟨cs, h1, h2, _⟩ := h
  exact ⟨cs, h1, h2⟩
def numv : Value → Int
  | .int _ z => z
  | _ => 0
theorem ints_of_array {H : Type} {enc : TypeId × Value → H} {P : Program} {W : World} {b0 : Nat} {held : Bool} {spare : Nat → Bool} {t e : TypeId} {k : IntKind} {n fuel : Nat} {cs : List Value} {x : DataW H × List MemPlace}
    (ht : P.underlying t = some (.array n e)) (he : P.underlying e = some (.int k)) (hc : P.cellsOf e = 1) (hC : P.cellsOf t = n) (h : DataW.trod enc P W b0 spare held fuel t cs = some x) :
    ∃ zs : List Int, cs = zs.map (Value.int k) ∧ zs.length = n ∧ Fit k zs := by
  obtain ⟨xs, m, _, _, hl, hxl, hf⟩ := DataW.trod_array ht h
  rw [hC] at hl
  have each : ∀ i (hi : i < cs.length), ∃ z, cs[i] = .int k z ∧ (Lit.int k z).wf = true := by
    intro i hi
    have h1 := hf i (by omega)
    have ht1 : List.take 1 (List.drop i cs) = [cs[i]] := by rw [List.drop_eq_getElem_cons hi]; rfl
    rw [hc, Nat.mul_one, ht1, List.getElem?_eq_getElem (by omega)] at h1
    obtain ⟨z, h2, _, h3⟩ := DataW.trod_int he h1
    exact ⟨z, (List.cons.inj h2).1, h3⟩
  refine ⟨cs.map numv, ?_, by simp; omega, ?_⟩
  · apply List.ext_getElem
    · simp
    · intro i h1 h2
      obtain ⟨z, hz, _⟩ := each i h1
      simp [hz, numv]
  · intro y hy
    obtain ⟨v, hv, rfl⟩ := List.mem_map.1 hy
    obtain ⟨i, hi, rfl⟩ := List.getElem_of_mem hv
    obtain ⟨z, hz, hw⟩ := each i hi
    rw [hz]; exact hw
/-- An array of whole numbers by value. -/
theorem open_array {H : Type} {enc : TypeId × Value → H} {P : Program} {W : World} {base b0 : Nat} {r : Reach} {held : Bool} {spare : Nat → Bool} {t e : TypeId} {k : IntKind} {n : Nat} {v : Value} {d : DataW H} {ps : List MemPlace}
    (ht : P.underlying t = some (.array n e)) (he : P.underlying e = some (.int k)) (hc : P.cellsOf e = 1) (hC : P.cellsOf t = n) (o : Value.okWide P W r base t v) (h : DataW.Trod enc P W b0 spare held t v d ps) :
    ∃ zs : List Int, v = .agg (zs.map (Value.int k)).toArray ∧ zs.length = n ∧ Fit k zs := by
  obtain ⟨cs, rfl, hsz⟩ := okWide_array ht o
  obtain ⟨fuel, hf⟩ := h
  obtain ⟨zs, h1, h2, h3⟩ := ints_of_array ht he hc hC hf
  refine ⟨zs, ?_, h2, h3⟩
  rw [← h1]; simp [Value.cells]
end Go.Proofs.Ytcfbaildcocnhaa

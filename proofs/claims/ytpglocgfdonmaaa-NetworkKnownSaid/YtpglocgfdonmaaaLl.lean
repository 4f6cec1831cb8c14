/-
  Walk: the law NetworkLayers.
-/
import Derived.Test.YtpglocgfdonmaaaLd
import Derived.Test.YtpglocgfdonmaaaSh
set_option linter.unusedVariables false
set_option linter.unusedSimpArgs false
namespace Go.Proofs.Ytpglocgfdonmaaa
open Go.RowKit Go.Shelf

/-- The places met in the first k gates of a row. -/
def metG (r : List (Int × Int)) (k j : Nat) : Value := .bool (decide (∃ x ∈ r.take k, x.1 = (j : Int) ∨ x.2 = (j : Int)))
theorem metG_no {r : List (Int × Int)} (hp : r.Pairwise (fun x y => x.1 ≠ y.1 ∧ x.1 ≠ y.2 ∧ x.2 ≠ y.1 ∧ x.2 ≠ y.2)) {k a b : Nat} (hk : r[k]? = some ((a : Int), (b : Int))) : metG r k a = .bool false ∧ metG r k b = .bool false := by
  have hlt := (List.getElem?_eq_some_iff.1 hk).1
  have hall : ∀ x ∈ r.take k, x.1 ≠ (a : Int) ∧ x.1 ≠ (b : Int) ∧ x.2 ≠ (a : Int) ∧ x.2 ≠ (b : Int) := fun x hx => by
    obtain ⟨j, hj, rfl⟩ := List.getElem_of_mem hx
    rw [List.length_take] at hj
    have := List.pairwise_iff_getElem.1 hp j k (by omega) hlt (by omega)
    rw [List.getElem_take]
    have e : r[k] = ((a : Int), (b : Int)) := (List.getElem?_eq_some_iff.1 hk).2
    rw [e] at this
    exact this
  unfold metG
  constructor
  · congr 1
    rw [decide_eq_false_iff_not]
    rintro ⟨x, hx, h⟩
    have := hall x hx
    omega
  · congr 1
    rw [decide_eq_false_iff_not]
    rintro ⟨x, hx, h⟩
    have := hall x hx
    omega
theorem metG_set {r : List (Int × Int)} {n k a b : Nat} (hk : r[k]? = some ((a : Int), (b : Int))) (ha : a < n) (hb : b < n) :
    (((List.range n).map (metG r k)).set a (.bool true)).set b (.bool true) = (List.range n).map (metG r (k + 1)) := by
  apply List.ext_getElem?
  intro j
  rw [List.getElem?_set, List.getElem?_set, List.length_set, List.getElem?_map, List.getElem?_map, List.length_map, List.length_range]
  have hx : ∀ j, metG r (k + 1) j = .bool (decide ((∃ x ∈ r.take k, x.1 = (j : Int) ∨ x.2 = (j : Int)) ∨ a = j ∨ b = j)) := fun j => by
    unfold metG
    rw [List.take_add_one, hk]
    congr 1
    apply decide_eq_decide.2
    simp only [Option.toList_some, List.mem_append, List.mem_singleton]
    constructor
    · rintro ⟨x, hx | rfl, h⟩
      · exact .inl ⟨x, hx, h⟩
      · exact .inr (by omega)
    · rintro (⟨x, hx, h⟩ | h)
      · exact ⟨x, .inl hx, h⟩
      · exact ⟨_, .inr rfl, by omega⟩
  rcases Nat.lt_or_ge j n with h | h
  · rw [List.getElem?_range h]
    by_cases h2 : b = j
    · subst h2; rw [if_pos rfl, if_pos hb]; simp only [Option.map_some, hx]; congr 2; simp
    · rw [if_neg h2]
      by_cases h1 : a = j
      · subst h1; rw [if_pos rfl, if_pos ha]; simp only [Option.map_some, hx]; congr 2; simp
      · rw [if_neg h1]
        simp only [Option.map_some, hx]
        unfold metG
        congr 2
        apply decide_eq_decide.2
        simp [h1, h2]
  · rw [if_neg (by omega), if_neg (by omega)]
    simp [h]
/-- What is written into row i. -/
def brw (i q : Nat) : List (Int × Int) := (List.range q).map fun k => (-((i : Nat) : Int), ((k : Nat) : Int))
theorem brw_len (i q : Nat) : (brw i q).length = q := by simp [brw]
theorem brw_at (i q k : Nat) (h : k < q) : (brw i q).getD k (0, 0) = (-((i : Nat) : Int), ((k : Nat) : Int)) := by simp [brw, h]
def mixR (i k : Nat) (r : List (Int × Int)) : List (Int × Int) := brw i k ++ r.drop k
theorem mixR_zero (i : Nat) (r : List (Int × Int)) : mixR i 0 r = r := by simp [mixR, brw]
theorem mixR_all (i : Nat) (r : List (Int × Int)) : mixR i r.length r = brw i r.length := by simp [mixR]
theorem mixR_len (i k : Nat) (r : List (Int × Int)) (h : k ≤ r.length) : (mixR i k r).length = r.length := by simp [mixR, brw]; omega
theorem mixR_set (i k : Nat) (r : List (Int × Int)) (h : k < r.length) : (mixR i k r).set k (-((i : Nat) : Int), ((k : Nat) : Int)) = mixR i (k + 1) r := by
  unfold mixR
  rw [List.set_append_right _ _ (by rw [brw_len]; exact Nat.le_refl _), brw_len, Nat.sub_self, List.drop_eq_getElem_cons h, List.set_cons_zero]
  unfold brw
  rw [List.range_succ, List.map_append, List.append_assoc]
  rfl
theorem flat_set : ∀ (xs : List (Int × Int)) (i : Nat) (y : Int × Int), i < xs.length → ((flat xs).set (i * 2) (.int .i64 y.1)).set (i * 2 + 1) (.int .i64 y.2) = flat (xs.set i y)
  | [], i, y, h => by simp at h
  | x :: xs, 0, y, h => by simp [flat]
  | x :: xs, i + 1, y, h => by
    have := flat_set xs i y (by simpa using h)
    rw [show (i + 1) * 2 = i * 2 + 2 from by omega, show i * 2 + 2 + 1 = i * 2 + 1 + 2 from by omega]
    simpa [flat] using this
theorem OwnP.setAt {w : World} {base T g n c : Nat} {xs : List (Int × Int)} (h : OwnP w base T (.slice (some ⟨g, 0, none⟩) n c) xs) {k : Nat} (hk : k < xs.length) (y : Int × Int) :
    OwnP ((w.setCell ⟨g, k * 2, none⟩ (.int .i64 y.1)).setCell ⟨g, k * 2 + 1, none⟩ (.int .i64 y.2)) base T (.slice (some ⟨g, 0, none⟩) n c) (xs.set k y) := by
  rcases h.form with ⟨h1, h2⟩ | ⟨g', c', rest, he, hb, hB, hc, hm⟩
  · rw [h2] at hk; simp at hk
  · injection he with h1 h2 h3
    injection h1 with h1
    injection h1 with h1
    subst h1 h2 h3
    have hs := (Blk.set hB (k * 2) (.int .i64 y.1)).set (k * 2 + 1) (.int .i64 y.2)
    rw [List.set_append_left _ _ (by rw [flat_len]; omega), List.set_append_left _ _ (by rw [List.length_set, flat_len]; omega), flat_set xs k y hk] at hs
    have := OwnP.mk (xs := xs.set k y) hb hs (by simpa using hc) hm
    rwa [List.length_set] at this
theorem OwnP.cells {w : World} {base T : Nat} {v : Value} {xs : List (Int × Int)} (h : OwnP w base T v xs) {k : Nat} (hk : k < xs.length) :
    ∃ g c, v = .slice (some ⟨g, 0, none⟩) xs.length c ∧ w.cell? ⟨g, k * 2, none⟩ = some (.int .i64 (xs.getD k (0, 0)).1) ∧ w.cell? ⟨g, k * 2 + 1, none⟩ = some (.int .i64 (xs.getD k (0, 0)).2) ∧ (∀ j, w.frozen? ⟨g, j, none⟩ = false) := by
  rcases h.form with ⟨h1, h2⟩ | ⟨g, c, rest, he, hb, hB, hc, hm⟩
  · rw [h2] at hk; simp at hk
  · obtain ⟨e0, e1⟩ := flat_at xs k hk
    refine ⟨g, c, he, ?_, ?_, fun j => hB.frozen j⟩
    · rw [hB.cell, List.getElem?_append_left (by rw [flat_len]; omega)]; exact e0
    · rw [hB.cell, List.getElem?_append_left (by rw [flat_len]; omega)]; exact e1
/-- Rows in blocks of their own, what each holds told by a function. -/
structure RwP (w : World) (base : Nat) (ov : Value) (m : Nat) (cs : List Value) (R : Nat → List (Int × Int)) : Prop where
  ov_ : OwnV w base 32 ov cs
  len : cs.length = m
  row : ∀ i, i < m → OwnP w base 38 (cs.getD i undef) (R i)
  dis : ∀ i j, i < m → j < m → i ≠ j → ∀ g, (cs.getD i undef).ownBlock = some g → (cs.getD j undef).ownBlock ≠ some g
theorem LayE.toR {w : World} {base : Nat} {ov : Value} {rows : List (List (Int × Int))} {cs : List Value} (h : LayE w base ov rows cs) : RwP w base ov rows.length cs (fun i => rows.getD i []) := ⟨h.ov_, h.len, h.row, h.dis⟩
theorem RwP.fr {S : Nat → Prop} {w w' : World} {base : Nat} {ov : Value} {m : Nat} {cs : List Value} {R : Nat → List (Int × Int)} (h : RwP w base ov m cs R) (hf : Fr S w w') (h1 : ∀ g, ov.ownBlock = some g → ¬ S g) (h2 : ∀ i, i < m → ∀ g, (cs.getD i undef).ownBlock = some g → ¬ S g) : RwP w' base ov m cs R :=
  ⟨h.ov_.fr hf h1, h.len, fun i hi => (h.row i hi).fr hf (h2 i hi), h.dis⟩
theorem RwP.below {w w' : World} {base : Nat} {ov : Value} {m : Nat} {cs : List Value} {R : Nat → List (Int × Int)} (h : RwP w base ov m cs R) (hb : Below w.heap.size w w') : RwP w' base ov m cs R := h.fr (S := fun _ => False) (Fr.of_below hb _) (fun _ _ h => h) (fun _ _ _ _ h => h)
/-- One gate of one row written. -/
theorem RwP.setAt {w : World} {base : Nat} {ov : Value} {m : Nat} {cs : List Value} {R : Nat → List (Int × Int)} (h : RwP w base ov m cs R) {i k g n c : Nat} (hi : i < m) (hv : cs.getD i undef = .slice (some ⟨g, 0, none⟩) n c) (hk : k < (R i).length) (y : Int × Int) {R' : Nat → List (Int × Int)} (hR : R' i = (R i).set k y) (hRo : ∀ j, j ≠ i → R' j = R j) :
    RwP ((w.setCell ⟨g, k * 2, none⟩ (.int .i64 y.1)).setCell ⟨g, k * 2 + 1, none⟩ (.int .i64 y.2)) base ov m cs R' := by
  have hg : (cs.getD i undef).ownBlock = some g := by rw [hv]; rfl
  have hf : Fr (fun b => b = g) w ((w.setCell ⟨g, k * 2, none⟩ (.int .i64 y.1)).setCell ⟨g, k * 2 + 1, none⟩ (.int .i64 y.2)) := ((Fr.refl (fun b => b = g) w).setCell (p := ⟨g, k * 2, none⟩) (.inl rfl) _).setCell (p := ⟨g, k * 2 + 1, none⟩) (.inl rfl) _
  refine ⟨h.ov_.fr hf (fun g' hg' e => own_ne (h.row i hi) h.ov_ g hg (e ▸ hg')), h.len, fun j hj => ?_, h.dis⟩
  by_cases hij : j = i
  · subst hij
    rw [hR, hv]
    have := h.row j hj
    rw [hv] at this
    exact this.setAt hk y
  · rw [hRo j hij]
    exact (h.row j hj).fr hf (fun g' hg' e => h.dis i j hi hj (Ne.symm hij) g hg (e ▸ hg'))
/-- A row's head, read. -/
theorem RwP.head {w : World} {base : Nat} {ov : Value} {m : Nat} {cs : List Value} {R : Nat → List (Int × Int)} (h : RwP w base ov m cs R) : ∃ A c, ov = .slice A m c ∧ ∀ i, i < m → ∃ b off, A = some ⟨b, off, none⟩ ∧ b < w.heap.size ∧ base ≤ b ∧ ∃ a c', cs.getD i undef = .slice a (R i).length c' ∧ w.cell? ⟨b, off + i, none⟩ = some (.slice a (R i).length c') := by
  obtain ⟨A, c, hv, -, -, hr, hab⟩ := h.ov_.slice
  refine ⟨A, c, by rw [hv, h.len], fun i hi => ?_⟩
  obtain ⟨b, off, hA, hc⟩ := hr i (by rw [h.len]; exact hi)
  obtain ⟨a, c', hv', -⟩ := (h.row i hi).slice
  have hc2 : w.cell? ⟨b, off + i, none⟩ = some (.slice a (R i).length c') := by
    rw [hc, ← hv', List.getD_eq_getElem?_getD, List.getElem?_eq_getElem (by rw [h.len]; exact hi)]
    rfl
  exact ⟨b, off, hA, World.block_lt_of_cell? w _ hc2, (h.ov_.base_le (g := b) (by rw [hv, hA]; rfl)).1, a, c', hv', hc2⟩

theorem RdP.fr {S : Nat → Prop} {w w' : World} {A : Option Addr} {xs : List (Int × Int)} (h : RdP w A xs) (hf : Fr S w w') (hS : ∀ a, A = some a → ¬ S a.block) : RdP w' A xs := fun i hi => by
  obtain ⟨b, off, hA, hlt, h0, h1⟩ := h i hi
  have hb := hf.block b hlt (hS _ hA)
  exact ⟨b, off, hA, Nat.lt_of_lt_of_le hlt hf.size, (World.cell?_of_block (w := w) (w' := w') hb).trans h0, (World.cell?_of_block (w := w) (w' := w') hb).trans h1⟩
theorem RdP.pre {w : World} {A : Option Addr} {xs ys : List (Int × Int)} (h : RdP w A (xs ++ ys)) : RdP w A xs := fun i hi => by
  obtain ⟨b, off, hA, hlt, h0, h1⟩ := h i (by rw [List.length_append]; omega)
  have e : (xs ++ ys).getD i (0, 0) = xs.getD i (0, 0) := by rw [List.getD_eq_getElem?_getD, List.getD_eq_getElem?_getD, List.getElem?_append_left hi]
  rw [e] at h0 h1
  exact ⟨b, off, hA, hlt, h0, h1⟩
/-- What is fixed about the rows' blocks. -/
structure Fix (mid : Nat) (ov : Value) (m : Nat) (cs : List Value) : Prop where
  up : ∀ j, j < m → ∀ g, (cs.getD j undef).ownBlock = some g → g < mid
  upo : ∀ g, ov.ownBlock = some g → g < mid
  dis : ∀ i j, i < m → j < m → i ≠ j → ∀ g, (cs.getD i undef).ownBlock = some g → (cs.getD j undef).ownBlock ≠ some g
  ndo : ∀ i, i < m → ∀ g, (cs.getD i undef).ownBlock = some g → ov.ownBlock ≠ some g
  hd : ∀ i, i < m → ∀ a, adr (cs.getD i undef) = some a → ∃ g, a = ⟨g, 0, none⟩ ∧ (cs.getD i undef).ownBlock = some g
theorem RwP.fix {w : World} {base mid : Nat} {ov : Value} {m : Nat} {cs : List Value} {R : Nat → List (Int × Int)} (h : RwP w base ov m cs R) (h1 : ∀ j, j < m → ∀ g, (cs.getD j undef).ownBlock = some g → g < mid) (h2 : ∀ g, ov.ownBlock = some g → g < mid) : Fix mid ov m cs :=
  ⟨h1, h2, h.dis, fun i hi g hg => own_ne (h.row i hi) h.ov_ g hg, fun i hi a ha => by
    rcases (h.row i hi).form with ⟨h3, -⟩ | ⟨g, c, rest, h3, -⟩
    · rw [h3] at ha; cases ha
    · rw [h3] at ha ⊢; cases ha; exact ⟨g, rfl, rfl⟩⟩
/-- What is known while row i is gone on with. -/
structure CIn (lo mid : Nat) (ov : Value) (m : Nat) (cs : List Value) (Ls : Nat → Nat) (i : Nat) (gv : Value) (e : List (Int × Int)) (W : World) : Prop where
  ov_ : OwnV W lo 32 ov cs
  rd : ∀ j, j < m → RdP W (adr (cs.getD j undef)) (brw j (Ls j))
  row : ∀ j, i < j → j < m → OwnP W lo 38 (cs.getD j undef) (brw j (Ls j))
  gr : OwnP W lo 38 gv (brw i (Ls i) ++ e)
  ow : ∀ g, gv.ownBlock = some g → (cs.getD i undef).ownBlock = some g ∨ mid ≤ g
theorem CIn.step {lo mid : Nat} {ov : Value} {m : Nat} {cs : List Value} {Ls : Nat → Nat} {i : Nat} {gv gv' : Value} {e : List (Int × Int)} {W W' : World} {x : Int × Int} (h : CIn lo mid ov m cs Ls i gv e W) (hF : Fix mid ov m cs) (hi : i < m) (hmid : mid ≤ W.heap.size)
    (ho : OwnP W' lo 38 gv' (brw i (Ls i) ++ e ++ [x])) (hp : Pushed W W' gv gv') : CIn lo mid ov m cs Ls i gv' (e ++ [x]) W' ∧ Fr (fun b => (cs.getD i undef).ownBlock = some b ∨ mid ≤ b) W W' := by
  have hf := hp.fr
  refine ⟨⟨h.ov_.fr hf (fun g hg e => ?_), fun j hj => ?_, fun j hij hj => (h.row j hij hj).fr hf (fun g hg e => ?_), by rw [← List.append_assoc]; exact ho, fun g hg => ?_⟩, hf.mono (fun g hg => h.ow g hg)⟩
  · rcases h.ow g e with h1 | h1
    · exact hF.ndo i hi g h1 hg
    · have := hF.upo g hg; omega
  · by_cases hji : j = i
    · subst hji
      rcases hp with ⟨g, n, c, h1, h2, h3⟩ | ⟨g, n, c, h1, h2, h3⟩
      · by_cases hsame : (cs.getD j undef).ownBlock = some g
        · by_cases hnil : adr (cs.getD j undef) = none
          · intro k hk
            obtain ⟨b, off, hA, -⟩ := h.rd j hj k hk
            rw [hnil] at hA; cases hA
          · obtain ⟨a, ha⟩ := Option.ne_none_iff_exists'.1 hnil
            obtain ⟨g', rfl, hg'⟩ := hF.hd j hj a ha
            rw [hsame] at hg'
            injection hg' with hg'
            subst hg'
            obtain ⟨A', c', hv, hr⟩ := ho.slice
            rw [h2] at hv
            injection hv with q1 q2 q3
            rw [ha, q1]
            exact (RdP.pre (RdP.pre hr))
        · exact (h.rd j hj).fr h3 (fun a ha e => by
            obtain ⟨g', rfl, hg'⟩ := hF.hd j hj a ha
            dsimp only at e
            subst e
            exact hsame hg')
      · exact (h.rd j hj).fr h3 (fun a ha e => e)
    · exact (h.rd j hj).fr hf (fun a ha e => by
        obtain ⟨g', rfl, hg'⟩ := hF.hd j hj a ha
        rcases h.ow g' e with h1 | h1
        · exact hF.dis i j hi hj (Ne.symm hji) g' h1 hg'
        · have := hF.up j hj g' hg'; omega)
  · rcases h.ow g e with h1 | h1
    · exact hF.dis i j hi hj (by omega) g h1 hg
    · have := hF.up j hj g hg; omega
  · rcases pushed_own hp hg with h1 | h1
    · exact h.ow g h1
    · exact .inr (by omega)
def ext (i k : Nat) : List (Int × Int) := (List.range k).map fun q => (900 + ((i : Nat) : Int), ((q : Nat) : Int))
theorem ext_succ (i k : Nat) : ext i (k + 1) = ext i k ++ [(900 + ((i : Nat) : Int), ((k : Nat) : Int))] := by simp [ext, List.range_succ]
theorem ext_len (i k : Nat) : (ext i k).length = k := by simp [ext]

set_option maxRecDepth 100000 in
set_option maxHeartbeats 16000000 in
theorem layers_law (N : Int) (w : World) (hN : R64 N) : Calls Try.prog 7 #[.int .i64 N] w fun e w' => e = .returned (.bool true) ∧ Below w.heap.size w w' := by
  have HRL := Lib.hid (fun W => rlayers_any N W)
  have HPL := Lib.hid (fun W => layers_any N W)
  have HLN := Lib.hid (gates_len N).2
  have HH : Hid (∀ i, i < (layersF N).length → 2 * (((layersF N).getD i []).length : Int) = N ∧ 0 < ((layersF N).getD i []).length) := Lib.hid (fun i hi => row_half (by rw [List.getD_eq_getElem?_getD, List.getElem?_eq_getElem hi]; simp))
  have HAP : Hid (∀ i, i < (layersF N).length → ((layersF N).getD i []).Pairwise (fun x y => x.1 ≠ y.1 ∧ x.1 ≠ y.2 ∧ x.2 ≠ y.1 ∧ x.2 ≠ y.2)) := Lib.hid (fun i hi => row_apart (N := N) (by rw [List.getD_eq_getElem?_getD, List.getElem?_eq_getElem hi]; simp))
  have HIN : Hid (∀ i, i < (layersF N).length → ∀ x ∈ (layersF N).getD i [], ∃ a b n : Nat, N = n ∧ x = ((a : Int), (b : Int)) ∧ a < n ∧ b < n ∧ a ≠ b) := Lib.hid (fun i hi x hx => row_in (N := N) (by rw [List.getD_eq_getElem?_getD, List.getElem?_eq_getElem hi]; simp) hx)
  have HSZ : Hid (0 < (layersF N).length → ∃ n : Nat, N = n ∧ n ≤ 65536) := Lib.hid (fun h => by
    have h1 : sizeB N = true := by
      cases h2 : sizeB N
      · rw [layers_no h2] at h; simp at h
      · rfl
    have := size_range h1
    exact ⟨N.toNat, by omega, by omega⟩)
  generalize layersF N = rows at *
  go_enter Try.func7, Try.ntmps7
  go_wp2_with fail
  refine (HRL.out w).mono ?_
  rintro e wA ⟨v0, rfl, ho, hb⟩
  obtain ⟨A0, c0, rfl, hr0⟩ := ho.rd
  have R0 := Lib.hid hr0
  have BA := Lib.hid hb
  clear ho hb hr0
  go_wp2_with fail
  refine (HPL.out wA).mono ?_
  rintro e wB ⟨v1, cs, rfl, ho, hb⟩
  have E1 := Lib.hid ho
  have BB := Lib.hid hb
  obtain ⟨A1, c1, rfl, -⟩ := ho.rd
  clear ho hb
  go_wp2_with fail
  refine (HPL.out wB).mono ?_
  rintro e wC ⟨v2, cs2, rfl, ho, hb⟩
  have E2 := Lib.hid ho
  have BC := Lib.hid hb
  obtain ⟨A2, c2, rfl, hr2⟩ := ho.rd
  have R2 := Lib.hid hr2
  clear ho hb hr2 HRL HPL
  have HMR : Hid (∀ i, i < rows.length → (rows.getD i []).length ≤ 4000000) := Lib.hid (fun i hi => by
    obtain ⟨n, hn, hn6⟩ := HSZ.out (by omega)
    have := (HH.out i hi).1
    omega)
  have hml : rows.length ≤ 4000000 := by have := HLN.out; omega
  have R0C : Hid (RdL wC A0 rows) := Lib.hid (R0.out.below (BB.out.trans (BC.out.mono BB.out.size)))
  have E1C : Hid (RwP wC wA.heap.size (.slice A1 rows.length c1) rows.length cs (fun i => rows.getD i [])) := Lib.hid (E1.out.toR.below BC.out)
  have R1C : Hid (RdL wC A1 rows) := Lib.hid (by
    obtain ⟨A', c', hv, hr⟩ := E1.out.rd
    injection hv with h1 h2 h3
    subst h1
    exact hr.below BC.out)
  have HUB : Hid (∀ i, i < rows.length → ∀ g, (cs.getD i undef).ownBlock = some g → wA.heap.size ≤ g ∧ g < wB.heap.size) := Lib.hid (fun i hi g hg => (E1.out.row i hi).base_le hg)
  have HUO : Hid (∀ g, (Value.slice A1 rows.length c1).ownBlock = some g → wA.heap.size ≤ g ∧ g < wB.heap.size) := Lib.hid (fun g hg => E1.out.ov_.base_le hg)
  have LS : Hid (w.heap.size ≤ wA.heap.size ∧ wA.heap.size ≤ wB.heap.size ∧ wB.heap.size ≤ wC.heap.size) := Lib.hid ⟨BA.out.size, BB.out.size, BC.out.size⟩
  clear E1
  go_wp2_with fail
  refine (same_rows A1 A0 _ _ c1 c0 rows wC rfl rfl R1C.out R0C.out hml HMR.out).mono ?_
  rintro e wD ⟨rfl, FD⟩
  go_wp2_with fail
  refine (same_rows A2 A0 _ _ c2 c0 rows wD rfl rfl (R2.out.below FD.out) (R0C.out.below FD.out) hml HMR.out).mono ?_
  rintro e wE ⟨rfl, FE⟩
  have FCE : Hid (Below wC.heap.size wC wE) := Lib.hid (FD.out.trans (FE.out.mono FD.out.size))
  clear FD FE R1C
  go_wp2_with fail
  refine (gates8 wE).mono ?_
  rintro e wF ⟨rfl, hw⟩
  obtain rfl : wE = wF := hw.symm
  have RF : Hid (Fr (fun b => wA.heap.size ≤ b ∧ b < wB.heap.size) wC wE) := Lib.hid (Fr.of_below FCE.out _)
  have E1F : Hid (RwP wE wA.heap.size (.slice A1 rows.length c1) rows.length cs (fun i => rows.getD i [])) := Lib.hid (E1C.out.below FCE.out)
  clear FCE E1C
  obtain ⟨m, hm⟩ : ∃ m, m = rows.length := ⟨_, rfl⟩
  have HM := Lib.hid hm
  rw [← hm] at E1F hml HUB HUO ⊢
  clear hm
  go_wp2_with fail
  go_loopw [6] (fun iv wr => ∃ i : Nat, iv = .int .i64 (i : Int) ∧ i ≤ m ∧ Hid (Below wE.heap.size wE wr)) (fun iv _ => m - (intOf iv).toNat)
  case atStart => exact ⟨0, rfl, by omega, Lib.hid (Below.refl _ _)⟩
  case round =>
    obtain ⟨i, rfl, hi, HB⟩ := hrel
    by_cases hlt : i < m
    · obtain ⟨n, hNn, hn6⟩ := HSZ.out (by rw [← HM.out]; omega)
      subst hNn
      have hhf := HH.out i (by rw [← HM.out]; exact hlt)
      have HPW := Lib.hid (HAP.out i (by rw [← HM.out]; exact hlt))
      have HXX := Lib.hid (HIN.out i (by rw [← HM.out]; exact hlt))
      obtain ⟨A1', c1', hv1, hhd⟩ := E1F.out.head
      injection hv1 with h1 h2 h3
      subst h1 h3
      obtain ⟨b1, o1, hA1, hb1, -, a1, d1, hcs, hc1⟩ := hhd i hlt
      subst hA1
      have hrow := E1F.out.row i hlt
      rw [hcs] at hrow
      generalize hr : rows.getD i [] = r at *
      clear hr
      obtain ⟨a1', d1', hv2, hrp⟩ := hrow.slice
      injection hv2 with h1 h2 h3
      subst h1
      have hrlen : 0 < r.length := hhf.2
      obtain ⟨e1, f1, he1, hle1, -, -⟩ := hrp 0 hrlen
      subst he1
      have HRP := Lib.hid hrp
      have HHD : Hid (wE.cell? ⟨b1, o1 + i, none⟩ = some (.slice (some ⟨e1, f1, none⟩) r.length d1) ∧ b1 < wE.heap.size) := Lib.hid ⟨hc1, hb1⟩
      have hq2 : wrap64 (2 * (r.length : Int)) = (n : Int) := by rw [IntWalk.wrap64_in _ (by omega)]; exact hhf.1
      have hlt' : (i : Int) < (m : Int) := by omega
      have m1 : IntKind.i64.wrap ((i : Int) + 1) = ((i + 1 : Nat) : Int) := by rw [IntKind.wrap_i64] <;> omega
      have k59 := run_make_blk (P := Try.prog) 59 4 (.bool false) 1 Try.underlying59 info4 rfl n (by omega) (by omega)
      have HQ : Hid (∀ wx, Below wE.heap.size wE wx → wx.cell? ⟨b1, o1 + i, none⟩ = some (.slice (some ⟨e1, f1, none⟩) r.length d1)) := Lib.hid (fun wx hx => (hx.cell (p := ⟨b1, o1 + i, none⟩) hb1).trans hc1)
      have HRL : Hid (r.length ≤ 65536) := Lib.hid (by have := hhf.1; omega)
      clear hhd hcs hc1 hrow hrp hle1 hhf
      have HM0 : Hid (Blk (wr.alloc (.cells (Array.replicate n (.bool false)) 4)) wr.heap.size 4 ((List.range n).map (metG r 0))) := Lib.hid (by
        have h := Blk.new wr 4 (List.replicate n (Value.bool false))
        rw [List.toArray_replicate] at h
        have e : (List.range n).map (metG r 0) = List.replicate n (Value.bool false) := by
          apply List.ext_getElem?
          intro j
          rw [List.getElem?_map, List.getElem?_replicate]
          rcases Nat.lt_or_ge j n with h | h
          · simp [h, metG]
          · simp [Nat.not_lt.2 h]
        rw [e]
        exact h)
      have HBM : Hid (Below wE.heap.size wE (wr.alloc (.cells (Array.replicate n (.bool false)) 4))) := Lib.hid (HB.out.alloc HB.out.size _)
      have HGM : Hid (wE.heap.size ≤ wr.heap.size ∧ (wr.alloc (.cells (Array.replicate n (.bool false)) 4)).heap.size = wr.heap.size + 1) := Lib.hid ⟨HB.out.size, by simp⟩
      go_upto_region 10 with fail
      clear k59
      generalize wr.alloc (.cells (Array.replicate n (.bool false)) 4) = wM at *
      generalize wr.heap.size = gM at *
      go_wp2_with fail
      go_loopw [8] (fun kv wx => ∃ k : Nat, kv = .int .i64 (k : Int) ∧ k ≤ r.length ∧ Hid (Blk wx gM 4 ((List.range n).map (metG r k))) ∧ Hid (Fr (fun b => b = gM) wM wx)) (fun kv _ => r.length - (intOf kv).toNat)
      case atStart => exact ⟨0, rfl, by omega, HM0, Lib.hid (Fr.refl _ _)⟩
      case round =>
        clear HM0 HB
        obtain ⟨k, rfl, hk, HMB, HMF⟩ := hrel
        have HBX : Hid (Below wE.heap.size wE wr) := Lib.hid (HBM.out.trans (HMF.out.below (B := wE.heap.size) HBM.out.size (fun j hj => by rw [hj]; exact HGM.out.1)))
        have cH : wr.cell? ⟨b1, o1 + i, none⟩ = some (.slice (some ⟨e1, f1, none⟩) r.length d1) := HQ.out wr HBX.out
        by_cases hkl : k < r.length
        · obtain ⟨e', f', hA', hle', y0, y1⟩ := HRP.out k hkl
          injection hA' with hA'
          injection hA' with q1 q2
          subst q1 q2
          obtain ⟨a, b, n', hn', hxe, ha, hb, hab⟩ := HXX.out (r.getD k (0, 0)) (by rw [List.getD_eq_getElem?_getD, List.getElem?_eq_getElem hkl]; simp)
          obtain rfl : n = n' := by omega
          have HRK : Hid (r[k]? = some ((a : Int), (b : Int))) := Lib.hid (by rw [← hxe, List.getD_eq_getElem?_getD, List.getElem?_eq_getElem hkl]; rfl)
          rw [hxe] at y0 y1
          have z0 : wr.cell? ⟨e1, f1 + k * 2, none⟩ = some (.int .i64 (a : Int)) := (HBX.out.cell (p := ⟨e1, f1 + k * 2, none⟩) hle').trans y0
          have z1 : wr.cell? ⟨e1, f1 + k * 2 + 1, none⟩ = some (.int .i64 (b : Int)) := (HBX.out.cell (p := ⟨e1, f1 + k * 2 + 1, none⟩) hle').trans y1
          have hkl' : (k : Int) < (r.length : Int) := by omega
          have m2 : IntKind.i64.wrap ((k : Int) + 1) = ((k + 1 : Nat) : Int) := by have := HRL.out; rw [IntKind.wrap_i64] <;> omega
          have HY : Hid (Blk (wr.alloc (.cells #[.int .i64 (a : Int), .int .i64 (b : Int)] 38)) wr.heap.size 38 [.int .i64 (a : Int), .int .i64 (b : Int)]) := Lib.hid (Blk.new wr 38 [.int .i64 (a : Int), .int .i64 (b : Int)])
          have HMY := Lib.hid (HMB.out.alloc (.cells #[.int .i64 (a : Int), .int .i64 (b : Int)] 38))
          have HFY := Lib.hid (HMF.out.alloc (.cells #[.int .i64 (a : Int), .int .i64 (b : Int)] 38))
          have HGB : Hid (gM < wr.heap.size) := Lib.hid HMB.out.lt
          clear hxe hle' y0 y1 HMB HMF HBX
          go_upto_region 14 with fail
          clear cH z0 z1
          generalize wr.alloc (.cells #[.int .i64 (a : Int), .int .i64 (b : Int)] 38) = wy at *
          generalize wr.heap.size = Bx at *
          have cx0 : wy.cell? ⟨Bx, 0, none⟩ = some (.int .i64 (a : Int)) := HY.out.cell 0
          have cx1 : wy.cell? ⟨Bx, 1, none⟩ = some (.int .i64 (b : Int)) := HY.out.cell 1
          have cma : wy.cell? ⟨gM, a, none⟩ = some (.bool false) := by rw [HMY.out.cell, List.getElem?_map, List.getElem?_range ha]; exact congrArg some (metG_no HPW.out HRK.out).1
          have cmb : wy.cell? ⟨gM, b, none⟩ = some (.bool false) := by rw [HMY.out.cell, List.getElem?_map, List.getElem?_range hb]; exact congrArg some (metG_no HPW.out HRK.out).2
          have fma : wy.frozen? ⟨gM, a, none⟩ = false := HMY.out.frozen a
          have fmb : wy.frozen? ⟨gM, b, none⟩ = false := HMY.out.frozen b
          have HM2 : Hid (Blk ((wy.setCell ⟨gM, a, none⟩ (.bool true)).setCell ⟨gM, b, none⟩ (.bool true)) gM 4 ((List.range n).map (metG r (k + 1)))) := Lib.hid (by
            have h := (Blk.set HMY.out a (.bool true)).set b (.bool true)
            rw [metG_set HRK.out ha hb] at h
            exact h)
          have HF2 : Hid (Fr (fun b => b = gM) wM ((wy.setCell ⟨gM, a, none⟩ (.bool true)).setCell ⟨gM, b, none⟩ (.bool true))) := Lib.hid ((HFY.out.setCell (p := ⟨gM, a, none⟩) (.inl rfl) _).setCell (p := ⟨gM, b, none⟩) (.inl rfl) _)
          have n1 : ¬ Bx = gM := by have := HGB.out; omega
          have n2 : ¬ gM = Bx := fun e => n1 e.symm
          have n3 : ¬ a = b := hab
          have n4 : ¬ b = a := fun e => hab e.symm
          have a0 : ¬ (a : Int) < 0 := by omega
          have b0 : ¬ (b : Int) < 0 := by omega
          have an : (a : Int) < (n : Int) := by omega
          have bn : (b : Int) < (n : Int) := by omega
          have hne : ((a : Int) == (b : Int)) = false := by simp; omega
          clear hab
          go_wp2_with fail
          go_roundw
          case rel => exact ⟨k + 1, by simp, by omega, HM2, HF2⟩
          case measure => simp [intOf]; omega
        · have hge : decide ((k : Int) < (r.length : Int)) = false := by simp; omega
          clear HMB HMF
          go_wp2_with fail
          go_roundw
          case rel => exact ⟨i + 1, by simp, by omega, HBX⟩
          case measure => simp [intOf]; omega
    obtain rfl : m = i := by omega
    have hge : decide ((m : Int) < (m : Int)) = false := by simp
    have E1G : Hid (RwP wr wA.heap.size (.slice A1 m c1) m cs (fun j => if j < 0 then brw j (rows.getD j []).length else rows.getD j [])) := Lib.hid (by
      have h := E1F.out.below HB.out
      refine ⟨h.ov_, h.len, fun j hj => ?_, h.dis⟩
      rw [if_neg (by omega)]
      exact h.row j hj)
    have RG : Hid (Fr (fun b => wA.heap.size ≤ b ∧ b < wB.heap.size) wC wr) := Lib.hid (RF.out.trans (Fr.of_below HB.out _))
    obtain ⟨wG, hwG⟩ : ∃ wG : World, wG = wr := ⟨_, rfl⟩
    subst hwG
    clear E1F RF HB hlt hi
    go_wp2_with fail
    go_loopw [10] (fun iv wx => ∃ i : Nat, iv = .int .i64 (i : Int) ∧ i ≤ m ∧ Hid (RwP wx wA.heap.size (.slice A1 m c1) m cs (fun j => if j < i then brw j (rows.getD j []).length else rows.getD j [])) ∧ Hid (Fr (fun b => wA.heap.size ≤ b ∧ b < wB.heap.size) wC wx)) (fun iv _ => m - (intOf iv).toNat)
    case atStart => exact ⟨0, rfl, by omega, E1G, RG⟩
    case round =>
      clear E1G RG
      obtain ⟨i, rfl, hi, HE, HFX⟩ := hrel
      by_cases hlt : i < m
      · obtain ⟨n, hNn, hn6⟩ := HSZ.out (by rw [← HM.out]; omega)
        subst hNn
        have hhf := HH.out i (by rw [← HM.out]; exact hlt)
        have hlt' : (i : Int) < (m : Int) := by omega
        have m1 : IntKind.i64.wrap ((i : Int) + 1) = ((i + 1 : Nat) : Int) := by rw [IntKind.wrap_i64] <;> omega
        have mneg : IntKind.i64.wrap (-(i : Int)) = -(i : Int) := by rw [IntKind.wrap_i64] <;> omega
        have HRL : Hid ((rows.getD i []).length ≤ 65536) := Lib.hid (by have := hhf.1; omega)
        have HE0 : Hid (RwP wr wA.heap.size (.slice A1 m c1) m cs (fun j => if j < i then brw j (rows.getD j []).length else if j = i then mixR i 0 (rows.getD j []) else rows.getD j [])) := Lib.hid (by
          have h := HE.out
          refine ⟨h.ov_, h.len, fun j hj => ?_, h.dis⟩
          have := h.row j hj
          by_cases h1 : j < i
          · rw [if_pos h1] at this ⊢; exact this
          · rw [if_neg h1] at this ⊢
            by_cases h2 : j = i
            · rw [if_pos h2, h2, mixR_zero, ← h2]; exact this
            · rw [if_neg h2]; exact this)
        clear HE hhf
        obtain ⟨wI, hwI⟩ : ∃ wI : World, wI = wr := ⟨_, rfl⟩
        subst hwI
        go_wp2_with fail
        go_loopw [11] (fun kv wx => ∃ k : Nat, kv = .int .i64 (k : Int) ∧ k ≤ (rows.getD i []).length ∧ Hid (RwP wx wA.heap.size (.slice A1 m c1) m cs (fun j => if j < i then brw j (rows.getD j []).length else if j = i then mixR i k (rows.getD j []) else rows.getD j [])) ∧ Hid (Fr (fun b => wA.heap.size ≤ b ∧ b < wB.heap.size) wC wx)) (fun kv _ => (rows.getD i []).length - (intOf kv).toNat)
        case atStart => exact ⟨0, rfl, by omega, HE0, HFX⟩
        case round =>
          clear HE0 HFX
          obtain ⟨k, rfl, hk, HE, HFX⟩ := hrel
          obtain ⟨A1', c1', hv1, hhd⟩ := HE.out.head
          injection hv1 with h1 h2 h3
          subst h1 h3
          obtain ⟨b1, o1, hA1, hb1, -, a1, d1, hcs, hc1⟩ := hhd i hlt
          subst hA1
          have hRi : (if i < i then brw i (rows.getD i []).length else if i = i then mixR i k (rows.getD i []) else rows.getD i []) = mixR i k (rows.getD i []) := by rw [if_neg (by omega), if_pos rfl]
          have hml2 : (mixR i k (rows.getD i [])).length = (rows.getD i []).length := mixR_len i k _ hk
          have hLn : ((fun j => if j < i then brw j (rows.getD j []).length else if j = i then mixR i k (rows.getD j []) else rows.getD j []) i).length = (rows.getD i []).length := by show (if i < i then brw i (rows.getD i []).length else if i = i then mixR i k (rows.getD i []) else rows.getD i []).length = _; rw [hRi, hml2]
          rw [hLn] at hcs hc1
          by_cases hkl : k < (rows.getD i []).length
          · obtain ⟨g, c', hvg, z0, z1, hfz⟩ := (HE.out.row i hlt).cells (k := k) (by rw [hRi, hml2]; exact hkl)
            rw [hLn] at hvg
            have hvg2 := hcs.symm.trans hvg
            injection hvg2 with q1 q2 q3
            subst q1 q3
            have f0 := hfz (k * 2)
            have f1 := hfz (k * 2 + 1)
            have hgb := HUB.out i hlt g (by rw [hcs]; rfl)
            have HS2 := Lib.hid (HE.out.setAt (i := i) (k := k) hlt hcs (by rw [hRi, hml2]; exact hkl) (-(i : Int), (k : Int)) (R' := fun j => if j < i then brw j (rows.getD j []).length else if j = i then mixR i (k + 1) (rows.getD j []) else rows.getD j []) (by rw [hRi, if_neg (by omega), if_pos rfl, mixR_set i k _ hkl]) (fun j hj => by by_cases h1 : j < i; rw [if_pos h1, if_pos h1]; rw [if_neg h1, if_neg h1, if_neg hj, if_neg hj]))
            have HF2 : Hid (Fr (fun b => wA.heap.size ≤ b ∧ b < wB.heap.size) wC ((wr.setCell ⟨g, k * 2, none⟩ (.int .i64 (-(i : Int)))).setCell ⟨g, k * 2 + 1, none⟩ (.int .i64 (k : Int)))) := Lib.hid ((HFX.out.setCell (p := ⟨g, k * 2, none⟩) (.inl hgb) _).setCell (p := ⟨g, k * 2 + 1, none⟩) (.inl hgb) _)
            have hkl' : (k : Int) < ((rows.getD i []).length : Int) := by omega
            have m2 : IntKind.i64.wrap ((k : Int) + 1) = ((k + 1 : Nat) : Int) := by have := HRL.out; rw [IntKind.wrap_i64] <;> omega
            dsimp only at HS2
            clear hhd hcs hvg hfz hgb HE HFX hRi hml2 hLn
            generalize (rows.getD i []).length = L at *
            obtain ⟨ya, hya⟩ : ∃ y, wr.cell? ⟨g, k * 2, none⟩ = some (.int .i64 y) := ⟨_, z0⟩
            obtain ⟨yb, hyb⟩ : ∃ y, wr.cell? ⟨g, k * 2 + 1, none⟩ = some (.int .i64 y) := ⟨_, z1⟩
            clear z0 z1
            go_wp2_with fail
            go_roundw
            case rel => exact ⟨k + 1, by simp, by omega, HS2, HF2⟩
            case measure => simp [intOf]; omega
          · obtain rfl : k = (rows.getD i []).length := by omega
            have hge2 : decide (((rows.getD i []).length : Int) < ((rows.getD i []).length : Int)) = false := by simp
            have HE2 : Hid (RwP wr wA.heap.size (.slice (some ⟨b1, o1, none⟩) m c1) m cs (fun j => if j < i + 1 then brw j (rows.getD j []).length else rows.getD j [])) := Lib.hid (by
              have h := HE.out
              refine ⟨h.ov_, h.len, fun j hj => ?_, h.dis⟩
              have := h.row j hj
              by_cases h1 : j < i
              · rw [if_pos h1] at this; rw [if_pos (by omega)]; exact this
              · rw [if_neg h1] at this
                by_cases h2 : j = i
                · subst h2; rw [if_pos rfl, mixR_all] at this; rw [if_pos (by omega)]; exact this
                · rw [if_neg h2] at this; rw [if_neg (by omega)]; exact this)
            clear HE hhd hcs hRi hml2 hLn
            generalize hLL : (rows.getD i []).length = L at *
            clear hLL
            go_wp2_with fail
            go_roundw
            case rel => exact ⟨i + 1, by simp, by omega, HE2, HFX⟩
            case measure => simp [intOf]; omega
      · obtain rfl : m = i := by omega
        have hge2 : decide ((m : Int) < (m : Int)) = false := by simp
        have EH : Hid (RwP wr wA.heap.size (.slice A1 m c1) m cs (fun j => brw j (rows.getD j []).length)) := Lib.hid (by
          have h := HE.out
          refine ⟨h.ov_, h.len, fun j hj => ?_, h.dis⟩
          have := h.row j hj
          rw [if_pos hj] at this
          exact this)
        clear HE hlt hi
        obtain ⟨wH, hwH⟩ : ∃ wH : World, wH = wr := ⟨_, rfl⟩
        subst hwH
        have HFix := Lib.hid (EH.out.fix (mid := wC.heap.size) (fun j hj g hg => Nat.lt_of_lt_of_le (HUB.out j hj g hg).2 LS.out.2.2) (fun g hg => Nat.lt_of_lt_of_le (HUO.out g hg).2 LS.out.2.2))
        have HC0 : Hid (OwnV wH wA.heap.size 32 (.slice A1 m c1) cs ∧ (∀ j, j < m → RdP wH (adr (cs.getD j undef)) (brw j (rows.getD j []).length)) ∧ (∀ j, 0 ≤ j → j < m → OwnP wH wA.heap.size 38 (cs.getD j undef) (brw j (rows.getD j []).length))) := Lib.hid ⟨EH.out.ov_, fun j hj => by obtain ⟨A', c', hv, hr⟩ := (EH.out.row j hj).slice; rw [hv]; exact hr, fun j _ hj => EH.out.row j hj⟩
        have HLC : Hid (cs.length = m) := Lib.hid EH.out.len
        have HSL : Hid (∀ j, j < m → ∃ a c, cs.getD j undef = .slice a (rows.getD j []).length c) := Lib.hid (fun j hj => by obtain ⟨A', c', hv, -⟩ := (EH.out.row j hj).slice; rw [brw_len] at hv; exact ⟨_, _, hv⟩)
        clear EH
        go_wp2_with fail
        go_loopw [12] (fun iv wx => ∃ i : Nat, iv = .int .i64 (i : Int) ∧ i ≤ m ∧ Hid (OwnV wx wA.heap.size 32 (.slice A1 m c1) cs ∧ (∀ j, j < m → RdP wx (adr (cs.getD j undef)) (brw j (rows.getD j []).length)) ∧ (∀ j, i ≤ j → j < m → OwnP wx wA.heap.size 38 (cs.getD j undef) (brw j (rows.getD j []).length))) ∧ Hid (Fr (fun b => wA.heap.size ≤ b ∧ b < wB.heap.size) wC wx)) (fun iv _ => m - (intOf iv).toNat)
        case atStart => exact ⟨0, rfl, by omega, HC0, HFX⟩
        case round =>
          clear HC0 HFX
          obtain ⟨i, rfl, hi, HC, HFX⟩ := hrel
          by_cases hlt : i < m
          · obtain ⟨n, hNn, hn6⟩ := HSZ.out (by rw [← HM.out]; omega)
            subst hNn
            have hhf := HH.out i (by rw [← HM.out]; exact hlt)
            have hlt' : (i : Int) < (m : Int) := by omega
            have m1 : IntKind.i64.wrap ((i : Int) + 1) = ((i + 1 : Nat) : Int) := by rw [IntKind.wrap_i64] <;> omega
            have m9 : IntKind.i64.wrap (900 + (i : Int)) = 900 + (i : Int) := by rw [IntKind.wrap_i64] <;> omega
            obtain ⟨A1', c1', hv1, -, -, hr1, -⟩ := HC.out.1.slice
            injection hv1 with h1 h2 h3
            subst h1 h3
            clear h2
            obtain ⟨b1, o1, hA1, hc1⟩ := hr1 i (by rw [HLC.out]; exact hlt)
            subst hA1
            have hrow := HC.out.2.2 i (Nat.le_refl _) hlt
            obtain ⟨a1, d1, hcs, -⟩ := hrow.slice
            rw [brw_len] at hcs
            have hcc : wr.cell? ⟨b1, o1 + i, none⟩ = some (.slice a1 (rows.getD i []).length d1) := by
              rw [hc1, ← hcs, List.getD_eq_getElem?_getD, List.getElem?_eq_getElem (by rw [HLC.out]; exact hlt)]
              rfl
            have HI0 : Hid (CIn wA.heap.size wC.heap.size (.slice (some ⟨b1, o1, none⟩) m c1) m cs (fun j => (rows.getD j []).length) i (.slice a1 (rows.getD i []).length d1) (ext i 0) wr) := Lib.hid ⟨HC.out.1, HC.out.2.1, fun j hij hj => HC.out.2.2 j (by omega) hj, by show OwnP _ _ _ _ (brw i _ ++ []); rw [List.append_nil, ← hcs]; exact hrow, fun g hg => .inl (by rw [hcs]; exact hg)⟩
            have HSI : Hid (∀ g, (cs.getD i undef).ownBlock = some g → wA.heap.size ≤ g ∧ g < wB.heap.size) := Lib.hid (HUB.out i hlt)
            have hLn : Int.tdiv (n : Int) 2 = ((rows.getD i []).length : Int) := by rw [Int.tdiv_eq_ediv_of_nonneg (by omega)]; have := hhf.1; omega
            have HRL : Hid ((rows.getD i []).length ≤ 65536) := Lib.hid (by have := hhf.1; omega)
            have HMS : Hid (wB.heap.size ≤ wr.heap.size) := Lib.hid (Nat.le_trans LS.out.2.2 HFX.out.size)
            clear HC hr1 hc1 hrow hcs hhf
            obtain ⟨wI, hwI⟩ : ∃ wI : World, wI = wr := ⟨_, rfl⟩
            subst hwI
            generalize hLL : (rows.getD i []).length = L at *
            go_wp2_with fail
            go_loopw [13, 14] (fun gv kv wx => ∃ k : Nat, kv = .int .i64 (k : Int) ∧ k ≤ 20 ∧ Hid (CIn wA.heap.size wC.heap.size (.slice (some ⟨b1, o1, none⟩) m c1) m cs (fun j => (rows.getD j []).length) i gv (ext i k) wx) ∧ Hid (Fr (fun b => wA.heap.size ≤ b ∧ b < wB.heap.size) wC wx)) (fun _ kv _ => 20 - (intOf kv).toNat)
            case atStart => exact ⟨0, rfl, by omega, HI0, HFX⟩
            case round =>
              clear HI0 HFX hcc
              obtain ⟨k, rfl, hk, HI, HFX⟩ := hrel
              have HMW : Hid (wC.heap.size ≤ wr.heap.size ∧ wA.heap.size ≤ wr.heap.size) := Lib.hid (by have := HFX.out.size; have := LS.out; omega)
              obtain ⟨ga, gc, hgv, -⟩ := HI.out.gr.slice
              have hgl : (brw i (rows.getD i []).length ++ ext i k).length = L + k := by rw [List.length_append, brw_len, ext_len, hLL]
              rw [hgl] at hgv
              subst hgv
              have HGL : Hid ((brw i (rows.getD i []).length ++ ext i k).length ≤ 40000000) := Lib.hid (by rw [hgl]; have := HRL.out; omega)
              by_cases hkl : k < 20
              · have hkl' : (k : Int) < 20 := by omega
                have m2 : IntKind.i64.wrap ((k : Int) + 1) = ((k + 1 : Nat) : Int) := by rw [IntKind.wrap_i64] <;> omega
                clear hgl
                go_wp2_with (show wpList _ _ _ ({ dst := some 165, op := _, type := _, pos := _, after := _, guard := _ } :: _) _ _; refine wpList_pushPP wr rfl _ _ 32 rfl wA.heap.size 38 _ rfl Try.underlying32 info38 (900 + (i : Int), (k : Int)) rfl _ (brw i (rows.getD i []).length ++ ext i k) rfl rfl HI.out.gr HGL.out HMW.out.2 ?_; intro v' w1 ho hp; have HIS := Lib.hid (HI.out.step HFix.out hlt HMW.out.1 ho hp); clear ho hp)
                have HI2 : Hid (CIn wA.heap.size wC.heap.size (.slice (some ⟨b1, o1, none⟩) m c1) m cs (fun j => (rows.getD j []).length) i v' (ext i (k + 1)) w1) := Lib.hid (by rw [ext_succ]; exact HIS.out.1)
                have HF2 : Hid (Fr (fun b => wA.heap.size ≤ b ∧ b < wB.heap.size) wC w1) := Lib.hid (HFX.out.then HIS.out.2 (fun b hb => by
                  rcases hb with hb | hb
                  · exact .inl (HSI.out b hb)
                  · exact .inr hb))
                go_roundw
                case rel => exact ⟨k + 1, by simp, by omega, HI2, HF2⟩
                case measure => simp [intOf]; omega
              · obtain rfl : k = 20 := by omega
                have m3 : wrap64 (L : Int) = (L : Int) := by have := HRL.out; rw [IntWalk.wrap64_in _ (by omega)]
                have m4 : wrap64 ((L : Int) + 20) = (L : Int) + 20 := by have := HRL.out; rw [IntWalk.wrap64_in _ (by omega)]
                have HC2 : Hid (OwnV wr wA.heap.size 32 (.slice (some ⟨b1, o1, none⟩) m c1) cs ∧ (∀ j, j < m → RdP wr (adr (cs.getD j undef)) (brw j (rows.getD j []).length)) ∧ (∀ j, i + 1 ≤ j → j < m → OwnP wr wA.heap.size 38 (cs.getD j undef) (brw j (rows.getD j []).length))) := Lib.hid ⟨HI.out.ov_, HI.out.rd, fun j hij hj => HI.out.row j (by omega) hj⟩
                clear HI hgl
                go_wp2_with fail
                go_roundw
                case rel => exact ⟨i + 1, by simp, by omega, HC2, HFX⟩
                case measure => simp [intOf]; omega
          · obtain rfl : m = i := by omega
            have hge3 : decide ((m : Int) < (m : Int)) = false := by simp
            obtain ⟨wK, hwK⟩ : ∃ wK : World, wK = wr := ⟨_, rfl⟩
            subst hwK
            clear hi hlt
            go_wp2_with fail
            go_loopw [15] (fun iv wx => ∃ i : Nat, iv = .int .i64 (i : Int) ∧ i ≤ m ∧ wx = wK) (fun iv _ => m - (intOf iv).toNat)
            case atStart => exact ⟨0, rfl, by omega, rfl⟩
            case round =>
              obtain ⟨i, rfl, hi, rfl⟩ := hrel
              by_cases hlt : i < m
              · obtain ⟨n, hNn, hn6⟩ := HSZ.out (by rw [← HM.out]; omega)
                subst hNn
                have hhf := HH.out i (by rw [← HM.out]; exact hlt)
                have hlt' : (i : Int) < (m : Int) := by omega
                have m1 : IntKind.i64.wrap ((i : Int) + 1) = ((i + 1 : Nat) : Int) := by rw [IntKind.wrap_i64] <;> omega
                have mneg : IntKind.i64.wrap (-(i : Int)) = -(i : Int) := by rw [IntKind.wrap_i64] <;> omega
                obtain ⟨A1', c1', hv1, -, -, hr1, -⟩ := HC.out.1.slice
                injection hv1 with h1 h2 h3
                subst h1 h3
                clear h2
                obtain ⟨b1, o1, hA1, hc1⟩ := hr1 i (by rw [HLC.out]; exact hlt)
                subst hA1
                obtain ⟨a1, d1, hcs⟩ := HSL.out i hlt
                have hcc : wr.cell? ⟨b1, o1 + i, none⟩ = some (.slice a1 (rows.getD i []).length d1) := by
                  rw [hc1, ← hcs, List.getD_eq_getElem?_getD, List.getElem?_eq_getElem (by rw [HLC.out]; exact hlt)]
                  rfl
                have HRD := Lib.hid (HC.out.2.1 i hlt)
                rw [hcs] at HRD
                have HRL : Hid ((rows.getD i []).length ≤ 65536) := Lib.hid (by have := hhf.1; omega)
                clear hr1 hc1 hcs hhf
                generalize hLL : (rows.getD i []).length = L at *
                have HLL := Lib.hid hLL
                clear hLL
                go_wp2_with fail
                go_loopw [16] (fun kv wx => ∃ k : Nat, kv = .int .i64 (k : Int) ∧ k ≤ L ∧ wx = wr) (fun kv _ => L - (intOf kv).toNat)
                case atStart => exact ⟨0, rfl, by omega, rfl⟩
                case round =>
                  obtain ⟨k, rfl, hk, rfl⟩ := hrel
                  by_cases hkl : k < L
                  · have hkl' : (k : Int) < (L : Int) := by omega
                    have m2 : IntKind.i64.wrap ((k : Int) + 1) = ((k + 1 : Nat) : Int) := by have := HRL.out; rw [IntKind.wrap_i64] <;> omega
                    obtain ⟨e1, f1, hA1, -, z0, z1⟩ := HRD.out k (by rw [brw_len]; exact hkl)
                    simp only [adr] at hA1
                    subst hA1
                    rw [brw_at _ _ _ hkl] at z0 z1
                    go_wp2_with fail
                    go_roundw
                    case rel => exact ⟨k + 1, by simp, by omega, trivial⟩
                    case measure => simp [intOf]; omega
                  · obtain rfl : k = L := by omega
                    have hge4 : decide ((k : Int) < (k : Int)) = false := by simp
                    go_wp2_with fail
                    go_roundw
                    case rel => exact ⟨i + 1, by simp, by omega, trivial⟩
                    case measure => simp [intOf]; omega
              · obtain rfl : m = i := by omega
                have hge4 : decide ((m : Int) < (m : Int)) = false := by simp
                clear hi hlt HSL
                obtain ⟨A1', c1', hv1, -, -, -, -⟩ := HC.out.1.slice
                injection hv1 with h1 h2 h3
                subst h1 h3
                clear h2
                have HG0 : Hid (OwnV wr wA.heap.size 32 (.slice A1 (m + 0) c1) (cs ++ List.replicate 0 (Value.slice none 0 0)) ∧ (∀ g, (Value.slice A1 (m + 0) c1).ownBlock = some g → (wA.heap.size ≤ g ∧ g < wB.heap.size) ∨ wC.heap.size ≤ g)) := Lib.hid ⟨by rw [List.replicate_zero, List.append_nil]; exact HC.out.1, fun g hg => .inl (HUO.out g hg)⟩
                clear HC
                go_wp2_with fail
                go_loopw [17, 18] (fun gv kv wx => ∃ (k c : Nat) (A : Option Addr), kv = .int .i64 (k : Int) ∧ gv = .slice A (m + k) c ∧ k ≤ 20 ∧ Hid (OwnV wx wA.heap.size 32 (.slice A (m + k) c) (cs ++ List.replicate k (Value.slice none 0 0)) ∧ (∀ g, (Value.slice A (m + k) c).ownBlock = some g → (wA.heap.size ≤ g ∧ g < wB.heap.size) ∨ wC.heap.size ≤ g)) ∧ Hid (Fr (fun b => wA.heap.size ≤ b ∧ b < wB.heap.size) wC wx)) (fun _ kv _ => 20 - (intOf kv).toNat)
                case atStart => exact ⟨0, c1, A1, rfl, rfl, by omega, HG0, HFX⟩
                case round =>
                  clear HG0 HFX
                  obtain ⟨k, c, A, rfl, rfl, hk, HG, HFX⟩ := hrel
                  by_cases hkl : k < 20
                  · have hkl' : (k : Int) < 20 := by omega
                    have m2 : IntKind.i64.wrap ((k : Int) + 1) = ((k + 1 : Nat) : Int) := by rw [IntKind.wrap_i64] <;> omega
                    have HBY : Hid (((cs ++ List.replicate k (Value.slice none 0 0)).length + 1) * 24 ≤ 140737488355328 ∧ wA.heap.size ≤ wr.heap.size) := Lib.hid ⟨by simp [HLC.out]; omega, by have := HFX.out.size; have := LS.out; omega⟩
                    have HFW : Hid (wC.heap.size ≤ wr.heap.size) := Lib.hid HFX.out.size
                    go_wp2_with (show wpList _ _ _ ({ dst := some 206, op := _, type := _, pos := _, after := _, guard := _ } :: _) _ _; refine wpList_pushV wr rfl _ _ 61 rfl wA.heap.size 32 (.slice none 0 0) 24 Try.underlying61 info32 rfl (.slice none 0 0) rfl rfl _ (cs ++ List.replicate k (Value.slice none 0 0)) rfl rfl HG.out.1 HBY.out.1 (by decide) HBY.out.2 ?_; intro v' w1 ho hp; obtain ⟨A', c', hv', -⟩ := ho.slice; have HV' : Hid (v' = .slice A' (m + (k + 1)) c') := Lib.hid (by rw [hv']; congr 1; simp only [List.length_append, List.length_replicate, List.length_cons, List.length_nil]; have := HLC.out; omega); clear hv'; have HO := Lib.hid ho; have HP := Lib.hid hp; clear ho hp)
                    have hv' := HV'.out
                    subst hv'
                    have HG2 : Hid (OwnV w1 wA.heap.size 32 (.slice A' (m + (k + 1)) c') (cs ++ List.replicate (k + 1) (Value.slice none 0 0)) ∧ (∀ g, (Value.slice A' (m + (k + 1)) c').ownBlock = some g → (wA.heap.size ≤ g ∧ g < wB.heap.size) ∨ wC.heap.size ≤ g)) := Lib.hid ⟨by rw [List.replicate_succ', ← List.append_assoc]; exact HO.out, fun g hg => by
                      rcases pushed_own HP.out hg with h1 | h1
                      · exact HG.out.2 g h1
                      · exact .inr (Nat.le_trans HFW.out h1)⟩
                    have HF2 : Hid (Fr (fun b => wA.heap.size ≤ b ∧ b < wB.heap.size) wC w1) := Lib.hid (HFX.out.then HP.out.fr (fun b hb => HG.out.2 b hb))
                    go_roundw
                    case rel => exact ⟨k + 1, c', A', by simp, rfl, by omega, HG2, HF2⟩
                    case measure => simp [intOf]; omega
                  · obtain rfl : k = 20 := by omega
                    clear HG
                    obtain ⟨wL, hwL⟩ : ∃ wL : World, wL = wr := ⟨_, rfl⟩
                    subst hwL
                    have R0L : Hid (RdL wL A0 rows) := Lib.hid (R0.out.below ((BB.out.trans (BC.out.mono BB.out.size)).trans (HFX.out.below (Nat.le_trans LS.out.2.1 LS.out.2.2) (fun k h => h.1))))
                    have R2L : Hid (RdL wL A2 rows) := Lib.hid (by
                      have h := E2.out.fr HFX.out (fun g hg h => by have := (E2.out.ov_.base_le hg).1; omega) (fun i hi g hg h => by have := ((E2.out.row i hi).base_le hg).1; omega)
                      obtain ⟨A', c', hv, hr⟩ := h.rd
                      injection hv with h1 h2 h3
                      subst h1
                      exact hr)
                    have HBF : Hid (Below w.heap.size w wL) := Lib.hid ((BA.out.trans ((BB.out.mono LS.out.1).trans (BC.out.mono (Nat.le_trans LS.out.1 LS.out.2.1)))).trans (HFX.out.below (by have := LS.out; omega) (fun k h => Nat.le_trans LS.out.1 h.1)))
                    have hge4 : decide ((20 : Int) < 20) = false := by decide
                    have mm : IntKind.i64.wrap ((m : Int) + 20) = (m : Int) + 20 := by rw [IntKind.wrap_i64] <;> omega
                    go_wp2_with fail
                    refine (same_rows A2 A0 _ _ c2 c0 rows wL HM.out HM.out R2L.out R0L.out hml (fun i hi => HMR.out i (by rw [← HM.out]; exact hi))).mono ?_
                    rintro e w9 ⟨rfl, F9⟩
                    have HB9 : Hid (Below w.heap.size w w9) := Lib.hid (HBF.out.trans (F9.out.mono HBF.out.size))
                    clear F9
                    go_wp2_with fail
                    go_ret
                    exact ⟨rfl, HB9.out⟩
end Go.Proofs.Ytpglocgfdonmaaa

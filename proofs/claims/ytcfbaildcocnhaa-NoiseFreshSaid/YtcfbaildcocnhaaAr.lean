/-
  Rows that are written full, grown one by one, and read again: what is known between. No program in sight.
-/
import Derived.Test.YtcfbaildcocnhaaOw
set_option linter.unusedVariables false
namespace Go.Proofs.Ytcfbaildcocnhaa
open Go.RowKit

def adr : Value → Option Addr
  | .slice A _ _ => A
  | _ => none
theorem adr_block {v : Value} {A : Option Addr} {n c : Nat} (h : v = .slice A n c) {a : Addr} (ha : A = some a) : v.ownBlock = some a.block := by subst h ha; rfl
theorem Own.setAt {w : World} {base : Nat} {T : TypeId} {kd : IntKind} {g n c : Nat} {xs : List Int} (h : Own w base T kd (.slice (some ⟨g, 0, none⟩) n c) xs) {k : Nat} (hk : k < xs.length) (y : Int) :
    Own (w.setCell ⟨g, k, none⟩ (.int kd y)) base T kd (.slice (some ⟨g, 0, none⟩) n c) (xs.set k y) := by
  rcases h.form with ⟨h1, rfl⟩ | ⟨g', c', rest, he, hb, hB, hc, hm⟩
  · simp at hk
  · injection he with h1 h2 h3
    injection h1 with h1
    injection h1 with h1
    subst h1 h2 h3
    have hs := hB.set k (.int kd y)
    rw [List.set_append_left _ _ (by simpa using hk), ← List.map_set] at hs
    have := Own.mk (xs := xs.set k y) hb hs (by simpa using hc) hm
    rwa [List.length_set] at this
theorem Own.cells {w : World} {base : Nat} {T : TypeId} {kd : IntKind} {v : Value} {xs : List Int} (h : Own w base T kd v xs) {k : Nat} (hk : k < xs.length) :
    ∃ g c y, v = .slice (some ⟨g, 0, none⟩) xs.length c ∧ w.cell? ⟨g, k, none⟩ = some (.int kd y) ∧ w.frozen? ⟨g, k, none⟩ = false := by
  rcases h.form with ⟨h1, rfl⟩ | ⟨g, c, rest, he, hb, hB, hc, hm⟩
  · simp at hk
  · refine ⟨g, c, xs[k], he, ?_, hB.frozen k⟩
    rw [hB.cell, List.getElem?_append_left (by simpa using hk)]
    simp [hk]
theorem Own.hd {w : World} {base : Nat} {T : TypeId} {kd : IntKind} {v : Value} {xs : List Int} (h : Own w base T kd v xs) : ∀ a, adr v = some a → ∃ g, a = ⟨g, 0, none⟩ ∧ v.ownBlock = some g := by
  rcases h.form with ⟨rfl, rfl⟩ | ⟨g, c, rest, rfl, hb, hB, hc, hm⟩
  · intro a h; cases h
  · intro a h; cases h; exact ⟨g, rfl, rfl⟩
theorem Own.rdAdr {w : World} {base : Nat} {T : TypeId} {kd : IntKind} {v : Value} {xs : List Int} (h : Own w base T kd v xs) : Rd w kd (adr v) xs := by
  obtain ⟨A, c, rfl, _, _, hr, _⟩ := h.slice
  exact hr

variable (mm : Nat → Nat → Int) (gg : Nat → Nat → Nat → Int)
/-- What is written; what it is grown by. -/
def ML (j n : Nat) : List Int := (List.range n).map (mm j)
def GL (j n m : Nat) : List Int := (List.range m).map (gg j n)
theorem ML_len (j n : Nat) : (ML mm j n).length = n := by simp [ML]
theorem GL_len (j n m : Nat) : (GL gg j n m).length = m := by simp [GL]
theorem GL_succ (j n m : Nat) : GL gg j n (m + 1) = GL gg j n m ++ [gg j n m] := by simp [GL, List.range_succ]
theorem ML_get (j n k : Nat) (h : k < n) : (ML mm j n).getD k 0 = mm j k := by simp [ML, List.getD, h]
theorem GL_get (j n m k : Nat) (h : k < m) : (GL gg j n m).getD k 0 = gg j n k := by simp [GL, List.getD, h]

/-- No two of the values lie in one block. -/
def Dist (N : Nat) (vs : Nat → Value) : Prop := ∀ i j, i < N → j < N → i ≠ j → ∀ g, (vs i).ownBlock = some g → (vs j).ownBlock ≠ some g
def Blks (N : Nat) (vs : Nat → Value) : Nat → Prop := fun g => ∃ j, j < N ∧ (vs j).ownBlock = some g

/-- The first round: rows below i are written full, row i up to k. -/
def Rw1 (base N : Nat) (vs : Nat → Value) (len : Nat → Nat) (w0 wr : World) (i k : Nat) : Prop :=
  ∃ X' : Nat → List Int, (∀ j, j < N → (X' j).length = len j) ∧ (∀ j, j < N → Own wr base 5 .u8 (vs j) (X' j)) ∧ (∀ j, j < N → j < i → X' j = ML mm j (len j)) ∧ (∀ p, p < k → (X' i).getD p 0 = mm i p) ∧ Fr (Blks N vs) w0 wr
variable {mm gg}
variable {base N : Nat} {vs : Nat → Value} {len : Nat → Nat} {w0 wr : World} {i k : Nat}
theorem Rw1.start {X : Nat → List Int} (hX : ∀ j, j < N → (X j).length = len j) (h : ∀ j, j < N → Own w0 base 5 .u8 (vs j) (X j)) : Rw1 mm base N vs len w0 w0 0 0 :=
  ⟨X, hX, h, fun j _ hj => absurd hj (Nat.not_lt_zero _), fun p hp => absurd hp (Nat.not_lt_zero _), Fr.refl _ _⟩
theorem Rw1.drew (h : Rw1 mm base N vs len w0 wr i k) : Rw1 mm base N vs len w0 wr.drew i k := by
  obtain ⟨X, h1, h2, h3, h4, h5⟩ := h
  exact ⟨X, h1, fun j hj => (h2 j hj).below ((Below.refl _ wr).drew), h3, h4, h5.drew⟩
theorem Rw1.row (h : Rw1 mm base N vs len w0 wr i k) {j : Nat} (hj : j < N) : ∃ A c, vs j = .slice A (len j) c ∧ len j ≤ c ∧ c ≤ maxLen := by
  obtain ⟨X, h1, h2, _⟩ := h
  obtain ⟨A, c, h3, h4, h5, _⟩ := (h2 j hj).slice
  rw [h1 j hj] at h3 h4
  exact ⟨A, c, h3, h4, h5⟩
theorem Rw1.cell (h : Rw1 mm base N vs len w0 wr i k) {j p : Nat} (hj : j < N) (hp : p < len j) : ∃ g c y, vs j = .slice (some ⟨g, 0, none⟩) (len j) c ∧ wr.cell? ⟨g, p, none⟩ = some (.int .u8 y) ∧ wr.frozen? ⟨g, p, none⟩ = false := by
  obtain ⟨X, h1, h2, _⟩ := h
  obtain ⟨g, c, y, h3, h4, h5⟩ := (h2 j hj).cells (k := p) (by rw [h1 j hj]; exact hp)
  rw [h1 j hj] at h3
  exact ⟨g, c, y, h3, h4, h5⟩
theorem Rw1.set (h : Rw1 mm base N vs len w0 wr i k) (hD : Dist N vs) (hi : i < N) {g n c : Nat} (hv : vs i = .slice (some ⟨g, 0, none⟩) n c) (hk : k < len i) : Rw1 mm base N vs len w0 (wr.setCell ⟨g, k, none⟩ (.int .u8 (mm i k))) i (k + 1) := by
  obtain ⟨X, h1, h2, h3, h4, h5⟩ := h
  have hg : (vs i).ownBlock = some g := by rw [hv]; rfl
  refine ⟨fun j => if j = i then (X i).set k (mm i k) else X j, fun j hj => ?_, fun j hj => ?_, fun j hj hji => ?_, fun p hp => ?_, h5.setCell (.inl ⟨i, hi, hg⟩) _⟩
  · dsimp only
    split
    · next h => subst h; rw [List.length_set]; exact h1 j hj
    · exact h1 j hj
  · dsimp only
    split
    · next h =>
      subst h
      have ho := h2 j hj
      rw [hv] at ho ⊢
      exact ho.setAt (by rw [h1 j hj]; exact hk) _
    · next h =>
      refine (h2 j hj).fr (S := fun b => b = g) ((Fr.refl (fun b => b = g) wr).setCell (p := ⟨g, k, none⟩) (.inl rfl) _) (fun b hb e => ?_)
      subst e
      exact hD i j hi hj (fun e => h e.symm) b hg hb
  · dsimp only
    rw [if_neg (by omega)]
    exact h3 j hj hji
  · dsimp only
    rw [if_pos rfl]
    by_cases hpk : p = k
    · subst hpk
      simp [List.getD, h1 i hi, hk]
    · have := h4 p (by omega)
      rw [← this]
      simp [List.getD, Ne.symm hpk]
theorem Rw1.next (h : Rw1 mm base N vs len w0 wr i k) (hi : i < N) (hk : k = len i) : Rw1 mm base N vs len w0 wr (i + 1) 0 := by
  obtain ⟨X, h1, h2, h3, h4, h5⟩ := h
  refine ⟨X, h1, h2, fun j hj hji => ?_, fun p hp => absurd hp (Nat.not_lt_zero _), h5⟩
  by_cases hje : j = i
  · subst hje
    apply List.ext_getElem
    · rw [h1 j hj, ML_len]
    · intro p hp1 hp2
      have := h4 p (by rw [hk, ← h1 j hj]; exact hp1)
      rw [List.getD, List.getElem?_eq_getElem hp1] at this
      simp at this
      rw [this]; simp [ML]
  · exact h3 j hj (by omega)
theorem Rw1.all (h : Rw1 mm base N vs len w0 wr i k) {G : Nat} (hG : ∀ j, j < N → (vs j).ownBlock ≠ some G) (hall : ∀ j, j < N → w0.cell? ⟨G, j, none⟩ = some (vs j)) {j : Nat} (hj : j < N) : wr.cell? ⟨G, j, none⟩ = some (vs j) := by
  obtain ⟨X, _, _, _, _, h5⟩ := h
  have hlt := World.block_lt_of_cell? w0 _ (hall j hj)
  rw [World.cell?_of_block (w := w0) (w' := wr) (h5.block G hlt (fun ⟨q, hq, he⟩ => hG q hq he))]
  exact hall j hj

variable (mm gg) in
/-- The second round: the rows below i are grown by R. -/
structure Rw2 (base N : Nat) (vs : Nat → Value) (len : Nat → Nat) (R TT : Nat) (w1 wr : World) (i : Nat) (L : Nat → Value) (long : Value) : Prop where
  lng : OwnV wr w1.heap.size TT long ((List.range i).map L)
  old : ∀ j, j < N → Rd wr .u8 (adr (vs j)) (ML mm j (len j))
  own : ∀ j, i ≤ j → j < N → Own wr base 5 .u8 (vs j) (ML mm j (len j))
  new : ∀ j, j < i → Own wr base 5 .u8 (L j) (ML mm j (len j) ++ GL gg j (len j) R)
  blk : ∀ j, j < i → (L j).ownBlock = (vs j).ownBlock ∨ ∃ g, (L j).ownBlock = some g ∧ w1.heap.size ≤ g
  sep : ∀ j, j < i → ∀ g, (L j).ownBlock = some g → long.ownBlock ≠ some g
  low : ∀ j, j < N → ∀ g, (vs j).ownBlock = some g → g < w1.heap.size
  hd : ∀ j, j < N → ∀ a, adr (vs j) = some a → ∃ g, a = ⟨g, 0, none⟩ ∧ (vs j).ownBlock = some g
  shp : ∀ j, j < N → ∃ A c, vs j = .slice A (len j) c
  fr : Fr (Blks N vs) w1 wr
theorem Rw2.start (R TT : Nat) (hi : N ≤ i) (h : Rw1 mm base N vs len w0 wr i k) (hb : base ≤ w0.heap.size) (L : Nat → Value) : Rw2 mm gg base N vs len R TT wr wr 0 L (.slice none 0 0) := by
  obtain ⟨X, h1, h2, h3, h4, h5⟩ := h
  have own : ∀ j, j < N → Own wr base 5 .u8 (vs j) (ML mm j (len j)) := fun j hj => by rw [← h3 j hj (by omega)]; exact h2 j hj
  exact ⟨OwnV.nil _ _ _, fun j hj => (own j hj).rdAdr, fun j _ hj => own j hj, fun j hj => absurd hj (Nat.not_lt_zero _), fun j hj => absurd hj (Nat.not_lt_zero _), fun j hj => absurd hj (Nat.not_lt_zero _),
    fun j hj g hg => ((own j hj).base_le hg).2, fun j hj => (own j hj).hd, fun j hj => (by obtain ⟨A, c, h, _⟩ := (own j hj).slice; exact ⟨A, c, by rw [ML_len] at h; exact h⟩), Fr.refl _ _⟩
variable (mm gg) in
/-- While row i is grown. -/
structure Rw3 (base : Nat) (vs : Nat → Value) (len : Nat → Nat) (wi wr : World) (i k : Nat) (l : Value) : Prop where
  own : Own wr base 5 .u8 l (ML mm i (len i) ++ GL gg i (len i) k)
  blk : l.ownBlock = (vs i).ownBlock ∨ ∃ g, l.ownBlock = some g ∧ wi.heap.size ≤ g
  fr : Fr (fun g => (vs i).ownBlock = some g) wi wr
  old : Rd wr .u8 (adr (vs i)) (ML mm i (len i))
  hd : ∀ a, adr (vs i) = some a → ∃ g, a = ⟨g, 0, none⟩ ∧ (vs i).ownBlock = some g
theorem Rw2.begin {R TT : Nat} {w1 wr : World} {L : Nat → Value} {long : Value} (h : Rw2 mm gg base N vs len R TT w1 wr i L long) (hi : i < N) : Rw3 mm gg base vs len wr wr i 0 (vs i) :=
  ⟨by simpa [GL] using h.own i (Nat.le_refl _) hi, .inl rfl, Fr.refl _ _, h.old i hi, (h.own i (Nat.le_refl _) hi).hd⟩
theorem Rw3.push {wi wr w' : World} {l l' : Value} (h : Rw3 mm gg base vs len wi wr i k l) (hown : Own w' base 5 .u8 l' (ML mm i (len i) ++ GL gg i (len i) k ++ [gg i (len i) k])) (hp : Pushed wr w' l l') (hvi : ∀ g, (vs i).ownBlock = some g → g < wi.heap.size) : Rw3 mm gg base vs len wi w' i (k + 1) l' := by
  refine ⟨by rw [GL_succ, ← List.append_assoc]; exact hown, ?_, h.fr.then hp.fr (fun g hg => ?_), ?_, h.hd⟩
  · rcases hp.block with hb | ⟨g, hb, hg⟩
    · rw [hb]; exact h.blk
    · exact .inr ⟨g, hb, Nat.le_trans h.fr.size hg⟩
  · rcases h.blk with hb | ⟨g2, hb, hg2⟩
    · exact .inl (hb ▸ hg)
    · rw [hb] at hg; injection hg with hg; subst hg; exact .inr hg2
  · rcases hp with ⟨g, n, c, rfl, rfl, hf⟩ | ⟨g, n, c, rfl, hg, hf⟩
    · by_cases hsame : adr (vs i) = some ⟨g, 0, none⟩
      · have hr := hown.rdAdr.take (ML mm i (len i)).length
        rw [List.append_assoc, List.take_left] at hr
        rw [hsame]; exact hr
      · refine h.old.fr hf (fun a ha e => hsame ?_)
        obtain ⟨g2, rfl, _⟩ := h.hd a ha
        rw [ha]; dsimp only at e; rw [e]
    · exact h.old.fr hf (fun a _ e => e)
theorem Rw2.next {R TT : Nat} {w1 wi wr w' : World} {L : Nat → Value} {long long' l : Value} (h : Rw2 mm gg base N vs len R TT w1 wi i L long) (hD : Dist N vs) (hi : i < N) (h3 : Rw3 mm gg base vs len wi wr i R l)
    (hown : OwnV w' w1.heap.size TT long' ((List.range i).map L ++ [l])) (hp : Pushed wr w' long long') : Rw2 mm gg base N vs len R TT w1 w' (i + 1) (fun j => if j = i then l else L j) long' := by
  have lw := h.low
  -- the block of the long list is none of the rows'
  have hlong : ∀ g, long.ownBlock = some g → w1.heap.size ≤ g ∧ g < wi.heap.size := fun g hg => h.lng.base_le hg
  have hvl : ∀ j, j < N → ∀ g, (vs j).ownBlock = some g → long.ownBlock ≠ some g := fun j hj g hg hl => by have := lw j hj g hg; have := (hlong g hl).1; omega
  have hLi : ∀ j, j < i → ∀ g, (L j).ownBlock = some g → (vs i).ownBlock ≠ some g := fun j hj g hg hv => by
    rcases h.blk j hj with hb | ⟨g2, hb, hg2⟩
    · exact hD j i (by omega) hi (by omega) g (hb ▸ hg) hv
    · rw [hb] at hg; injection hg with hg; subst hg
      have := lw i hi _ hv; omega
  have hli : ∀ g, l.ownBlock = some g → long.ownBlock ≠ some g := fun g hg hl => by
    rcases h3.blk with hb | ⟨g2, hb, hg2⟩
    · exact hvl i hi g (hb ▸ hg) hl
    · rw [hb] at hg; injection hg with hg; subst hg
      have := (hlong _ hl).2; omega
  have f3 := h3.fr
  have fp := hp.fr
  refine ⟨?_, fun j hj => ?_, fun j hij hj => ?_, fun j hj => ?_, fun j hj => ?_, fun j hj g hg => ?_, lw, h.hd, h.shp, ?_⟩
  · have e : (List.range (i + 1)).map (fun j => if j = i then l else L j) = (List.range i).map L ++ [l] := by
      rw [List.range_succ, List.map_append]
      congr 1
      · apply List.map_congr_left
        intro j hj
        rw [if_neg (by have := List.mem_range.1 hj; omega)]
      · simp
    rw [e]; exact hown
  · have ho := h.old j hj
    by_cases hji : j = i
    · subst hji
      exact h3.old.fr fp (fun a ha e => by obtain ⟨g, rfl, hg⟩ := h3.hd a ha; exact hvl j hj g hg e)
    · refine Rd.fr (Rd.fr ho f3 (fun a ha e => ?_)) fp (fun a ha e => ?_)
      · obtain ⟨g, rfl, hg⟩ := h.hd j hj a ha
        exact hD j i hj hi hji g hg e
      · obtain ⟨g, rfl, hg⟩ := h.hd j hj a ha
        exact hvl j hj g hg e
  · have ho := h.own j (by omega) hj
    exact (ho.fr f3 (fun g hg e => hD j i hj hi (by omega) g hg e)).fr fp (fun g hg e => hvl j hj g hg e)
  · split
    · next e => subst e; exact h3.own.fr fp (fun g hg e => hli g hg e)
    · next e =>
      have hji : j < i := by omega
      exact ((h.new j hji).fr f3 (fun g hg e => hLi j hji g hg e)).fr fp (fun g hg e => h.sep j hji g hg e)
  · split
    · next e =>
      subst e
      rcases h3.blk with hb | ⟨g2, hb, hg2⟩
      · exact .inl hb
      · exact .inr ⟨g2, hb, Nat.le_trans h.fr.size hg2⟩
    · next e => exact h.blk j (by omega)
  · have hgw : g < wr.heap.size := by
      split at hg
      · exact (h3.own.base_le hg).2
      · next e => exact Nat.lt_of_lt_of_le (((h.new j (by omega)).base_le hg).2) f3.size
    have hne : long.ownBlock ≠ some g := by
      split at hg
      · exact hli g hg
      · next e => exact h.sep j (by omega) g hg
    rcases hp.block with hb | ⟨g2, hb, hg2⟩
    · rw [hb]; exact hne
    · rw [hb]; intro e; injection e with e; omega
  · refine (h.fr.then f3 (fun g hg => .inl ⟨i, hi, hg⟩)).then fp (fun g hg => .inr (hlong g hg).1)
theorem Rw2.lngAt {R TT : Nat} {w1 wi wr : World} {L : Nat → Value} {long l : Value} (h : Rw2 mm gg base N vs len R TT w1 wi i L long) (hi : i < N) (h3 : Rw3 mm gg base vs len wi wr i k l) : OwnV wr w1.heap.size TT long ((List.range i).map L) :=
  h.lng.fr h3.fr (fun g hg e => by have := h.low i hi g e; have := (h.lng.base_le hg).1; omega)
theorem Rw2.longAt {R TT : Nat} {w1 wr : World} {L : Nat → Value} {long : Value} (h : Rw2 mm gg base N vs len R TT w1 wr i L long) : ∃ A c, long = .slice A i c ∧ ∀ j, j < i → ∃ b off, A = some ⟨b, off, none⟩ ∧ wr.cell? ⟨b, off + j, none⟩ = some (L j) := by
  obtain ⟨A, c, h1, _, _, h2, _⟩ := h.lng.slice
  have e : ((List.range i).map L).length = i := by simp
  rw [e] at h1
  refine ⟨A, c, h1, fun j hj => ?_⟩
  obtain ⟨b, off, h3, h4⟩ := h2 j (by rw [e]; exact hj)
  exact ⟨b, off, h3, by rw [h4]; simp [hj]⟩
theorem Rw2.newAt {R TT : Nat} {w1 wr : World} {L : Nat → Value} {long : Value} (h : Rw2 mm gg base N vs len R TT w1 wr i L long) {j : Nat} (hj : j < i) : ∃ A c, L j = .slice A (len j + R) c ∧ Rd wr .u8 A (ML mm j (len j) ++ GL gg j (len j) R) := by
  obtain ⟨A, c, h1, _, _, h2, _⟩ := (h.new j hj).slice
  rw [List.length_append, ML_len, GL_len] at h1
  exact ⟨A, c, h1, h2⟩
theorem LL_lo {n m p : Nat} {j : Nat} (h : p < n) : (ML mm j n ++ GL gg j n m).getD p 0 = mm j p := by
  rw [List.getD, List.getElem?_append_left (by rw [ML_len]; exact h)]
  exact ML_get mm j n p h
theorem LL_hi {n m p : Nat} {j : Nat} (h : ¬ p < n) (h2 : p < n + m) : (ML mm j n ++ GL gg j n m).getD p 0 = gg j n (p - n) := by
  rw [List.getD, List.getElem?_append_right (by rw [ML_len]; omega), ML_len]
  exact GL_get gg j n m (p - n) (by omega)
end Go.Proofs.Ytcfbaildcocnhaa

/-
  Plain laws of rows that lie one behind the other, and of rows that are written over place by place.
-/
import Derived.Test.YtmmmmabfnnblfaaRi
import Derived.Test.YtmmmmabfnnblfaaTr
set_option linter.unusedVariables false
namespace Go.Proofs.Ytmmmmabfnnblfaa
open Go.RowKit

def upd1 (f : Nat → List Int) (i : Nat) (l : List Int) : Nat → List Int := fun j => if j = i then l else f j
theorem upd1_ne {f : Nat → List Int} {i j : Nat} {l : List Int} (h : j ≠ i) : upd1 f i l j = f j := by simp [upd1, h]
theorem upd1_eq {f : Nat → List Int} {i : Nat} {l : List Int} : upd1 f i l i = l := by simp [upd1]
theorem flatM_congr {f g : Nat → List Int} : ∀ {n : Nat}, (∀ j, j < n → f j = g j) → flatM f n = flatM g n
  | 0, _ => rfl
  | n + 1, h => by simp only [flatM]; rw [flatM_congr fun j hj => h j (by omega), h n (by omega)]
theorem offM_congr {f g : Nat → List Int} : ∀ {n : Nat}, (∀ j, j < n → (f j).length = (g j).length) → offM f n = offM g n
  | 0, _ => rfl
  | n + 1, h => by simp only [offM]; rw [offM_congr fun j hj => h j (by omega), h n (by omega)]
theorem lentL_set (xs : List Int) (k : Nat) (y : Int) (h : k < xs.length) : (lentL xs).set k y = lentL (xs.set k y) := by
  unfold lentL
  rw [List.set_append_left _ _ h]
theorem flatM_set {f : Nat → List Int} {i k : Nat} {y : Int} : ∀ {n : Nat}, i < n → k < (f i).length → (flatM f n).set (offM f i + k) y = flatM (upd1 f i ((f i).set k y)) n
  | 0, h, _ => by omega
  | n + 1, h, hk => by
    simp only [flatM]
    by_cases e : i = n
    · subst e
      rw [List.set_append_right _ _ (by rw [flatM_len]; omega), flatM_len, Nat.add_sub_cancel_left, lentL_set _ _ _ hk, upd1_eq]
      congr 1
      exact flatM_congr fun j hj => (upd1_ne (by omega)).symm
    · have := offM_mono f (n := n) (i := i) (by omega)
      rw [List.set_append_left _ _ (by rw [flatM_len]; omega), flatM_set (n := n) (by omega) hk, upd1_ne (j := n) (by omega)]
theorem flatM_get {f : Nat → List Int} {i k : Nat} : ∀ {n : Nat}, i < n → k < (f i).length → (flatM f n).getD (offM f i + k) 0 = (f i).getD k 0
  | 0, h, _ => by omega
  | n + 1, h, hk => by
    simp only [flatM]
    by_cases e : i = n
    · subst e
      simp only [List.getD_eq_getElem?_getD]
      rw [List.getElem?_append_right (by rw [flatM_len]; omega), flatM_len, Nat.add_sub_cancel_left]
      unfold lentL
      rw [List.getElem?_append_left hk]
    · have := offM_mono f (n := n) (i := i) (by omega)
      have ih := flatM_get (f := f) (i := i) (k := k) (n := n) (by omega) hk
      simp only [List.getD_eq_getElem?_getD] at ih ⊢
      rw [List.getElem?_append_left (by rw [flatM_len]; omega), ih]
/-- What the cut rows hold. -/
theorem cut_holds {w : World} {base n fl fc : Nat} {F : Option Addr} {f xss : Nat → List Int} (h : Own w base 5 .u8 (.slice F fl fc) (flatM f n)) (hl : ∀ j, j < n → (f j).length = (xss j).length) (hfc : offM xss n ≤ fc) : CtH w (cutH F xss fc) f n := fun i hi => by
  obtain ⟨A, c, hv, _, _, hr, _⟩ := h.slice
  injection hv with h1 h2 h3
  subst h1
  refine ⟨(hl i hi).symm, fun k hk => ?_⟩
  have ho : offM f i = offM xss i := offM_congr fun j hj => hl j (by omega)
  have hm := offM_mono f hi
  have hmn : offM f n = offM xss n := offM_congr hl
  obtain ⟨b, off, hA, hc⟩ := hr (offM f i + k) (by rw [flatM_len]; omega)
  rw [flatM_get hi hk] at hc
  refine ⟨b, off + offM xss i, ?_, by rw [← ho, Nat.add_assoc]; exact hc⟩
  rw [hA]
  exact cutA_some (by omega)

def xrL (xs : List Int) : List Int := xs.map fun x => bits .xor .u8 x 90
theorem xrL_len (xs : List Int) : (xrL xs).length = xs.length := by simp [xrL]
theorem xr8 : ∀ x : Fin 256, 0 ≤ bits .xor .u8 ((x.val : Nat) : Int) 90 ∧ bits .xor .u8 ((x.val : Nat) : Int) 90 ≤ 255 := by decide +kernel
theorem xrL_b8 {xs : List Int} (h : B8 xs) : B8 (xrL xs) := fun x hx => by
  obtain ⟨y, hy, rfl⟩ := List.mem_map.1 hx
  obtain ⟨n, rfl, hn⟩ := B8.nat (h y hy)
  exact xr8 ⟨n, hn⟩
/-- Rows that are written over: all below i, of i the first k. -/
def xat (xss : Nat → List Int) (i k j : Nat) : List Int := if j < i then xrL (xss j) else if j = i then upd k (xrL (xss j)) (xss j) else xss j
theorem xat_start (xss : Nat → List Int) (j : Nat) : xat xss 0 0 j = xss j := by
  unfold xat
  rw [if_neg (Nat.not_lt_zero _)]
  split
  · exact upd_zero _ _
  · rfl
theorem xat_len (xss : Nat → List Int) (i k j : Nat) : (xat xss i k j).length = (xss j).length := by
  unfold xat
  split
  · exact xrL_len _
  · split
    · exact upd_length _ _ _ (xrL_len _)
    · rfl
theorem xat_at (xss : Nat → List Int) (i k : Nat) : xat xss i k i = upd k (xrL (xss i)) (xss i) := by simp [xat]
theorem xat_get {xss : Nat → List Int} {i k : Nat} (h : k < (xss i).length) : (xat xss i k i).getD k 0 = (xss i).getD k 0 := by
  rw [xat_at]
  have := upd_get k (xrL (xss i)) (xss i) (xrL_len _) h
  simp only [List.getD_eq_getElem?_getD] at this ⊢
  rw [this]; rfl
theorem xat_set {xss : Nat → List Int} {i k : Nat} (h : k < (xss i).length) (j : Nat) : upd1 (xat xss i k) i ((xat xss i k i).set k (bits .xor .u8 ((xss i).getD k 0) 90)) j = xat xss i (k + 1) j := by
  by_cases e : j = i
  · subst e
    rw [upd1_eq, xat_at, xat_at, ← upd_set k _ _ (xrL_len _) h]
    congr 1
    unfold xrL
    simp only [List.getD_eq_getElem?_getD, List.getElem?_map, List.getElem?_eq_getElem h]
    rfl
  · rw [upd1_ne e]
    simp [xat, e]
theorem xat_next (xss : Nat → List Int) (i j : Nat) : xat xss i (xss i).length j = xat xss (i + 1) 0 j := by
  by_cases e : j = i
  · subst e
    rw [xat_at, upd_all _ _ (xrL_len _)]
    simp [xat]
  · by_cases l : j < i
    · have h2 : j < i + 1 := by omega
      simp [xat, l, h2]
    · have h2 : ¬ j < i + 1 := by omega
      unfold xat
      rw [if_neg l, if_neg e, if_neg h2]
      split
      · exact (upd_zero _ _).symm
      · rfl
theorem xat_end {xss : Nat → List Int} {n j : Nat} (h : j < n) : xat xss n 0 j = xrL (xss j) := by simp [xat, h]

theorem Own.congr {w : World} {base T : Nat} {k : IntKind} {v : Value} {xs ys : List Int} (h : Own w base T k v xs) (e : xs = ys) : Own w base T k v ys := e ▸ h
theorem Sev.congrX {w : World} {base n : Nat} {vs : Nat → Value} {f g : Nat → List Int} (h : Sev w base n vs f) (e : ∀ j, j < n → f j = g j) : Sev w base n vs g := ⟨fun i hi => (h.1 i hi).congr (e i hi), h.2⟩
theorem Sev.set {w : World} {base n : Nat} {vs : Nat → Value} {f : Nat → List Int} (h : Sev w base n vs f) {i k g m c : Nat} (hi : i < n) (hv : vs i = .slice (some ⟨g, 0, none⟩) m c) (hk : k < (f i).length) (y : Int) :
    Sev (w.setCell ⟨g, k, none⟩ (.int .u8 y)) base n vs (upd1 f i ((f i).set k y)) := by
  have hg : (vs i).ownBlock = some g := by rw [hv]; rfl
  refine ⟨fun j hj => ?_, h.2⟩
  by_cases e : j = i
  · subst e
    rw [upd1_eq]
    have := h.1 j hj
    rw [hv] at this ⊢
    exact this.setAt hk y
  · rw [upd1_ne e]
    refine (h.1 j hj).fr ((Fr.refl (fun q => q = g) w).setCell (p := ⟨g, k, none⟩) (.inl rfl) _) (fun g' hg' e' => ?_)
    subst e'
    exact h.2 i j hi hj (fun e2 => e e2.symm) g' hg hg'
end Go.Proofs.Ytmmmmabfnnblfaa

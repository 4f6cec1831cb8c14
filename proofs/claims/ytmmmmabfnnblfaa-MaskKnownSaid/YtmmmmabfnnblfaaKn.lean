/-
  Walk: the law MaskKnown, the first part: all words at their ends.
-/
import Derived.Test.YtmmmmabfnnblfaaWk
import Derived.Test.YtmmmmabfnnblfaaKm
import Derived.Test.YtmmmmabfnnblfaaRf
import Derived.Test.YtmmmmabfnnblfaaLi
import Derived.Test.YtmmmmabfnnblfaaMv
import Derived.Deep.Cut
import Derived.Deep.RegionHeld
import Derived.LoopTactic
set_option linter.unusedVariables false
set_option linter.unusedSimpArgs false
namespace Go.Proofs.Ytmmmmabfnnblfaa
open Go.RowKit

def ENDS : List Nat := [0, 1, 2, 3, 127, 128, 255, 256, 2147483648, 4294967295, 4611686018427387904, 9223372036854775807, 9223372036854775808, 9223372036854775809, 18446744073709551614, 18446744073709551615]
def en (i : Nat) : Nat := ENDS.getD i 0
theorem en_lt (i : Nat) : en i < 18446744073709551616 := by
  by_cases h : i < 16
  · have : ∀ j : Fin 16, en j.val < 18446744073709551616 := by decide +kernel
    exact this ⟨i, h⟩
  · unfold en
    rw [List.getD_eq_getElem?_getD, List.getElem?_eq_none (by show ENDS.length ≤ i; show 16 ≤ i; omega)]
    decide
def endC : List Value := ENDS.map fun n : Nat => Value.int .u64 (n : Int)
theorem end_cell {w : World} {g i : Nat} (h : Blk w g 22 endC) (hi : i < 16) : w.cell? ⟨g, i, none⟩ = some (.int .u64 ((en i : Nat) : Int)) := by
  rw [h.cell]
  unfold endC en
  rw [List.getElem?_map, List.getD_eq_getElem?_getD, List.getElem?_eq_getElem (show i < ENDS.length from hi)]
  rfl
attribute [irreducible] en
theorem head_at {w : World} {G n i : Nat} {hs : Nat → Hd} (h : RdH w (some ⟨G, 0, none⟩) hs n) (hi : i < n) : G < w.heap.size ∧ w.cell? ⟨G, i, none⟩ = some (.slice (hs i).A (hs i).m (hs i).c) := by
  obtain ⟨b, off, e, hlt, hc⟩ := h i hi
  injection e with e
  injection e with e1 e2
  subst e1 e2
  rw [Nat.zero_add] at hc
  exact ⟨hlt, hc⟩
theorem lists_at {w : World} {hs : Nat → Hd} {n i k : Nat} (h : CtH w hs lx n) (hi : i < n) (hk : k < n) :
    Calls Try.prog 9 #[.slice (hs i).A (hs i).m (hs i).c, .slice (hs k).A (hs k).m (hs k).c] w fun e w' => e = .returned (.bool true) ∧ Below w.heap.size w w' := by
  obtain ⟨a1, a2⟩ := h i hi
  obtain ⟨b1, b2⟩ := h k hk
  rw [a1, b1]
  exact lists_walk _ _ _ _ (lx i) (lx k) w a2 b2 (lx_b8 i) (lx_b8 k) (by have := lx_len i; omega) (by have := lx_len k; omega)
def pick3 {α : Type} (a b c : α) (q : Nat) : α := if q = 0 then a else if q = 1 then b else c
theorem rows3 {W : World} {hs : Nat → Hd} {n i j k : Nat} (a : Int) (ha : -9223372036854775808 ≤ a ∧ a ≤ 9223372036854775807) (h : CtH W hs lx n) (hi : i < n) (hj : j < n) (hk : k < n) :
    Calls Try.prog 8 #[.slice (some ⟨W.heap.size, 0, none⟩) 3 3, .int .i64 a] (W.alloc (.cells #[.slice (hs i).A (hs i).m (hs i).c, .slice (hs j).A (hs j).m (hs j).c, .slice (hs k).A (hs k).m (hs k).c] 47)) fun e w' => e = .returned (.bool true) ∧ Below W.heap.size W w' := by
  have b : Below W.heap.size W (W.alloc (.cells #[.slice (hs i).A (hs i).m (hs i).c, .slice (hs j).A (hs j).m (hs j).c, .slice (hs k).A (hs k).m (hs k).c] 47)) := (Below.refl _ _).alloc (Nat.le_refl _) _
  have hN := Blk.new W 47 [.slice (hs i).A (hs i).m (hs i).c, .slice (hs j).A (hs j).m (hs j).c, .slice (hs k).A (hs k).m (hs k).c]
  refine (rows_law (some ⟨W.heap.size, 0, none⟩) 3 3 (pick3 (hs i) (hs j) (hs k)) (pick3 (lx i) (lx j) (lx k)) a _ (fun q hq => ⟨_, 0, rfl, hN.lt, ?_⟩) (fun q hq => ?_) (fun q hq => ?_) (by omega) (fun q hq => ?_) ha).mono (fun e w' ⟨h1, h2⟩ => ⟨h1, b.trans (h2.mono b.size)⟩)
  · rw [Nat.zero_add, hN.cell]
    rcases cases3 hq with rfl | rfl | rfl <;> rfl
  · rcases cases3 hq with rfl | rfl | rfl
    · exact ⟨(h i hi).1, (h i hi).2.below b⟩
    · exact ⟨(h j hj).1, (h j hj).2.below b⟩
    · exact ⟨(h k hk).1, (h k hk).2.below b⟩
  · rcases cases3 hq with rfl | rfl | rfl
    · exact lx_b8 i
    · exact lx_b8 j
    · exact lx_b8 k
  · rcases cases3 hq with rfl | rfl | rfl
    · have := lx_len i; show (lx i).length ≤ _; omega
    · have := lx_len j; show (lx j).length ≤ _; omega
    · have := lx_len k; show (lx k).length ≤ _; omega
theorem rows1 {W : World} {hs : Nat → Hd} {n i : Nat} (a : Int) (ha : -9223372036854775808 ≤ a ∧ a ≤ 9223372036854775807) (h : CtH W hs lx n) (hi : i < n) :
    Calls Try.prog 8 #[.slice (some ⟨W.heap.size, 0, none⟩) 1 1, .int .i64 a] (W.alloc (.cells #[.slice (hs i).A (hs i).m (hs i).c] 47)) fun e w' => e = .returned (.bool true) ∧ Below W.heap.size W w' := by
  have b : Below W.heap.size W (W.alloc (.cells #[.slice (hs i).A (hs i).m (hs i).c] 47)) := (Below.refl _ _).alloc (Nat.le_refl _) _
  have hN := Blk.new W 47 [.slice (hs i).A (hs i).m (hs i).c]
  refine (rows_law (some ⟨W.heap.size, 0, none⟩) 1 1 (fun _ => hs i) (fun _ => lx i) a _ (fun q hq => ⟨_, 0, rfl, hN.lt, ?_⟩) (fun q hq => ⟨(h i hi).1, (h i hi).2.below b⟩) (fun q hq => lx_b8 i) (by omega) (fun q hq => by have := lx_len i; omega) ha).mono (fun e w' ⟨h1, h2⟩ => ⟨h1, b.trans (h2.mono b.size)⟩)
  obtain rfl : q = 0 := by omega
  rw [Nat.zero_add, hN.cell]
  rfl
def two2 (q : Nat) : List Int := if q = 0 then [1, 2] else if q = 1 then [3, 4] else []
theorem row44 (W : World) : Calls Try.prog 44 #[.slice (some ⟨W.heap.size + 1 + 1, 0, none⟩) 2 2, .int .i64 1]
    ((allocs W [[1, 2], [3, 4]]).alloc (.cells #[.slice (some ⟨W.heap.size, 0, none⟩) 2 2, .slice (some ⟨W.heap.size + 1, 0, none⟩) 2 2] 47)) fun e w' => ∃ A n c, e = .returned (.tuple #[.slice A n c, .int .i64 0]) ∧ Hid (Own w' W.heap.size 5 .u8 (.slice A n c) [3, 4]) ∧ Hid (Below W.heap.size W w') := by
  have hsz : (allocs W [[1, 2], [3, 4]]).heap.size = W.heap.size + 2 := by rw [allocs_size]; rfl
  have hb0 := allocs_below [[1, 2], [3, 4]] W
  have hb : Below (allocs W [[1, 2], [3, 4]]).heap.size (allocs W [[1, 2], [3, 4]]) ((allocs W [[1, 2], [3, 4]]).alloc (.cells #[.slice (some ⟨W.heap.size, 0, none⟩) 2 2, .slice (some ⟨W.heap.size + 1, 0, none⟩) 2 2] 47)) := (Below.refl _ _).alloc (Nat.le_refl _) _
  have hN := Blk.new (allocs W [[1, 2], [3, 4]]) 47 [.slice (some ⟨W.heap.size, 0, none⟩) 2 2, .slice (some ⟨W.heap.size + 1, 0, none⟩) 2 2]
  rw [hsz] at hN
  have c2 : ∀ q, q < 2 → q = 0 ∨ q = 1 := fun q h => by omega
  have ha := allocs_at [[1, 2], [3, 4]] W
  have h0 := (ha 0 (by decide)).below hb (by rw [hsz]; omega)
  have h1 := (ha 1 (by decide)).below hb (by rw [hsz]; omega)
  have hall := hb0.trans (hb.mono hb0.size)
  have rd (q : Nat) (xs : List Int) (h : Blk ((allocs W [[1, 2], [3, 4]]).alloc (.cells #[.slice (some ⟨W.heap.size, 0, none⟩) 2 2, .slice (some ⟨W.heap.size + 1, 0, none⟩) 2 2] 47)) (W.heap.size + q) 5 (xs.map (Value.int .u8))) : Rd ((allocs W [[1, 2], [3, 4]]).alloc (.cells #[.slice (some ⟨W.heap.size, 0, none⟩) 2 2, .slice (some ⟨W.heap.size + 1, 0, none⟩) 2 2] 47)) .u8 (some ⟨W.heap.size + q, 0, none⟩) xs := fun k hk => ⟨_, 0, rfl, by rw [Nat.zero_add, h.cell, List.getElem?_map, List.getElem?_eq_getElem hk]; simp [List.getD, hk]⟩
  refine (row_any (some ⟨W.heap.size + 1 + 1, 0, none⟩) 2 2 (fun q => ⟨some ⟨W.heap.size + q, 0, none⟩, 2, 2⟩) two2 1 _ (fun q hq => ⟨_, 0, rfl, hN.lt, ?_⟩) (fun q hq => ?_) (fun q hq x hx => ?_) (fun q hq => ?_) (by decide) (fun q hq => ?_) (by decide)).mono ?_
  · rw [Nat.zero_add]
    refine (hN.cell q).trans ?_
    rcases c2 q hq with rfl | rfl <;> rfl
  · rcases c2 q hq with rfl | rfl
    · exact ⟨rfl, rd 0 _ h0⟩
    · exact ⟨rfl, rd 1 _ h1⟩
  · cases hx
    have := hb.size
    show W.heap.size + q < _
    omega
  · rcases c2 q hq with rfl | rfl
    · intro x hx
      have : x ∈ ([1, 2] : List Int) := hx
      simp at this
      omega
    · intro x hx
      have : x ∈ ([3, 4] : List Int) := hx
      simp at this
      omega
  · rcases c2 q hq with rfl | rfl <;> decide
  · rintro e w' ⟨v, rfl, ho, h3⟩
    obtain ⟨A, n, c, rfl⟩ := own_form ho
    exact ⟨A, n, c, rfl, Lib.hid (ho.lower hall.size), Lib.hid (hall.trans (h3.mono hall.size))⟩
theorem rows0 (W : World) (a : Int) (ha : -9223372036854775808 ≤ a ∧ a ≤ 9223372036854775807) : Calls Try.prog 8 #[.slice none 0 0, .int .i64 a] W fun e w' => e = .returned (.bool true) ∧ Below W.heap.size W w' :=
  rows_law none 0 0 (fun _ => ⟨none, 0, 0⟩) (fun _ => []) a W (fun i h => absurd h (Nat.not_lt_zero _)) (fun i h => absurd h (Nat.not_lt_zero _)) (fun i h => absurd h (Nat.not_lt_zero _)) (by decide) (fun i h => absurd h (Nat.not_lt_zero _)) ha
theorem same34 {W : World} {lo n c : Nat} {A : Option Addr} (h : Own W lo 5 .u8 (.slice A n c) [3, 4]) : Calls Try.prog 39 #[.slice A n c, .slice (some ⟨W.heap.size, 0, none⟩) 2 2] (W.alloc (.cells #[.int .u8 3, .int .u8 4] 5)) fun e w' => e = .returned (.bool true) ∧ Below W.heap.size W w' := by
  have b : Below W.heap.size W (W.alloc (.cells #[.int .u8 3, .int .u8 4] 5)) := (Below.refl _ _).alloc (Nat.le_refl _) _
  have hN := Blk.new W 5 [.int .u8 3, .int .u8 4]
  obtain ⟨A', c', e1, _, m1, r1, _⟩ := (h.below b).slice
  injection e1 with a1 a2 a3
  subst a1 a2 a3
  refine (rsame_at _ _ _ _ _ _ [3, 4] [3, 4] _ rfl rfl r1 (fun k hk => ⟨_, 0, rfl, ?_⟩) (by decide) (by decide)).mono ?_
  · rw [Nat.zero_add]
    refine (hN.cell k).trans ?_
    have : k = 0 ∨ k = 1 := by simp at hk; omega
    rcases this with rfl | rfl <;> rfl
  · rintro e w' ⟨q, rfl, rfl⟩
    exact ⟨by simp, belowN b q⟩
theorem less31 (W : World) : Calls Try.prog 31 #[.int .u64 3, .int .u64 9223372036854775808] W fun e w' => e = .returned (.int .u64 18446744073709551615) ∧ Below W.heap.size W w' := by
  refine (less_any 3 9223372036854775808 W (by decide) (by decide) (by decide) (by decide)).mono ?_
  rintro e w' ⟨rfl, rfl⟩
  exact ⟨by rw [show mk (decide ((3 : Int) < 9223372036854775808)) = 18446744073709551615 from by decide], Below.refl _ _⟩
theorem before48 (W : World) : Calls Try.prog 48 #[.slice (some ⟨W.heap.size, 0, none⟩) 1 1, .slice (some ⟨W.heap.size + 1, 0, none⟩) 2 2] ((W.alloc (.cells #[.int .u8 1] 5)).alloc (.cells #[.int .u8 1, .int .u8 0] 5)) fun e w' => e = .returned (.int .u64 18446744073709551615) ∧ Below W.heap.size W w' := by
  have b := allocs_below [[1], [1, 0]] W
  have h0 := allocs_at [[1], [1, 0]] W 0 (by decide)
  have h1 := allocs_at [[1], [1, 0]] W 1 (by decide)
  have B1 : B8 [1] := by intro x hx; simp at hx; omega
  have B2 : B8 [1, 0] := by intro x hx; simp at hx; omega
  have rd (q : Nat) (xs : List Int) (h : Blk (allocs W [[1], [1, 0]]) (W.heap.size + q) 5 (xs.map (Value.int .u8))) : Rd (allocs W [[1], [1, 0]]) .u8 (some ⟨W.heap.size + q, 0, none⟩) xs := fun k hk => ⟨_, 0, rfl, by rw [Nat.zero_add, h.cell, List.getElem?_map, List.getElem?_eq_getElem hk]; simp [List.getD, hk]⟩
  refine (before_any (some ⟨W.heap.size, 0, none⟩) (some ⟨W.heap.size + 1, 0, none⟩) 1 2 [1] [1, 0] (allocs W [[1], [1, 0]]) (rd 0 [1] h0) (rd 1 [1, 0] h1) (by decide) (by decide) B1.bytes B2.bytes).mono ?_
  rintro e w' ⟨q, rfl, rfl⟩
  exact ⟨by rw [show mk (bef [1] [1, 0]) = 18446744073709551615 from by decide], belowN b q⟩
theorem moves_at {w : World} {hs : Nat → Hd} {n i k : Nat} (M : Nat) (hM : M < 18446744073709551616) (h : CtH w hs lx n) (hi : i < n) (hk : k < n) :
    Calls Try.prog 6 #[.int .u64 M, .slice (hs i).A (hs i).m (hs i).c, .slice (hs k).A (hs k).m (hs k).c] w fun e w' => e = .returned (.bool true) ∧ Below w.heap.size w w' := by
  obtain ⟨a1, a2⟩ := h i hi
  obtain ⟨b1, b2⟩ := h k hk
  rw [a1, b1]
  exact moves_walk M _ _ _ _ (lx i) (lx k) w hM a2 b2 (lx_b8 i) (lx_b8 k) (by have := lx_len i; omega) (by have := lx_len k; omega)

set_option maxRecDepth 100000 in
set_option maxHeartbeats 16000000 in
theorem known_law (w : World) : Calls Try.prog 11 #[] w fun e w' => e = .returned (.bool true) ∧ Below w.heap.size w w' := by
  go_enter Try.func11, Try.ntmps11
  go_upto_region 2 with fail
  have b0 : Below w.heap.size w (w.alloc (.cells endC.toArray 22)) := (Below.refl _ _).alloc (Nat.le_refl _) _
  have e0 : Blk (w.alloc (.cells endC.toArray 22)) w.heap.size 22 endC := Blk.new w 22 endC
  have B0 := Lib.hid b0
  have E0 := Lib.hid e0
  clear b0 e0
  obtain ⟨gE, hg⟩ : ∃ g, g = w.heap.size := ⟨_, rfl⟩
  rw [← hg] at E0 ⊢
  clear hg
  revert B0 E0
  have hC : endC.toArray = #[.int .u64 0, .int .u64 1, .int .u64 2, .int .u64 3, .int .u64 127, .int .u64 128, .int .u64 255, .int .u64 256, .int .u64 2147483648, .int .u64 4294967295, .int .u64 4611686018427387904, .int .u64 9223372036854775807, .int .u64 9223372036854775808, .int .u64 9223372036854775809, .int .u64 18446744073709551614, .int .u64 18446744073709551615] := rfl
  rw [hC]
  clear hC
  generalize w.alloc _ = wr
  intro HB HE
  go_wp2_with fail
  go_loopw [2] (fun v wx => ∃ i : Nat, i ≤ 16 ∧ v = .int .i64 i ∧ Hid (Below w.heap.size w wx) ∧ Hid (Blk wx gE 22 endC)) (fun v _ => 16 - (intOf v).toNat)
  case atStart => exact ⟨0, Nat.zero_le _, rfl, HB, HE⟩
  case round =>
    clear HB HE
    obtain ⟨i, hi16, rfl, HB, HE⟩ := hrel
    by_cases hi : i < 16
    · have di : decide ((i : Int) < 16) = true := by simp; omega
      go_wp2_with fail
      go_loopw [3] (fun v wx => ∃ k : Nat, k ≤ 16 ∧ v = .int .i64 k ∧ Hid (Below w.heap.size w wx) ∧ Hid (Blk wx gE 22 endC)) (fun v _ => 16 - (intOf v).toNat)
      case atStart => exact ⟨0, Nat.zero_le _, rfl, HB, HE⟩
      case round =>
        clear HB HE
        obtain ⟨k, hk16, rfl, HB, HE⟩ := hrel
        by_cases hk : k < 16
        · have dk : decide ((k : Int) < 16) = true := by simp; omega
          go_wp2_with fail
          go_loopw [4] (fun v wx => ∃ j : Nat, j ≤ 16 ∧ v = .int .i64 j ∧ Hid (Below w.heap.size w wx) ∧ Hid (Blk wx gE 22 endC)) (fun v _ => 16 - (intOf v).toNat)
          case atStart => exact ⟨0, Nat.zero_le _, rfl, HB, HE⟩
          case round =>
            clear HB HE
            obtain ⟨j, hj16, rfl, HB, HE⟩ := hrel
            by_cases hj : j < 16
            · have dj : decide ((j : Int) < 16) = true := by simp; omega
              go_upto_region 11 with fail
              refine wp_region_held_drew (S := fun w' => w'.heap[gE]? = wr.heap[gE]?) (by kernel_rfl) (rfl) (fun hHeld => ?_)
              have HHd := Lib.hid hHeld
              clear hHeld
              refine wpAnyH_take (i := 0) (oi := ⟨some 30, _, _, _, _, _⟩) (v := (.slice (some ⟨gE, 0, none⟩) 16 16)) rfl (by kernel_rfl) (by kernel_rfl) (by kernel_rfl) (fun _ _ _ h => h) (Or.inl ⟨by rfl, ?_⟩) HHd.out ?_
              · intro w' hS; go_simp; try with_reducible rfl
              simp only [Act.put, List.setIfInBounds_toArray, List.set_cons_zero, List.set_cons_succ]
              refine wpAnyH_take (i := 1) (oi := ⟨some 31, _, _, _, _, _⟩) (v := (.int .i64 (i : Int))) rfl (by kernel_rfl) (by kernel_rfl) (by kernel_rfl) (fun _ _ _ h => h) (Or.inl ⟨by rfl, ?_⟩) HHd.out ?_
              · intro w' hS; go_simp; try with_reducible rfl
              simp only [Act.put, List.setIfInBounds_toArray, List.set_cons_zero, List.set_cons_succ]
              refine wpAnyH_take (i := 2) (oi := ⟨some 32, _, _, _, _, _⟩) (v := (.pointer (some ⟨gE, i, none⟩))) rfl (by kernel_rfl) (by kernel_rfl) (by kernel_rfl) (fun _ _ _ h => h) (Or.inl ⟨by rfl, ?_⟩) HHd.out ?_
              · intro w' hS; go_simp; (try with_reducible rfl); (try (intro hbad; exfalso; omega))
              simp only [Act.put, List.setIfInBounds_toArray, List.set_cons_zero, List.set_cons_succ]
              refine wpAnyH_take (i := 3) (oi := ⟨some 33, _, _, _, _, _⟩) (v := (.int .u64 ((en i : Nat) : Int))) rfl (by kernel_rfl) (by kernel_rfl) (by kernel_rfl) (fun _ _ _ h => h) (Or.inl ⟨by rfl, ?_⟩) HHd.out ?_
              · intro w' hS; have z0 : w'.cell? ⟨gE, i, none⟩ = some (.int .u64 ((en i : Nat) : Int)) := (World.cell?_of_block (w := wr) (w' := w') hS).trans (end_cell HE.out hi); go_simp; try with_reducible rfl
              simp only [Act.put, List.setIfInBounds_toArray, List.set_cons_zero, List.set_cons_succ]
              refine wpAnyH_take (i := 4) (oi := ⟨some 34, _, _, _, _, _⟩) (v := (.slice (some ⟨gE, 0, none⟩) 16 16)) rfl (by kernel_rfl) (by kernel_rfl) (by kernel_rfl) (fun _ _ _ h => h) (Or.inl ⟨by rfl, ?_⟩) HHd.out ?_
              · intro w' hS; go_simp; try with_reducible rfl
              simp only [Act.put, List.setIfInBounds_toArray, List.set_cons_zero, List.set_cons_succ]
              refine wpAnyH_take (i := 5) (oi := ⟨some 35, _, _, _, _, _⟩) (v := (.int .i64 (k : Int))) rfl (by kernel_rfl) (by kernel_rfl) (by kernel_rfl) (fun _ _ _ h => h) (Or.inl ⟨by rfl, ?_⟩) HHd.out ?_
              · intro w' hS; go_simp; try with_reducible rfl
              simp only [Act.put, List.setIfInBounds_toArray, List.set_cons_zero, List.set_cons_succ]
              refine wpAnyH_take (i := 6) (oi := ⟨some 36, _, _, _, _, _⟩) (v := (.pointer (some ⟨gE, k, none⟩))) rfl (by kernel_rfl) (by kernel_rfl) (by kernel_rfl) (fun _ _ _ h => h) (Or.inl ⟨by rfl, ?_⟩) HHd.out ?_
              · intro w' hS; go_simp; (try with_reducible rfl); (try (intro hbad; exfalso; omega))
              simp only [Act.put, List.setIfInBounds_toArray, List.set_cons_zero, List.set_cons_succ]
              refine wpAnyH_take (i := 7) (oi := ⟨some 37, _, _, _, _, _⟩) (v := (.int .u64 ((en k : Nat) : Int))) rfl (by kernel_rfl) (by kernel_rfl) (by kernel_rfl) (fun _ _ _ h => h) (Or.inl ⟨by rfl, ?_⟩) HHd.out ?_
              · intro w' hS; have z0 : w'.cell? ⟨gE, k, none⟩ = some (.int .u64 ((en k : Nat) : Int)) := (World.cell?_of_block (w := wr) (w' := w') hS).trans (end_cell HE.out hk); go_simp; try with_reducible rfl
              simp only [Act.put, List.setIfInBounds_toArray, List.set_cons_zero, List.set_cons_succ]
              refine wpAnyH_take (i := 8) (oi := ⟨some 38, _, _, _, _, _⟩) (v := (.slice (some ⟨gE, 0, none⟩) 16 16)) rfl (by kernel_rfl) (by kernel_rfl) (by kernel_rfl) (fun _ _ _ h => h) (Or.inl ⟨by rfl, ?_⟩) HHd.out ?_
              · intro w' hS; go_simp; try with_reducible rfl
              simp only [Act.put, List.setIfInBounds_toArray, List.set_cons_zero, List.set_cons_succ]
              refine wpAnyH_take (i := 9) (oi := ⟨some 39, _, _, _, _, _⟩) (v := (.int .i64 (j : Int))) rfl (by kernel_rfl) (by kernel_rfl) (by kernel_rfl) (fun _ _ _ h => h) (Or.inl ⟨by rfl, ?_⟩) HHd.out ?_
              · intro w' hS; go_simp; try with_reducible rfl
              simp only [Act.put, List.setIfInBounds_toArray, List.set_cons_zero, List.set_cons_succ]
              refine wpAnyH_take (i := 10) (oi := ⟨some 40, _, _, _, _, _⟩) (v := (.pointer (some ⟨gE, j, none⟩))) rfl (by kernel_rfl) (by kernel_rfl) (by kernel_rfl) (fun _ _ _ h => h) (Or.inl ⟨by rfl, ?_⟩) HHd.out ?_
              · intro w' hS; go_simp; (try with_reducible rfl); (try (intro hbad; exfalso; omega))
              simp only [Act.put, List.setIfInBounds_toArray, List.set_cons_zero, List.set_cons_succ]
              refine wpAnyH_take (i := 11) (oi := ⟨some 41, _, _, _, _, _⟩) (v := (.int .u64 ((en j : Nat) : Int))) rfl (by kernel_rfl) (by kernel_rfl) (by kernel_rfl) (fun _ _ _ h => h) (Or.inl ⟨by rfl, ?_⟩) HHd.out ?_
              · intro w' hS; have z0 : w'.cell? ⟨gE, j, none⟩ = some (.int .u64 ((en j : Nat) : Int)) := (World.cell?_of_block (w := wr) (w' := w') hS).trans (end_cell HE.out hj); go_simp; try with_reducible rfl
              simp only [Act.put, List.setIfInBounds_toArray, List.set_cons_zero, List.set_cons_succ]
              refine wpAnyH_ready (rs := [12]) (by kernel_rfl) (by simp) ?_
              refine AllReadyH.cons (o := ⟨some 42, _, _, _, _, _⟩) rfl (fun K hK => ?_) AllReadyH.nil
              rw [if_pos (by rfl)]
              go_simp
              refine (words_walk (en i) (en k) (en j) wr.drew (en_lt i) (en_lt k) (en_lt j)).mono ?_
              rintro e wa ⟨rfl, b⟩
              (try simp only [Act.put, List.setIfInBounds_toArray, List.set_cons_zero, List.set_cons_succ])
              refine hK.out _ _ ((b.block gE HE.out.lt).trans HHd.out) (fun hHeld => ?_)
              clear hK K
              have HH1 := Lib.hid hHeld
              clear hHeld HHd
              have HE1 : Hid (Blk wa gE 22 endC) := Lib.hid ((show Blk wr.drew gE 22 endC from HE.out).below b HE.out.lt)
              have HB1 : Hid (Below w.heap.size w wa) := Lib.hid ((show Below w.heap.size w wr.drew from ⟨HB.out.os, HB.out.tape, HB.out.output, HB.out.size, HB.out.block⟩).trans (b.mono HB.out.size))
              clear b
              refine wpAnyH_take (i := 13) (oi := ⟨some 43, _, _, _, _, _⟩) (v := (.bool false)) rfl (by kernel_rfl) (by kernel_rfl) (by kernel_rfl) (fun _ _ _ h => h) (Or.inl ⟨by rfl, ?_⟩) HH1.out ?_
              · intro w' hS; go_simp; try with_reducible rfl
              simp only [Act.put, List.setIfInBounds_toArray, List.set_cons_zero, List.set_cons_succ]
              refine wpAnyH_take (i := 14) (oi := ⟨some 44, _, _, _, _, _⟩) (v := (.bool false)) rfl (by kernel_rfl) (by kernel_rfl) (by kernel_rfl) (fun _ _ _ h => h) (Or.inl ⟨by rfl, ?_⟩) HH1.out ?_
              · intro w' hS; go_simp; try with_reducible rfl
              simp only [Act.put, List.setIfInBounds_toArray, List.set_cons_zero, List.set_cons_succ]
              refine wpAnyH_take (i := 15) (oi := ⟨some 45, _, _, _, _, _⟩) (v := (.slice (some ⟨gE, 0, none⟩) 16 16)) rfl (by kernel_rfl) (by kernel_rfl) (by kernel_rfl) (fun _ _ _ h => h) (Or.inl ⟨by rfl, ?_⟩) HH1.out ?_
              · intro w' hS; go_simp; try with_reducible rfl
              simp only [Act.put, List.setIfInBounds_toArray, List.set_cons_zero, List.set_cons_succ]
              refine wpAnyH_take (i := 16) (oi := ⟨some 46, _, _, _, _, _⟩) (v := (.int .i64 (i : Int))) rfl (by kernel_rfl) (by kernel_rfl) (by kernel_rfl) (fun _ _ _ h => h) (Or.inl ⟨by rfl, ?_⟩) HH1.out ?_
              · intro w' hS; go_simp; try with_reducible rfl
              simp only [Act.put, List.setIfInBounds_toArray, List.set_cons_zero, List.set_cons_succ]
              refine wpAnyH_take (i := 17) (oi := ⟨some 47, _, _, _, _, _⟩) (v := (.pointer (some ⟨gE, i, none⟩))) rfl (by kernel_rfl) (by kernel_rfl) (by kernel_rfl) (fun _ _ _ h => h) (Or.inl ⟨by rfl, ?_⟩) HH1.out ?_
              · intro w' hS; go_simp; (try with_reducible rfl); (try (intro hbad; exfalso; omega))
              simp only [Act.put, List.setIfInBounds_toArray, List.set_cons_zero, List.set_cons_succ]
              refine wpAnyH_take (i := 18) (oi := ⟨some 48, _, _, _, _, _⟩) (v := (.int .u64 ((en i : Nat) : Int))) rfl (by kernel_rfl) (by kernel_rfl) (by kernel_rfl) (fun _ _ _ h => h) (Or.inl ⟨by rfl, ?_⟩) HH1.out ?_
              · intro w' hS; have z0 : w'.cell? ⟨gE, i, none⟩ = some (.int .u64 ((en i : Nat) : Int)) := (World.cell?_of_block (w := wr) (w' := w') hS).trans (end_cell HE.out hi); go_simp; try with_reducible rfl
              simp only [Act.put, List.setIfInBounds_toArray, List.set_cons_zero, List.set_cons_succ]
              refine wpAnyH_take (i := 19) (oi := ⟨some 49, _, _, _, _, _⟩) (v := (.slice (some ⟨gE, 0, none⟩) 16 16)) rfl (by kernel_rfl) (by kernel_rfl) (by kernel_rfl) (fun _ _ _ h => h) (Or.inl ⟨by rfl, ?_⟩) HH1.out ?_
              · intro w' hS; go_simp; try with_reducible rfl
              simp only [Act.put, List.setIfInBounds_toArray, List.set_cons_zero, List.set_cons_succ]
              refine wpAnyH_take (i := 20) (oi := ⟨some 50, _, _, _, _, _⟩) (v := (.int .i64 (k : Int))) rfl (by kernel_rfl) (by kernel_rfl) (by kernel_rfl) (fun _ _ _ h => h) (Or.inl ⟨by rfl, ?_⟩) HH1.out ?_
              · intro w' hS; go_simp; try with_reducible rfl
              simp only [Act.put, List.setIfInBounds_toArray, List.set_cons_zero, List.set_cons_succ]
              refine wpAnyH_take (i := 21) (oi := ⟨some 51, _, _, _, _, _⟩) (v := (.pointer (some ⟨gE, k, none⟩))) rfl (by kernel_rfl) (by kernel_rfl) (by kernel_rfl) (fun _ _ _ h => h) (Or.inl ⟨by rfl, ?_⟩) HH1.out ?_
              · intro w' hS; go_simp; (try with_reducible rfl); (try (intro hbad; exfalso; omega))
              simp only [Act.put, List.setIfInBounds_toArray, List.set_cons_zero, List.set_cons_succ]
              refine wpAnyH_take (i := 22) (oi := ⟨some 52, _, _, _, _, _⟩) (v := (.int .u64 ((en k : Nat) : Int))) rfl (by kernel_rfl) (by kernel_rfl) (by kernel_rfl) (fun _ _ _ h => h) (Or.inl ⟨by rfl, ?_⟩) HH1.out ?_
              · intro w' hS; have z0 : w'.cell? ⟨gE, k, none⟩ = some (.int .u64 ((en k : Nat) : Int)) := (World.cell?_of_block (w := wr) (w' := w') hS).trans (end_cell HE.out hk); go_simp; try with_reducible rfl
              simp only [Act.put, List.setIfInBounds_toArray, List.set_cons_zero, List.set_cons_succ]
              refine wpAnyH_take (i := 23) (oi := ⟨some 53, _, _, _, _, _⟩) (v := (.slice (some ⟨gE, 0, none⟩) 16 16)) rfl (by kernel_rfl) (by kernel_rfl) (by kernel_rfl) (fun _ _ _ h => h) (Or.inl ⟨by rfl, ?_⟩) HH1.out ?_
              · intro w' hS; go_simp; try with_reducible rfl
              simp only [Act.put, List.setIfInBounds_toArray, List.set_cons_zero, List.set_cons_succ]
              refine wpAnyH_take (i := 24) (oi := ⟨some 54, _, _, _, _, _⟩) (v := (.int .i64 (j : Int))) rfl (by kernel_rfl) (by kernel_rfl) (by kernel_rfl) (fun _ _ _ h => h) (Or.inl ⟨by rfl, ?_⟩) HH1.out ?_
              · intro w' hS; go_simp; try with_reducible rfl
              simp only [Act.put, List.setIfInBounds_toArray, List.set_cons_zero, List.set_cons_succ]
              refine wpAnyH_take (i := 25) (oi := ⟨some 55, _, _, _, _, _⟩) (v := (.pointer (some ⟨gE, j, none⟩))) rfl (by kernel_rfl) (by kernel_rfl) (by kernel_rfl) (fun _ _ _ h => h) (Or.inl ⟨by rfl, ?_⟩) HH1.out ?_
              · intro w' hS; go_simp; (try with_reducible rfl); (try (intro hbad; exfalso; omega))
              simp only [Act.put, List.setIfInBounds_toArray, List.set_cons_zero, List.set_cons_succ]
              refine wpAnyH_take (i := 26) (oi := ⟨some 56, _, _, _, _, _⟩) (v := (.int .u64 ((en j : Nat) : Int))) rfl (by kernel_rfl) (by kernel_rfl) (by kernel_rfl) (fun _ _ _ h => h) (Or.inl ⟨by rfl, ?_⟩) HH1.out ?_
              · intro w' hS; have z0 : w'.cell? ⟨gE, j, none⟩ = some (.int .u64 ((en j : Nat) : Int)) := (World.cell?_of_block (w := wr) (w' := w') hS).trans (end_cell HE.out hj); go_simp; try with_reducible rfl
              simp only [Act.put, List.setIfInBounds_toArray, List.set_cons_zero, List.set_cons_succ]
              refine wpAnyH_ready (rs := [27]) (by kernel_rfl) (by simp) ?_
              refine AllReadyH.cons (o := ⟨some 57, _, _, _, _, _⟩) rfl (fun K hK => ?_) AllReadyH.nil
              rw [if_pos (by rfl)]
              go_simp
              refine (choose_walk (en i) (en k) (en j) wa (en_lt i) (en_lt k) (en_lt j)).mono ?_
              rintro e wb ⟨rfl, b⟩
              (try simp only [Act.put, List.setIfInBounds_toArray, List.set_cons_zero, List.set_cons_succ])
              refine hK.out _ _ ((b.block gE HE1.out.lt).trans HH1.out) (fun hHeld => ?_)
              clear hK K
              have HH2 := Lib.hid hHeld
              clear hHeld HH1
              have HE2 : Hid (Blk wb gE 22 endC) := Lib.hid ((show Blk wa gE 22 endC from HE1.out).below b HE1.out.lt)
              have HB2 : Hid (Below w.heap.size w wb) := Lib.hid ((show Below w.heap.size w wa from HB1.out).trans (b.mono HB1.out.size))
              clear b
              refine wpAnyH_take (i := 28) (oi := ⟨some 58, _, _, _, _, _⟩) (v := (.bool false)) rfl (by kernel_rfl) (by kernel_rfl) (by kernel_rfl) (fun _ _ _ h => h) (Or.inl ⟨by rfl, ?_⟩) HH2.out ?_
              · intro w' hS; go_simp; try with_reducible rfl
              simp only [Act.put, List.setIfInBounds_toArray, List.set_cons_zero, List.set_cons_succ]
              refine wpAnyH_take (i := 29) (oi := ⟨some 59, _, _, _, _, _⟩) (v := (.bool false)) rfl (by kernel_rfl) (by kernel_rfl) (by kernel_rfl) (fun _ _ _ h => h) (Or.inl ⟨by rfl, ?_⟩) HH2.out ?_
              · intro w' hS; go_simp; try with_reducible rfl
              simp only [Act.put, List.setIfInBounds_toArray, List.set_cons_zero, List.set_cons_succ]
              refine wpAnyH_done (by kernel_rfl) ?_ _
              go_wp2_with fail
              go_roundw
              case rel => exact ⟨j + 1, by omega, by go_num, HB2, HE2⟩
              case measure => simp [intOf]; omega
            · have dj : decide ((j : Int) < 16) = false := by simp; omega
              go_wp2_with fail
              go_roundw
              case rel => exact ⟨k + 1, by omega, by go_num, HB, HE⟩
              case measure => simp [intOf]; omega
        · have dk : decide ((k : Int) < 16) = false := by simp; omega
          go_wp2_with fail
          go_roundw
          case rel => exact ⟨i + 1, by omega, by go_num, HB, HE⟩
          case measure => simp [intOf]; omega
    · have di : decide ((i : Int) < 16) = false := by simp; omega
      go_upto_region 13 with fail
      clear hi di hi16 HE
      revert HB
      generalize wr = wb
      intro HB
      go_upto_region 14 with fail
      change Code.wp _ _ _ _ ((allocs wb LSx).alloc (.cells (heads wb.heap.size).toArray 47))
      obtain ⟨g, hg⟩ : ∃ g, g = wb.heap.size := ⟨_, rfl⟩
      obtain ⟨q1, q2, q3⟩ := lists_new wb
      have HB0 := Lib.hid (HB.out.trans (q3.mono HB.out.size))
      have HR0 := Lib.hid q1
      have HC0 := Lib.hid q2
      obtain ⟨G, hG⟩ : ∃ G, G = wb.heap.size + 1 + 1 + 1 + 1 + 1 + 1 + 1 + 1 + 1 + 1 + 1 + 1 := ⟨_, rfl⟩
      have hG2 : wb.heap.size + 12 = G := by omega
      rw [hG2] at HR0
      rw [← hG, ← hg]
      have HX0 := And.intro HB0 (And.intro HR0 HC0)
      clear q1 q2 q3 hG hG2 HB HB0 HR0 HC0
      rw [← hg] at HX0
      revert HX0
      generalize World.alloc (allocs wb LSx) _ = wr
      rintro ⟨HB, HR, HC⟩
      clear hg
      go_wp2_with fail
      go_loopw [6] (fun v wx => ∃ i : Nat, i ≤ 13 ∧ v = .int .i64 i ∧ Hid (Below w.heap.size w wx) ∧ Hid (RdH wx (some ⟨G, 0, none⟩) (hx g) 13) ∧ Hid (CtH wx (hx g) lx 13)) (fun v _ => 13 - (intOf v).toNat)
      case atStart => exact ⟨0, Nat.zero_le _, rfl, HB, HR, HC⟩
      case round =>
        clear HB HR HC
        obtain ⟨i, hi13, rfl, HB, HR, HC⟩ := hrel
        by_cases hi : i < 13
        · have di : decide ((i : Int) < 13) = true := by simp; omega
          go_wp2_with fail
          go_loopw [7] (fun v wx => ∃ k : Nat, k ≤ 13 ∧ v = .int .i64 k ∧ Hid (Below w.heap.size w wx) ∧ Hid (RdH wx (some ⟨G, 0, none⟩) (hx g) 13) ∧ Hid (CtH wx (hx g) lx 13)) (fun v _ => 13 - (intOf v).toNat)
          case atStart => exact ⟨0, Nat.zero_le _, rfl, HB, HR, HC⟩
          case round =>
            clear HB HR HC
            obtain ⟨k, hk13, rfl, HB, HR, HC⟩ := hrel
            by_cases hk : k < 13
            · have dk : decide ((k : Int) < 13) = true := by simp; omega
              have ci := Lib.hid (head_at HR.out hi)
              have ck := Lib.hid (head_at HR.out hk)
              go_upto_region 20 with fail
              refine wp_region_held_drew (S := fun w' => w'.heap[G]? = wr.heap[G]?) (by kernel_rfl) (rfl) (fun hHeld => ?_)
              have HHd := Lib.hid hHeld
              clear hHeld
              refine wpAnyH_take (i := 0) (oi := ⟨some 85, _, _, _, _, _⟩) (v := (.slice (some ⟨G, 0, none⟩) 13 13)) rfl (by kernel_rfl) (by kernel_rfl) (by kernel_rfl) (fun _ _ _ h => h) (Or.inl ⟨by rfl, ?_⟩) HHd.out ?_
              · intro w' hS; go_simp; try with_reducible rfl
              simp only [Act.put, List.setIfInBounds_toArray, List.set_cons_zero, List.set_cons_succ]
              refine wpAnyH_take (i := 1) (oi := ⟨some 86, _, _, _, _, _⟩) (v := (.int .i64 (i : Int))) rfl (by kernel_rfl) (by kernel_rfl) (by kernel_rfl) (fun _ _ _ h => h) (Or.inl ⟨by rfl, ?_⟩) HHd.out ?_
              · intro w' hS; go_simp; try with_reducible rfl
              simp only [Act.put, List.setIfInBounds_toArray, List.set_cons_zero, List.set_cons_succ]
              refine wpAnyH_take (i := 2) (oi := ⟨some 87, _, _, _, _, _⟩) (v := (.pointer (some ⟨G, i, none⟩))) rfl (by kernel_rfl) (by kernel_rfl) (by kernel_rfl) (fun _ _ _ h => h) (Or.inl ⟨by rfl, ?_⟩) HHd.out ?_
              · intro w' hS; go_simp; (try with_reducible rfl); (try (intro hbad; exfalso; omega))
              simp only [Act.put, List.setIfInBounds_toArray, List.set_cons_zero, List.set_cons_succ]
              refine wpAnyH_take (i := 3) (oi := ⟨some 88, _, _, _, _, _⟩) (v := (.slice (hx g i).A (hx g i).m (hx g i).c)) rfl (by kernel_rfl) (by kernel_rfl) (by kernel_rfl) (fun _ _ _ h => h) (Or.inl ⟨by rfl, ?_⟩) HHd.out ?_
              · intro w' hS; have z0 : w'.cell? ⟨G, i, none⟩ = some (.slice (hx g i).A (hx g i).m (hx g i).c) := (World.cell?_of_block (w := wr) (w' := w') hS).trans ci.out.2; go_simp; try with_reducible rfl
              simp only [Act.put, List.setIfInBounds_toArray, List.set_cons_zero, List.set_cons_succ]
              refine wpAnyH_take (i := 4) (oi := ⟨some 89, _, _, _, _, _⟩) (v := (.slice (some ⟨G, 0, none⟩) 13 13)) rfl (by kernel_rfl) (by kernel_rfl) (by kernel_rfl) (fun _ _ _ h => h) (Or.inl ⟨by rfl, ?_⟩) HHd.out ?_
              · intro w' hS; go_simp; try with_reducible rfl
              simp only [Act.put, List.setIfInBounds_toArray, List.set_cons_zero, List.set_cons_succ]
              refine wpAnyH_take (i := 5) (oi := ⟨some 90, _, _, _, _, _⟩) (v := (.int .i64 (k : Int))) rfl (by kernel_rfl) (by kernel_rfl) (by kernel_rfl) (fun _ _ _ h => h) (Or.inl ⟨by rfl, ?_⟩) HHd.out ?_
              · intro w' hS; go_simp; try with_reducible rfl
              simp only [Act.put, List.setIfInBounds_toArray, List.set_cons_zero, List.set_cons_succ]
              refine wpAnyH_take (i := 6) (oi := ⟨some 91, _, _, _, _, _⟩) (v := (.pointer (some ⟨G, k, none⟩))) rfl (by kernel_rfl) (by kernel_rfl) (by kernel_rfl) (fun _ _ _ h => h) (Or.inl ⟨by rfl, ?_⟩) HHd.out ?_
              · intro w' hS; go_simp; (try with_reducible rfl); (try (intro hbad; exfalso; omega))
              simp only [Act.put, List.setIfInBounds_toArray, List.set_cons_zero, List.set_cons_succ]
              refine wpAnyH_take (i := 7) (oi := ⟨some 92, _, _, _, _, _⟩) (v := (.slice (hx g k).A (hx g k).m (hx g k).c)) rfl (by kernel_rfl) (by kernel_rfl) (by kernel_rfl) (fun _ _ _ h => h) (Or.inl ⟨by rfl, ?_⟩) HHd.out ?_
              · intro w' hS; have z0 : w'.cell? ⟨G, k, none⟩ = some (.slice (hx g k).A (hx g k).m (hx g k).c) := (World.cell?_of_block (w := wr) (w' := w') hS).trans ck.out.2; go_simp; try with_reducible rfl
              simp only [Act.put, List.setIfInBounds_toArray, List.set_cons_zero, List.set_cons_succ]
              have HCd : Hid (CtH wr.drew (hx g) lx 13) := HC
              have HRd : Hid (RdH wr.drew (some ⟨G, 0, none⟩) (hx g) 13) := HR
              have HBd : Hid (Below w.heap.size w wr.drew) := Lib.hid ⟨HB.out.os, HB.out.tape, HB.out.output, HB.out.size, HB.out.block⟩
              clear HC HR HB
              have HC := HCd
              have HR := HRd
              have HB := HBd
              clear HCd HRd HBd
              refine wpAnyH_ready (rs := [8]) (by kernel_rfl) (by simp) ?_
              refine AllReadyH.cons (o := ⟨some 93, _, _, _, _, _⟩) rfl (fun K hK => ?_) AllReadyH.nil
              rw [if_pos (by rfl)]
              go_simp
              refine (lists_at HC.out hi hk).mono ?_
              rintro e wa ⟨rfl, b⟩
              (try simp only [Act.put, List.setIfInBounds_toArray, List.set_cons_zero, List.set_cons_succ])
              refine hK.out _ _ ((b.block G (head_at HR.out hi).1).trans HHd.out) (fun hHeld => ?_)
              clear hK K HHd
              have HHd := Lib.hid hHeld
              clear hHeld
              replace HB := Lib.hid (HB.out.trans (b.mono HB.out.size))
              replace HR := Lib.hid (HR.out.below b)
              replace HC := Lib.hid (HC.out.below b)
              clear b
              refine wpAnyH_take (i := 9) (oi := ⟨some 94, _, _, _, _, _⟩) (v := (.bool false)) rfl (by kernel_rfl) (by kernel_rfl) (by kernel_rfl) (fun _ _ _ h => h) (Or.inl ⟨by rfl, ?_⟩) HHd.out ?_
              · intro w' hS; go_simp; try with_reducible rfl
              simp only [Act.put, List.setIfInBounds_toArray, List.set_cons_zero, List.set_cons_succ]
              refine wpAnyH_take (i := 10) (oi := ⟨some 95, _, _, _, _, _⟩) (v := (.bool false)) rfl (by kernel_rfl) (by kernel_rfl) (by kernel_rfl) (fun _ _ _ h => h) (Or.inl ⟨by rfl, ?_⟩) HHd.out ?_
              · intro w' hS; go_simp; try with_reducible rfl
              simp only [Act.put, List.setIfInBounds_toArray, List.set_cons_zero, List.set_cons_succ]
              refine wpAnyH_take (i := 11) (oi := ⟨some 96, _, _, _, _, _⟩) (v := (.slice (some ⟨G, 0, none⟩) 13 13)) rfl (by kernel_rfl) (by kernel_rfl) (by kernel_rfl) (fun _ _ _ h => h) (Or.inl ⟨by rfl, ?_⟩) HHd.out ?_
              · intro w' hS; go_simp; try with_reducible rfl
              simp only [Act.put, List.setIfInBounds_toArray, List.set_cons_zero, List.set_cons_succ]
              refine wpAnyH_take (i := 12) (oi := ⟨some 97, _, _, _, _, _⟩) (v := (.int .i64 (i : Int))) rfl (by kernel_rfl) (by kernel_rfl) (by kernel_rfl) (fun _ _ _ h => h) (Or.inl ⟨by rfl, ?_⟩) HHd.out ?_
              · intro w' hS; go_simp; try with_reducible rfl
              simp only [Act.put, List.setIfInBounds_toArray, List.set_cons_zero, List.set_cons_succ]
              refine wpAnyH_take (i := 13) (oi := ⟨some 98, _, _, _, _, _⟩) (v := (.pointer (some ⟨G, i, none⟩))) rfl (by kernel_rfl) (by kernel_rfl) (by kernel_rfl) (fun _ _ _ h => h) (Or.inl ⟨by rfl, ?_⟩) HHd.out ?_
              · intro w' hS; go_simp; (try with_reducible rfl); (try (intro hbad; exfalso; omega))
              simp only [Act.put, List.setIfInBounds_toArray, List.set_cons_zero, List.set_cons_succ]
              refine wpAnyH_take (i := 14) (oi := ⟨some 99, _, _, _, _, _⟩) (v := (.slice (hx g i).A (hx g i).m (hx g i).c)) rfl (by kernel_rfl) (by kernel_rfl) (by kernel_rfl) (fun _ _ _ h => h) (Or.inl ⟨by rfl, ?_⟩) HHd.out ?_
              · intro w' hS; have z0 : w'.cell? ⟨G, i, none⟩ = some (.slice (hx g i).A (hx g i).m (hx g i).c) := (World.cell?_of_block (w := wr) (w' := w') hS).trans ci.out.2; go_simp; try with_reducible rfl
              simp only [Act.put, List.setIfInBounds_toArray, List.set_cons_zero, List.set_cons_succ]
              refine wpAnyH_take (i := 15) (oi := ⟨some 100, _, _, _, _, _⟩) (v := (.slice (some ⟨G, 0, none⟩) 13 13)) rfl (by kernel_rfl) (by kernel_rfl) (by kernel_rfl) (fun _ _ _ h => h) (Or.inl ⟨by rfl, ?_⟩) HHd.out ?_
              · intro w' hS; go_simp; try with_reducible rfl
              simp only [Act.put, List.setIfInBounds_toArray, List.set_cons_zero, List.set_cons_succ]
              refine wpAnyH_take (i := 16) (oi := ⟨some 101, _, _, _, _, _⟩) (v := (.int .i64 (k : Int))) rfl (by kernel_rfl) (by kernel_rfl) (by kernel_rfl) (fun _ _ _ h => h) (Or.inl ⟨by rfl, ?_⟩) HHd.out ?_
              · intro w' hS; go_simp; try with_reducible rfl
              simp only [Act.put, List.setIfInBounds_toArray, List.set_cons_zero, List.set_cons_succ]
              refine wpAnyH_take (i := 17) (oi := ⟨some 102, _, _, _, _, _⟩) (v := (.pointer (some ⟨G, k, none⟩))) rfl (by kernel_rfl) (by kernel_rfl) (by kernel_rfl) (fun _ _ _ h => h) (Or.inl ⟨by rfl, ?_⟩) HHd.out ?_
              · intro w' hS; go_simp; (try with_reducible rfl); (try (intro hbad; exfalso; omega))
              simp only [Act.put, List.setIfInBounds_toArray, List.set_cons_zero, List.set_cons_succ]
              refine wpAnyH_take (i := 18) (oi := ⟨some 103, _, _, _, _, _⟩) (v := (.slice (hx g k).A (hx g k).m (hx g k).c)) rfl (by kernel_rfl) (by kernel_rfl) (by kernel_rfl) (fun _ _ _ h => h) (Or.inl ⟨by rfl, ?_⟩) HHd.out ?_
              · intro w' hS; have z0 : w'.cell? ⟨G, k, none⟩ = some (.slice (hx g k).A (hx g k).m (hx g k).c) := (World.cell?_of_block (w := wr) (w' := w') hS).trans ck.out.2; go_simp; try with_reducible rfl
              simp only [Act.put, List.setIfInBounds_toArray, List.set_cons_zero, List.set_cons_succ]
              refine wpAnyH_ready (rs := [19]) (by kernel_rfl) (by simp) ?_
              refine AllReadyH.cons (o := ⟨some 104, _, _, _, _, _⟩) rfl (fun K hK => ?_) AllReadyH.nil
              rw [if_pos (by rfl)]
              go_simp
              refine (moves_at 15 (by decide) HC.out hi hk).mono ?_
              rintro e wb0 ⟨rfl, b⟩
              (try simp only [Act.put, List.setIfInBounds_toArray, List.set_cons_zero, List.set_cons_succ])
              refine hK.out _ _ ((b.block G (head_at HR.out hi).1).trans HHd.out) (fun hHeld => ?_)
              clear hK K HHd
              have HHd := Lib.hid hHeld
              clear hHeld
              replace HB := Lib.hid (HB.out.trans (b.mono HB.out.size))
              replace HR := Lib.hid (HR.out.below b)
              replace HC := Lib.hid (HC.out.below b)
              clear b
              refine wpAnyH_take (i := 20) (oi := ⟨some 105, _, _, _, _, _⟩) (v := (.bool false)) rfl (by kernel_rfl) (by kernel_rfl) (by kernel_rfl) (fun _ _ _ h => h) (Or.inl ⟨by rfl, ?_⟩) HHd.out ?_
              · intro w' hS; go_simp; try with_reducible rfl
              simp only [Act.put, List.setIfInBounds_toArray, List.set_cons_zero, List.set_cons_succ]
              refine wpAnyH_take (i := 21) (oi := ⟨some 106, _, _, _, _, _⟩) (v := (.bool false)) rfl (by kernel_rfl) (by kernel_rfl) (by kernel_rfl) (fun _ _ _ h => h) (Or.inl ⟨by rfl, ?_⟩) HHd.out ?_
              · intro w' hS; go_simp; try with_reducible rfl
              simp only [Act.put, List.setIfInBounds_toArray, List.set_cons_zero, List.set_cons_succ]
              refine wpAnyH_take (i := 22) (oi := ⟨some 107, _, _, _, _, _⟩) (v := (.bool false)) rfl (by kernel_rfl) (by kernel_rfl) (by kernel_rfl) (fun _ _ _ h => h) (Or.inl ⟨by rfl, ?_⟩) HHd.out ?_
              · intro w' hS; go_simp; try with_reducible rfl
              simp only [Act.put, List.setIfInBounds_toArray, List.set_cons_zero, List.set_cons_succ]
              refine wpAnyH_take (i := 23) (oi := ⟨some 108, _, _, _, _, _⟩) (v := (.slice (some ⟨G, 0, none⟩) 13 13)) rfl (by kernel_rfl) (by kernel_rfl) (by kernel_rfl) (fun _ _ _ h => h) (Or.inl ⟨by rfl, ?_⟩) HHd.out ?_
              · intro w' hS; go_simp; try with_reducible rfl
              simp only [Act.put, List.setIfInBounds_toArray, List.set_cons_zero, List.set_cons_succ]
              refine wpAnyH_take (i := 24) (oi := ⟨some 109, _, _, _, _, _⟩) (v := (.int .i64 (i : Int))) rfl (by kernel_rfl) (by kernel_rfl) (by kernel_rfl) (fun _ _ _ h => h) (Or.inl ⟨by rfl, ?_⟩) HHd.out ?_
              · intro w' hS; go_simp; try with_reducible rfl
              simp only [Act.put, List.setIfInBounds_toArray, List.set_cons_zero, List.set_cons_succ]
              refine wpAnyH_take (i := 25) (oi := ⟨some 110, _, _, _, _, _⟩) (v := (.pointer (some ⟨G, i, none⟩))) rfl (by kernel_rfl) (by kernel_rfl) (by kernel_rfl) (fun _ _ _ h => h) (Or.inl ⟨by rfl, ?_⟩) HHd.out ?_
              · intro w' hS; go_simp; (try with_reducible rfl); (try (intro hbad; exfalso; omega))
              simp only [Act.put, List.setIfInBounds_toArray, List.set_cons_zero, List.set_cons_succ]
              refine wpAnyH_take (i := 26) (oi := ⟨some 111, _, _, _, _, _⟩) (v := (.slice (hx g i).A (hx g i).m (hx g i).c)) rfl (by kernel_rfl) (by kernel_rfl) (by kernel_rfl) (fun _ _ _ h => h) (Or.inl ⟨by rfl, ?_⟩) HHd.out ?_
              · intro w' hS; have z0 : w'.cell? ⟨G, i, none⟩ = some (.slice (hx g i).A (hx g i).m (hx g i).c) := (World.cell?_of_block (w := wr) (w' := w') hS).trans ci.out.2; go_simp; try with_reducible rfl
              simp only [Act.put, List.setIfInBounds_toArray, List.set_cons_zero, List.set_cons_succ]
              refine wpAnyH_take (i := 27) (oi := ⟨some 112, _, _, _, _, _⟩) (v := (.slice (some ⟨G, 0, none⟩) 13 13)) rfl (by kernel_rfl) (by kernel_rfl) (by kernel_rfl) (fun _ _ _ h => h) (Or.inl ⟨by rfl, ?_⟩) HHd.out ?_
              · intro w' hS; go_simp; try with_reducible rfl
              simp only [Act.put, List.setIfInBounds_toArray, List.set_cons_zero, List.set_cons_succ]
              refine wpAnyH_take (i := 28) (oi := ⟨some 113, _, _, _, _, _⟩) (v := (.int .i64 (k : Int))) rfl (by kernel_rfl) (by kernel_rfl) (by kernel_rfl) (fun _ _ _ h => h) (Or.inl ⟨by rfl, ?_⟩) HHd.out ?_
              · intro w' hS; go_simp; try with_reducible rfl
              simp only [Act.put, List.setIfInBounds_toArray, List.set_cons_zero, List.set_cons_succ]
              refine wpAnyH_take (i := 29) (oi := ⟨some 114, _, _, _, _, _⟩) (v := (.pointer (some ⟨G, k, none⟩))) rfl (by kernel_rfl) (by kernel_rfl) (by kernel_rfl) (fun _ _ _ h => h) (Or.inl ⟨by rfl, ?_⟩) HHd.out ?_
              · intro w' hS; go_simp; (try with_reducible rfl); (try (intro hbad; exfalso; omega))
              simp only [Act.put, List.setIfInBounds_toArray, List.set_cons_zero, List.set_cons_succ]
              refine wpAnyH_take (i := 30) (oi := ⟨some 115, _, _, _, _, _⟩) (v := (.slice (hx g k).A (hx g k).m (hx g k).c)) rfl (by kernel_rfl) (by kernel_rfl) (by kernel_rfl) (fun _ _ _ h => h) (Or.inl ⟨by rfl, ?_⟩) HHd.out ?_
              · intro w' hS; have z0 : w'.cell? ⟨G, k, none⟩ = some (.slice (hx g k).A (hx g k).m (hx g k).c) := (World.cell?_of_block (w := wr) (w' := w') hS).trans ck.out.2; go_simp; try with_reducible rfl
              simp only [Act.put, List.setIfInBounds_toArray, List.set_cons_zero, List.set_cons_succ]
              refine wpAnyH_ready (rs := [31]) (by kernel_rfl) (by simp) ?_
              refine AllReadyH.cons (o := ⟨some 116, _, _, _, _, _⟩) rfl (fun K hK => ?_) AllReadyH.nil
              rw [if_pos (by rfl)]
              go_simp
              refine (moves_at 0 (by decide) HC.out hi hk).mono ?_
              rintro e wb1 ⟨rfl, b⟩
              (try simp only [Act.put, List.setIfInBounds_toArray, List.set_cons_zero, List.set_cons_succ])
              refine hK.out _ _ ((b.block G (head_at HR.out hi).1).trans HHd.out) (fun hHeld => ?_)
              clear hK K HHd
              have HHd := Lib.hid hHeld
              clear hHeld
              replace HB := Lib.hid (HB.out.trans (b.mono HB.out.size))
              replace HR := Lib.hid (HR.out.below b)
              replace HC := Lib.hid (HC.out.below b)
              clear b
              refine wpAnyH_take (i := 32) (oi := ⟨some 117, _, _, _, _, _⟩) (v := (.bool false)) rfl (by kernel_rfl) (by kernel_rfl) (by kernel_rfl) (fun _ _ _ h => h) (Or.inl ⟨by rfl, ?_⟩) HHd.out ?_
              · intro w' hS; go_simp; try with_reducible rfl
              simp only [Act.put, List.setIfInBounds_toArray, List.set_cons_zero, List.set_cons_succ]
              refine wpAnyH_take (i := 33) (oi := ⟨some 118, _, _, _, _, _⟩) (v := (.bool false)) rfl (by kernel_rfl) (by kernel_rfl) (by kernel_rfl) (fun _ _ _ h => h) (Or.inl ⟨by rfl, ?_⟩) HHd.out ?_
              · intro w' hS; go_simp; try with_reducible rfl
              simp only [Act.put, List.setIfInBounds_toArray, List.set_cons_zero, List.set_cons_succ]
              refine wpAnyH_take (i := 34) (oi := ⟨some 119, _, _, _, _, _⟩) (v := (.bool false)) rfl (by kernel_rfl) (by kernel_rfl) (by kernel_rfl) (fun _ _ _ h => h) (Or.inl ⟨by rfl, ?_⟩) HHd.out ?_
              · intro w' hS; go_simp; try with_reducible rfl
              simp only [Act.put, List.setIfInBounds_toArray, List.set_cons_zero, List.set_cons_succ]
              refine wpAnyH_take (i := 35) (oi := ⟨some 120, _, _, _, _, _⟩) (v := (.slice (some ⟨G, 0, none⟩) 13 13)) rfl (by kernel_rfl) (by kernel_rfl) (by kernel_rfl) (fun _ _ _ h => h) (Or.inl ⟨by rfl, ?_⟩) HHd.out ?_
              · intro w' hS; go_simp; try with_reducible rfl
              simp only [Act.put, List.setIfInBounds_toArray, List.set_cons_zero, List.set_cons_succ]
              refine wpAnyH_take (i := 36) (oi := ⟨some 121, _, _, _, _, _⟩) (v := (.int .i64 (i : Int))) rfl (by kernel_rfl) (by kernel_rfl) (by kernel_rfl) (fun _ _ _ h => h) (Or.inl ⟨by rfl, ?_⟩) HHd.out ?_
              · intro w' hS; go_simp; try with_reducible rfl
              simp only [Act.put, List.setIfInBounds_toArray, List.set_cons_zero, List.set_cons_succ]
              refine wpAnyH_take (i := 37) (oi := ⟨some 122, _, _, _, _, _⟩) (v := (.pointer (some ⟨G, i, none⟩))) rfl (by kernel_rfl) (by kernel_rfl) (by kernel_rfl) (fun _ _ _ h => h) (Or.inl ⟨by rfl, ?_⟩) HHd.out ?_
              · intro w' hS; go_simp; (try with_reducible rfl); (try (intro hbad; exfalso; omega))
              simp only [Act.put, List.setIfInBounds_toArray, List.set_cons_zero, List.set_cons_succ]
              refine wpAnyH_take (i := 38) (oi := ⟨some 123, _, _, _, _, _⟩) (v := (.slice (hx g i).A (hx g i).m (hx g i).c)) rfl (by kernel_rfl) (by kernel_rfl) (by kernel_rfl) (fun _ _ _ h => h) (Or.inl ⟨by rfl, ?_⟩) HHd.out ?_
              · intro w' hS; have z0 : w'.cell? ⟨G, i, none⟩ = some (.slice (hx g i).A (hx g i).m (hx g i).c) := (World.cell?_of_block (w := wr) (w' := w') hS).trans ci.out.2; go_simp; try with_reducible rfl
              simp only [Act.put, List.setIfInBounds_toArray, List.set_cons_zero, List.set_cons_succ]
              refine wpAnyH_take (i := 39) (oi := ⟨some 124, _, _, _, _, _⟩) (v := (.slice (some ⟨G, 0, none⟩) 13 13)) rfl (by kernel_rfl) (by kernel_rfl) (by kernel_rfl) (fun _ _ _ h => h) (Or.inl ⟨by rfl, ?_⟩) HHd.out ?_
              · intro w' hS; go_simp; try with_reducible rfl
              simp only [Act.put, List.setIfInBounds_toArray, List.set_cons_zero, List.set_cons_succ]
              refine wpAnyH_take (i := 40) (oi := ⟨some 125, _, _, _, _, _⟩) (v := (.int .i64 (k : Int))) rfl (by kernel_rfl) (by kernel_rfl) (by kernel_rfl) (fun _ _ _ h => h) (Or.inl ⟨by rfl, ?_⟩) HHd.out ?_
              · intro w' hS; go_simp; try with_reducible rfl
              simp only [Act.put, List.setIfInBounds_toArray, List.set_cons_zero, List.set_cons_succ]
              refine wpAnyH_take (i := 41) (oi := ⟨some 126, _, _, _, _, _⟩) (v := (.pointer (some ⟨G, k, none⟩))) rfl (by kernel_rfl) (by kernel_rfl) (by kernel_rfl) (fun _ _ _ h => h) (Or.inl ⟨by rfl, ?_⟩) HHd.out ?_
              · intro w' hS; go_simp; (try with_reducible rfl); (try (intro hbad; exfalso; omega))
              simp only [Act.put, List.setIfInBounds_toArray, List.set_cons_zero, List.set_cons_succ]
              refine wpAnyH_take (i := 42) (oi := ⟨some 127, _, _, _, _, _⟩) (v := (.slice (hx g k).A (hx g k).m (hx g k).c)) rfl (by kernel_rfl) (by kernel_rfl) (by kernel_rfl) (fun _ _ _ h => h) (Or.inl ⟨by rfl, ?_⟩) HHd.out ?_
              · intro w' hS; have z0 : w'.cell? ⟨G, k, none⟩ = some (.slice (hx g k).A (hx g k).m (hx g k).c) := (World.cell?_of_block (w := wr) (w' := w') hS).trans ck.out.2; go_simp; try with_reducible rfl
              simp only [Act.put, List.setIfInBounds_toArray, List.set_cons_zero, List.set_cons_succ]
              refine wpAnyH_ready (rs := [43]) (by kernel_rfl) (by simp) ?_
              refine AllReadyH.cons (o := ⟨some 128, _, _, _, _, _⟩) rfl (fun K hK => ?_) AllReadyH.nil
              rw [if_pos (by rfl)]
              go_simp
              refine (moves_at 18446744073709551615 (by decide) HC.out hi hk).mono ?_
              rintro e wb2 ⟨rfl, b⟩
              (try simp only [Act.put, List.setIfInBounds_toArray, List.set_cons_zero, List.set_cons_succ])
              refine hK.out _ _ ((b.block G (head_at HR.out hi).1).trans HHd.out) (fun hHeld => ?_)
              clear hK K HHd
              have HHd := Lib.hid hHeld
              clear hHeld
              replace HB := Lib.hid (HB.out.trans (b.mono HB.out.size))
              replace HR := Lib.hid (HR.out.below b)
              replace HC := Lib.hid (HC.out.below b)
              clear b
              refine wpAnyH_take (i := 44) (oi := ⟨some 129, _, _, _, _, _⟩) (v := (.bool false)) rfl (by kernel_rfl) (by kernel_rfl) (by kernel_rfl) (fun _ _ _ h => h) (Or.inl ⟨by rfl, ?_⟩) HHd.out ?_
              · intro w' hS; go_simp; try with_reducible rfl
              simp only [Act.put, List.setIfInBounds_toArray, List.set_cons_zero, List.set_cons_succ]
              refine wpAnyH_take (i := 45) (oi := ⟨some 130, _, _, _, _, _⟩) (v := (.bool false)) rfl (by kernel_rfl) (by kernel_rfl) (by kernel_rfl) (fun _ _ _ h => h) (Or.inl ⟨by rfl, ?_⟩) HHd.out ?_
              · intro w' hS; go_simp; try with_reducible rfl
              simp only [Act.put, List.setIfInBounds_toArray, List.set_cons_zero, List.set_cons_succ]
              refine wpAnyH_take (i := 46) (oi := ⟨some 131, _, _, _, _, _⟩) (v := (.bool false)) rfl (by kernel_rfl) (by kernel_rfl) (by kernel_rfl) (fun _ _ _ h => h) (Or.inl ⟨by rfl, ?_⟩) HHd.out ?_
              · intro w' hS; go_simp; try with_reducible rfl
              simp only [Act.put, List.setIfInBounds_toArray, List.set_cons_zero, List.set_cons_succ]
              refine wpAnyH_take (i := 47) (oi := ⟨some 132, _, _, _, _, _⟩) (v := (.slice (some ⟨G, 0, none⟩) 13 13)) rfl (by kernel_rfl) (by kernel_rfl) (by kernel_rfl) (fun _ _ _ h => h) (Or.inl ⟨by rfl, ?_⟩) HHd.out ?_
              · intro w' hS; go_simp; try with_reducible rfl
              simp only [Act.put, List.setIfInBounds_toArray, List.set_cons_zero, List.set_cons_succ]
              refine wpAnyH_take (i := 48) (oi := ⟨some 133, _, _, _, _, _⟩) (v := (.int .i64 (i : Int))) rfl (by kernel_rfl) (by kernel_rfl) (by kernel_rfl) (fun _ _ _ h => h) (Or.inl ⟨by rfl, ?_⟩) HHd.out ?_
              · intro w' hS; go_simp; try with_reducible rfl
              simp only [Act.put, List.setIfInBounds_toArray, List.set_cons_zero, List.set_cons_succ]
              refine wpAnyH_take (i := 49) (oi := ⟨some 134, _, _, _, _, _⟩) (v := (.pointer (some ⟨G, i, none⟩))) rfl (by kernel_rfl) (by kernel_rfl) (by kernel_rfl) (fun _ _ _ h => h) (Or.inl ⟨by rfl, ?_⟩) HHd.out ?_
              · intro w' hS; go_simp; (try with_reducible rfl); (try (intro hbad; exfalso; omega))
              simp only [Act.put, List.setIfInBounds_toArray, List.set_cons_zero, List.set_cons_succ]
              refine wpAnyH_take (i := 50) (oi := ⟨some 135, _, _, _, _, _⟩) (v := (.slice (hx g i).A (hx g i).m (hx g i).c)) rfl (by kernel_rfl) (by kernel_rfl) (by kernel_rfl) (fun _ _ _ h => h) (Or.inl ⟨by rfl, ?_⟩) HHd.out ?_
              · intro w' hS; have z0 : w'.cell? ⟨G, i, none⟩ = some (.slice (hx g i).A (hx g i).m (hx g i).c) := (World.cell?_of_block (w := wr) (w' := w') hS).trans ci.out.2; go_simp; try with_reducible rfl
              simp only [Act.put, List.setIfInBounds_toArray, List.set_cons_zero, List.set_cons_succ]
              refine wpAnyH_take (i := 51) (oi := ⟨some 136, _, _, _, _, _⟩) (v := (.slice (some ⟨G, 0, none⟩) 13 13)) rfl (by kernel_rfl) (by kernel_rfl) (by kernel_rfl) (fun _ _ _ h => h) (Or.inl ⟨by rfl, ?_⟩) HHd.out ?_
              · intro w' hS; go_simp; try with_reducible rfl
              simp only [Act.put, List.setIfInBounds_toArray, List.set_cons_zero, List.set_cons_succ]
              refine wpAnyH_take (i := 52) (oi := ⟨some 137, _, _, _, _, _⟩) (v := (.int .i64 (k : Int))) rfl (by kernel_rfl) (by kernel_rfl) (by kernel_rfl) (fun _ _ _ h => h) (Or.inl ⟨by rfl, ?_⟩) HHd.out ?_
              · intro w' hS; go_simp; try with_reducible rfl
              simp only [Act.put, List.setIfInBounds_toArray, List.set_cons_zero, List.set_cons_succ]
              refine wpAnyH_take (i := 53) (oi := ⟨some 138, _, _, _, _, _⟩) (v := (.pointer (some ⟨G, k, none⟩))) rfl (by kernel_rfl) (by kernel_rfl) (by kernel_rfl) (fun _ _ _ h => h) (Or.inl ⟨by rfl, ?_⟩) HHd.out ?_
              · intro w' hS; go_simp; (try with_reducible rfl); (try (intro hbad; exfalso; omega))
              simp only [Act.put, List.setIfInBounds_toArray, List.set_cons_zero, List.set_cons_succ]
              refine wpAnyH_take (i := 54) (oi := ⟨some 139, _, _, _, _, _⟩) (v := (.slice (hx g k).A (hx g k).m (hx g k).c)) rfl (by kernel_rfl) (by kernel_rfl) (by kernel_rfl) (fun _ _ _ h => h) (Or.inl ⟨by rfl, ?_⟩) HHd.out ?_
              · intro w' hS; have z0 : w'.cell? ⟨G, k, none⟩ = some (.slice (hx g k).A (hx g k).m (hx g k).c) := (World.cell?_of_block (w := wr) (w' := w') hS).trans ck.out.2; go_simp; try with_reducible rfl
              simp only [Act.put, List.setIfInBounds_toArray, List.set_cons_zero, List.set_cons_succ]
              refine wpAnyH_ready (rs := [55]) (by kernel_rfl) (by simp) ?_
              refine AllReadyH.cons (o := ⟨some 140, _, _, _, _, _⟩) rfl (fun K hK => ?_) AllReadyH.nil
              rw [if_pos (by rfl)]
              go_simp
              refine (moves_at 18446744073709551360 (by decide) HC.out hi hk).mono ?_
              rintro e wb3 ⟨rfl, b⟩
              (try simp only [Act.put, List.setIfInBounds_toArray, List.set_cons_zero, List.set_cons_succ])
              refine hK.out _ _ ((b.block G (head_at HR.out hi).1).trans HHd.out) (fun hHeld => ?_)
              clear hK K HHd
              have HHd := Lib.hid hHeld
              clear hHeld
              replace HB := Lib.hid (HB.out.trans (b.mono HB.out.size))
              replace HR := Lib.hid (HR.out.below b)
              replace HC := Lib.hid (HC.out.below b)
              clear b
              refine wpAnyH_take (i := 56) (oi := ⟨some 141, _, _, _, _, _⟩) (v := (.bool false)) rfl (by kernel_rfl) (by kernel_rfl) (by kernel_rfl) (fun _ _ _ h => h) (Or.inl ⟨by rfl, ?_⟩) HHd.out ?_
              · intro w' hS; go_simp; try with_reducible rfl
              simp only [Act.put, List.setIfInBounds_toArray, List.set_cons_zero, List.set_cons_succ]
              refine wpAnyH_take (i := 57) (oi := ⟨some 142, _, _, _, _, _⟩) (v := (.bool false)) rfl (by kernel_rfl) (by kernel_rfl) (by kernel_rfl) (fun _ _ _ h => h) (Or.inl ⟨by rfl, ?_⟩) HHd.out ?_
              · intro w' hS; go_simp; try with_reducible rfl
              simp only [Act.put, List.setIfInBounds_toArray, List.set_cons_zero, List.set_cons_succ]
              refine wpAnyH_done (by kernel_rfl) ?_ _
              go_wp2_with fail
              go_roundw
              case rel => exact ⟨k + 1, by omega, by go_num, HB, HR, HC⟩
              case measure => simp [intOf]; omega
            · have dk : decide ((k : Int) < 13) = false := by simp; omega
              go_wp2_with fail
              go_loopw [8] (fun v wx => ∃ s : Nat, s ≤ 5 ∧ v = .int .i64 ((s : Int) - 1) ∧ Hid (Below w.heap.size w wx) ∧ Hid (RdH wx (some ⟨G, 0, none⟩) (hx g) 13) ∧ Hid (CtH wx (hx g) lx 13)) (fun v _ => (4 - intOf v).toNat)
              case atStart => exact ⟨0, by omega, by go_num, HB, HR, HC⟩
              case round =>
                clear HB HR HC dk hk hk13
                obtain ⟨s, hs5, rfl, HB, HR, HC⟩ := hrel
                by_cases hs : s < 5
                · have ds : decide ((s : Int) - 1 < 4) = true := by simp; omega
                  have hsx : -9223372036854775808 ≤ (s : Int) - 1 ∧ (s : Int) - 1 ≤ 9223372036854775807 := by omega
                  have hw : IntKind.i64.wrap ((s : Int) - 1 + 1) = ((s + 1 : Nat) : Int) - 1 := by rw [IntKind.wrap_i64] <;> omega
                  have hl12 : 12 < 13 := by decide
                  have ci := Lib.hid (head_at HR.out hi)
                  have c12 := Lib.hid (head_at HR.out hl12)
                  go_upto_region 25 with fail
                  refine wp_region_held_drew (S := fun w' => w'.heap[G]? = wr.heap[G]?) (by kernel_rfl) (rfl) (fun hHeld => ?_)
                  have HHd := Lib.hid hHeld
                  clear hHeld
                  refine wpAnyH_take (i := 0) (oi := ⟨some 147, _, _, _, _, _⟩) (v := (.slice (some ⟨G, 0, none⟩) 13 13)) rfl (by kernel_rfl) (by kernel_rfl) (by kernel_rfl) (fun _ _ _ h => h) (Or.inl ⟨by rfl, ?_⟩) HHd.out ?_
                  · intro w' hS; go_simp; try with_reducible rfl
                  simp only [Act.put, List.setIfInBounds_toArray, List.set_cons_zero, List.set_cons_succ]
                  refine wpAnyH_take (i := 1) (oi := ⟨some 148, _, _, _, _, _⟩) (v := (.int .i64 (i : Int))) rfl (by kernel_rfl) (by kernel_rfl) (by kernel_rfl) (fun _ _ _ h => h) (Or.inl ⟨by rfl, ?_⟩) HHd.out ?_
                  · intro w' hS; go_simp; try with_reducible rfl
                  simp only [Act.put, List.setIfInBounds_toArray, List.set_cons_zero, List.set_cons_succ]
                  refine wpAnyH_take (i := 2) (oi := ⟨some 149, _, _, _, _, _⟩) (v := (.pointer (some ⟨G, i, none⟩))) rfl (by kernel_rfl) (by kernel_rfl) (by kernel_rfl) (fun _ _ _ h => h) (Or.inl ⟨by rfl, ?_⟩) HHd.out ?_
                  · intro w' hS; go_simp; (try with_reducible rfl); (try (intro hbad; exfalso; omega))
                  simp only [Act.put, List.setIfInBounds_toArray, List.set_cons_zero, List.set_cons_succ]
                  refine wpAnyH_take (i := 3) (oi := ⟨some 150, _, _, _, _, _⟩) (v := (.slice (hx g i).A (hx g i).m (hx g i).c)) rfl (by kernel_rfl) (by kernel_rfl) (by kernel_rfl) (fun _ _ _ h => h) (Or.inl ⟨by rfl, ?_⟩) HHd.out ?_
                  · intro w' hS; have z0 : w'.cell? ⟨G, i, none⟩ = some (.slice (hx g i).A (hx g i).m (hx g i).c) := (World.cell?_of_block (w := wr) (w' := w') hS).trans ci.out.2; go_simp; try with_reducible rfl
                  simp only [Act.put, List.setIfInBounds_toArray, List.set_cons_zero, List.set_cons_succ]
                  refine wpAnyH_take (i := 4) (oi := ⟨some 151, _, _, _, _, _⟩) (v := (.slice (some ⟨G, 0, none⟩) 13 13)) rfl (by kernel_rfl) (by kernel_rfl) (by kernel_rfl) (fun _ _ _ h => h) (Or.inl ⟨by rfl, ?_⟩) HHd.out ?_
                  · intro w' hS; go_simp; try with_reducible rfl
                  simp only [Act.put, List.setIfInBounds_toArray, List.set_cons_zero, List.set_cons_succ]
                  refine wpAnyH_take (i := 5) (oi := ⟨some 152, _, _, _, _, _⟩) (v := (.int .i64 (i : Int))) rfl (by kernel_rfl) (by kernel_rfl) (by kernel_rfl) (fun _ _ _ h => h) (Or.inl ⟨by rfl, ?_⟩) HHd.out ?_
                  · intro w' hS; go_simp; try with_reducible rfl
                  simp only [Act.put, List.setIfInBounds_toArray, List.set_cons_zero, List.set_cons_succ]
                  refine wpAnyH_take (i := 6) (oi := ⟨some 153, _, _, _, _, _⟩) (v := (.pointer (some ⟨G, i, none⟩))) rfl (by kernel_rfl) (by kernel_rfl) (by kernel_rfl) (fun _ _ _ h => h) (Or.inl ⟨by rfl, ?_⟩) HHd.out ?_
                  · intro w' hS; go_simp; (try with_reducible rfl); (try (intro hbad; exfalso; omega))
                  simp only [Act.put, List.setIfInBounds_toArray, List.set_cons_zero, List.set_cons_succ]
                  refine wpAnyH_take (i := 7) (oi := ⟨some 154, _, _, _, _, _⟩) (v := (.slice (hx g i).A (hx g i).m (hx g i).c)) rfl (by kernel_rfl) (by kernel_rfl) (by kernel_rfl) (fun _ _ _ h => h) (Or.inl ⟨by rfl, ?_⟩) HHd.out ?_
                  · intro w' hS; have z0 : w'.cell? ⟨G, i, none⟩ = some (.slice (hx g i).A (hx g i).m (hx g i).c) := (World.cell?_of_block (w := wr) (w' := w') hS).trans ci.out.2; go_simp; try with_reducible rfl
                  simp only [Act.put, List.setIfInBounds_toArray, List.set_cons_zero, List.set_cons_succ]
                  refine wpAnyH_take (i := 8) (oi := ⟨some 155, _, _, _, _, _⟩) (v := (.slice (some ⟨G, 0, none⟩) 13 13)) rfl (by kernel_rfl) (by kernel_rfl) (by kernel_rfl) (fun _ _ _ h => h) (Or.inl ⟨by rfl, ?_⟩) HHd.out ?_
                  · intro w' hS; go_simp; try with_reducible rfl
                  simp only [Act.put, List.setIfInBounds_toArray, List.set_cons_zero, List.set_cons_succ]
                  refine wpAnyH_take (i := 9) (oi := ⟨some 156, _, _, _, _, _⟩) (v := (.int .i64 (i : Int))) rfl (by kernel_rfl) (by kernel_rfl) (by kernel_rfl) (fun _ _ _ h => h) (Or.inl ⟨by rfl, ?_⟩) HHd.out ?_
                  · intro w' hS; go_simp; try with_reducible rfl
                  simp only [Act.put, List.setIfInBounds_toArray, List.set_cons_zero, List.set_cons_succ]
                  refine wpAnyH_take (i := 10) (oi := ⟨some 157, _, _, _, _, _⟩) (v := (.pointer (some ⟨G, i, none⟩))) rfl (by kernel_rfl) (by kernel_rfl) (by kernel_rfl) (fun _ _ _ h => h) (Or.inl ⟨by rfl, ?_⟩) HHd.out ?_
                  · intro w' hS; go_simp; (try with_reducible rfl); (try (intro hbad; exfalso; omega))
                  simp only [Act.put, List.setIfInBounds_toArray, List.set_cons_zero, List.set_cons_succ]
                  refine wpAnyH_take (i := 11) (oi := ⟨some 158, _, _, _, _, _⟩) (v := (.slice (hx g i).A (hx g i).m (hx g i).c)) rfl (by kernel_rfl) (by kernel_rfl) (by kernel_rfl) (fun _ _ _ h => h) (Or.inl ⟨by rfl, ?_⟩) HHd.out ?_
                  · intro w' hS; have z0 : w'.cell? ⟨G, i, none⟩ = some (.slice (hx g i).A (hx g i).m (hx g i).c) := (World.cell?_of_block (w := wr) (w' := w') hS).trans ci.out.2; go_simp; try with_reducible rfl
                  simp only [Act.put, List.setIfInBounds_toArray, List.set_cons_zero, List.set_cons_succ]
                  refine wpAnyH_take (i := 13) (oi := ⟨some 160, _, _, _, _, _⟩) (v := (.int .i64 ((s : Int) - 1))) rfl (by kernel_rfl) (by kernel_rfl) (by kernel_rfl) (fun _ _ _ h => h) (Or.inl ⟨by rfl, ?_⟩) HHd.out ?_
                  · intro w' hS; go_simp; try with_reducible rfl
                  simp only [Act.put, List.setIfInBounds_toArray, List.set_cons_zero, List.set_cons_succ]
                  have HZ : Hid (wr.drew.heap[G]? = wr.heap[G]?) := HHd
                  have HCd : Hid (CtH wr.drew (hx g) lx 13) := HC
                  have HRd : Hid (RdH wr.drew (some ⟨G, 0, none⟩) (hx g) 13) := HR
                  have HBd : Hid (Below w.heap.size w wr.drew) := Lib.hid ⟨HB.out.os, HB.out.tape, HB.out.output, HB.out.size, HB.out.block⟩
                  clear HC HR HB
                  have HC := HCd
                  have HR := HRd
                  have HB := HBd
                  clear HCd HRd HBd
                  refine wpAnyH_ready (rs := [12]) (by kernel_rfl) (by simp) ?_
                  refine AllReadyH.cons (o := ⟨some 159, _, _, _, _, _⟩) rfl (fun K hK => ?_) AllReadyH.nil
                  rw [if_pos (by rfl)]
                  go_simp
                  have b : Below (wr.drew).heap.size (wr.drew) ((wr.drew).alloc (.cells #[Value.slice (hx g i).A (hx g i).m (hx g i).c, Value.slice (hx g i).A (hx g i).m (hx g i).c, Value.slice (hx g i).A (hx g i).m (hx g i).c] 47)) := (Below.refl _ _).alloc (Nat.le_refl _) _
                  refine hK.out _ _ ((b.block G (head_at HR.out hi).1).trans HHd.out) (fun hHeld => ?_)
                  clear hK K HHd b
                  have HHd := Lib.hid hHeld
                  clear hHeld
                  refine wpAnyH_ready (rs := [14]) (by kernel_rfl) (by simp) ?_
                  refine AllReadyH.cons (o := ⟨some 161, _, _, _, _, _⟩) rfl (fun K hK => ?_) AllReadyH.nil
                  rw [if_pos (by rfl)]
                  go_simp
                  refine (rows3 (W := wr.drew) ((s : Int) - 1) hsx HC.out hi hi hi).mono ?_
                  rintro e wa ⟨rfl, b⟩
                  (try simp only [Act.put, List.setIfInBounds_toArray, List.set_cons_zero, List.set_cons_succ])
                  refine hK.out _ _ ((b.block G (head_at HR.out hi).1).trans HZ.out) (fun hHeld => ?_)
                  clear hK K HHd
                  have HHd := Lib.hid hHeld
                  clear hHeld HZ
                  replace HB := Lib.hid (HB.out.trans (b.mono HB.out.size))
                  replace HR := Lib.hid (HR.out.below b)
                  replace HC := Lib.hid (HC.out.below b)
                  clear b
                  refine wpAnyH_take (i := 15) (oi := ⟨some 162, _, _, _, _, _⟩) (v := (.bool false)) rfl (by kernel_rfl) (by kernel_rfl) (by kernel_rfl) (fun _ _ _ h => h) (Or.inl ⟨by rfl, ?_⟩) HHd.out ?_
                  · intro w' hS; go_simp; try with_reducible rfl
                  simp only [Act.put, List.setIfInBounds_toArray, List.set_cons_zero, List.set_cons_succ]
                  refine wpAnyH_take (i := 16) (oi := ⟨some 163, _, _, _, _, _⟩) (v := (.bool false)) rfl (by kernel_rfl) (by kernel_rfl) (by kernel_rfl) (fun _ _ _ h => h) (Or.inl ⟨by rfl, ?_⟩) HHd.out ?_
                  · intro w' hS; go_simp; try with_reducible rfl
                  simp only [Act.put, List.setIfInBounds_toArray, List.set_cons_zero, List.set_cons_succ]
                  refine wpAnyH_take (i := 17) (oi := ⟨some 164, _, _, _, _, _⟩) (v := (.slice (some ⟨G, 0, none⟩) 13 13)) rfl (by kernel_rfl) (by kernel_rfl) (by kernel_rfl) (fun _ _ _ h => h) (Or.inl ⟨by rfl, ?_⟩) HHd.out ?_
                  · intro w' hS; go_simp; try with_reducible rfl
                  simp only [Act.put, List.setIfInBounds_toArray, List.set_cons_zero, List.set_cons_succ]
                  refine wpAnyH_take (i := 18) (oi := ⟨some 165, _, _, _, _, _⟩) (v := (.int .i64 (i : Int))) rfl (by kernel_rfl) (by kernel_rfl) (by kernel_rfl) (fun _ _ _ h => h) (Or.inl ⟨by rfl, ?_⟩) HHd.out ?_
                  · intro w' hS; go_simp; try with_reducible rfl
                  simp only [Act.put, List.setIfInBounds_toArray, List.set_cons_zero, List.set_cons_succ]
                  refine wpAnyH_take (i := 19) (oi := ⟨some 166, _, _, _, _, _⟩) (v := (.pointer (some ⟨G, i, none⟩))) rfl (by kernel_rfl) (by kernel_rfl) (by kernel_rfl) (fun _ _ _ h => h) (Or.inl ⟨by rfl, ?_⟩) HHd.out ?_
                  · intro w' hS; go_simp; (try with_reducible rfl); (try (intro hbad; exfalso; omega))
                  simp only [Act.put, List.setIfInBounds_toArray, List.set_cons_zero, List.set_cons_succ]
                  refine wpAnyH_take (i := 20) (oi := ⟨some 167, _, _, _, _, _⟩) (v := (.slice (hx g i).A (hx g i).m (hx g i).c)) rfl (by kernel_rfl) (by kernel_rfl) (by kernel_rfl) (fun _ _ _ h => h) (Or.inl ⟨by rfl, ?_⟩) HHd.out ?_
                  · intro w' hS; have z0 : w'.cell? ⟨G, i, none⟩ = some (.slice (hx g i).A (hx g i).m (hx g i).c) := (World.cell?_of_block (w := wr) (w' := w') hS).trans ci.out.2; go_simp; try with_reducible rfl
                  simp only [Act.put, List.setIfInBounds_toArray, List.set_cons_zero, List.set_cons_succ]
                  refine wpAnyH_take (i := 21) (oi := ⟨some 168, _, _, _, _, _⟩) (v := (.slice (some ⟨G, 0, none⟩) 13 13)) rfl (by kernel_rfl) (by kernel_rfl) (by kernel_rfl) (fun _ _ _ h => h) (Or.inl ⟨by rfl, ?_⟩) HHd.out ?_
                  · intro w' hS; go_simp; try with_reducible rfl
                  simp only [Act.put, List.setIfInBounds_toArray, List.set_cons_zero, List.set_cons_succ]
                  refine wpAnyH_take (i := 22) (oi := ⟨some 169, _, _, _, _, _⟩) (v := (.pointer (some ⟨G, 12, none⟩))) rfl (by kernel_rfl) (by kernel_rfl) (by kernel_rfl) (fun _ _ _ h => h) (Or.inl ⟨by rfl, ?_⟩) HHd.out ?_
                  · intro w' hS; go_simp; (try with_reducible rfl)
                  simp only [Act.put, List.setIfInBounds_toArray, List.set_cons_zero, List.set_cons_succ]
                  refine wpAnyH_take (i := 23) (oi := ⟨some 170, _, _, _, _, _⟩) (v := (.slice (hx g 12).A (hx g 12).m (hx g 12).c)) rfl (by kernel_rfl) (by kernel_rfl) (by kernel_rfl) (fun _ _ _ h => h) (Or.inl ⟨by rfl, ?_⟩) HHd.out ?_
                  · intro w' hS; have z0 : w'.cell? ⟨G, 12, none⟩ = some (.slice (hx g 12).A (hx g 12).m (hx g 12).c) := (World.cell?_of_block (w := wr) (w' := w') hS).trans c12.out.2; go_simp; try with_reducible rfl
                  simp only [Act.put, List.setIfInBounds_toArray, List.set_cons_zero, List.set_cons_succ]
                  refine wpAnyH_take (i := 24) (oi := ⟨some 171, _, _, _, _, _⟩) (v := (.slice (some ⟨G, 0, none⟩) 13 13)) rfl (by kernel_rfl) (by kernel_rfl) (by kernel_rfl) (fun _ _ _ h => h) (Or.inl ⟨by rfl, ?_⟩) HHd.out ?_
                  · intro w' hS; go_simp; try with_reducible rfl
                  simp only [Act.put, List.setIfInBounds_toArray, List.set_cons_zero, List.set_cons_succ]
                  refine wpAnyH_take (i := 25) (oi := ⟨some 172, _, _, _, _, _⟩) (v := (.int .i64 (i : Int))) rfl (by kernel_rfl) (by kernel_rfl) (by kernel_rfl) (fun _ _ _ h => h) (Or.inl ⟨by rfl, ?_⟩) HHd.out ?_
                  · intro w' hS; go_simp; try with_reducible rfl
                  simp only [Act.put, List.setIfInBounds_toArray, List.set_cons_zero, List.set_cons_succ]
                  refine wpAnyH_take (i := 26) (oi := ⟨some 173, _, _, _, _, _⟩) (v := (.pointer (some ⟨G, i, none⟩))) rfl (by kernel_rfl) (by kernel_rfl) (by kernel_rfl) (fun _ _ _ h => h) (Or.inl ⟨by rfl, ?_⟩) HHd.out ?_
                  · intro w' hS; go_simp; (try with_reducible rfl); (try (intro hbad; exfalso; omega))
                  simp only [Act.put, List.setIfInBounds_toArray, List.set_cons_zero, List.set_cons_succ]
                  refine wpAnyH_take (i := 27) (oi := ⟨some 174, _, _, _, _, _⟩) (v := (.slice (hx g i).A (hx g i).m (hx g i).c)) rfl (by kernel_rfl) (by kernel_rfl) (by kernel_rfl) (fun _ _ _ h => h) (Or.inl ⟨by rfl, ?_⟩) HHd.out ?_
                  · intro w' hS; have z0 : w'.cell? ⟨G, i, none⟩ = some (.slice (hx g i).A (hx g i).m (hx g i).c) := (World.cell?_of_block (w := wr) (w' := w') hS).trans ci.out.2; go_simp; try with_reducible rfl
                  simp only [Act.put, List.setIfInBounds_toArray, List.set_cons_zero, List.set_cons_succ]
                  refine wpAnyH_take (i := 29) (oi := ⟨some 176, _, _, _, _, _⟩) (v := (.int .i64 ((s : Int) - 1))) rfl (by kernel_rfl) (by kernel_rfl) (by kernel_rfl) (fun _ _ _ h => h) (Or.inl ⟨by rfl, ?_⟩) HHd.out ?_
                  · intro w' hS; go_simp; try with_reducible rfl
                  simp only [Act.put, List.setIfInBounds_toArray, List.set_cons_zero, List.set_cons_succ]
                  have HZ : Hid (wa.heap[G]? = wr.heap[G]?) := HHd
                  refine wpAnyH_ready (rs := [28]) (by kernel_rfl) (by simp) ?_
                  refine AllReadyH.cons (o := ⟨some 175, _, _, _, _, _⟩) rfl (fun K hK => ?_) AllReadyH.nil
                  rw [if_pos (by rfl)]
                  go_simp
                  have b : Below (wa).heap.size (wa) ((wa).alloc (.cells #[Value.slice (hx g i).A (hx g i).m (hx g i).c, Value.slice (hx g 12).A (hx g 12).m (hx g 12).c, Value.slice (hx g i).A (hx g i).m (hx g i).c] 47)) := (Below.refl _ _).alloc (Nat.le_refl _) _
                  refine hK.out _ _ ((b.block G (head_at HR.out hi).1).trans HHd.out) (fun hHeld => ?_)
                  clear hK K HHd b
                  have HHd := Lib.hid hHeld
                  clear hHeld
                  refine wpAnyH_ready (rs := [30]) (by kernel_rfl) (by simp) ?_
                  refine AllReadyH.cons (o := ⟨some 177, _, _, _, _, _⟩) rfl (fun K hK => ?_) AllReadyH.nil
                  rw [if_pos (by rfl)]
                  go_simp
                  refine (rows3 (W := wa) ((s : Int) - 1) hsx HC.out hi hl12 hi).mono ?_
                  rintro e wb ⟨rfl, b⟩
                  (try simp only [Act.put, List.setIfInBounds_toArray, List.set_cons_zero, List.set_cons_succ])
                  refine hK.out _ _ ((b.block G (head_at HR.out hi).1).trans HZ.out) (fun hHeld => ?_)
                  clear hK K HHd
                  have HHd := Lib.hid hHeld
                  clear hHeld HZ
                  replace HB := Lib.hid (HB.out.trans (b.mono HB.out.size))
                  replace HR := Lib.hid (HR.out.below b)
                  replace HC := Lib.hid (HC.out.below b)
                  clear b
                  refine wpAnyH_take (i := 31) (oi := ⟨some 178, _, _, _, _, _⟩) (v := (.bool false)) rfl (by kernel_rfl) (by kernel_rfl) (by kernel_rfl) (fun _ _ _ h => h) (Or.inl ⟨by rfl, ?_⟩) HHd.out ?_
                  · intro w' hS; go_simp; try with_reducible rfl
                  simp only [Act.put, List.setIfInBounds_toArray, List.set_cons_zero, List.set_cons_succ]
                  refine wpAnyH_take (i := 32) (oi := ⟨some 179, _, _, _, _, _⟩) (v := (.bool false)) rfl (by kernel_rfl) (by kernel_rfl) (by kernel_rfl) (fun _ _ _ h => h) (Or.inl ⟨by rfl, ?_⟩) HHd.out ?_
                  · intro w' hS; go_simp; try with_reducible rfl
                  simp only [Act.put, List.setIfInBounds_toArray, List.set_cons_zero, List.set_cons_succ]
                  refine wpAnyH_take (i := 33) (oi := ⟨some 180, _, _, _, _, _⟩) (v := (.bool false)) rfl (by kernel_rfl) (by kernel_rfl) (by kernel_rfl) (fun _ _ _ h => h) (Or.inl ⟨by rfl, ?_⟩) HHd.out ?_
                  · intro w' hS; go_simp; try with_reducible rfl
                  simp only [Act.put, List.setIfInBounds_toArray, List.set_cons_zero, List.set_cons_succ]
                  refine wpAnyH_take (i := 34) (oi := ⟨some 181, _, _, _, _, _⟩) (v := (.slice (some ⟨G, 0, none⟩) 13 13)) rfl (by kernel_rfl) (by kernel_rfl) (by kernel_rfl) (fun _ _ _ h => h) (Or.inl ⟨by rfl, ?_⟩) HHd.out ?_
                  · intro w' hS; go_simp; try with_reducible rfl
                  simp only [Act.put, List.setIfInBounds_toArray, List.set_cons_zero, List.set_cons_succ]
                  refine wpAnyH_take (i := 35) (oi := ⟨some 182, _, _, _, _, _⟩) (v := (.int .i64 (i : Int))) rfl (by kernel_rfl) (by kernel_rfl) (by kernel_rfl) (fun _ _ _ h => h) (Or.inl ⟨by rfl, ?_⟩) HHd.out ?_
                  · intro w' hS; go_simp; try with_reducible rfl
                  simp only [Act.put, List.setIfInBounds_toArray, List.set_cons_zero, List.set_cons_succ]
                  refine wpAnyH_take (i := 36) (oi := ⟨some 183, _, _, _, _, _⟩) (v := (.pointer (some ⟨G, i, none⟩))) rfl (by kernel_rfl) (by kernel_rfl) (by kernel_rfl) (fun _ _ _ h => h) (Or.inl ⟨by rfl, ?_⟩) HHd.out ?_
                  · intro w' hS; go_simp; (try with_reducible rfl); (try (intro hbad; exfalso; omega))
                  simp only [Act.put, List.setIfInBounds_toArray, List.set_cons_zero, List.set_cons_succ]
                  refine wpAnyH_take (i := 37) (oi := ⟨some 184, _, _, _, _, _⟩) (v := (.slice (hx g i).A (hx g i).m (hx g i).c)) rfl (by kernel_rfl) (by kernel_rfl) (by kernel_rfl) (fun _ _ _ h => h) (Or.inl ⟨by rfl, ?_⟩) HHd.out ?_
                  · intro w' hS; have z0 : w'.cell? ⟨G, i, none⟩ = some (.slice (hx g i).A (hx g i).m (hx g i).c) := (World.cell?_of_block (w := wr) (w' := w') hS).trans ci.out.2; go_simp; try with_reducible rfl
                  simp only [Act.put, List.setIfInBounds_toArray, List.set_cons_zero, List.set_cons_succ]
                  refine wpAnyH_take (i := 39) (oi := ⟨some 186, _, _, _, _, _⟩) (v := (.int .i64 ((s : Int) - 1))) rfl (by kernel_rfl) (by kernel_rfl) (by kernel_rfl) (fun _ _ _ h => h) (Or.inl ⟨by rfl, ?_⟩) HHd.out ?_
                  · intro w' hS; go_simp; try with_reducible rfl
                  simp only [Act.put, List.setIfInBounds_toArray, List.set_cons_zero, List.set_cons_succ]
                  have HZ : Hid (wb.heap[G]? = wr.heap[G]?) := HHd
                  refine wpAnyH_ready (rs := [38]) (by kernel_rfl) (by simp) ?_
                  refine AllReadyH.cons (o := ⟨some 185, _, _, _, _, _⟩) rfl (fun K hK => ?_) AllReadyH.nil
                  rw [if_pos (by rfl)]
                  go_simp
                  have b : Below (wb).heap.size (wb) ((wb).alloc (.cells #[Value.slice (hx g i).A (hx g i).m (hx g i).c] 47)) := (Below.refl _ _).alloc (Nat.le_refl _) _
                  refine hK.out _ _ ((b.block G (head_at HR.out hi).1).trans HHd.out) (fun hHeld => ?_)
                  clear hK K HHd b
                  have HHd := Lib.hid hHeld
                  clear hHeld
                  refine wpAnyH_ready (rs := [40]) (by kernel_rfl) (by simp) ?_
                  refine AllReadyH.cons (o := ⟨some 187, _, _, _, _, _⟩) rfl (fun K hK => ?_) AllReadyH.nil
                  rw [if_pos (by rfl)]
                  go_simp
                  refine (rows1 (W := wb) ((s : Int) - 1) hsx HC.out hi).mono ?_
                  rintro e wc ⟨rfl, b⟩
                  (try simp only [Act.put, List.setIfInBounds_toArray, List.set_cons_zero, List.set_cons_succ])
                  refine hK.out _ _ ((b.block G (head_at HR.out hi).1).trans HZ.out) (fun hHeld => ?_)
                  clear hK K HHd
                  have HHd := Lib.hid hHeld
                  clear hHeld HZ
                  replace HB := Lib.hid (HB.out.trans (b.mono HB.out.size))
                  replace HR := Lib.hid (HR.out.below b)
                  replace HC := Lib.hid (HC.out.below b)
                  clear b
                  refine wpAnyH_take (i := 41) (oi := ⟨some 188, _, _, _, _, _⟩) (v := (.bool false)) rfl (by kernel_rfl) (by kernel_rfl) (by kernel_rfl) (fun _ _ _ h => h) (Or.inl ⟨by rfl, ?_⟩) HHd.out ?_
                  · intro w' hS; go_simp; try with_reducible rfl
                  simp only [Act.put, List.setIfInBounds_toArray, List.set_cons_zero, List.set_cons_succ]
                  refine wpAnyH_take (i := 42) (oi := ⟨some 189, _, _, _, _, _⟩) (v := (.bool false)) rfl (by kernel_rfl) (by kernel_rfl) (by kernel_rfl) (fun _ _ _ h => h) (Or.inl ⟨by rfl, ?_⟩) HHd.out ?_
                  · intro w' hS; go_simp; try with_reducible rfl
                  simp only [Act.put, List.setIfInBounds_toArray, List.set_cons_zero, List.set_cons_succ]
                  refine wpAnyH_done (by kernel_rfl) ?_ _
                  go_wp2_with fail
                  go_roundw
                  case rel => exact ⟨s + 1, by omega, by go_num, HB, HR, HC⟩
                  case measure => simp [intOf]; omega
                · have ds : decide ((s : Int) - 1 < 4) = false := by simp; omega
                  go_wp2_with fail
                  go_roundw
                  case rel => exact ⟨i + 1, by omega, by go_num, HB, HR, HC⟩
                  case measure => simp [intOf]; omega
        · have di : decide ((i : Int) < 13) = false := by simp; omega
          go_wp2_with fail
          refine (row44 wr).mono ?_
          rintro e w2 ⟨A, nn, cc, rfl, HO, HBx⟩
          replace HB := Lib.hid (HB.out.trans (HBx.out.mono HB.out.size))
          replace HR := Lib.hid (HR.out.below HBx.out)
          replace HC := Lib.hid (HC.out.below HBx.out)
          clear HBx
          go_wp2_with fail
          refine (rows0 w2 0 (by decide)).mono ?_
          rintro e w3 ⟨rfl, b⟩
          replace HB := Lib.hid (HB.out.trans (b.mono HB.out.size))
          replace HR := Lib.hid (HR.out.below b)
          replace HC := Lib.hid (HC.out.below b)
          replace HO := Lib.hid (HO.out.below b)
          clear b
          go_wp2_with fail
          refine (rows0 w3 (-9223372036854775808) (by decide)).mono ?_
          rintro e w4 ⟨rfl, b⟩
          replace HB := Lib.hid (HB.out.trans (b.mono HB.out.size))
          replace HR := Lib.hid (HR.out.below b)
          replace HC := Lib.hid (HC.out.below b)
          replace HO := Lib.hid (HO.out.below b)
          clear b
          go_wp2_with fail
          refine (rows_law (some ⟨G, 0, none⟩) 13 13 (hx g) lx 9223372036854775807 w4 HR.out HC.out (fun i _ => lx_b8 i) (by decide) (fun i _ => by have := lx_len i; omega) (by decide)).mono ?_
          rintro e w5 ⟨rfl, b⟩
          replace HB := Lib.hid (HB.out.trans (b.mono HB.out.size))
          replace HO := Lib.hid (HO.out.below b)
          clear b HR HC
          go_wp2_with fail
          refine (same34 HO.out).mono ?_
          rintro e w6 ⟨rfl, b⟩
          replace HB := Lib.hid (HB.out.trans (b.mono HB.out.size))
          clear b HO
          go_wp2_with fail
          refine (less31 w6).mono ?_
          rintro e w7 ⟨rfl, b⟩
          replace HB := Lib.hid (HB.out.trans (b.mono HB.out.size))
          clear b
          go_wp2_with fail
          refine (before48 w7).mono ?_
          rintro e w8 ⟨rfl, b⟩
          replace HB := Lib.hid (HB.out.trans (b.mono HB.out.size))
          clear b
          go_wp2_with fail
          go_ret
          exact ⟨rfl, HB.out⟩
end Go.Proofs.Ytmmmmabfnnblfaa

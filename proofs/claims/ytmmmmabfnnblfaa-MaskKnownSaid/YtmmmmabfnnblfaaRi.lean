/-
  Walk: Twins and SameLists of the shared reference.
-/
import Derived.Test.YtmmmmabfnnblfaaRj
import Derived.Test.YtmmmmabfnnblfaaAr
set_option linter.unusedVariables false
set_option linter.unusedSimpArgs false
namespace Go.Proofs.Ytmmmmabfnnblfaa
open Go.RowKit

/-- Rows that lie each in a block of its own. -/
def Sev (w : World) (base n : Nat) (vs : Nat → Value) (xss : Nat → List Int) : Prop := (∀ i, i < n → Own w base 5 .u8 (vs i) (xss i)) ∧ Dist n vs
theorem Sev.below {w w' : World} {base n : Nat} {vs : Nat → Value} {xss : Nat → List Int} (h : Sev w base n vs xss) (hb : Below w.heap.size w w') : Sev w' base n vs xss := ⟨fun i hi => (h.1 i hi).below hb, h.2⟩
theorem Sev.fr {S : Nat → Prop} {w w' : World} {base n : Nat} {vs : Nat → Value} {xss : Nat → List Int} (h : Sev w base n vs xss) (hf : Fr S w w') (hS : ∀ i g, i < n → (vs i).ownBlock = some g → ¬ S g) : Sev w' base n vs xss := ⟨fun i hi => (h.1 i hi).fr hf (fun g hg => hS i g hi hg), h.2⟩
theorem Sev.congr {w : World} {base n : Nat} {vs vs' : Nat → Value} {xss : Nat → List Int} (h : Sev w base n vs xss) (he : ∀ i, i < n → vs' i = vs i) : Sev w base n vs' xss := ⟨fun i hi => by rw [he i hi]; exact h.1 i hi, fun i j hi hj hij g hg => by rw [he i hi] at hg; rw [he j hj]; exact h.2 i j hi hj hij g hg⟩
theorem Sev.push {w : World} {base n : Nat} {vs : Nat → Value} {xss : Nat → List Int} (h : Sev w base n vs xss) (ho : Own w base 5 .u8 (vs n) (xss n)) (hne : ∀ i g, i < n → (vs i).ownBlock = some g → (vs n).ownBlock ≠ some g) : Sev w base (n + 1) vs xss := by
  refine ⟨fun i hi => ?_, fun i j hi hj hij g hg hg' => ?_⟩
  · by_cases e : i = n
    · subst e; exact ho
    · exact h.1 i (by omega)
  · by_cases e1 : i = n
    · subst e1
      exact hne j g (by omega) hg' hg
    · by_cases e2 : j = n
      · subst e2
        exact hne i g (by omega) hg hg'
      · exact h.2 i j (by omega) (by omega) hij g hg hg'
def ext1 (vs : Nat → Value) (n : Nat) (v : Value) : Nat → Value := fun i => if i = n then v else vs i
theorem ext1_map (vs : Nat → Value) (n : Nat) (v : Value) : (List.range n).map vs ++ [v] = (List.range (n + 1)).map (ext1 vs n v) := by
  rw [List.range_succ, List.map_append]
  congr 1
  · apply List.map_congr_left
    intro i hi
    have := List.mem_range.1 hi
    simp [ext1]; omega
  · simp [ext1]
theorem rd_ownV {w : World} {base T : Nat} {v : Value} {n : Nat} {vs : Nat → Value} (h : OwnV w base T v ((List.range n).map vs)) : ∃ A c, v = .slice A n c ∧ RdV w A ((List.range n).map vs) ∧ n ≤ c ∧ c ≤ maxLen ∧ (∀ a, A = some a → v.ownBlock = some a.block) := by
  obtain ⟨A, c, hv, h1, h2, h3, h4⟩ := h.slice
  have e : ((List.range n).map vs).length = n := by simp
  rw [e] at hv h1
  exact ⟨A, c, hv, h3, h1, h2, h4⟩

set_option maxHeartbeats 1600000 in
theorem twins_any (L : Option Addr) (n c : Nat) (hs : Nat → Hd) (xss : Nat → List Int) (w : World) (hr : RdH w L hs n) (hc : CtH w hs xss n) (hn : n ≤ 1048576) (hx : ∀ i, i < n → (xss i).length ≤ 1048576) :
    Calls Try.prog 45 #[.slice L n c] w fun e w' => ∃ v vs, e = .returned v ∧ OwnV w' w.heap.size 47 v ((List.range n).map vs) ∧ Sev w' w.heap.size n vs xss ∧ Below w.heap.size w w' := by
  have HR := Lib.hid hr
  have HC := Lib.hid hc
  have HX := Lib.hid hx
  clear hr hc hx
  go_enter Try.func45, Try.ntmps45
  go_wp2
  go_loopw [3, 4] (fun v i wr => ∃ (k : Nat) (vs : Nat → Value), k ≤ n ∧ i = .int .i64 k ∧ Hid (OwnV wr w.heap.size 47 v ((List.range k).map vs)) ∧ Hid (Sev wr w.heap.size k vs xss) ∧ Hid (Below w.heap.size w wr)) (fun _ i _ => n - (intOf i).toNat)
  case atStart => exact ⟨0, fun _ => .bool false, Nat.zero_le _, rfl, Lib.hid (OwnV.nil _ _ _), Lib.hid ⟨fun i h => absurd h (Nat.not_lt_zero _), fun i j h => absurd h (Nat.not_lt_zero _)⟩, Lib.hid (Below.refl _ _)⟩
  case round =>
    obtain ⟨k, vs, hk, rfl, HO, HS, HB⟩ := hrel
    by_cases hlt : k < n
    · obtain ⟨b, off, rfl, hb0, hcell0⟩ := HR.out k hlt
      have hcell : wr.cell? ⟨b, off + k, none⟩ = _ := (HB.out.cell (p := ⟨b, _, none⟩) hb0).trans hcell0
      clear hcell0 hb0
      go_wp2_with fail
      refine (twin_at _ _ _ (xss k) _ (HC.out k hlt).1 ((HC.out k hlt).2.below HB.out) (by have := HX.out k hlt; omega)).mono ?_
      rintro e w1 ⟨v1, rfl, ho1, hb1⟩
      obtain ⟨A1, c1, rfl, -⟩ := ho1.slice
      have HOV := Lib.hid (HO.out.below hb1)
      have HS1 := Lib.hid (HS.out.below hb1)
      have HB1 := Lib.hid (HB.out.trans (hb1.mono HB.out.size))
      have HOLD : Hid (∀ i g, i < k → (vs i).ownBlock = some g → (Value.slice A1 (xss k).length c1).ownBlock ≠ some g) := Lib.hid (fun i g hi hg hg' => by
        have h1 := ((HS.out.1 i hi).base_le hg).2
        have h2 := (ho1.base_le hg').1
        omega)
      have HLOW : Hid (Own w1 w.heap.size 5 .u8 (Value.slice A1 (xss k).length c1) (xss k)) := Lib.hid (ho1.lower HB.out.size)
      have hby : Hid ((((List.range k).map vs).length + 1) * 24 ≤ 140737488355328) := Lib.hid (by simp; omega)
      clear ho1 hb1 hcell HO HS HB
      go_wp2_with (show wpList _ _ _ ({ dst := some 18, op := _, type := _, pos := _, after := _, guard := _ } :: _) _ _; refine wpList_pushV w1 rfl _ _ 58 rfl w.heap.size 47 (.slice none 0 0) 24 Try.underlying58 info47 rfl _ rfl rfl _ _ rfl rfl HOV.out hby.out (by decide) HB1.out.size ?_; intro v' w2 hown2 hp2; have HP2 := Lib.hid hp2; have HO2 := Lib.hid hown2; clear hp2 hown2)
      have HB2 : Hid (Below w.heap.size w w2) := Lib.hid (HB1.out.trans (HP2.out.fr.below HB1.out.size (fun g hg => (HOV.out.base_le hg).1)))
      have HO3 : Hid (OwnV w2 w.heap.size 47 v' ((List.range (k + 1)).map (ext1 vs k (Value.slice A1 (xss k).length c1)))) := Lib.hid (by have := HO2.out; rw [ext1_map] at this; exact this)
      have HS3 : Hid (Sev w2 w.heap.size (k + 1) (ext1 vs k (Value.slice A1 (xss k).length c1)) xss) := Lib.hid (by
        have hS : Sev w1 w.heap.size (k + 1) (ext1 vs k (Value.slice A1 (xss k).length c1)) xss := by
          have he : ∀ i, i < k → ext1 vs k (Value.slice A1 (xss k).length c1) i = vs i := fun i hi => by simp [ext1]; omega
          have hk1 : ext1 vs k (Value.slice A1 (xss k).length c1) k = (Value.slice A1 (xss k).length c1) := by simp [ext1]
          refine Sev.push (HS1.out.congr he) ?_ ?_
          · rw [hk1]; exact HLOW.out
          · intro i g hi hg
            rw [he i hi] at hg
            rw [hk1]
            exact HOLD.out i g hi hg
        refine hS.fr HP2.out.fr (fun i g hi hg hg' => ?_)
        have ho := (hS.1 i hi).toV
        exact OwnV.ne ho HOV.out (by decide) g hg hg')
      go_wp2
      go_roundw
      case rel => exact ⟨k + 1, _, by omega, by go_num, HO3, HS3, HB2⟩
      case measure => simp [intOf]; omega
    · obtain rfl : k = n := by omega
      go_wp2
      go_ret
      exact ⟨_, vs, rfl, HO.out, HS.out, HB.out⟩
end Go.Proofs.Ytmmmmabfnnblfaa

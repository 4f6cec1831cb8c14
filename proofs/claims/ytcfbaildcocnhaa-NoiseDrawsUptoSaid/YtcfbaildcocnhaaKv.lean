/-
  A region that draws its order, whose loads lie ahead of its stores: the loads are taken first by a condition S on the world that the stores need not keep.
-/
import Derived.Deep.RegionHeld
import Derived.WalkKit
namespace Go.Proofs.Ytcfbaildcocnhaa
open Go.RowKit

section
variable {P : Program} {ops : Array Oper} {Q : Exit → Act → World → Prop} {md : Region.Mode} {T S U : World → Prop} {E : List Nat}

/-- As 'wpAnyH': T holds behind every operation, and every one but those of E (the late ones) keeps S. -/
def wpAnyV (P : Program) (md : Region.Mode) (ops : Array Oper) (Q : Exit → Act → World → Prop) (T S : World → Prop) (E : List Nat) : Nat → Array Bool → Act → World → Prop
  | 0, listed, a, w => Region.ready md ops listed = [] ∧ Q .normal a w
  | fuel + 1, listed, a, w =>
    (Region.ready md ops listed = [] → Q .normal a w) ∧
    ∀ i ∈ Region.ready md ops listed, wpOp P ops Q i (fun a' w' => (T w' ∧ (i ∉ E → S w → S w')) ∧ wpAnyV P md ops Q T S E fuel (listed.setIfInBounds i true) a' w') a w
theorem wpAny_of_late : ∀ (fuel : Nat) (listed : Array Bool) (a : Act) (w : World), wpAnyV P md ops Q T S E fuel listed a w → wpAny P md ops Q fuel listed a w
  | 0, _, _, _, h => h
  | fuel + 1, _, _, _, h => ⟨h.1, fun i hi => wpOp_mono (fun a' w' h' => wpAny_of_late fuel _ a' w' h'.2) (h.2 i hi)⟩
theorem wpAnyV_first {i : Nat} {oi : Oper} {v : Value} (hi : ops[i]? = some oi) (hsel : ∀ (j : Nat) (o : Oper) cs b, ops[j]? = some o → o.op ≠ .select cs b)
    (hQ : ∀ c a w, Q (.panic c) (a.put oi.dst v) w → Q (.panic c) a w)
    (hU : ∀ j oj, ops[j]? = some oj → (∀ e ∈ oj.after, Region.binds md e = true → e.on ≠ i) → ∀ w w', U w → T w' → (j ∉ E → S w → S w') → U w') (hUT : ∀ w, U w → T w) :
    ∀ (fuel : Nat) (listed : Array Bool) (a : Act) (w : World),
      (∀ j oj, ops[j]? = some oj → j ≠ i → listed.getD j true = false → (∀ e ∈ oj.after, Region.binds md e = true → e.on ≠ i) → oi.apart ops oj = true) →
      i ∈ Region.ready md ops listed → YieldsIf P ops U oi v a → U w →
      wpAnyV P md ops Q T S E fuel (listed.setIfInBounds i true) (a.put oi.dst v) w → wpAnyV P md ops Q T S E (fuel + 1) listed a w := by
  intro fuel
  induction fuel with
  | zero =>
    intro listed a w _ hr hy hS H
    refine ⟨fun h => (by rw [h] at hr; cases hr), fun j hj => ?_⟩
    by_cases hji : j = i
    · subst hji; exact hy.wpOp hi hS ⟨⟨hUT w hS, fun _ h => h⟩, H⟩
    · have := ready_mono hj hji
      rw [H.1] at this
      cases this
  | succ fuel ih =>
    intro listed a w hfree hr hy hS H
    refine ⟨fun h => (by rw [h] at hr; cases hr), fun j hj => ?_⟩
    by_cases hji : j = i
    · subst hji; exact hy.wpOp hi hS ⟨⟨hUT w hS, fun _ h => h⟩, H⟩
    · have h1 := H.2 j (ready_mono hj hji)
      obtain ⟨hjun, oj, hoj, hall⟩ := mem_ready.1 hj
      have hnot : ∀ e ∈ oj.after, Region.binds md e = true → e.on ≠ i := fun e he hb heq => by
        have h1 := hall e he hb
        have h0 := (mem_ready.1 hr).1
        rw [heq] at h1
        rcases Nat.lt_or_ge i listed.size with h' | h'
        · simp [h'] at h0 h1; rw [h0] at h1; cases h1
        · simp [Array.getElem?_eq_none h'] at h1
      have h2 := wpOp_putIf hoj (hfree j oj hoj hji hjun hnot) (fun cs b => hsel i oi cs b hi) (fun cs b => hsel j oj cs b hoj) hQ hy h1
      have hfree' : ∀ k ok, ops[k]? = some ok → k ≠ i → (listed.setIfInBounds j true).getD k true = false →
          (∀ e ∈ ok.after, Region.binds md e = true → e.on ≠ i) → oi.apart ops ok = true := fun k ok hk hki hun hno => by
        refine hfree k ok hk hki ?_ hno
        by_cases hjk : j = k
        · subst hjk; exact hjun
        · rw [getD_set_ne true hjk] at hun; exact hun
      refine wpOp_mono (fun a' w' h3 => ⟨h3.2.1, ih (listed.setIfInBounds j true) a' w' hfree' (ready_mono hr (Ne.symm hji)) h3.1 (hU j oj hoj hnot w w' hS h3.2.1.1 h3.2.1.2) ?_⟩) h2
      rw [Array.setIfInBounds_comm _ _ hji]
      exact h3.2.2
/-- The late ones all wait for number i. -/
def waits (md : Region.Mode) (ops : Array Oper) (E : List Nat) (i : Nat) : Bool :=
  !E.contains i && E.all fun j => match ops[j]? with | some o => o.after.any (fun e => Region.binds md e && e.on == i) | none => true
/-- Taken first by T. -/
theorem wpAnyV_take {i : Nat} {oi : Oper} {v : Value} {fuel : Nat} {listed : Array Bool} {a : Act} {w : World} (hi : ops[i]? = some oi)
    (hs : Region.noSelect ops = true) (hf : Region.free md ops listed i = true) (hr : (Region.ready md ops listed).contains i = true)
    (hQ : ∀ c a w, Q (.panic c) (a.put oi.dst v) w → Q (.panic c) a w) (hy : YieldsIf P ops T oi v a) (hS : T w)
    (h : wpAnyV P md ops Q T S E fuel (listed.setIfInBounds i true) (a.put oi.dst v) w) : wpAnyV P md ops Q T S E (fuel + 1) listed a w :=
  wpAnyV_first (U := T) hi (Region.noSelect_spec hs) hQ (fun _ _ _ _ _ _ _ h _ => h) (fun _ h => h) fuel listed a w (Region.free_spec hi hf) (by simpa using hr) hy hS h
/-- Taken first by T and S: the late ones wait for it. -/
theorem wpAnyV_takeS {i : Nat} {oi : Oper} {v : Value} {fuel : Nat} {listed : Array Bool} {a : Act} {w : World} (hi : ops[i]? = some oi)
    (hs : Region.noSelect ops = true) (hf : Region.free md ops listed i = true) (hr : (Region.ready md ops listed).contains i = true) (hE : waits md ops E i = true)
    (hQ : ∀ c a w, Q (.panic c) (a.put oi.dst v) w → Q (.panic c) a w) (hy : YieldsIf P ops (fun w => T w ∧ S w) oi v a) (hS : T w ∧ S w)
    (h : wpAnyV P md ops Q T S E fuel (listed.setIfInBounds i true) (a.put oi.dst v) w) : wpAnyV P md ops Q T S E (fuel + 1) listed a w := by
  unfold waits at hE
  simp only [Bool.and_eq_true, Bool.not_eq_true', List.all_eq_true] at hE
  refine wpAnyV_first (U := fun w => T w ∧ S w) hi (Region.noSelect_spec hs) hQ (fun j oj hoj hno w w' hu hT hS => ⟨hT, hS (fun hm => ?_) hu.2⟩) (fun _ h => h.1) fuel listed a w (Region.free_spec hi hf) (by simpa using hr) hy hS h
  have := hE.2 j hm
  rw [hoj] at this
  obtain ⟨k, hk, hb⟩ := Array.any_eq_true.1 this
  rw [Bool.and_eq_true, beq_iff_eq] at hb
  exact hno oj.after[k] (Array.getElem_mem hk) hb.1 hb.2
/-- The next one is carried out alone. -/
theorem wpAnyV_one {i : Nat} {o : Oper} {fuel : Nat} {listed : Array Bool} {a : Act} {w : World} (ho : ops[i]? = some o) (hr : Region.ready md ops listed = [i]) (hw : Region.wanted o (yielded ops a.tmps) = true)
    (h : ∀ K' : Act → World → Prop, Shut (∀ a w', T w' → (i ∉ E → S w → S w') → wpAnyV P md ops Q T S E fuel (listed.setIfInBounds i true) a w' → K' a w') → Oper.wp P o a w K' Q) : wpAnyV P md ops Q T S E (fuel + 1) listed a w := by
  refine ⟨fun h0 => (by rw [hr] at h0; cases h0), fun j hj => ?_⟩
  rw [hr] at hj
  obtain rfl : j = i := by simpa using hj
  refine wpOp_step ho (fun K' hK => ?_)
  rw [if_pos hw]
  exact h K' (fun a w hT hS hW => hK a w ⟨⟨hT, hS⟩, hW⟩)
theorem wpAnyV_done {listed : Array Bool} {a : Act} {w : World} (hr : Region.ready md ops listed = []) (h : Q .normal a w) : ∀ fuel, wpAnyV P md ops Q T S E fuel listed a w
  | 0 => ⟨hr, h⟩
  | _ + 1 => ⟨fun _ => h, by rw [hr]; simp⟩
theorem wp_region_late {id : Nat} {a : Act} {w : World} (T S : World → Prop) (E : List Nat) (hm : P.follows .mixedOrders = true) (hS : T w.drew ∧ S w.drew)
    (h : T w.drew ∧ S w.drew → wpAnyV P .any ops Q T S E ops.size (Array.replicate ops.size false) a w.drew) : (Code.region id ops true).wp P Q a w :=
  wp_region_any hm (wpAny_of_late _ _ _ _ (h hS))
end
end Go.Proofs.Ytcfbaildcocnhaa

/-
  A region that draws its order within a round of a range over a function: as anywhere, if no operation of it defers.
-/
import Derived.RangeFuncNested
import Derived.RangeFuncCalls
import Derived.Deep.RegionHeld
import Derived.WalkKit
namespace Go.Proofs.Ytpglocgfdonmaaa
open Go.RowKit

def noDefer (ops : Array Oper) : Bool := ops.all fun o => match o.op with | .defer _ => false | _ => true
theorem noDefer_at {ops : Array Oper} (h : noDefer ops = true) {i : Nat} {o : Oper} (ho : ops[i]? = some o) : ∀ c, o.op ≠ .defer c := by
  intro c hc
  obtain ⟨hlt, rfl⟩ := Array.getElem?_eq_some_iff.1 ho
  have := Array.all_eq_true.1 h i hlt
  rw [hc] at this
  cases this
/-- Where it is gone on with alone. -/
def onN (Q : Exit → Act → World → Prop) : Exit → Act → World → Prop
  | .normal, a, w => Q .normal a w
  | _, _, _ => False
theorem onN_out (Q : Exit → Act → World → Prop) : ¬ LetsOut (onN Q) := fun ⟨_, _, h⟩ => h
variable {P : Program} {ops : Array Oper} {Q : Exit → Act → World → Prop}
theorem rows_wide {n : Nat} {row : String} {args : Array Value} {w : World} {R : Value → World → Prop} (l : Nat) (h : Rows P row args w R) : RowsIn (Fence.wide.inRound l) n P row args w R :=
  fun c cs _ => let ⟨v, w', r, s⟩ := h c cs; ⟨v, w', r, stepsIn_wide.2 s⟩
theorem opsIn_round (l n : Nat) (hd : noDefer ops = true) (hL : ¬ LetsOut Q) : ∀ (order : List Nat) (a : Act) (w : World), wpOps P ops Q order a w → wpOpsIn (Fence.wide.inRound l) n P ops Q order a w
  | [], a, w, h => h
  | i :: rest, a, w, h => by
    unfold wpOps at h
    unfold wpOpsIn
    cases ho : ops[i]? with
    | none =>
      rw [ho] at h
      exact opsIn_round l n hd hL rest a w h
    | some o =>
      rw [ho] at h
      simp only at h ⊢
      split
      · rename_i hw
        rw [if_pos hw] at h
        rcases h with h | ⟨_, h⟩
        · refine ⟨fun _ _ => trivial, ?_⟩
          rw [show (Fence.wide.inRound l).round = some l from rfl, Oper.semAt_some l _ o (noDefer_at hd ho)]
          unfold Oper.wp at h
          generalize (execOp a.eval o).run P w = r at h ⊢
          cases r with
          | ok x w' =>
            cases x <;> simp only [Oper.upon] at h
            case value v => exact opsIn_round l n hd hL rest _ _ h
            case skip => exact opsIn_round l n hd hL rest _ _ h
            case defer d => exact opsIn_round l n hd hL rest _ _ h
            case enter f args =>
              refine ⟨(fun h2 => by cases h2), (CallsIn.inRound l (callsIn_wide.2 h)).mono ?_⟩
              intro e w'' he
              cases e with
              | returned v => exact opsIn_round l n hd hL rest _ _ he
              | panicked c => exact he
              | outgrown => exact he
            case row row args =>
              refine ⟨(fun h2 => by cases h2), rows_wide l (h.mono ?_)⟩
              intro v w'' he
              exact opsIn_round l n hd hL rest _ _ he
          | halt x w' =>
            cases x <;> simp only [Oper.upon] at h
            case panic v => exact h
        · exact absurd h hL
      · rename_i hw
        rw [if_neg hw] at h
        exact ⟨fun _ _ => trivial, opsIn_round l n hd hL rest _ _ h⟩
/-- The beginning of such a region. -/
theorem region_round {id l n : Nat} {S : World → Prop} {a : Act} {w : World} (hm : P.follows .mixedOrders = true) (hd : noDefer ops = true) (hS : S w.drew)
    (h : S w.drew → wpAnyH P .any ops (onN Q) S ops.size (Array.replicate ops.size false) a w.drew) : (Code.region id ops true).wpIn (Fence.wide.inRound l) n P Q a w := by
  have h1 : (Code.region id ops true).wpIn (Fence.wide.inRound l) n P (onN Q) a w := wpIn_region_draw fun t => by
    simp only [Region.schedule, hm, Bool.true_or, if_true]
    exact opsIn_round l n hd (onN_out Q) _ _ _ (wpAny_sound ops.size t _ a _ (wpAny_of_held _ _ _ _ (h hS)))
  refine Code.wpIn_mono ?_ h1
  intro e a w hq
  cases e <;> first | exact hq | exact hq.elim
end Go.Proofs.Ytpglocgfdonmaaa

/-
  Walks: the document's Put.
-/
import Derived.Test.YtedejkfhgpnhpaaRm
import Derived.StillTailTactics
import Derived.Laws.Rows
set_option linter.unusedVariables false
set_option linter.unusedSimpArgs false
namespace Go.Proofs.Ytedejkfhgpnhpaa
open Go.RowKit

theorem still_load_row {P : Program} {o : Oper} {a : Act} {w : World} {K : Act → Prop} (ty : TypeId) (x : Operand) (ho : o.op = .load ty x) (g : Nat) (hx : a.eval x = .pointer (some ⟨g, 0, none⟩)) (t : TypeId) (cs : Array Value) (fr : Nat × Nat) (d : TypeDesc) (hg : w.heap[g]? = some (.cells cs t fr))
    (hu : P.underlying ty = some d) (hd : (match d with | .struct _ | .array _ _ => true | _ => false) = true) (hi : (P.info? ty).map (·.size) = some cs.size) (h : K (a.put o.dst (.agg cs))) : o.still P a w K := by
  unfold Oper.still execOp
  simp only [ho, hx, Instr.loadAt, Instr.sureAddr, Sem.run_bind, Sem.run_pure, Result.andThen_ok, run_loadVar_row w g t ty cs fr d hg hu hd hi, Oper.stillUpon]
  exact ⟨trivial, h⟩
theorem pput_short (l f i r : Nat) (g : Nat → Int) (A : Option Addr) (n c : Nat) (xs : List Int) (w : World) (hn : n = xs.length) (h26 : n < 26) (hx : Rd w .u8 A xs) :
    Calls Try.prog 19 #[.slice A n c, .agg (hArr l f i r g)] w fun e w' => ∃ v, e = .returned (.tuple #[v, .bool false]) ∧ Own w' w.heap.size 5 .u8 v xs ∧ Below w.heap.size w w' := by
  have W0 := Lib.hid ((Below.refl w.heap.size w).alloc (Nat.le_refl _) (.cells (hArr l f i r g) 26))
  have hlt : decide ((n : Int) < 26) = true := by simp; omega
  have HX := Lib.hid hx
  have HN := Lib.hid hn
  clear hn hx
  go_enter Try.func19, Try.ntmps19
  go_wp2_with fail
  have hc := copyb_any A c xs _ (HX.out.below W0.out) (by have := HN.out; omega)
  rw [← HN.out] at hc
  refine hc.mono ?_
  rintro e w1 ⟨v, rfl, o, b⟩
  have O := Lib.hid o
  have B := Lib.hid b
  clear hc o b
  go_wp2_with fail
  go_ret2
  exact ⟨_, rfl, O.out.lower W0.out.size, W0.out.trans (B.out.mono W0.out.size)⟩

set_option maxHeartbeats 1000000 in
theorem pput_any (l f i r : Nat) (g : Nat → Int) (A : Option Addr) (n c : Nat) (xs : List Int) (w : World) (hn : n = xs.length) (h26 : 26 ≤ n) (hnc : n ≤ c) (hc63 : c ≤ 9223372036854775807) (hx : Rd w .u8 A xs) (hi : i < 4294967296) (hr : r < 4294967296) (hl : xs.length ≤ 140737488355000) :
    Calls Try.prog 19 #[.slice A n c, .agg (hArr l f i r g)] w fun e w' => ∃ v, e = .returned (.tuple #[v, .bool true]) ∧ Own w' w.heap.size 5 .u8 v (hb l f i r g ++ xs.drop 26) ∧ Below w.heap.size w w' := by
  have W0 := Lib.hid ((Below.refl w.heap.size w).alloc (Nat.le_refl _) (.cells (hArr l f i r g) 26))
  have hge : decide ((n : Int) < 26) = false := by simp; omega
  have HX := Lib.hid hx
  have HN := Lib.hid hn
  have HXX := Lib.hid (hArr_blk' w l f i r g)
  clear hn hx
  go_enter Try.func19, Try.ntmps19
  have c1 : (26 : Int) ≤ (n : Int) := by omega
  have c2 : (n : Int) ≤ (c : Int) := by omega
  have c3 : (0 : Int) ≤ (n : Int) := by omega
  go_wp2_with fail
  refine wp_region_still_tail 3 (by kernel_rfl) (by kernel_rfl) ?_
  simp only [List.take_succ_cons, List.take_zero, List.drop_succ_cons, List.drop_zero]
  refine wpStill_step (fun K hK => ?_)
  rw [if_pos (by rfl)]
  refine still_load_row 26 _ rfl w.heap.size rfl 26 (hArr l f i r g) (0, 0) _ HXX.out Try.underlying26 rfl (size26' l f i r g) ?_
  refine hK _ ?_
  clear hK K
  repeat still_step
  try refine wpStill_nil ?_
  change wpList _ _ _ _ _ (w.alloc (.cells (hArr l f i r g) 26)).drew
  have W1 : Hid (Below w.heap.size w (w.alloc (.cells (hArr l f i r g) 26)).drew) := Lib.hid W0.out.drew
  clear HXX W0
  revert W1
  generalize (w.alloc (.cells (hArr l f i r g) 26)).drew = w2
  intro W1
  have HD : Hid (n - 26 = (xs.drop 26).length) := Lib.hid (by have := HN.out; simp; omega)
  have HLL : Hid ((xs.drop 26).length ≤ 140737488355000) := Lib.hid (by simp; omega)
  have HXA : Hid (Rd w2 .u8 (Option.map (fun x => { block := x.block, off := x.off + 26 }) A) (xs.drop 26)) := Lib.hid ((HX.out.below W1.out).drop 26 (fun b off hA h => by rw [hA]; rfl))
  have HXB : Hid (c = 26 → Rd w2 .u8 A (xs.drop 26)) := Lib.hid (fun hc => by
    have : xs.drop 26 = [] := List.eq_nil_of_length_eq_zero (by have := HN.out; simp; omega)
    rw [this]; exact Rd.nil _ _ _)
  clear HX hl
  go_wp2_with fail
  all_goals (
    refine (rmake_any l f i r g _ _ _ (xs.drop 26) w2 (by first | exact HD.out | (have := HD.out; simp_all; omega)) hi hr (by first | exact HXA.out | exact HXB.out (by first | assumption | omega)) HLL.out).mono ?_
    rintro e w3 ⟨v, rfl, o, b⟩
    have O := Lib.hid (o.lower W1.out.size)
    have B := Lib.hid (W1.out.trans (b.mono W1.out.size))
    clear o b
    go_wp2_with fail
    go_ret2
    exact ⟨_, rfl, O.out, B.out⟩)
end Go.Proofs.Ytedejkfhgpnhpaa

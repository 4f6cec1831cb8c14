/-
  Small laws: an element of an array by value; a copy into the middle of an array. No program in sight.
-/
import Derived.Test.YtcfbaildcocnhaaSt
import Derived.Laws.PanicsMore
set_option linter.unusedVariables false
namespace Go.Proofs.Ytcfbaildcocnhaa
open Go.RowKit

theorem run_index_one {P : Program} (t e : TypeId) (n : Nat) (cs : Array Value) (k : IntKind) (i : Nat) (v : Value) (w : World) (kd : IntKind) (h : P.underlying t = some (.array n e)) (he : P.underlying e = some (.int kd)) (hi : i < n)
    (hs : (P.info? e).map (·.size) = some 1) (hv : cs[i]? = some v) : (Instr.index t (.agg cs) (.int k (i : Int))).run P w = .ok v w := by
  obtain ⟨i0, hi0, hi1⟩ : ∃ i0, P.info? e = some i0 ∧ i0.size = 1 := by
    cases hx : P.info? e with
    | none => rw [hx] at hs; cases hs
    | some i0 => rw [hx] at hs; injection hs with hs; exact ⟨i0, rfl, hs⟩
  simp [Instr.index, asIntOf, run_underlying h, part, isAgg, run_underlying he, sizeOf, typeInfo, hi0, hi1, hi, hv]

/-- copy(d, s) into the middle of a block. -/
theorem run_copy_mid {P : Program} (w : World) (dT sT ty elem : TypeId) (hu : P.underlying dT = some (.slice elem)) (hsz : (P.info? elem).map (·.size) = some 1)
    (g off dLen dCap : Nat) (sp : Option Addr) (sLen sCap : Nat) (k : IntKind) (T : TypeId) (all xs : List Int) (hB : Blk w g T (all.map (Value.int k))) (hx : Rd w k sp xs) (hl : sLen = xs.length) (hle : xs.length ≤ dLen) (hda : off + xs.length ≤ all.length) :
    ∃ w', (Builtin.copy_ #[dT, sT] ty #[.slice (some ⟨g, off, none⟩) dLen dCap, .slice sp sLen sCap]).run P w = .ok (goInt xs.length) w' ∧ Blk w' g T ((all.take off ++ (xs ++ all.drop (off + xs.length))).map (Value.int k)) ∧ Fr (fun j => j = g) w w' := by
  subst hl
  have hmin : Nat.min xs.length dLen = xs.length := Nat.min_eq_left hle
  by_cases h0 : xs.length = 0
  · obtain rfl : xs = [] := List.eq_nil_of_length_eq_zero h0
    refine ⟨w, ?_, by simpa using hB, Fr.refl _ _⟩
    have := run_copy_none (P := P) w dT sT ty elem (some ⟨g, off, none⟩) sp dLen dCap 0 sCap hu hsz (by simp)
    simpa using this
  · obtain ⟨b, o2, rfl, _⟩ := hx 0 (by omega)
    have hcs : ∀ j v, (xs.map (Value.int k))[j]? = some v → w.cell? ((⟨b, o2, none⟩ : Addr).add j) = some v := by
      intro j v hj
      have hj2 : j < xs.length := by
        have := (List.getElem?_eq_some_iff.1 hj).1
        simpa using this
      obtain ⟨b', off', hA, hc⟩ := hx j hj2
      injection hA with hA
      injection hA with h1 h2
      subst h1 h2
      have hv : v = .int k (xs.getD j 0) := by
        simp [List.getD, hj2] at hj ⊢; exact hj.symm
      rw [hv, ← hc]
      by_cases hz : j = 0
      · subst hz; simp [Addr.add]
      · simp [Addr.add, hz]
    have hrun := run_copy_row (P := P) w dT sT ty elem g off dLen dCap ⟨b, o2, none⟩ xs.length sCap _ T (xs.map (Value.int k)) hu hsz hB (by simp [hmin]) hcs (by simp; omega) (fun v hv => by obtain ⟨z, _, rfl⟩ := List.mem_map.1 hv; rfl)
    refine ⟨_, by simpa using hrun, ?_, ?_⟩
    · have := setRow_heap w g _ ((all.take off ++ (xs ++ all.drop (off + xs.length))).map (Value.int k)).toArray T _ hB
      unfold Blk
      simpa using this
    · exact ⟨rfl, rfl, rfl, by simp [World.setRow], fun j hj hne => setRow_other w g j _ (fun e => hne e)⟩
theorem step_copy_mid {P : Program} (w : World) {ops : Array Oper} {o : Oper} {a : Act} {K : Act → World → Prop} {Q : Exit → Act → World → Prop} {E : Prop} (hgd : o.guard = none) (d s : Operand) (dT sT : TypeId)
    (ho : o.op = .call { callee := .builtin .copy, args := #[d, s], argTypes := #[dT, sT] }) (elem : TypeId) (hu : P.underlying dT = some (.slice elem)) (hsz : (P.info? elem).map (·.size) = some 1)
    (g off dLen dCap : Nat) (sp : Option Addr) (sLen sCap : Nat) (hd : a.eval d = .slice (some ⟨g, off, none⟩) dLen dCap) (hs : a.eval s = .slice sp sLen sCap)
    (k : IntKind) (T : TypeId) (all xs : List Int) (hB : Blk w g T (all.map (Value.int k))) (hx : Rd w k sp xs) (hl : sLen = xs.length) (hle : xs.length ≤ dLen) (hda : off + xs.length ≤ all.length)
    (h : ∀ w', Blk w' g T ((all.take off ++ (xs ++ all.drop (off + xs.length))).map (Value.int k)) → Fr (fun j => j = g) w w' → K (a.put o.dst (goInt xs.length)) w') :
    if Region.wanted o (yielded ops a.tmps) = true then Oper.wp P o a w K Q else E := by
  have hw : Region.wanted o (yielded ops a.tmps) = true := by simp [Region.wanted, hgd]
  rw [if_pos hw]
  obtain ⟨w', hrun, h1, h2⟩ := run_copy_mid (P := P) w dT sT o.type elem hu hsz g off dLen dCap sp sLen sCap k T all xs hB hx hl hle hda
  have hn := h w' h1 h2
  unfold Oper.wp
  simp [execOp, ho, resolve, invoke, builtin, hd, hs, hrun, Result.andThen]
  exact hn
theorem wpList_copy_mid {P : Program} (w : World) {ops : Array Oper} {rest : List Oper} {o : Oper} {a : Act} {Q : Exit → Act → World → Prop} (hgd : o.guard = none) (d s : Operand) (dT sT : TypeId)
    (ho : o.op = .call { callee := .builtin .copy, args := #[d, s], argTypes := #[dT, sT] }) (elem : TypeId) (hu : P.underlying dT = some (.slice elem)) (hsz : (P.info? elem).map (·.size) = some 1)
    (g off dLen dCap : Nat) (sp : Option Addr) (sLen sCap : Nat) (hd : a.eval d = .slice (some ⟨g, off, none⟩) dLen dCap) (hs : a.eval s = .slice sp sLen sCap)
    (k : IntKind) (T : TypeId) (all xs : List Int) (hB : Blk w g T (all.map (Value.int k))) (hx : Rd w k sp xs) (hl : sLen = xs.length) (hle : xs.length ≤ dLen) (hda : off + xs.length ≤ all.length)
    (h : ∀ w', Blk w' g T ((all.take off ++ (xs ++ all.drop (off + xs.length))).map (Value.int k)) → Fr (fun j => j = g) w w' → wpList P ops Q rest (a.put o.dst (goInt xs.length)) w') :
    wpList P ops Q (o :: rest) a w := by
  obtain ⟨w', hrun, h1, h2⟩ := run_copy_mid (P := P) w dT sT o.type elem hu hsz g off dLen dCap sp sLen sCap k T all xs hB hx hl hle hda
  have hn := h w' h1 h2
  refine wpList_plain hgd fun K hK => ?_
  unfold Oper.wp
  simp [execOp, ho, resolve, invoke, builtin, hd, hs, hrun, Result.andThen]
  exact hK _ _ hn
end Go.Proofs.Ytcfbaildcocnhaa

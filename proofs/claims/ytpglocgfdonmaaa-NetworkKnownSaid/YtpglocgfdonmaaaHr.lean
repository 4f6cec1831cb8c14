/-
  Rows of pairs of whole numbers; the document's Hops.
-/
import Derived.Test.YtpglocgfdonmaaaRows
import Derived.Test.YtpglocgfdonmaaaMem
import Derived.Test.YtpglocgfdonmaaaHp
import Derived.LoopTactic
import Derived.Outline
set_option linter.unusedVariables false
set_option linter.unusedSimpArgs false
namespace Go.Proofs.Ytpglocgfdonmaaa
open Go.RowKit

/-- The cells of pairs. -/
def flat : List (Int × Int) → List Value
  | [] => []
  | x :: xs => .int .i64 x.1 :: .int .i64 x.2 :: flat xs
theorem flat_len : ∀ xs, (flat xs).length = xs.length * 2
  | [] => rfl
  | x :: xs => by simp only [flat, List.length_cons, flat_len xs]; omega
theorem flat_snoc : ∀ (xs : List (Int × Int)) (x : Int × Int), flat (xs ++ [x]) = flat xs ++ [.int .i64 x.1, .int .i64 x.2]
  | [], x => rfl
  | y :: ys, x => by simp only [List.cons_append, flat, flat_snoc ys x]
theorem flat_at : ∀ (xs : List (Int × Int)) (i : Nat), i < xs.length → (flat xs)[i * 2]? = some (.int .i64 (xs.getD i (0, 0)).1) ∧ (flat xs)[i * 2 + 1]? = some (.int .i64 (xs.getD i (0, 0)).2)
  | [], i, h => by simp at h
  | x :: xs, 0, h => by simp [flat]
  | x :: xs, i + 1, h => by
    have := flat_at xs i (by simpa using h)
    rw [show (i + 1) * 2 = i * 2 + 2 from by omega, show i * 2 + 2 + 1 = i * 2 + 1 + 2 from by omega]
    simpa [flat] using this
def OwnP (w : World) (base : Nat) (T : TypeId) (v : Value) (xs : List (Int × Int)) : Prop := w.ownsRow base T 2 v xs.length (flat xs)
/-- A row of pairs that can be read. -/
def RdP (w : World) (A : Option Addr) (xs : List (Int × Int)) : Prop := ∀ i, i < xs.length → ∃ b off, A = some ⟨b, off, none⟩ ∧ b < w.heap.size ∧
  w.cell? ⟨b, off + i * 2, none⟩ = some (.int .i64 (xs.getD i (0, 0)).1) ∧ w.cell? ⟨b, off + i * 2 + 1, none⟩ = some (.int .i64 (xs.getD i (0, 0)).2)
theorem RdP.below {w w' : World} {A : Option Addr} {xs : List (Int × Int)} (h : RdP w A xs) (hb : Below w.heap.size w w') : RdP w' A xs := fun i hi => by
  obtain ⟨b, off, hA, hlt, h0, h1⟩ := h i hi
  exact ⟨b, off, hA, Nat.lt_of_lt_of_le hlt hb.size, (hb.cell (p := ⟨b, _, none⟩) hlt).trans h0, (hb.cell (p := ⟨b, _, none⟩) hlt).trans h1⟩
theorem addN (b off k : Nat) : (⟨b, off, none⟩ : Addr).add k = ⟨b, off + k, none⟩ := by
  unfold Addr.add
  split
  · subst_vars; rfl
  · rfl
theorem OwnP.slice {w : World} {base : Nat} {T : TypeId} {v : Value} {xs : List (Int × Int)} (h : OwnP w base T v xs) : ∃ A c, v = .slice A xs.length c ∧ RdP w A xs := by
  have hc := fun (g : Nat) (hg : v.ownBlock = some g) => World.ownsRow.cells h hg
  have hlt := World.ownsRow.lt h
  rcases h.2 with ⟨rfl, h0⟩ | ⟨g, cap, cur, rfl, _⟩
  · exact ⟨none, 0, by rw [h0], fun i hi => by omega⟩
  · refine ⟨some ⟨g, 0, none⟩, cap, rfl, fun i hi => ?_⟩
    obtain ⟨e0, e1⟩ := flat_at xs i hi
    refine ⟨g, 0, rfl, (hlt g rfl).2, ?_, ?_⟩
    · have := hc g rfl (i * 2) _ e0
      rw [addN] at this
      exact this
    · have := hc g rfl (i * 2 + 1) _ e1
      rw [addN] at this
      exact this
theorem OwnP.fr {S : Nat → Prop} {w w' : World} {base : Nat} {T : TypeId} {v : Value} {xs : List (Int × Int)} (h : OwnP w base T v xs) (hf : Fr S w w') (hS : ∀ g, v.ownBlock = some g → ¬ S g) : OwnP w' base T v xs := by
  have hlt := World.ownsRow.lt h
  refine ⟨h.1, ?_⟩
  rcases h.2 with hn | ⟨g, cap, cur, rfl, hb, hgg, rest⟩
  · exact .inl hn
  · exact .inr ⟨g, cap, cur, rfl, hb, (hf.block g (hlt g rfl).2 (hS g rfl)).trans hgg, rest⟩
/-- append(v, x): the goal's world is the one in which the new element's box lies. -/
theorem wpList_pushP {P : Program} (w : World) {W : World} {ops : Array Oper} {rest : List Oper} {o : Oper} {a : Act} {Q : Exit → Act → World → Prop} (hgd : o.guard = none) (s x : Operand) (t : TypeId)
    (ho : o.op = Op.call { callee := Callee.builtin Builtin.append, args := #[s, x], argTypes := #[t, t] })
    (base : Nat) (e : TypeId) (z : Value) (hz : z.cells.size = 2) (ht : P.underlying t = some (.slice e)) (hinfo : (P.info? e).map (fun i => (i.zero, i.size, i.bytes)) = some (some z, 2, 16))
    (y : Int × Int) (hW : W = w.alloc (.cells #[.int .i64 y.1, .int .i64 y.2] e)) (v : Value) (xs : List (Int × Int)) (hs : a.eval s = v) (hx : a.eval x = .slice (some ⟨w.heap.size, 0, none⟩) 1 1) (hown : OwnP w base e v xs)
    (hlen : xs.length ≤ 4000000) (hbase : base ≤ w.heap.size)
    (h : ∀ v' w', OwnP w' base e v' (xs ++ [y]) → Fr (fun g => v.ownBlock = some g) w w' → wpList P ops Q rest (a.put o.dst v') w') :
    wpList P ops Q (o :: rest) a W := by
  subst hW
  obtain ⟨i0, hi, hz0, hz1, hz2⟩ := info_parts hinfo
  refine wpList_append_own (w.alloc (.cells #[.int .i64 y.1, .int .i64 y.2] e)) hgd s x t ho base e i0 z 2 16 ht hi hz0 hz1 hz2 hz (by decide) v xs.length (flat xs) hs (World.ownsRow.alloc hown _) ⟨w.heap.size, 0, none⟩ 1 1 [.int .i64 y.1, .int .i64 y.2] hx rfl
    (fun j u hu => ?_) (fun u hu => by simp at hu; rcases hu with rfl | rfl <;> rfl) (by unfold maxLen; omega) (by omega) (by simp; omega) (fun v' w' hown' hgrow _ => h v' w' ?_ ?_)
  · have hn := Blk.new w e [.int .i64 y.1, .int .i64 y.2]
    rw [addN, Nat.zero_add]
    exact (hn.cell j).trans hu
  · unfold OwnP; rw [flat_snoc, List.length_append]; exact hown'
  · exact ((Fr.refl _ w).alloc _).grown hgrow (fun g hg => .inl hg)

theorem info29 : (Try.prog.info? 29).map (fun i => (i.zero, i.size, i.bytes)) = some (some (.agg #[.int .i64 0, .int .i64 0]), 2, 16) := by kernel_rfl

set_option maxHeartbeats 4000000 in
theorem rhops_any (N : Int) (w : World) (hN : -9223372036854775808 ≤ N) : Calls Try.prog 12 #[.int .i64 N] w fun e w' => ∃ v, e = .returned v ∧ OwnP w' w.heap.size 29 v (hops N) ∧ Below w.heap.size w w' := by
  by_cases hbig : 65536 < N
  · have hH := Lib.hid (hops_big hbig)
    go_enter Try.func12, Try.ntmps12
    go_wp2_with fail
    go_ret
    exact ⟨_, rfl, by rw [hH.out]; exact World.ownsRow_nil _ _ _ _, Below.refl _ _⟩
  · have HH := Lib.hid (hops_small hbig)
    have HL := Lib.hid (hops_len N)
    go_enter Try.func12, Try.ntmps12
    go_wp2_with fail
    go_loopw [3, 4] (fun ov dv wr => ∃ (k : Nat) (pre : List (Int × Int)), dv = .int .i64 ((2 ^ k : Nat) : Int) ∧ k ≤ 17 ∧ Hid (hops N = pre ++ hopF N.toNat (17 - k) (2 ^ k)) ∧ Hid (OwnP wr w.heap.size 29 ov pre) ∧ Hid (Below w.heap.size w wr)) (fun _ dv _ => (N - intOf dv).toNat)
    case atStart => exact ⟨0, [], rfl, by omega, Lib.hid (by rw [HH.out]; rfl), Lib.hid (World.ownsRow_nil _ _ _ _), Lib.hid (Below.refl _ _)⟩
    case round =>
      obtain ⟨k, pre, rfl, hk, HPRE, HO, HB⟩ := hrel
      have hp1 : 1 ≤ 2 ^ k := Nat.one_le_two_pow
      have hp2 : 2 ^ (k + 1) = 2 * 2 ^ k := by rw [Nat.pow_succ, Nat.mul_comm]
      generalize hd : 2 ^ k = d at hp1 hp2 HPRE ⊢
      by_cases hdn : (d : Int) < N
      · have hk16 : k < 17 := by
          rcases Nat.lt_or_ge k 17 with h | h
          · exact h
          · exfalso
            have : 2 ^ 17 ≤ 2 ^ k := Nat.pow_le_pow_right (by omega) h
            rw [hd] at this
            omega
        have HGO : Hid (hops N = pre ++ (rowF N.toNat d d ++ hopF N.toNat (17 - (k + 1)) (2 * d))) := Lib.hid (by
          rw [HPRE.out, show 17 - k = (17 - (k + 1)) + 1 from by omega, hopF_go (by omega)])
        clear HPRE
        go_wp2_with fail
        obtain ⟨w0, rfl⟩ : ∃ w0 : World, w0 = wr := ⟨_, rfl⟩
        go_loopw [3, 5] (fun ov iv wx => ∃ (i : Nat) (pre : List (Int × Int)), iv = .int .i64 (i : Int) ∧ d ≤ i ∧ (i : Int) ≤ N ∧ Hid (hops N = pre ++ (rowF N.toNat d i ++ hopF N.toNat (17 - (k + 1)) (2 * d))) ∧ Hid (OwnP wx w.heap.size 29 ov pre) ∧ Hid (Below w.heap.size w wx)) (fun _ iv _ => (N - intOf iv).toNat)
        case atStart => exact ⟨d, pre, rfl, by omega, by omega, HGO, HO, HB⟩
        case round =>
          clear HO HB
          obtain ⟨i, pre2, rfl, hdi, hiN, HPRE2, HO, HB⟩ := hrel
          by_cases hiN2 : (i : Int) < N
          · have HG2 : Hid (hops N = (pre2 ++ [((i : Int), (i : Int) - d)]) ++ (rowF N.toNat d (i + 1) ++ hopF N.toNat (17 - (k + 1)) (2 * d))) := Lib.hid (by
              rw [HPRE2.out, rowF_cons (by omega)]; simp)
            have hlp : pre2.length ≤ 4000000 := by
              have := congrArg List.length HPRE2.out
              rw [List.length_append] at this
              have := HL.out
              omega
            clear HPRE2
            have m1 : IntKind.i64.wrap ((i : Int) - (d : Int)) = (i : Int) - d := by rw [IntKind.wrap_i64] <;> omega
            have m2 : IntKind.i64.wrap ((i : Int) + 1) = ((i + 1 : Nat) : Int) := by rw [IntKind.wrap_i64] <;> omega
            obtain ⟨w1, rfl⟩ : ∃ w1 : World, w1 = wr := ⟨_, rfl⟩
            go_wp2_with (show wpList _ _ _ ({ dst := some 26, op := _, type := _, pos := _, after := _, guard := _ } :: _) _ _; refine wpList_pushP w1 rfl _ _ 22 rfl w.heap.size 29 _ rfl Try.underlying22 info29 ((i : Int), (i : Int) - d) rfl _ pre2 rfl rfl HO.out hlp HB.out.size ?_; intro v' w2 ho hf; have HO2 := Lib.hid ho; have HB2 : Hid (Below w.heap.size w w2) := Lib.hid (HB.out.trans (hf.below (B := w.heap.size) HB.out.size (fun j hj => (World.ownsRow.lt HO.out j hj).1))); clear ho hf)
            go_roundw
            case rel => exact ⟨i + 1, _, rfl, by omega, by omega, HG2, HO2, HB2⟩
            case measure => simp [intOf]; omega
          · have HG2 : Hid (hops N = pre2 ++ hopF N.toNat (17 - (k + 1)) (2 * d)) := Lib.hid (by rw [HPRE2.out, rowF_nil (by omega)]; rfl)
            clear HPRE2
            have m2 : IntKind.i64.wrap (2 * (d : Int)) = ((2 * d : Nat) : Int) := by rw [IntKind.wrap_i64] <;> omega
            go_wp2_with fail
            go_roundw
            case rel => exact ⟨k + 1, _, by rw [hp2]; simp, by omega, by rw [hp2]; exact HG2, HO, HB⟩
            case measure => simp [intOf]; omega
      · have HE : Hid (hops N = pre) := Lib.hid (by rw [HPRE.out, hopF_stop (by omega)]; simp)
        clear HPRE
        go_wp2_with fail
        go_ret
        exact ⟨_, rfl, HE.out ▸ HO.out, HB.out⟩
end Go.Proofs.Ytpglocgfdonmaaa

/-
  Walk: Sort of whole numbers.
-/
import Derived.Test.YtpglocgfdonmaaaHl
import Derived.Test.YtpglocgfdonmaaaGw
import Derived.Test.YtpglocgfdonmaaaGk
import Derived.Test.YtpglocgfdonmaaaGm
import Derived.Test.YtpglocgfdonmaaaKv
import Derived.Test.YtpglocgfdonmaaaEq
import Derived.Test.YtpglocgfdonmaaaRow
set_option linter.unusedVariables false
set_option linter.unusedSimpArgs false
namespace Go.Proofs.Ytpglocgfdonmaaa
open Go.RowKit Go.Shelf
attribute [local go_sem] Oper.semAt_some

def R64 (x : Int) : Prop := -9223372036854775808 ≤ x ∧ x ≤ 9223372036854775807
/-- A region that draws, within a round, its loads ahead of its stores. -/
theorem region_round_late {P : Program} {ops : Array Oper} {Q : Exit → Act → World → Prop} {id l n : Nat} (T S : World → Prop) (E : List Nat) {a : Act} {w : World} (hm : P.follows .mixedOrders = true) (hd : noDefer ops = true) (hS : T w.drew ∧ S w.drew)
    (h : T w.drew ∧ S w.drew → wpAnyV P .any ops (onN Q) T S E ops.size (Array.replicate ops.size false) a w.drew) : (Code.region id ops true).wpIn (Fence.wide.inRound l) n P Q a w := by
  have h1 : (Code.region id ops true).wpIn (Fence.wide.inRound l) n P (onN Q) a w := wpIn_region_draw fun t => by
    simp only [Region.schedule, hm, Bool.true_or, if_true]
    exact opsIn_round l n hd (onN_out Q) _ _ _ (wpAny_sound ops.size t _ a _ (wpAny_of_late _ _ _ _ (h hS)))
  refine Code.wpIn_mono ?_ h1
  intro e a w hq
  cases e <;> first | exact hq | exact hq.elim

theorem leave23 {tmps : Array Value} {R : Ending → World → Prop} (W : World) (D : Nat) (v : Value) (h4 : tmps.getD 4 undef = v) (h5 : tmps.getD 5 undef = .int .i64 0) (hK : W.heap[D]? = some (.deferred (some [])))
    (hR : R (.returned (.tuple #[v, .int .i64 0])) (W.putObj D (.deferred none))) :
    LeavesInM Fence.wide 8 Try.prog Try.f23 tmps R [{ target := .collected D, args := #[] }] .returning W := by
  refine ⟨by simp, .inl ⟨_, _, rfl, run_takeDeferred hK, ?_⟩⟩
  refine ⟨.tuple #[v, .int .i64 0], ?_, hR⟩
  have h4' : tmps[4]?.getD undef = v := by simpa using h4
  have h5' : tmps[5]?.getD undef = .int .i64 0 := by simpa using h5
  simp [results, Try.results23, go_sem, h4', h5']
/-- append(v, xs...), in code that ranges over functions. -/
theorem wpListIn_pushes_any {F : Fence} {nF : Nat} {P : Program} (w : World) {ops : Array Oper} {rest : List Oper} {o : Oper} {a : Act} {Q : Exit → Act → World → Prop} (hgd : o.guard = none) (s x : Operand) (t : TypeId)
    (ho : o.op = Op.call { callee := Callee.builtin Builtin.append, args := #[s, x], argTypes := #[t, t] })
    (base : Nat) (e : TypeId) (k : IntKind) (bytes : Nat) (ht : P.underlying t = some (.slice e)) (hinfo : (P.info? e).map (fun i => (i.zero, i.size, i.bytes)) = some (some (.int k 0), 1, bytes))
    (v : Value) (xs : List Int) (hs : a.eval s = v) (hown : Own w base e k v xs) (A : Option Addr) (m c : Nat) (ys : List Int) (hx : a.eval x = .slice A m c) (hm : m = ys.length) (hr : Rd w k A ys)
    (hbytes : (xs.length + ys.length) * bytes ≤ 140737488355328) (hb0 : 0 < bytes) (hbase : base ≤ w.heap.size)
    (h : ∀ v' w', Own w' base e k v' (xs ++ ys) → Fr (fun g => v.ownBlock = some g) w w' → wpListIn F nF P ops Q rest (a.put o.dst v') w') :
    wpListIn F nF P ops Q (o :: rest) a w := by
  subst hm
  obtain ⟨i0, hi, hz0, hz1, hz2⟩ := info_parts hinfo
  by_cases h0 : ys.length = 0
  · obtain rfl : ys = [] := List.eq_nil_of_length_eq_zero h0
    rw [List.length_nil] at hx
    have hrun := run_append_empty (P := P) w base t o.type e i0 1 ht hi v xs.length (xs.map (Value.int k)) hown A c
    have hn := h v w (by simpa using hown) (Fr.refl _ _)
    refine wpListIn_plain hgd fun K hK' => ?_
    unfold Oper.wpIn
    refine ⟨?_, ?_⟩
    · simp [Oper.about, ho, resolve, Target.leads, Sem.run_pure]
    · rw [Oper.semAt_plain F _ _ (by rw [ho]; intro c hc'; cases hc')]
      simp [execOp, ho, resolve, invoke, builtin, hs, hx, hrun, Result.andThen]
      exact hK' _ _ hn
  · have hlen : xs.length + ys.length ≤ 140737488355328 := Nat.le_trans (Nat.le_mul_of_pos_right _ hb0) hbytes
    obtain ⟨b, off, rfl, _⟩ := hr 0 (by omega)
    refine wpListIn_append_own w hgd s x t ho base e i0 (.int k 0) 1 bytes ht hi hz0 hz1 hz2 rfl (by decide) v xs.length (xs.map (Value.int k)) hs hown ⟨b, off, none⟩ ys.length c (ys.map (Value.int k)) hx (by simp)
      (fun j u hu => ?_) (fun u hu => by obtain ⟨z, _, rfl⟩ := List.mem_map.1 hu; rfl) (by unfold maxLen; omega) hbytes hbase (fun v' w' hown' hgrow _ => h v' w' ?_ ?_)
    · have hj2 : j < ys.length := by
        have := (List.getElem?_eq_some_iff.1 hu).1
        simpa using this
      obtain ⟨b', off', hA, hc⟩ := hr j hj2
      injection hA with hA
      injection hA with h1 h2
      subst h1 h2
      have hv : u = .int k (ys.getD j 0) := by
        simp [List.getD, hj2] at hu ⊢; exact hu.symm
      rw [hv, ← hc]
      by_cases hz : j = 0
      · subst hz; simp [Addr.add]
      · simp [Addr.add, hz]
    · unfold Own; simpa using hown'
    · exact (Fr.refl _ w).grown hgrow (fun g hg => .inl hg)

set_option maxRecDepth 100000 in
set_option maxHeartbeats 8000000 in
theorem sort_any (F : Nat) (bs : Array Value) (lt : Int → Int → Bool) (A : Option Addr) (n c : Nat) (xs : List Int) (w : World) (hn : n = xs.length) (hr : Rd w .i64 A xs) (hl : xs.length ≤ 17592186044000) (hx : ∀ i, R64 (xs.getD i 0))
    (hF : ∀ args w, (callFunc F args).run Try.prog w = .ok (.enter F args) w) (hb : ∀ W, Below w.heap.size w W → ∀ a b : Int, R64 a → R64 b → Calls Try.prog F (#[.int .i64 a, .int .i64 b] ++ bs) W fun e W' => e = .returned (.bool (lt a b)) ∧ W' = W) (hok : sizeB (n : Int) = true ∨ n = 0) :
    Calls Try.prog 23 #[.slice A n c, .func (.func F) #[] bs] w fun e w' => ∃ v, e = .returned (.tuple #[v, .int .i64 0]) ∧ Own w' w.heap.size 3 .i64 v (sortF 0 lt xs) ∧ Below w.heap.size w w' := by
  have HR := Lib.hid hr
  have HN := Lib.hid hn
  have HX := Lib.hid hx
  have HB := Lib.hid hb
  have hbt : (([] : List Int).length + xs.length) * 8 ≤ 140737488355328 := by simp; omega
  have hsz := fun W => size_any (n : Int) W
  have HSZ : Hid (0 < n → ∀ W, Calls Try.prog 40 #[.int .i64 (n : Int)] W fun e w' => e = .returned (.bool true) ∧ w' = W) := Lib.hid (fun h W => by
    have h1 := size_any (n : Int) W
    rcases hok with h2 | h2
    · rw [h2] at h1; exact h1
    · omega)
  have O0 : Hid (Own (w.alloc (.cells #[.func (.func F) #[] bs] 31)) w.heap.size 3 .i64 (.slice none 0 0) []) := Lib.hid (Own.nil _ _ _ _)
  have HR1 : Hid (Rd (w.alloc (.cells #[.func (.func F) #[] bs] 31)) .i64 A xs) := Lib.hid (hr.below ((Below.refl w.heap.size w).alloc (Nat.le_refl _) _))
  clear hr hn hx hb hok hsz
  refine (callsIn_wide (n := 8)).1 ?_
  refine callsIn_of_wp_marks Try.func23 rfl trivial ?_ rfl
  simp only [Try.ntmps23, List.size_toArray, List.length_cons, List.length_nil, Nat.reduceAdd, Nat.reduceSub, Array.replicate_succ, Array.replicate_zero, List.push_toArray, List.append_toArray, List.nil_append, List.cons_append]
  by_cases h0 : n = 0
  · subst h0
    gi_wp2_with (first
      | (refine ⟨trivial, ?_⟩; gi_at_call 16; refine (callsIn_wide.2 (gatesmk _ _)).mono ?_; rintro e w' ⟨rfl, rfl⟩)
      | (show wpListIn _ _ _ _ _ ({ dst := some 18, op := _, type := _, pos := _, after := _, guard := _ } :: _) _ _; refine wpListIn_pushes_any _ rfl _ _ 39 rfl w.heap.size 3 .i64 8 Try.underlying39 info3 _ [] rfl O0.out A _ c xs rfl HN.out HR1.out hbt (by decide) (by simp) ?_; intro v' w1 ho hf; rw [List.nil_append] at ho; have O1 := Lib.hid ho; obtain ⟨A1, c1, rfl, -⟩ := ho.slice; have F1 := Lib.hid (hf.below (B := (w.alloc (.cells #[.func (.func F) #[] bs] 31)).heap.size) (Nat.le_refl _) (fun j hj => by cases hj)); clear ho hf)
      | (refine ⟨trivial, ?_⟩))
    have hxs : xs = [] := List.eq_nil_of_length_eq_zero HN.out.symm
    subst hxs
    have HB01 : Hid (Below w.heap.size w w1) := Lib.hid (((Below.refl w.heap.size w).alloc (Nat.le_refl _) _).trans (F1.out.mono (by simp)))
    generalize hWM : ((w1.alloc (.cells #[.slice A1 ([] : List Int).length c1] 39)).alloc (.cells #[.int .i64 ((0 : Nat) : Int)] 3)) = wM
    have BP : Hid (Blk wM w1.heap.size 39 [.slice A1 ([] : List Int).length c1]) := Lib.hid (hWM ▸ ((Blk.new w1 39 [.slice A1 ([] : List Int).length c1]).alloc _))
    have BN : Hid (Blk wM (w1.heap.size + 1) 3 [.int .i64 ((0 : Nat) : Int)]) := Lib.hid (hWM ▸ (Blk.new_at (w1.alloc (.cells #[.slice A1 ([] : List Int).length c1] 39)) 3 [.int .i64 ((0 : Nat) : Int)] (by simp)))
    have HSZ2 : Hid (wM.heap.size = w1.heap.size + 2) := Lib.hid (by rw [← hWM]; simp)
    have HBM : Hid (Below w1.heap.size w1 wM) := Lib.hid (hWM ▸ (((Below.refl w1.heap.size w1).alloc (Nat.le_refl _) _).alloc (by simp) _))
    clear hWM
    have habs : ∀ x : GE ((0 : Nat) : Int), False := fun x => by
      obtain ⟨a, b, n', h1, -, h3, -⟩ := gates_mem x.2
      omega
    refine wpIn_rangeFunc_ownH rfl (by omega) (gf := 42) (lb := #[.pointer (some ⟨w1.heap.size + 1, 0, none⟩)]) rfl trivial (enters_of Try.func42 (by kernel_rfl) rfl)
      (gates_stopsB (8 - 1) (by omega) (w1.heap.size + 1) ((0 : Nat) : Int) wM (by have := HSZ2.out; omega) (BN.out.cell 0)) keepB_t (keepB_b (by have := HSZ2.out; omega)) (Below.refl _ _) (fun _ => rfl)
      (fun pre W => Blk W w1.heap.size 39 [.slice A1 ([] : List Int).length c1] ∧ Below w1.heap.size w1 W)
      (fun cd pre W => False)
      (OwnFrom.and (Go.Own.from (blk_own _ _ _) _) (ownFrom_below (Nat.le_refl _) HBM.out.size))
      (fun _ => ownFrom_pure _ _)
      ⟨BP.out, HBM.out⟩
      (fun x a' W => False)
      (fun x a' => ownFrom_pure _ _)
      (fun l pre x => (habs x).elim) (fun l pre x => (habs x).elim) ?done ?stop
    case done =>
      rintro D xs' W hD hxs ⟨bP, hB⟩ hK
      have cP : W.cell? ⟨w1.heap.size, 0, none⟩ = some (.slice A1 ([] : List Int).length c1) := bP.cell 0
      have HKD := Lib.hid hK
      have HBW := Lib.hid hB
      have HDD : Hid (w1.heap.size ≤ D) := Lib.hid (by have := HSZ2.out; omega)
      clear bP hB hK hxs hD
      gi_wp2
      refine leave23 W D _ rfl rfl HKD.out ?_
      have hb : Below w1.heap.size w1 (W.putObj D (.deferred none)) := HBW.out.trans (belowK_b (w := w1) (Nat.le_refl _) W D _ _ HDD.out HKD.out rfl rfl)
      have ho := O1.out.below hb
      exact ⟨_, rfl, ho, HB01.out.trans (hb.mono HB01.out.size)⟩
    case stop =>
      rintro D cd pre W hD hsp hf
      exact hf.elim
  · have hpos : 0 < n := by omega
    have HS := Lib.hid (HSZ.out hpos)
    clear HSZ
    gi_wp2_with (first
      | (refine ⟨trivial, ?_⟩; gi_at_call 40; refine (callsIn_wide.2 (HS.out _)).mono ?_; rintro e w' ⟨rfl, rfl⟩)
      | (refine ⟨trivial, ?_⟩; gi_at_call 16; refine (callsIn_wide.2 (gatesmk _ _)).mono ?_; rintro e w' ⟨rfl, rfl⟩)
      | (show wpListIn _ _ _ _ _ ({ dst := some 18, op := _, type := _, pos := _, after := _, guard := _ } :: _) _ _; refine wpListIn_pushes_any _ rfl _ _ 39 rfl w.heap.size 3 .i64 8 Try.underlying39 info3 _ [] rfl O0.out A _ c xs rfl HN.out HR1.out hbt (by decide) (by simp) ?_; intro v' w1 ho hf; rw [List.nil_append] at ho; have O1 := Lib.hid ho; obtain ⟨A1, c1, rfl, -⟩ := ho.slice; have F1 := Lib.hid (hf.below (B := (w.alloc (.cells #[.func (.func F) #[] bs] 31)).heap.size) (Nat.le_refl _) (fun j hj => by cases hj)); clear ho hf)
      | (refine ⟨trivial, ?_⟩))
    have HNn : Hid (xs.length = n) := Lib.hid HN.out.symm
    obtain ⟨g, rest, hA1, hgB, bG1, hcl⟩ : ∃ g rest, A1 = some ⟨g, 0, none⟩ ∧ w.heap.size ≤ g ∧ Blk w1 g 3 (xs.map (Value.int .i64) ++ rest) ∧ (xs.length + rest.length = c1 ∧ c1 ≤ maxLen) := by
      rcases O1.out.form with ⟨h1, h2⟩ | ⟨g, c', rest, h1, h2, h3, h4, h5⟩
      · exfalso; rw [h2] at HN; have := HN.out; simp at this; omega
      · injection h1 with e1 e2 e3
        exact ⟨g, rest, e1, h2, h3, by omega, by omega⟩
    subst hA1
    rw [HNn.out]
    have BB1 : Hid (Blk w1 w.heap.size 31 [.func (.func F) #[] bs]) := Lib.hid ((Blk.new w 31 [.func (.func F) #[] bs]).below F1.out (by simp))
    have HB01 : Hid (Below w.heap.size w w1) := Lib.hid (((Below.refl w.heap.size w).alloc (Nat.le_refl _) _).trans (F1.out.mono (by simp)))
    have HGP : Hid (g < w1.heap.size ∧ w.heap.size < w1.heap.size ∧ g ≠ w.heap.size) := Lib.hid ⟨Blk.lt bG1, Blk.lt BB1.out, Blk.ne bG1 BB1.out (by decide)⟩
    generalize hWM : ((w1.alloc (.cells #[.slice (some ⟨g, 0, none⟩) n c1] 39)).alloc (.cells #[.int .i64 (n : Int)] 3)) = wM
    have BG : Hid (Blk wM g 3 (xs.map (Value.int .i64) ++ rest)) := Lib.hid (hWM ▸ ((bG1.alloc _).alloc _))
    have BP : Hid (Blk wM w1.heap.size 39 [.slice (some ⟨g, 0, none⟩) n c1]) := Lib.hid (hWM ▸ ((Blk.new w1 39 [.slice (some ⟨g, 0, none⟩) n c1]).alloc _))
    have BB : Hid (Blk wM w.heap.size 31 [.func (.func F) #[] bs]) := Lib.hid (hWM ▸ ((BB1.out.alloc _).alloc _))
    have BN : Hid (Blk wM (w1.heap.size + 1) 3 [.int .i64 (n : Int)]) := Lib.hid (hWM ▸ (Blk.new_at (w1.alloc (.cells #[.slice (some ⟨g, 0, none⟩) n c1] 39)) 3 [.int .i64 (n : Int)] (by simp)))
    have HSZ : Hid (wM.heap.size = w1.heap.size + 2) := Lib.hid (by rw [← hWM]; simp)
    have HBM : Hid (Below w.heap.size w wM) := Lib.hid (hWM ▸ ((HB01.out.alloc (by have := HGP.out; omega) _).alloc (by have := HGP.out; simp; omega) _))
    have HGE := Lib.hid hgB
    have HCL := Lib.hid hcl
    clear hWM O1 F1 O0 HR1 bG1 BB1 HB01 hgB hcl HR hbt
    generalize w1.heap.size = P1 at *
    refine wpIn_rangeFunc_ownH rfl (by omega) (gf := 42) (lb := #[.pointer (some ⟨P1 + 1, 0, none⟩)]) rfl trivial (enters_of Try.func42 (by kernel_rfl) rfl)
      (gates_stopsB (8 - 1) (by omega) (P1 + 1) (n : Int) wM (by have := HSZ.out; omega) (BN.out.cell 0)) keepB_t (keepB_b (by have := HSZ.out; omega)) (Below.refl _ _) (fun _ => rfl)
      (fun pre W => Blk W g 3 ((sortG 0 lt xs (vals pre)).map (Value.int .i64) ++ rest) ∧ Blk W P1 39 [.slice (some ⟨g, 0, none⟩) n c1] ∧ Blk W w.heap.size 31 [.func (.func F) #[] bs] ∧ Blk W (P1 + 1) 3 [.int .i64 (n : Int)] ∧ Below w.heap.size w W)
      (fun cd pre W => False)
      (OwnFrom.and (Go.Own.from (blk_own g 3 (fun pre => (sortG 0 lt xs (vals pre)).map (Value.int .i64) ++ rest)) _) (OwnFrom.and (Go.Own.from (blk_own _ _ _) _) (OwnFrom.and (Go.Own.from (blk_own _ _ _) _) (OwnFrom.and (Go.Own.from (blk_own _ _ _) _) (ownFrom_below (Nat.le_refl _) HBM.out.size)))))
      (fun _ => ownFrom_pure _ _)
      ⟨BG.out, BP.out, BB.out, BN.out, HBM.out⟩
      (fun x a' W => ∃ Bx, P1 + 1 < Bx ∧ Blk W Bx 38 [.int .i64 x.1.1, .int .i64 x.1.2] ∧ a' = { tmps := #[.slice A n c, .func (.func F) #[] bs, undef, .pointer (some ⟨w.heap.size, 0, none⟩), .slice none 0 0, .int .i64 0, .pointer (some ⟨P1, 0, none⟩), .pointer (some ⟨Bx, 0, none⟩), .slice A n c, .int .i64 (n : Int), .bool true, .bool true, .slice A n c, .int .i64 (n : Int), .bool true, .bool false, .bool false, .slice A n c, .slice (some ⟨g, 0, none⟩) n c1, .slice A n c, .int .i64 (n : Int), (.func (.func 42) #[] #[.pointer (some ⟨P1 + 1, 0, none⟩)]), .agg #[.int .i64 x.1.1, .int .i64 x.1.2], undef, undef, undef, undef, undef, undef, undef, undef, undef, undef, undef, undef, undef, undef, undef, undef, undef, undef, undef, undef, undef, undef, undef, undef, undef, undef, undef, undef, undef, undef, undef], defers := [] })
      (fun x a' _ X Y row hs hg hr => by obtain ⟨Bx, h1, h2, h3⟩ := hs; exact ⟨Bx, h1, blk_own Bx 38 (fun (_ : Unit) => [Value.int .i64 x.1.1, Value.int .i64 x.1.2]) () X Y row h2 hg (fun r e => (hr r e).2), h3⟩)
      ?assign ?body ?done ?stop
    case assign =>
      rintro l pre x W K ⟨bG, bP, bB, bN, hB⟩ hK
      have hlt := Blk.lt bP
      have hsz := HSZ.out
      have hwM := HBM.out.size
      have KK := Lib.hid hK
      have HSW : Hid (w.heap.size ≤ W.heap.size) := Lib.hid hB.size
      have HPX : Hid (P1 + 1 < W.heap.size) := Lib.hid (Blk.lt bN)
      clear hK
      unfold encG encH
      gi_wp2
      exact KK.out _ _ ((KeepsOthers.alloc _ _).from _) (Below.heap_alloc _ _ _ HPX.out) ⟨Blk.alloc bG _, Blk.alloc bP _, Blk.alloc bB _, Blk.alloc bN _, hB.alloc HSW.out _⟩ ⟨W.heap.size, HPX.out, Blk.new W 38 [.int .i64 x.1.1, .int .i64 x.1.2], rfl⟩
    case body =>
      rintro l pre x a' W hl - ⟨bG, bP, bB, bN, hB⟩ ⟨Bx, hBx, bX, rfl⟩ -
      obtain ⟨⟨x1, x2⟩, hx⟩ := x
      obtain ⟨a, b, n', hn', hx12, ha, hb, hab⟩ := gates_mem hx
      injection hx12 with hx1 hx2
      subst hx1 hx2
      obtain rfl : n = n' := by omega
      dsimp only at bX ⊢
      have HST : Hid (∀ y, sortG 0 lt xs (vals (pre ++ [⟨((a : Int), (b : Int)), hx⟩])) = y → stepS 0 lt (sortG 0 lt xs (vals pre)) ((a : Int), (b : Int)) = y) := Lib.hid (fun y hy => by rw [← hy, vals_snoc, sortG_snoc])
      generalize hV : vals (pre ++ [⟨((a : Int), (b : Int)), hx⟩]) = PX at HST ⊢
      have HLL : Hid ((sortG 0 lt xs (vals pre)).length = n) := Lib.hid (by rw [sortG_len]; exact HNn.out)
      have HLR : Hid (∀ i, R64 ((sortG 0 lt xs (vals pre)).getD i 0)) := Lib.hid (sortG_all 0 lt _ _ HX.out)
      have HPX := Lib.hid hV
      clear hV
      generalize sortG 0 lt xs (vals pre) = L at *
      have CA : Hid (W.cell? ⟨g, a, none⟩ = some (.int .i64 (L.getD a 0))) := Lib.hid (by rw [bG.cell a, List.getElem?_append_left (by simp; have := HLL.out; omega), List.getElem?_map, List.getD_eq_getElem?_getD, List.getElem?_eq_getElem (by have := HLL.out; omega)]; rfl)
      have CB : Hid (W.cell? ⟨g, b, none⟩ = some (.int .i64 (L.getD b 0))) := Lib.hid (by rw [bG.cell b, List.getElem?_append_left (by simp; have := HLL.out; omega), List.getElem?_map, List.getD_eq_getElem?_getD, List.getElem?_eq_getElem (by have := HLL.out; omega)]; rfl)
      have BGW := Lib.hid bG
      have BPW := Lib.hid bP
      have BBW := Lib.hid bB
      have BXW := Lib.hid bX
      have BNW := Lib.hid bN
      have HBW := Lib.hid hB
      have RA := Lib.hid (HLR.out a)
      have RB := Lib.hid (HLR.out b)
      have ha' : (a : Int) < (n : Int) := by omega
      have hb' : (b : Int) < (n : Int) := by omega
      have HNE := Lib.hid hab
      have HDf : Hid (g ≠ P1 ∧ g ≠ Bx ∧ P1 ≠ Bx ∧ g ≠ w.heap.size ∧ g ≠ P1 + 1) := Lib.hid (by have := HGP.out; omega)
      obtain ⟨ya, hya⟩ : ∃ y, y = L.getD a 0 := ⟨_, rfl⟩
      obtain ⟨yb, hyb⟩ : ∃ y, y = L.getD b 0 := ⟨_, rfl⟩
      have HYA := Lib.hid hya
      have HYB := Lib.hid hyb
      rw [← hya] at CA RA
      rw [← hyb] at CB RB
      clear bG bP bB bN bX hB hl hab hya hyb
      gi_wp2
      refine region_round (S := fun w' => w'.heap = W.heap) (by kernel_rfl) (by kernel_rfl) rfl (fun hHeld => ?_)
      refine wpAnyH_take (i := 0) (oi := ⟨some 23, _, _, _, _, _⟩) (v := (.func (.func F) #[] bs)) rfl (by kernel_rfl) (by kernel_rfl) (by kernel_rfl) (fun _ _ _ h => h) (Or.inl ⟨by rfl, ?_⟩) (by assumption) ?_
      · intro w' hS; have z0 : w'.cell? ⟨w.heap.size, 0, none⟩ = some (.func (.func F) #[] bs) := (World.cell?_of_block (w := W) (w' := w') (by rw [hS])).trans (BBW.out.cell 0); go_simp; try with_reducible rfl
      simp only [Act.put, List.setIfInBounds_toArray, List.set_cons_zero, List.set_cons_succ]
      refine wpAnyH_take (i := 1) (oi := ⟨some 24, _, _, _, _, _⟩) (v := (.slice (some ⟨g, 0, none⟩) n c1)) rfl (by kernel_rfl) (by kernel_rfl) (by kernel_rfl) (fun _ _ _ h => h) (Or.inl ⟨by rfl, ?_⟩) (by assumption) ?_
      · intro w' hS; have z0 : w'.cell? ⟨P1, 0, none⟩ = some (.slice (some ⟨g, 0, none⟩) n c1) := (World.cell?_of_block (w := W) (w' := w') (by rw [hS])).trans (BPW.out.cell 0); go_simp; try with_reducible rfl
      simp only [Act.put, List.setIfInBounds_toArray, List.set_cons_zero, List.set_cons_succ]
      refine wpAnyH_take (i := 2) (oi := ⟨some 25, _, _, _, _, _⟩) (v := (.pointer (some ⟨Bx, 1, none⟩))) rfl (by kernel_rfl) (by kernel_rfl) (by kernel_rfl) (fun _ _ _ h => h) (Or.inl ⟨by rfl, ?_⟩) (by assumption) ?_
      · intro w' hS; go_simp; try with_reducible rfl
      simp only [Act.put, List.setIfInBounds_toArray, List.set_cons_zero, List.set_cons_succ]
      refine wpAnyH_take (i := 3) (oi := ⟨some 26, _, _, _, _, _⟩) (v := (.int .i64 (b : Int))) rfl (by kernel_rfl) (by kernel_rfl) (by kernel_rfl) (fun _ _ _ h => h) (Or.inl ⟨by rfl, ?_⟩) (by assumption) ?_
      · intro w' hS; have z0 : w'.cell? ⟨Bx, 1, none⟩ = some (.int .i64 (b : Int)) := (World.cell?_of_block (w := W) (w' := w') (by rw [hS])).trans (BXW.out.cell 1); go_simp; try with_reducible rfl
      simp only [Act.put, List.setIfInBounds_toArray, List.set_cons_zero, List.set_cons_succ]
      refine wpAnyH_take (i := 4) (oi := ⟨some 27, _, _, _, _, _⟩) (v := (.pointer (some ⟨g, b, none⟩))) rfl (by kernel_rfl) (by kernel_rfl) (by kernel_rfl) (fun _ _ _ h => h) (Or.inl ⟨by rfl, ?_⟩) (by assumption) ?_
      · intro w' hS; go_simp; try with_reducible rfl
      simp only [Act.put, List.setIfInBounds_toArray, List.set_cons_zero, List.set_cons_succ]
      refine wpAnyH_take (i := 5) (oi := ⟨some 28, _, _, _, _, _⟩) (v := (.int .i64 yb)) rfl (by kernel_rfl) (by kernel_rfl) (by kernel_rfl) (fun _ _ _ h => h) (Or.inl ⟨by rfl, ?_⟩) (by assumption) ?_
      · intro w' hS; have z0 : w'.cell? ⟨g, b, none⟩ = some (.int .i64 yb) := (World.cell?_of_block (w := W) (w' := w') (by rw [hS])).trans (CB.out); go_simp; try with_reducible rfl
      simp only [Act.put, List.setIfInBounds_toArray, List.set_cons_zero, List.set_cons_succ]
      refine wpAnyH_take (i := 6) (oi := ⟨some 29, _, _, _, _, _⟩) (v := (.slice (some ⟨g, 0, none⟩) n c1)) rfl (by kernel_rfl) (by kernel_rfl) (by kernel_rfl) (fun _ _ _ h => h) (Or.inl ⟨by rfl, ?_⟩) (by assumption) ?_
      · intro w' hS; have z0 : w'.cell? ⟨P1, 0, none⟩ = some (.slice (some ⟨g, 0, none⟩) n c1) := (World.cell?_of_block (w := W) (w' := w') (by rw [hS])).trans (BPW.out.cell 0); go_simp; try with_reducible rfl
      simp only [Act.put, List.setIfInBounds_toArray, List.set_cons_zero, List.set_cons_succ]
      refine wpAnyH_take (i := 7) (oi := ⟨some 30, _, _, _, _, _⟩) (v := (.pointer (some ⟨Bx, 0, none⟩))) rfl (by kernel_rfl) (by kernel_rfl) (by kernel_rfl) (fun _ _ _ h => h) (Or.inl ⟨by rfl, ?_⟩) (by assumption) ?_
      · intro w' hS; go_simp; try with_reducible rfl
      simp only [Act.put, List.setIfInBounds_toArray, List.set_cons_zero, List.set_cons_succ]
      refine wpAnyH_take (i := 8) (oi := ⟨some 31, _, _, _, _, _⟩) (v := (.int .i64 (a : Int))) rfl (by kernel_rfl) (by kernel_rfl) (by kernel_rfl) (fun _ _ _ h => h) (Or.inl ⟨by rfl, ?_⟩) (by assumption) ?_
      · intro w' hS; have z0 : w'.cell? ⟨Bx, 0, none⟩ = some (.int .i64 (a : Int)) := (World.cell?_of_block (w := W) (w' := w') (by rw [hS])).trans (BXW.out.cell 0); go_simp; try with_reducible rfl
      simp only [Act.put, List.setIfInBounds_toArray, List.set_cons_zero, List.set_cons_succ]
      refine wpAnyH_take (i := 9) (oi := ⟨some 32, _, _, _, _, _⟩) (v := (.pointer (some ⟨g, a, none⟩))) rfl (by kernel_rfl) (by kernel_rfl) (by kernel_rfl) (fun _ _ _ h => h) (Or.inl ⟨by rfl, ?_⟩) (by assumption) ?_
      · intro w' hS; go_simp; try with_reducible rfl
      simp only [Act.put, List.setIfInBounds_toArray, List.set_cons_zero, List.set_cons_succ]
      refine wpAnyH_take (i := 10) (oi := ⟨some 33, _, _, _, _, _⟩) (v := (.int .i64 ya)) rfl (by kernel_rfl) (by kernel_rfl) (by kernel_rfl) (fun _ _ _ h => h) (Or.inl ⟨by rfl, ?_⟩) (by assumption) ?_
      · intro w' hS; have z0 : w'.cell? ⟨g, a, none⟩ = some (.int .i64 ya) := (World.cell?_of_block (w := W) (w' := w') (by rw [hS])).trans (CA.out); go_simp; try with_reducible rfl
      simp only [Act.put, List.setIfInBounds_toArray, List.set_cons_zero, List.set_cons_succ]
      have HCC : Hid (Calls Try.prog F (#[.int .i64 yb, .int .i64 ya] ++ bs) W.drew fun e W' => e = .returned (.bool (lt yb ya)) ∧ W' = W.drew) := Lib.hid (HB.out _ HBW.out.drew yb ya RB.out RA.out)
      generalize hv0 : W.drew = v0 at HCC hHeld ⊢
      have HV0 := Lib.hid hv0
      clear hv0
      refine wpAnyH_ready (rs := [11]) (by kernel_rfl) (by simp) ?_
      refine AllReadyH.cons (o := ⟨some 34, _, _, _, _, _⟩) rfl (fun K hK => ?_) AllReadyH.nil
      rw [if_pos (by rfl)]
      go_simp
      refine HCC.out.mono ?_
      rintro e' w' ⟨rfl, hww⟩
      obtain rfl : v0 = w' := hww.symm
      dsimp only
      (try simp only [Act.put, List.setIfInBounds_toArray, List.set_cons_zero, List.set_cons_succ])
      refine hK.out _ _ hHeld (fun hHeld => ?_)
      clear hK K
      refine wpAnyH_done (by kernel_rfl) ?_ _
      simp only [onN]
      obtain rfl : W.drew = v0 := HV0.out
      clear HV0 HCC
      cases hlt : lt yb ya
      · have HST2 : Hid (sortG 0 lt xs PX = L) := Lib.hid (by
          have h := HST.out _ rfl
          rw [← h]
          unfold stepS
          rw [Int.toNat_natCast, Int.toNat_natCast, ← HYA.out, ← HYB.out, hlt]
          rfl)
        gi_wp2
        exact ⟨(KeepsOthers.drew _).from _, rfl, by rw [HPX.out, HST2.out]; exact BGW.out, BPW.out, BBW.out, BNW.out, HBW.out.drew⟩
      · have HST2 : Hid (sortG 0 lt xs PX = swapL 0 L a b) := Lib.hid (by
          have h := HST.out _ rfl
          rw [← h]
          unfold stepS
          rw [Int.toNat_natCast, Int.toNat_natCast, ← HYA.out, ← HYB.out, hlt]
          rfl)
        have BG2 : Hid (Blk ((W.drew.drew.setCell ⟨g, b, none⟩ (.int .i64 ya)).setCell ⟨g, a, none⟩ (.int .i64 yb)) g 3 ((swapL 0 L a b).map (Value.int .i64) ++ rest)) := Lib.hid (by
          have h1 := Blk.set (Blk.set (w := W.drew.drew) BGW.out b (.int .i64 ya)) a (.int .i64 yb)
          rw [List.set_append_left _ _ (by simp; have := HLL.out; omega), List.set_append_left _ _ (by simp; have := HLL.out; omega)] at h1
          unfold swapL
          rw [List.map_set, List.map_set, ← HYA.out, ← HYB.out]
          exact h1)
        have hWd : W.drew.heap = W.heap := rfl
        generalize hD : W.drew = D at BG2 hWd ⊢
        gi_wp2
        refine region_round_late (fun w' => (∀ k, k ≠ g → w'.heap[k]? = W.heap[k]?)) (fun w' => w'.heap[g]? = W.heap[g]?) [17, 18, 19] (by kernel_rfl) (by kernel_rfl) ⟨fun k _ => by show D.heap[k]? = _; rw [hWd], by show D.heap[g]? = _; rw [hWd]⟩ (fun hHeld => ?_)
        have HTS := Lib.hid hHeld
        clear hHeld
        have hWDD : D.drew.heap = W.heap := hWd
        have HDS : Hid (Below w.heap.size w D.drew ∧ KeepsOthers W D.drew) := Lib.hid (by rw [← hD]; exact ⟨HBW.out.drew.drew, (KeepsOthers.drew _).trans (KeepsOthers.drew _)⟩)
        generalize D.drew = DD at BG2 hWDD HTS HDS ⊢
        clear hWd
        refine wpAnyV_take (i := 0) (oi := ⟨some 35, _, _, _, _, _⟩) (v := (.slice (some ⟨g, 0, none⟩) n c1)) rfl (by kernel_rfl) (by kernel_rfl) (by kernel_rfl) (fun _ _ _ h => h) (Or.inl ⟨by rfl, ?_⟩) HTS.out.1 ?_
        · intro w' hS; have z0 : w'.cell? ⟨P1, 0, none⟩ = some (.slice (some ⟨g, 0, none⟩) n c1) := (World.cell?_of_block (w := W) (w' := w') (hS _ (by have := HDf.out; show P1 ≠ g; omega))).trans (BPW.out.cell 0); go_simp; try with_reducible rfl
        simp only [Act.put, List.setIfInBounds_toArray, List.set_cons_zero, List.set_cons_succ]
        refine wpAnyV_take (i := 1) (oi := ⟨some 36, _, _, _, _, _⟩) (v := (.pointer (some ⟨Bx, 1, none⟩))) rfl (by kernel_rfl) (by kernel_rfl) (by kernel_rfl) (fun _ _ _ h => h) (Or.inl ⟨by rfl, ?_⟩) HTS.out.1 ?_
        · intro w' hS; go_simp; try with_reducible rfl
        simp only [Act.put, List.setIfInBounds_toArray, List.set_cons_zero, List.set_cons_succ]
        refine wpAnyV_take (i := 2) (oi := ⟨some 37, _, _, _, _, _⟩) (v := (.int .i64 (b : Int))) rfl (by kernel_rfl) (by kernel_rfl) (by kernel_rfl) (fun _ _ _ h => h) (Or.inl ⟨by rfl, ?_⟩) HTS.out.1 ?_
        · intro w' hS; have z0 : w'.cell? ⟨Bx, 1, none⟩ = some (.int .i64 (b : Int)) := (World.cell?_of_block (w := W) (w' := w') (hS _ (by have := HDf.out; show Bx ≠ g; omega))).trans (BXW.out.cell 1); go_simp; try with_reducible rfl
        simp only [Act.put, List.setIfInBounds_toArray, List.set_cons_zero, List.set_cons_succ]
        refine wpAnyV_take (i := 3) (oi := ⟨some 38, _, _, _, _, _⟩) (v := (.slice (some ⟨g, 0, none⟩) n c1)) rfl (by kernel_rfl) (by kernel_rfl) (by kernel_rfl) (fun _ _ _ h => h) (Or.inl ⟨by rfl, ?_⟩) HTS.out.1 ?_
        · intro w' hS; have z0 : w'.cell? ⟨P1, 0, none⟩ = some (.slice (some ⟨g, 0, none⟩) n c1) := (World.cell?_of_block (w := W) (w' := w') (hS _ (by have := HDf.out; show P1 ≠ g; omega))).trans (BPW.out.cell 0); go_simp; try with_reducible rfl
        simp only [Act.put, List.setIfInBounds_toArray, List.set_cons_zero, List.set_cons_succ]
        refine wpAnyV_take (i := 4) (oi := ⟨some 39, _, _, _, _, _⟩) (v := (.pointer (some ⟨Bx, 0, none⟩))) rfl (by kernel_rfl) (by kernel_rfl) (by kernel_rfl) (fun _ _ _ h => h) (Or.inl ⟨by rfl, ?_⟩) HTS.out.1 ?_
        · intro w' hS; go_simp; try with_reducible rfl
        simp only [Act.put, List.setIfInBounds_toArray, List.set_cons_zero, List.set_cons_succ]
        refine wpAnyV_take (i := 5) (oi := ⟨some 40, _, _, _, _, _⟩) (v := (.int .i64 (a : Int))) rfl (by kernel_rfl) (by kernel_rfl) (by kernel_rfl) (fun _ _ _ h => h) (Or.inl ⟨by rfl, ?_⟩) HTS.out.1 ?_
        · intro w' hS; have z0 : w'.cell? ⟨Bx, 0, none⟩ = some (.int .i64 (a : Int)) := (World.cell?_of_block (w := W) (w' := w') (hS _ (by have := HDf.out; show Bx ≠ g; omega))).trans (BXW.out.cell 0); go_simp; try with_reducible rfl
        simp only [Act.put, List.setIfInBounds_toArray, List.set_cons_zero, List.set_cons_succ]
        refine wpAnyV_take (i := 6) (oi := ⟨some 41, _, _, _, _, _⟩) (v := (.slice (some ⟨g, 0, none⟩) n c1)) rfl (by kernel_rfl) (by kernel_rfl) (by kernel_rfl) (fun _ _ _ h => h) (Or.inl ⟨by rfl, ?_⟩) HTS.out.1 ?_
        · intro w' hS; have z0 : w'.cell? ⟨P1, 0, none⟩ = some (.slice (some ⟨g, 0, none⟩) n c1) := (World.cell?_of_block (w := W) (w' := w') (hS _ (by have := HDf.out; show P1 ≠ g; omega))).trans (BPW.out.cell 0); go_simp; try with_reducible rfl
        simp only [Act.put, List.setIfInBounds_toArray, List.set_cons_zero, List.set_cons_succ]
        refine wpAnyV_take (i := 7) (oi := ⟨some 42, _, _, _, _, _⟩) (v := (.pointer (some ⟨Bx, 0, none⟩))) rfl (by kernel_rfl) (by kernel_rfl) (by kernel_rfl) (fun _ _ _ h => h) (Or.inl ⟨by rfl, ?_⟩) HTS.out.1 ?_
        · intro w' hS; go_simp; try with_reducible rfl
        simp only [Act.put, List.setIfInBounds_toArray, List.set_cons_zero, List.set_cons_succ]
        refine wpAnyV_take (i := 8) (oi := ⟨some 43, _, _, _, _, _⟩) (v := (.int .i64 (a : Int))) rfl (by kernel_rfl) (by kernel_rfl) (by kernel_rfl) (fun _ _ _ h => h) (Or.inl ⟨by rfl, ?_⟩) HTS.out.1 ?_
        · intro w' hS; have z0 : w'.cell? ⟨Bx, 0, none⟩ = some (.int .i64 (a : Int)) := (World.cell?_of_block (w := W) (w' := w') (hS _ (by have := HDf.out; show Bx ≠ g; omega))).trans (BXW.out.cell 0); go_simp; try with_reducible rfl
        simp only [Act.put, List.setIfInBounds_toArray, List.set_cons_zero, List.set_cons_succ]
        refine wpAnyV_take (i := 9) (oi := ⟨some 44, _, _, _, _, _⟩) (v := (.pointer (some ⟨g, a, none⟩))) rfl (by kernel_rfl) (by kernel_rfl) (by kernel_rfl) (fun _ _ _ h => h) (Or.inl ⟨by rfl, ?_⟩) HTS.out.1 ?_
        · intro w' hS; go_simp; try with_reducible rfl
        simp only [Act.put, List.setIfInBounds_toArray, List.set_cons_zero, List.set_cons_succ]
        refine wpAnyV_takeS (i := 10) (oi := ⟨some 45, _, _, _, _, _⟩) (v := (.int .i64 ya)) rfl (by kernel_rfl) (by kernel_rfl) (by kernel_rfl) (by kernel_rfl) (fun _ _ _ h => h) (Or.inl ⟨by rfl, ?_⟩) HTS.out ?_
        · intro w' hS; have z0 : w'.cell? ⟨g, a, none⟩ = some (.int .i64 ya) := (World.cell?_of_block (w := W) (w' := w') hS.2).trans (CA.out); go_simp; try with_reducible rfl
        simp only [Act.put, List.setIfInBounds_toArray, List.set_cons_zero, List.set_cons_succ]
        refine wpAnyV_take (i := 11) (oi := ⟨some 46, _, _, _, _, _⟩) (v := (.slice (some ⟨g, 0, none⟩) n c1)) rfl (by kernel_rfl) (by kernel_rfl) (by kernel_rfl) (fun _ _ _ h => h) (Or.inl ⟨by rfl, ?_⟩) HTS.out.1 ?_
        · intro w' hS; have z0 : w'.cell? ⟨P1, 0, none⟩ = some (.slice (some ⟨g, 0, none⟩) n c1) := (World.cell?_of_block (w := W) (w' := w') (hS _ (by have := HDf.out; show P1 ≠ g; omega))).trans (BPW.out.cell 0); go_simp; try with_reducible rfl
        simp only [Act.put, List.setIfInBounds_toArray, List.set_cons_zero, List.set_cons_succ]
        refine wpAnyV_take (i := 12) (oi := ⟨some 47, _, _, _, _, _⟩) (v := (.pointer (some ⟨Bx, 1, none⟩))) rfl (by kernel_rfl) (by kernel_rfl) (by kernel_rfl) (fun _ _ _ h => h) (Or.inl ⟨by rfl, ?_⟩) HTS.out.1 ?_
        · intro w' hS; go_simp; try with_reducible rfl
        simp only [Act.put, List.setIfInBounds_toArray, List.set_cons_zero, List.set_cons_succ]
        refine wpAnyV_take (i := 13) (oi := ⟨some 48, _, _, _, _, _⟩) (v := (.int .i64 (b : Int))) rfl (by kernel_rfl) (by kernel_rfl) (by kernel_rfl) (fun _ _ _ h => h) (Or.inl ⟨by rfl, ?_⟩) HTS.out.1 ?_
        · intro w' hS; have z0 : w'.cell? ⟨Bx, 1, none⟩ = some (.int .i64 (b : Int)) := (World.cell?_of_block (w := W) (w' := w') (hS _ (by have := HDf.out; show Bx ≠ g; omega))).trans (BXW.out.cell 1); go_simp; try with_reducible rfl
        simp only [Act.put, List.setIfInBounds_toArray, List.set_cons_zero, List.set_cons_succ]
        refine wpAnyV_take (i := 14) (oi := ⟨some 49, _, _, _, _, _⟩) (v := (.pointer (some ⟨g, b, none⟩))) rfl (by kernel_rfl) (by kernel_rfl) (by kernel_rfl) (fun _ _ _ h => h) (Or.inl ⟨by rfl, ?_⟩) HTS.out.1 ?_
        · intro w' hS; go_simp; try with_reducible rfl
        simp only [Act.put, List.setIfInBounds_toArray, List.set_cons_zero, List.set_cons_succ]
        refine wpAnyV_takeS (i := 15) (oi := ⟨some 50, _, _, _, _, _⟩) (v := (.int .i64 yb)) rfl (by kernel_rfl) (by kernel_rfl) (by kernel_rfl) (by kernel_rfl) (fun _ _ _ h => h) (Or.inl ⟨by rfl, ?_⟩) HTS.out ?_
        · intro w' hS; have z0 : w'.cell? ⟨g, b, none⟩ = some (.int .i64 yb) := (World.cell?_of_block (w := W) (w' := w') hS.2).trans (CB.out); go_simp; try with_reducible rfl
        simp only [Act.put, List.setIfInBounds_toArray, List.set_cons_zero, List.set_cons_succ]
        refine wpAnyV_take (i := 16) (oi := ⟨some 51, _, _, _, _, _⟩) (v := (.pointer (some ⟨g, b, none⟩))) rfl (by kernel_rfl) (by kernel_rfl) (by kernel_rfl) (fun _ _ _ h => h) (Or.inl ⟨by rfl, ?_⟩) HTS.out.1 ?_
        · intro w' hS; go_simp; try with_reducible rfl
        simp only [Act.put, List.setIfInBounds_toArray, List.set_cons_zero, List.set_cons_succ]
        refine wpAnyV_one (i := 17) (o := ⟨none, _, _, _, _, _⟩) rfl (by kernel_rfl) (by rfl) (fun K hK => ?_)
        have BGD : Hid (Blk DD g 3 (L.map (Value.int .i64) ++ rest)) := Lib.hid (by unfold Blk; rw [hWDD]; exact BGW.out)
        have f1 : DD.frozen? ⟨g, b, none⟩ = false := BGD.out.frozen b
        have g1 : DD.cell? ⟨g, b, none⟩ = some (.int .i64 yb) := (World.cell?_of_block (w := W) (w' := DD) (by rw [hWDD])).trans CB.out
        go_simp
        refine hK.out _ _ (fun k hk => (Below.heap_setCell DD ⟨g, b, none⟩ _ k hk).trans (by rw [hWDD])) (fun hn => absurd (by decide) hn) ?_
        clear hK K f1 g1
        have BG1 : Hid (Blk (DD.setCell ⟨g, b, none⟩ (.int .i64 ya)) g 3 ((L.map (Value.int .i64) ++ rest).set b (.int .i64 ya))) := Lib.hid (Blk.set BGD.out b _)
        have HT1 : Hid (∀ k, k ≠ g → (DD.setCell ⟨g, b, none⟩ (.int .i64 ya)).heap[k]? = W.heap[k]?) := Lib.hid (fun k hk => (Below.heap_setCell DD ⟨g, b, none⟩ _ k hk).trans (by rw [hWDD]))
        have HB1 : Hid (Below w.heap.size w (DD.setCell ⟨g, b, none⟩ (.int .i64 ya)) ∧ KeepsOthers W (DD.setCell ⟨g, b, none⟩ (.int .i64 ya))) := Lib.hid ⟨HDS.out.1.setCell (p := ⟨g, b, none⟩) HGE.out _, HDS.out.2.trans (KeepsOthers.setCell _ _ _)⟩
        generalize hD1 : DD.setCell ⟨g, b, none⟩ (.int .i64 ya) = D1 at BG1 HT1 HB1 BG2 ⊢
        have HD1 := Lib.hid hD1
        clear hD1
        refine wpAnyV_take (i := 18) (oi := ⟨some 52, _, _, _, _, _⟩) (v := (.pointer (some ⟨g, a, none⟩))) rfl (by kernel_rfl) (by kernel_rfl) (by kernel_rfl) (fun _ _ _ h => h) (Or.inl ⟨by rfl, ?_⟩) HT1.out ?_
        · intro w' hS; go_simp; try with_reducible rfl
        simp only [Act.put, List.setIfInBounds_toArray, List.set_cons_zero, List.set_cons_succ]
        refine wpAnyV_one (i := 19) (o := ⟨none, _, _, _, _, _⟩) rfl (by kernel_rfl) (by rfl) (fun K hK => ?_)
        have f1 : D1.frozen? ⟨g, a, none⟩ = false := BG1.out.frozen a
        have g1 : D1.cell? ⟨g, a, none⟩ = some (.int .i64 ya) := (BG1.out.cell a).trans (by rw [List.getElem?_set_ne (Ne.symm HNE.out), List.getElem?_append_left (by simp; have := HLL.out; omega), List.getElem?_map, HYA.out, List.getD_eq_getElem?_getD, List.getElem?_eq_getElem (by have := HLL.out; omega)]; rfl)
        go_simp
        refine hK.out _ _ (fun k hk => (Below.heap_setCell D1 ⟨g, a, none⟩ _ k hk).trans (HT1.out k hk)) (fun hn => absurd (by decide) hn) ?_
        clear hK K f1 g1
        refine wpAnyV_done (by kernel_rfl) ?_ _
        simp only [onN]
        have HTF : ∀ k, k ≠ g → (D1.setCell ⟨g, a, none⟩ (.int .i64 yb)).heap[k]? = W.heap[k]? := fun k hk => (Below.heap_setCell D1 ⟨g, a, none⟩ _ k hk).trans (HT1.out k hk)
        have HTFh := Lib.hid HTF
        clear HTF
        try gi_wp2
        exact ⟨(HB1.out.2.trans (KeepsOthers.setCell _ _ _)).from _, HTFh.out _ (Ne.symm HDf.out.2.2.2.2), by rw [HPX.out, HST2.out]; exact BG2.out, (HTFh.out _ (Ne.symm HDf.out.1)).trans BPW.out, (HTFh.out _ (Ne.symm HDf.out.2.2.2.1)).trans BBW.out, (HTFh.out _ (Ne.symm HDf.out.2.2.2.2)).trans BNW.out, HB1.out.1.setCell (p := ⟨g, a, none⟩) HGE.out _⟩
    case done =>
      rintro D xs' W hD hxs ⟨bG, bP, bB, bN, hB⟩ hK
      have HXS : Hid (sortG 0 lt xs (vals xs') = sortF 0 lt xs) := Lib.hid (by unfold sortF; rw [show vals xs' = gatesF (n : Int) from hxs, HNn.out])
      have BGW : Hid (Blk W g 3 ((sortF 0 lt xs).map (Value.int .i64) ++ rest)) := Lib.hid (by rw [← HXS.out]; exact bG)
      have cP : W.cell? ⟨P1, 0, none⟩ = some (.slice (some ⟨g, 0, none⟩) n c1) := bP.cell 0
      have HKD := Lib.hid hK
      have HBW := Lib.hid hB
      have HDD : Hid (g ≠ D ∧ w.heap.size ≤ D) := Lib.hid (by have := HGP.out; have := HSZ.out; omega)
      clear bG bP bB bN hB hK hxs hD
      gi_wp2
      refine leave23 W D _ rfl rfl HKD.out ?_
      have hb : Below w.heap.size w (W.putObj D (.deferred none)) := HBW.out.trans (belowK_b (w := w) (Nat.le_refl _) W D _ _ HDD.out.2 HKD.out rfl rfl)
      have bG : Blk (W.putObj D (.deferred none)) g 3 ((sortF 0 lt xs).map (Value.int .i64) ++ rest) := (World.putObj_heap_other HDD.out.1).trans BGW.out
      have hl2 : (sortF 0 lt xs).length = n := by unfold sortF; rw [sortG_len]; exact HNn.out
      have ho := Own.mk HGE.out bG (by rw [hl2, ← HNn.out]; exact HCL.out.1) HCL.out.2
      rw [hl2] at ho
      exact ⟨_, rfl, ho, hb⟩
    case stop =>
      rintro D cd pre W hD hsp hf
      exact hf.elim
end Go.Proofs.Ytpglocgfdonmaaa

/-
  Walk: Sort of things.
-/
import Derived.Test.YtpglocgfdonmaaaTh
import Derived.Test.YtpglocgfdonmaaaSo
import Derived.Test.YtpglocgfdonmaaaBf
import Derived.Test.YtpglocgfdonmaaaBj
import Derived.Test.YtpglocgfdonmaaaSt
set_option linter.unusedVariables false
set_option linter.unusedSimpArgs false
namespace Go.Proofs.Ytpglocgfdonmaaa
open Go.RowKit Go.Shelf
attribute [local go_sem] Oper.semAt_some

theorem keeps_below {W W' : World} (h : Below W.heap.size W W') : KeepsOthers W W' := ⟨h.size, fun k o hk ho => (h.block k (Array.getElem?_eq_some_iff.1 hk).1).trans hk⟩
/-- What is known of the blocks while the gates are gone. -/
structure Nsw (KS : Nat → ByteArray) (PV : Nat → Int) (w : World) (A1 : Option Addr) (n c1 P1 : Nat) (F : Value) (P : List Nat) (W : World) : Prop where
  ow : OwnT KS PV W w.heap.size (.slice A1 n c1) P
  bp : Blk W P1 52 [.slice A1 n c1]
  bb : Blk W w.heap.size 57 [F]
  bn : Blk W (P1 + 1) 3 [.int .i64 (n : Int)]
  bel : Below w.heap.size w W
theorem Nsw.own {β : Type} {KS : Nat → ByteArray} {PV : Nat → Int} {w : World} {A1 : Option Addr} {n c1 P1 : Nat} {F : Value} (f : β → List Nat) {B : Nat} (hB : w.heap.size ≤ B) :
    OwnFrom B (fun s W => Nsw KS PV w A1 n c1 P1 F (f s) W) := fun s X Y row hs hg hr => by
  have hr' : ∀ r, row = some r → ∃ o : Obj, X.heap[r]? = some o ∧ o.isCells = false := fun r e => (hr r e).2
  exact ⟨OwnT.own w.heap.size _ f s X Y row hs.ow hg hr', blk_own P1 52 (fun (_ : Unit) => _) () X Y row hs.bp hg hr', blk_own w.heap.size 57 (fun (_ : Unit) => _) () X Y row hs.bb hg hr', blk_own (P1 + 1) 3 (fun (_ : Unit) => _) () X Y row hs.bn hg hr', ownFrom_below (β := Unit) (Nat.le_refl _) hB () X Y row hs.bel hg hr⟩
theorem Nsw.below {KS : Nat → ByteArray} {PV : Nat → Int} {w : World} {A1 : Option Addr} {n c1 P1 : Nat} {F : Value} {P : List Nat} {W W' : World} (h : Nsw KS PV w A1 n c1 P1 F P W) (hb : Below W.heap.size W W') : Nsw KS PV w A1 n c1 P1 F P W' :=
  ⟨h.ow.below hb, h.bp.below hb h.bp.lt, h.bb.below hb h.bb.lt, h.bn.below hb h.bn.lt, h.bel.trans (hb.mono h.bel.size)⟩
theorem leave27 {tmps : Array Value} {R : Ending → World → Prop} (W : World) (D : Nat) (v : Value) (h4 : tmps.getD 4 undef = v) (h5 : tmps.getD 5 undef = .int .i64 0) (hK : W.heap[D]? = some (.deferred (some [])))
    (hR : R (.returned (.tuple #[v, .int .i64 0])) (W.putObj D (.deferred none))) :
    LeavesInM Fence.wide 8 Try.prog Try.f27 tmps R [{ target := .collected D, args := #[] }] .returning W := by
  refine ⟨by simp, .inl ⟨_, _, rfl, run_takeDeferred hK, ?_⟩⟩
  refine ⟨.tuple #[v, .int .i64 0], ?_, hR⟩
  have h4' : tmps[4]?.getD undef = v := by simpa using h4
  have h5' : tmps[5]?.getD undef = .int .i64 0 := by simpa using h5
  simp [results, Try.results27, go_sem, h4', h5']
theorem sortT_no (F : Nat) (bs : Array Value) (A : Option Addr) (n c : Nat) (w : World) (hpos : 0 < n) (hs : sizeB (n : Int) = false) (hn : n ≤ 140737488355328) :
    Calls Try.prog 27 #[.slice A n c, .func (.func F) #[] bs] w fun e w' => e = .returned (.tuple #[.slice none 0 0, .int .i64 170]) ∧ Below w.heap.size w w' := by
  have h1 := fun W => size_any (n : Int) W
  rw [hs] at h1
  have HS := Lib.hid h1
  clear h1 hs
  go_enter Try.func27, Try.ntmps27
  go_wp2_with fail
  refine (HS.out _).mono ?_
  rintro e w' ⟨rfl, hw⟩
  obtain rfl := hw
  go_wp2_with fail
  go_ret2
  exact ⟨rfl, (Below.refl _ _).alloc (Nat.le_refl _) _⟩

set_option maxRecDepth 100000 in
set_option maxHeartbeats 8000000 in
theorem sortT_any (F : Nat) (bs : Array Value) (lt : Nat → Nat → Bool) (KS : Nat → ByteArray) (PV : Nat → Int) (A : Option Addr) (n c : Nat) (w : World) (hr : RdT KS PV w A (List.range n)) (hl : n ≤ 65536)
    (hF : ∀ args w, (callFunc F args).run Try.prog w = .ok (.enter F args) w) (hb : ∀ W, Below w.heap.size w W → ∀ p q : Nat, p < n → q < n → Calls Try.prog F (#[.agg #[.string (KS p), .int .i64 (PV p)], .agg #[.string (KS q), .int .i64 (PV q)]] ++ bs) W fun e W' => e = .returned (.bool (lt p q)) ∧ Below W.heap.size W W') (hok : sizeB (n : Int) = true ∨ n = 0) :
    Calls Try.prog 27 #[.slice A n c, .func (.func F) #[] bs] w fun e w' => ∃ v, e = .returned (.tuple #[v, .int .i64 0]) ∧ OwnT KS PV w' w.heap.size v (sortF 0 lt (List.range n)) ∧ Below w.heap.size w w' := by
  have HB := Lib.hid hb
  have HNR : Hid (n = (List.range n).length) := Lib.hid (by simp)
  have HNB : Hid ((List.range n).length * 24 ≤ 140737488355328) := Lib.hid (by simp; omega)
  have HSZ : Hid (0 < n → ∀ W, Calls Try.prog 40 #[.int .i64 (n : Int)] W fun e w' => e = .returned (.bool true) ∧ w' = W) := Lib.hid (fun h W => by
    have h1 := size_any (n : Int) W
    rcases hok with h2 | h2
    · rw [h2] at h1; exact h1
    · omega)
  have HR1 : Hid (RdT KS PV (w.alloc (.cells #[.func (.func F) #[] bs] 57)) A (List.range n)) := Lib.hid (hr.below ((Below.refl w.heap.size w).alloc (Nat.le_refl _) _))
  have HWS : Hid ((w.alloc (.cells #[.func (.func F) #[] bs] 57)).heap.size = w.heap.size + 1) := Lib.hid (by simp)
  have HBW : Hid (Below w.heap.size w (w.alloc (.cells #[.func (.func F) #[] bs] 57))) := Lib.hid ((Below.refl w.heap.size w).alloc (Nat.le_refl _) _)
  have HBB : Hid (Blk (w.alloc (.cells #[.func (.func F) #[] bs] 57)) w.heap.size 57 [.func (.func F) #[] bs]) := Lib.hid (Blk.new w 57 [.func (.func F) #[] bs])
  clear hr hb hok
  refine (callsIn_wide (n := 8)).1 ?_
  refine callsIn_of_wp_marks Try.func27 rfl trivial ?_ rfl
  simp only [Try.ntmps27, List.size_toArray, List.length_cons, List.length_nil, Nat.reduceAdd, Nat.reduceSub, Array.replicate_succ, Array.replicate_zero, List.push_toArray, List.append_toArray, List.nil_append, List.cons_append]
  by_cases h0 : n = 0
  · have dp : ¬ 0 < n := by omega
    have H0 := Lib.hid h0
    clear h0 HSZ
    gi_wp2_with (first
      | (refine ⟨trivial, ?_⟩; gi_at_call 16; refine (callsIn_wide.2 (gatesmk _ _)).mono ?_; rintro e w' ⟨rfl, rfl⟩)
      | (show wpListIn _ _ _ _ _ ({ dst := some 18, op := _, type := _, pos := _, after := _, guard := _ } :: _) _ _; refine wpListIn_copyT _ rfl _ _ rfl rfl A _ c (List.range n) rfl HNR.out HR1.out HNB.out ?_; intro v' w1 ho hf; have O1 := Lib.hid ho; obtain ⟨A1, c1, rfl, -⟩ := ho.slice; have F1 := Lib.hid hf; clear ho hf)
      | (refine ⟨trivial, ?_⟩))
    rw [List.length_range] at O1
    have HB01 : Hid (Below w.heap.size w w1) := Lib.hid (HBW.out.trans (F1.out.mono HBW.out.size))
    have BB1 : Hid (Blk w1 w.heap.size 57 [.func (.func F) #[] bs]) := Lib.hid (HBB.out.below F1.out HBB.out.lt)
    have HOW : Hid (∀ g, (Value.slice A1 n c1).ownBlock = some g → w.heap.size < g ∧ g < w1.heap.size) := Lib.hid (fun g hg => by have := O1.out.base_le hg; have := HWS.out; omega)
    have HWL : Hid (w.heap.size < w1.heap.size) := Lib.hid BB1.out.lt
    generalize hWM : ((w1.alloc (.cells #[.slice A1 n c1] 52)).alloc (.cells #[.int .i64 (n : Int)] 3)) = wM
    have HNT0 : Hid (Nsw KS PV w A1 n c1 w1.heap.size (.func (.func F) #[] bs) (List.range n) wM) := Lib.hid (by
      rw [← hWM]
      exact ⟨((O1.out.lower (by have := HWS.out; omega)).alloc _).alloc _, (Blk.new w1 52 [.slice A1 n c1]).alloc _, (BB1.out.alloc _).alloc _, Blk.new_at (w1.alloc (.cells #[.slice A1 n c1] 52)) 3 [.int .i64 (n : Int)] (by simp), (HB01.out.alloc (by have := HWL.out; omega) _).alloc (by have := HWL.out; simp; omega) _⟩)
    have HSM : Hid (wM.heap.size = w1.heap.size + 2) := Lib.hid (by rw [← hWM]; simp)
    clear hWM O1 F1 BB1 HB01 HR1 HNR HNB HBW HBB HWS
    generalize w1.heap.size = P1 at *
    have habs : ∀ x : GE (n : Int), False := fun x => by
      obtain ⟨a, b, n', h1, -, h3, -⟩ := gates_mem x.2
      have := H0.out
      omega
    refine wpIn_rangeFunc_ownH rfl (by omega) (gf := 42) (lb := #[.pointer (some ⟨P1 + 1, 0, none⟩)]) rfl trivial (enters_of Try.func42 (by kernel_rfl) rfl)
      (gates_stopsB (8 - 1) (by omega) (P1 + 1) (n : Int) wM (by have := HSM.out; omega) (HNT0.out.bn.cell 0)) keepB_t (keepB_b (by have := HSM.out; omega)) (Below.refl _ _) (fun _ => rfl)
      (fun pre W => Nsw KS PV w A1 n c1 P1 (.func (.func F) #[] bs) (sortG 0 lt (List.range n) (vals pre)) W)
      (fun cd pre W => False)
      (Nsw.own (fun pre => sortG 0 lt (List.range n) (vals pre)) HNT0.out.bel.size)
      (fun _ => ownFrom_pure _ _)
      HNT0.out
      (fun x a' W => False)
      (fun x a' => ownFrom_pure _ _)
      (fun l pre x => (habs x).elim) (fun l pre x => (habs x).elim) ?done ?stop
    case done =>
      rintro D xs' W hD hxs hN hK
      have HPE : Hid (sortG 0 lt (List.range n) (vals xs') = sortF 0 lt (List.range n)) := Lib.hid (by unfold sortF; rw [List.length_range, show vals xs' = gatesF (n : Int) from hxs])
      rw [HPE.out] at hN
      have cP : W.cell? ⟨P1, 0, none⟩ = some (.slice A1 n c1) := hN.bp.cell 0
      have HKD := Lib.hid hK
      have HNN := Lib.hid hN
      have HDD : Hid (P1 + 1 < D) := Lib.hid (by have := HSM.out; omega)
      clear hN hK hxs hD
      gi_wp2
      refine leave27 W D _ rfl rfl HKD.out ?_
      have hb : Below w.heap.size w (W.putObj D (.deferred none)) := HNN.out.bel.trans (belowK_b (w := wM) (n₀ := w.heap.size) HNT0.out.bel.size W D _ _ (by have := HSM.out; have := HDD.out; omega) HKD.out rfl rfl)
      exact ⟨_, rfl, HNN.out.ow.fr ((Fr.refl (fun b => b = D) W).grown (grownBy_putObj' W D (.deferred none)) (fun k e => by cases e; exact .inl rfl)) (fun g hg e => by have := (HOW.out g hg).2; have := HDD.out; omega), hb⟩
    case stop =>
      rintro D cd pre W hD hsp hf
      exact hf.elim
  · have dp : 0 < n := by omega
    have HS := Lib.hid (HSZ.out (by omega))
    clear HSZ
    gi_wp2_with (first
      | (refine ⟨trivial, ?_⟩; gi_at_call 40; refine (callsIn_wide.2 (HS.out _)).mono ?_; rintro e w' ⟨rfl, rfl⟩)
      | (refine ⟨trivial, ?_⟩; gi_at_call 16; refine (callsIn_wide.2 (gatesmk _ _)).mono ?_; rintro e w' ⟨rfl, rfl⟩)
      | (show wpListIn _ _ _ _ _ ({ dst := some 18, op := _, type := _, pos := _, after := _, guard := _ } :: _) _ _; refine wpListIn_copyT _ rfl _ _ rfl rfl A _ c (List.range n) rfl HNR.out HR1.out HNB.out ?_; intro v' w1 ho hf; have O1 := Lib.hid ho; obtain ⟨A1, c1, rfl, -⟩ := ho.slice; have F1 := Lib.hid hf; clear ho hf)
      | (refine ⟨trivial, ?_⟩))
    rw [List.length_range] at O1
    have HB01 : Hid (Below w.heap.size w w1) := Lib.hid (HBW.out.trans (F1.out.mono HBW.out.size))
    have BB1 : Hid (Blk w1 w.heap.size 57 [.func (.func F) #[] bs]) := Lib.hid (HBB.out.below F1.out HBB.out.lt)
    have HOW : Hid (∀ g, (Value.slice A1 n c1).ownBlock = some g → w.heap.size < g ∧ g < w1.heap.size) := Lib.hid (fun g hg => by have := O1.out.base_le hg; have := HWS.out; omega)
    have HWL : Hid (w.heap.size < w1.heap.size) := Lib.hid BB1.out.lt
    generalize hWM : ((w1.alloc (.cells #[.slice A1 n c1] 52)).alloc (.cells #[.int .i64 (n : Int)] 3)) = wM
    have HNT0 : Hid (Nsw KS PV w A1 n c1 w1.heap.size (.func (.func F) #[] bs) (List.range n) wM) := Lib.hid (by
      rw [← hWM]
      exact ⟨((O1.out.lower (by have := HWS.out; omega)).alloc _).alloc _, (Blk.new w1 52 [.slice A1 n c1]).alloc _, (BB1.out.alloc _).alloc _, Blk.new_at (w1.alloc (.cells #[.slice A1 n c1] 52)) 3 [.int .i64 (n : Int)] (by simp), (HB01.out.alloc (by have := HWL.out; omega) _).alloc (by have := HWL.out; simp; omega) _⟩)
    have HSM : Hid (wM.heap.size = w1.heap.size + 2) := Lib.hid (by rw [← hWM]; simp)
    clear hWM O1 F1 BB1 HB01 HR1 HNR HNB HBW HBB HWS
    generalize w1.heap.size = P1 at *
    refine wpIn_rangeFunc_ownH rfl (by omega) (gf := 42) (lb := #[.pointer (some ⟨P1 + 1, 0, none⟩)]) rfl trivial (enters_of Try.func42 (by kernel_rfl) rfl)
      (gates_stopsB (8 - 1) (by omega) (P1 + 1) (n : Int) wM (by have := HSM.out; omega) (HNT0.out.bn.cell 0)) keepB_t (keepB_b (by have := HSM.out; omega)) (Below.refl _ _) (fun _ => rfl)
      (fun pre W => Nsw KS PV w A1 n c1 P1 (.func (.func F) #[] bs) (sortG 0 lt (List.range n) (vals pre)) W)
      (fun cd pre W => False)
      (Nsw.own (fun pre => sortG 0 lt (List.range n) (vals pre)) HNT0.out.bel.size)
      (fun _ => ownFrom_pure _ _)
      HNT0.out
      (fun x a' W => ∃ Bx, P1 + 1 < Bx ∧ Blk W Bx 38 [.int .i64 x.1.1, .int .i64 x.1.2] ∧ a' = { tmps := #[.slice A n c, .func (.func F) #[] bs, undef, .pointer (some ⟨w.heap.size, 0, none⟩), .slice none 0 0, .int .i64 0, .pointer (some ⟨P1, 0, none⟩), .pointer (some ⟨Bx, 0, none⟩), .slice A n c, .int .i64 (n : Int), .bool true, .bool true, .slice A n c, .int .i64 (n : Int), .bool true, .bool false, .bool false, .slice A n c, .slice A1 n c1, .slice A n c, .int .i64 (n : Int), (.func (.func 42) #[] #[.pointer (some ⟨P1 + 1, 0, none⟩)]), .agg #[.int .i64 x.1.1, .int .i64 x.1.2], undef, undef, undef, undef, undef, undef, undef, undef, undef, undef, undef, undef, undef, undef, undef, undef, undef, undef, undef, undef, undef, undef, undef, undef, undef, undef, undef, undef, undef, undef, undef], defers := [] })
      (fun x a' _ X Y row hs hg hr => by obtain ⟨Bx, h1, h2, h3⟩ := hs; exact ⟨Bx, h1, blk_own Bx 38 (fun (_ : Unit) => [Value.int .i64 x.1.1, Value.int .i64 x.1.2]) () X Y row h2 hg (fun r e => (hr r e).2), h3⟩)
      ?assign ?body ?done ?stop
    case assign =>
      rintro l pre x W K hN hK
      have KK := Lib.hid hK
      have HNN := Lib.hid hN
      have HLT : Hid (P1 + 1 < W.heap.size) := Lib.hid (Blk.lt hN.bn)
      clear hK hN
      unfold encG encH
      gi_wp2
      exact KK.out _ _ ((KeepsOthers.alloc _ _).from _) (Below.heap_alloc _ _ _ HLT.out) (HNN.out.below ((Below.refl _ _).alloc (Nat.le_refl _) _)) ⟨W.heap.size, HLT.out, Blk.new W 38 [.int .i64 x.1.1, .int .i64 x.1.2], rfl⟩
    case body =>
      rintro l pre x a' W hl - hN ⟨Bx, hBx, bX, rfl⟩ -
      obtain ⟨⟨x1, x2⟩, hx⟩ := x
      obtain ⟨a, b, n', hn', hx12, ha, hb, hab⟩ := gates_mem hx
      injection hx12 with hx1 hx2
      subst hx1 hx2
      obtain rfl : n = n' := by omega
      dsimp only at bX ⊢
      have HPL : Hid (Pl n (sortG 0 lt (List.range n) (vals pre))) := Lib.hid (sort_inj lt _ n _ (fun y hy => by
        obtain ⟨z, -, rfl⟩ := List.mem_map.1 hy
        obtain ⟨a, b, n', h1, h2, h3, h4, -⟩ := gates_mem z.2
        rw [h2]
        simp
        omega) (Pl.range n) (Inj.range n)).1
      have HSTP : Hid (∀ y, stepS 0 lt (sortG 0 lt (List.range n) (vals pre)) ((a : Int), (b : Int)) = y → sortG 0 lt (List.range n) (vals (pre ++ [⟨((a : Int), (b : Int)), hx⟩])) = y) := Lib.hid (fun y hy => by rw [← hy, vals_snoc, sortG_snoc])
      generalize sortG 0 lt (List.range n) (vals pre) = P at *
      have HNN := Lib.hid hN
      have BXW := Lib.hid bX
      obtain ⟨g, rest, hA1, hgB, bG1, hcl⟩ : ∃ g rest, A1 = some ⟨g, 0, none⟩ ∧ w.heap.size ≤ g ∧ Blk W g 54 (thF KS PV P ++ rest) ∧ (P.length * 2 + rest.length = c1 * 2 ∧ c1 ≤ maxLen) := by
        rcases hN.ow.form with ⟨h1, h2⟩ | ⟨g, c', rest, h1, h2, h3, h4, h5⟩
        · exfalso
          have h3 := congrArg List.length h2
          rw [HPL.out.1, List.length_nil] at h3
          omega
        · injection h1 with e1 e2 e3
          exact ⟨g, rest, e1, h2, h3, by omega, by omega⟩
      subst hA1
      obtain ⟨p, hp⟩ : ∃ p, p = P.getD a 0 := ⟨_, rfl⟩
      obtain ⟨q, hq⟩ : ∃ q, q = P.getD b 0 := ⟨_, rfl⟩
      have HPA : Hid (P[a]? = some p) := Lib.hid (by rw [hp, List.getD_eq_getElem?_getD, List.getElem?_eq_getElem (by rw [HPL.out.1]; exact ha)]; rfl)
      have HPB : Hid (P[b]? = some q) := Lib.hid (by rw [hq, List.getD_eq_getElem?_getD, List.getElem?_eq_getElem (by rw [HPL.out.1]; exact hb)]; rfl)
      have hpn : p < n := by rw [hp]; exact HPL.out.2 a ha
      have hqn : q < n := by rw [hq]; exact HPL.out.2 b hb
      have HGo : Hid (stepS 0 lt P ((a : Int), (b : Int)) = if lt q p = true then swapL 0 P a b else P) := Lib.hid (by
        unfold stepS
        rw [Int.toNat_natCast, Int.toNat_natCast, ← hp, ← hq])
      have HSW2 : Hid (swapL 0 P a b = (P.set b p).set a q) := Lib.hid (by unfold swapL; rw [← hp, ← hq])
      have HCC0 : Hid (∀ W', Below w.heap.size w W' → Calls Try.prog F (#[.agg #[.string (KS q), .int .i64 (PV q)], .agg #[.string (KS p), .int .i64 (PV p)]] ++ bs) W' fun e W'' => e = .returned (.bool (lt q p)) ∧ Below W'.heap.size W' W'') := Lib.hid (fun W' hW' => HB.out W' hW' q p hqn hpn)
      have hkA := blkT_cell bG1 a p HPA.out
      have hkB := blkT_cell bG1 b q HPB.out
      obtain ⟨ka, hka⟩ : ∃ y, y = KS p := ⟨_, rfl⟩
      obtain ⟨kb, hkb⟩ : ∃ y, y = KS q := ⟨_, rfl⟩
      obtain ⟨ya, hya⟩ : ∃ y, y = PV p := ⟨_, rfl⟩
      obtain ⟨yb, hyb⟩ : ∃ y, y = PV q := ⟨_, rfl⟩
      rw [← hka, ← hya] at hkA
      rw [← hkb, ← hyb] at hkB
      rw [← hka, ← hya, ← hkb, ← hyb] at HCC0
      have CAo := Lib.hid hkA
      have CBo := Lib.hid hkB
      have HKA := Lib.hid hka
      have HKB := Lib.hid hkb
      have HYA := Lib.hid hya
      have HYB := Lib.hid hyb
      have HCL := Lib.hid hcl
      have HGE := Lib.hid hgB
      have BGo : Hid (Blk W g 54 (thF KS PV P ++ rest)) := Lib.hid bG1
      have HAB : Hid (a < n ∧ b < n ∧ a ≠ b) := Lib.hid ⟨ha, hb, hab⟩
      have HPa : Hid (a < P.length ∧ b < P.length) := Lib.hid (by rw [HPL.out.1]; exact ⟨ha, hb⟩)
      have HGP := Lib.hid (HOW.out g rfl)
      have HDfo : Hid (P1 ≠ g ∧ Bx ≠ g ∧ w.heap.size ≠ g ∧ P1 + 1 ≠ g) := Lib.hid (by have := HGP.out; have := HWL.out; omega)
      have HBXL : Hid (Bx < W.heap.size) := Lib.hid bX.lt
      have ha' : (a : Int) < (n : Int) := by omega
      have hb' : (b : Int) < (n : Int) := by omega
      clear hN bX hl hp hq hab hkA hkB hka hkb hya hyb hcl hgB bG1 hpn hqn
      gi_wp2
      refine region_round (S := fun w' => ∀ k, k < W.heap.size → w'.heap[k]? = W.heap[k]?) (by kernel_rfl) (by kernel_rfl) (fun _ _ => rfl) (fun hHeld => ?_)
      refine wpAnyH_take (i := 0) (oi := ⟨some 23, _, _, _, _, _⟩) (v := (.func (.func F) #[] bs)) rfl (by kernel_rfl) (by kernel_rfl) (by kernel_rfl) (fun _ _ _ h => h) (Or.inl ⟨by rfl, ?_⟩) (by assumption) ?_
      · intro w' hS; have z0 : w'.cell? ⟨w.heap.size, 0, none⟩ = some (.func (.func F) #[] bs) := (World.cell?_of_block (w := W) (w' := w') (hS _ HNN.out.bb.lt)).trans (HNN.out.bb.cell 0); go_simp; try with_reducible rfl
      simp only [Act.put, List.setIfInBounds_toArray, List.set_cons_zero, List.set_cons_succ]
      refine wpAnyH_take (i := 1) (oi := ⟨some 24, _, _, _, _, _⟩) (v := (.slice (some ⟨g, 0, none⟩) n c1)) rfl (by kernel_rfl) (by kernel_rfl) (by kernel_rfl) (fun _ _ _ h => h) (Or.inl ⟨by rfl, ?_⟩) (by assumption) ?_
      · intro w' hS; have z0 : w'.cell? ⟨P1, 0, none⟩ = some (.slice (some ⟨g, 0, none⟩) n c1) := (World.cell?_of_block (w := W) (w' := w') (hS _ HNN.out.bp.lt)).trans (HNN.out.bp.cell 0); go_simp; try with_reducible rfl
      simp only [Act.put, List.setIfInBounds_toArray, List.set_cons_zero, List.set_cons_succ]
      refine wpAnyH_take (i := 2) (oi := ⟨some 25, _, _, _, _, _⟩) (v := (.pointer (some ⟨Bx, 1, none⟩))) rfl (by kernel_rfl) (by kernel_rfl) (by kernel_rfl) (fun _ _ _ h => h) (Or.inl ⟨by rfl, ?_⟩) (by assumption) ?_
      · intro w' hS; go_simp; try with_reducible rfl
      simp only [Act.put, List.setIfInBounds_toArray, List.set_cons_zero, List.set_cons_succ]
      refine wpAnyH_take (i := 3) (oi := ⟨some 26, _, _, _, _, _⟩) (v := (.int .i64 (b : Int))) rfl (by kernel_rfl) (by kernel_rfl) (by kernel_rfl) (fun _ _ _ h => h) (Or.inl ⟨by rfl, ?_⟩) (by assumption) ?_
      · intro w' hS; have z0 : w'.cell? ⟨Bx, 1, none⟩ = some (.int .i64 (b : Int)) := (World.cell?_of_block (w := W) (w' := w') (hS _ HBXL.out)).trans (BXW.out.cell 1); go_simp; try with_reducible rfl
      simp only [Act.put, List.setIfInBounds_toArray, List.set_cons_zero, List.set_cons_succ]
      refine wpAnyH_take (i := 4) (oi := ⟨some 27, _, _, _, _, _⟩) (v := (.pointer (some ⟨g, b * 2, none⟩))) rfl (by kernel_rfl) (by kernel_rfl) (by kernel_rfl) (fun _ _ _ h => h) (Or.inl ⟨by rfl, ?_⟩) (by assumption) ?_
      · intro w' hS; go_simp; try with_reducible rfl
      simp only [Act.put, List.setIfInBounds_toArray, List.set_cons_zero, List.set_cons_succ]
      refine wpAnyH_take (i := 5) (oi := ⟨some 28, _, _, _, _, _⟩) (v := (.agg #[.string kb, .int .i64 yb])) rfl (by kernel_rfl) (by kernel_rfl) (by kernel_rfl) (fun _ _ _ h => h) (Or.inl ⟨by rfl, ?_⟩) (by assumption) ?_
      · intro w' hS; have z0 : w'.cell? ⟨g, b * 2, none⟩ = some (.string kb) := (World.cell?_of_block (w := W) (w' := w') (hS _ BGo.out.lt)).trans (CBo.out.1); have z1 : w'.cell? ⟨g, b * 2 + 1, none⟩ = some (.int .i64 yb) := (World.cell?_of_block (w := W) (w' := w') (hS _ BGo.out.lt)).trans (CBo.out.2); go_simp; try with_reducible rfl
      simp only [Act.put, List.setIfInBounds_toArray, List.set_cons_zero, List.set_cons_succ]
      refine wpAnyH_take (i := 6) (oi := ⟨some 29, _, _, _, _, _⟩) (v := (.slice (some ⟨g, 0, none⟩) n c1)) rfl (by kernel_rfl) (by kernel_rfl) (by kernel_rfl) (fun _ _ _ h => h) (Or.inl ⟨by rfl, ?_⟩) (by assumption) ?_
      · intro w' hS; have z0 : w'.cell? ⟨P1, 0, none⟩ = some (.slice (some ⟨g, 0, none⟩) n c1) := (World.cell?_of_block (w := W) (w' := w') (hS _ HNN.out.bp.lt)).trans (HNN.out.bp.cell 0); go_simp; try with_reducible rfl
      simp only [Act.put, List.setIfInBounds_toArray, List.set_cons_zero, List.set_cons_succ]
      refine wpAnyH_take (i := 7) (oi := ⟨some 30, _, _, _, _, _⟩) (v := (.pointer (some ⟨Bx, 0, none⟩))) rfl (by kernel_rfl) (by kernel_rfl) (by kernel_rfl) (fun _ _ _ h => h) (Or.inl ⟨by rfl, ?_⟩) (by assumption) ?_
      · intro w' hS; go_simp; try with_reducible rfl
      simp only [Act.put, List.setIfInBounds_toArray, List.set_cons_zero, List.set_cons_succ]
      refine wpAnyH_take (i := 8) (oi := ⟨some 31, _, _, _, _, _⟩) (v := (.int .i64 (a : Int))) rfl (by kernel_rfl) (by kernel_rfl) (by kernel_rfl) (fun _ _ _ h => h) (Or.inl ⟨by rfl, ?_⟩) (by assumption) ?_
      · intro w' hS; have z0 : w'.cell? ⟨Bx, 0, none⟩ = some (.int .i64 (a : Int)) := (World.cell?_of_block (w := W) (w' := w') (hS _ HBXL.out)).trans (BXW.out.cell 0); go_simp; try with_reducible rfl
      simp only [Act.put, List.setIfInBounds_toArray, List.set_cons_zero, List.set_cons_succ]
      refine wpAnyH_take (i := 9) (oi := ⟨some 32, _, _, _, _, _⟩) (v := (.pointer (some ⟨g, a * 2, none⟩))) rfl (by kernel_rfl) (by kernel_rfl) (by kernel_rfl) (fun _ _ _ h => h) (Or.inl ⟨by rfl, ?_⟩) (by assumption) ?_
      · intro w' hS; go_simp; try with_reducible rfl
      simp only [Act.put, List.setIfInBounds_toArray, List.set_cons_zero, List.set_cons_succ]
      refine wpAnyH_take (i := 10) (oi := ⟨some 33, _, _, _, _, _⟩) (v := (.agg #[.string ka, .int .i64 ya])) rfl (by kernel_rfl) (by kernel_rfl) (by kernel_rfl) (fun _ _ _ h => h) (Or.inl ⟨by rfl, ?_⟩) (by assumption) ?_
      · intro w' hS; have z0 : w'.cell? ⟨g, a * 2, none⟩ = some (.string ka) := (World.cell?_of_block (w := W) (w' := w') (hS _ BGo.out.lt)).trans (CAo.out.1); have z1 : w'.cell? ⟨g, a * 2 + 1, none⟩ = some (.int .i64 ya) := (World.cell?_of_block (w := W) (w' := w') (hS _ BGo.out.lt)).trans (CAo.out.2); go_simp; try with_reducible rfl
      simp only [Act.put, List.setIfInBounds_toArray, List.set_cons_zero, List.set_cons_succ]
      have HCC := Lib.hid (HCC0.out W.drew HNN.out.bel.drew)
      refine wpAnyH_ready (rs := [11]) (by kernel_rfl) (by simp) ?_
      refine AllReadyH.cons (o := ⟨some 34, _, _, _, _, _⟩) rfl (fun K hK => ?_) AllReadyH.nil
      rw [if_pos (by rfl)]
      go_simp
      refine HCC.out.mono ?_
      rintro e' w' ⟨rfl, hww⟩
      have HWW : Hid (Below W.heap.size W w') := Lib.hid ((Below.refl _ W).drew.trans hww)
      clear hww
      dsimp only
      (try simp only [Act.put, List.setIfInBounds_toArray, List.set_cons_zero, List.set_cons_succ])
      refine hK.out _ _ (fun k hk => HWW.out.block k hk) (fun hHeld => ?_)
      clear hK K
      refine wpAnyH_done (by kernel_rfl) ?_ _
      simp only [onN]
      have HND := Lib.hid (HNN.out.below HWW.out)
      have HKO : Hid (KeepsOthers W w' ∧ w'.heap[P1 + 1]? = W.heap[P1 + 1]?) := Lib.hid ⟨keeps_below HWW.out, HWW.out.block _ HNN.out.bn.lt⟩
      have BXD : Hid (Blk w' Bx 38 [.int .i64 (a : Int), .int .i64 (b : Int)]) := Lib.hid (BXW.out.below HWW.out HBXL.out)
      have BGD : Hid (Blk w' g 54 (thF KS PV P ++ rest)) := Lib.hid (BGo.out.below HWW.out BGo.out.lt)
      have CAd : Hid (w'.cell? ⟨g, a * 2, none⟩ = some (.string ka) ∧ w'.cell? ⟨g, a * 2 + 1, none⟩ = some (.int .i64 ya)) := Lib.hid (by rw [HKA.out, HYA.out]; exact blkT_cell BGD.out a p HPA.out)
      have CBd : Hid (w'.cell? ⟨g, b * 2, none⟩ = some (.string kb) ∧ w'.cell? ⟨g, b * 2 + 1, none⟩ = some (.int .i64 yb)) := Lib.hid (by rw [HKB.out, HYB.out]; exact blkT_cell BGD.out b q HPB.out)
      clear HCC HCC0 HWW HNN BXW BGo CAo CBo hHeld HBXL
      cases hlt : lt q p
      · have HPE : Hid (sortG 0 lt (List.range n) (vals (pre ++ [⟨((a : Int), (b : Int)), hx⟩])) = P) := Lib.hid (HSTP.out _ (by rw [HGo.out, hlt]; rfl))
        clear hlt HGo
        gi_wp2
        exact ⟨HKO.out.1.from _, HKO.out.2, by have h := HND.out; rw [← HPE.out] at h; exact h⟩
      · have HPE : Hid (sortG 0 lt (List.range n) (vals (pre ++ [⟨((a : Int), (b : Int)), hx⟩])) = swapL 0 P a b) := Lib.hid (HSTP.out _ (by rw [HGo.out, hlt]; rfl))
        clear hlt HGo
        gi_wp2
        refine region_round_late (fun w'' => (∀ k, k ≠ g → w''.heap[k]? = w'.heap[k]?)) (fun w'' => w''.heap[g]? = w'.heap[g]?) [17, 18, 19] (by kernel_rfl) (by kernel_rfl) ⟨fun _ _ => rfl, rfl⟩ (fun hHeld => ?_)
        have HTS := Lib.hid hHeld
        clear hHeld
        have hWDD : w'.drew.heap = w'.heap := rfl
        have HDS : Hid (Fr (fun k => k = g) w' w'.drew ∧ KeepsOthers w' w'.drew) := Lib.hid ⟨(Fr.refl (fun k => k = g) w').drew, KeepsOthers.drew _⟩
        generalize w'.drew = DD at hWDD HTS HDS ⊢
        refine wpAnyV_take (i := 0) (oi := ⟨some 35, _, _, _, _, _⟩) (v := (.slice (some ⟨g, 0, none⟩) n c1)) rfl (by kernel_rfl) (by kernel_rfl) (by kernel_rfl) (fun _ _ _ h => h) (Or.inl ⟨by rfl, ?_⟩) HTS.out.1 ?_
        · intro w'' hS; have z0 : w''.cell? ⟨P1, 0, none⟩ = some (.slice (some ⟨g, 0, none⟩) n c1) := (World.cell?_of_block (w := w') (w' := w'') (hS _ (by have := HDfo.out; show P1 ≠ g; omega))).trans (HND.out.bp.cell 0); go_simp; try with_reducible rfl
        simp only [Act.put, List.setIfInBounds_toArray, List.set_cons_zero, List.set_cons_succ]
        refine wpAnyV_take (i := 1) (oi := ⟨some 36, _, _, _, _, _⟩) (v := (.pointer (some ⟨Bx, 1, none⟩))) rfl (by kernel_rfl) (by kernel_rfl) (by kernel_rfl) (fun _ _ _ h => h) (Or.inl ⟨by rfl, ?_⟩) HTS.out.1 ?_
        · intro w'' hS; go_simp; try with_reducible rfl
        simp only [Act.put, List.setIfInBounds_toArray, List.set_cons_zero, List.set_cons_succ]
        refine wpAnyV_take (i := 2) (oi := ⟨some 37, _, _, _, _, _⟩) (v := (.int .i64 (b : Int))) rfl (by kernel_rfl) (by kernel_rfl) (by kernel_rfl) (fun _ _ _ h => h) (Or.inl ⟨by rfl, ?_⟩) HTS.out.1 ?_
        · intro w'' hS; have z0 : w''.cell? ⟨Bx, 1, none⟩ = some (.int .i64 (b : Int)) := (World.cell?_of_block (w := w') (w' := w'') (hS _ (by have := HDfo.out; show Bx ≠ g; omega))).trans (BXD.out.cell 1); go_simp; try with_reducible rfl
        simp only [Act.put, List.setIfInBounds_toArray, List.set_cons_zero, List.set_cons_succ]
        refine wpAnyV_take (i := 3) (oi := ⟨some 38, _, _, _, _, _⟩) (v := (.slice (some ⟨g, 0, none⟩) n c1)) rfl (by kernel_rfl) (by kernel_rfl) (by kernel_rfl) (fun _ _ _ h => h) (Or.inl ⟨by rfl, ?_⟩) HTS.out.1 ?_
        · intro w'' hS; have z0 : w''.cell? ⟨P1, 0, none⟩ = some (.slice (some ⟨g, 0, none⟩) n c1) := (World.cell?_of_block (w := w') (w' := w'') (hS _ (by have := HDfo.out; show P1 ≠ g; omega))).trans (HND.out.bp.cell 0); go_simp; try with_reducible rfl
        simp only [Act.put, List.setIfInBounds_toArray, List.set_cons_zero, List.set_cons_succ]
        refine wpAnyV_take (i := 4) (oi := ⟨some 39, _, _, _, _, _⟩) (v := (.pointer (some ⟨Bx, 0, none⟩))) rfl (by kernel_rfl) (by kernel_rfl) (by kernel_rfl) (fun _ _ _ h => h) (Or.inl ⟨by rfl, ?_⟩) HTS.out.1 ?_
        · intro w'' hS; go_simp; try with_reducible rfl
        simp only [Act.put, List.setIfInBounds_toArray, List.set_cons_zero, List.set_cons_succ]
        refine wpAnyV_take (i := 5) (oi := ⟨some 40, _, _, _, _, _⟩) (v := (.int .i64 (a : Int))) rfl (by kernel_rfl) (by kernel_rfl) (by kernel_rfl) (fun _ _ _ h => h) (Or.inl ⟨by rfl, ?_⟩) HTS.out.1 ?_
        · intro w'' hS; have z0 : w''.cell? ⟨Bx, 0, none⟩ = some (.int .i64 (a : Int)) := (World.cell?_of_block (w := w') (w' := w'') (hS _ (by have := HDfo.out; show Bx ≠ g; omega))).trans (BXD.out.cell 0); go_simp; try with_reducible rfl
        simp only [Act.put, List.setIfInBounds_toArray, List.set_cons_zero, List.set_cons_succ]
        refine wpAnyV_take (i := 6) (oi := ⟨some 41, _, _, _, _, _⟩) (v := (.slice (some ⟨g, 0, none⟩) n c1)) rfl (by kernel_rfl) (by kernel_rfl) (by kernel_rfl) (fun _ _ _ h => h) (Or.inl ⟨by rfl, ?_⟩) HTS.out.1 ?_
        · intro w'' hS; have z0 : w''.cell? ⟨P1, 0, none⟩ = some (.slice (some ⟨g, 0, none⟩) n c1) := (World.cell?_of_block (w := w') (w' := w'') (hS _ (by have := HDfo.out; show P1 ≠ g; omega))).trans (HND.out.bp.cell 0); go_simp; try with_reducible rfl
        simp only [Act.put, List.setIfInBounds_toArray, List.set_cons_zero, List.set_cons_succ]
        refine wpAnyV_take (i := 7) (oi := ⟨some 42, _, _, _, _, _⟩) (v := (.pointer (some ⟨Bx, 0, none⟩))) rfl (by kernel_rfl) (by kernel_rfl) (by kernel_rfl) (fun _ _ _ h => h) (Or.inl ⟨by rfl, ?_⟩) HTS.out.1 ?_
        · intro w'' hS; go_simp; try with_reducible rfl
        simp only [Act.put, List.setIfInBounds_toArray, List.set_cons_zero, List.set_cons_succ]
        refine wpAnyV_take (i := 8) (oi := ⟨some 43, _, _, _, _, _⟩) (v := (.int .i64 (a : Int))) rfl (by kernel_rfl) (by kernel_rfl) (by kernel_rfl) (fun _ _ _ h => h) (Or.inl ⟨by rfl, ?_⟩) HTS.out.1 ?_
        · intro w'' hS; have z0 : w''.cell? ⟨Bx, 0, none⟩ = some (.int .i64 (a : Int)) := (World.cell?_of_block (w := w') (w' := w'') (hS _ (by have := HDfo.out; show Bx ≠ g; omega))).trans (BXD.out.cell 0); go_simp; try with_reducible rfl
        simp only [Act.put, List.setIfInBounds_toArray, List.set_cons_zero, List.set_cons_succ]
        refine wpAnyV_take (i := 9) (oi := ⟨some 44, _, _, _, _, _⟩) (v := (.pointer (some ⟨g, a * 2, none⟩))) rfl (by kernel_rfl) (by kernel_rfl) (by kernel_rfl) (fun _ _ _ h => h) (Or.inl ⟨by rfl, ?_⟩) HTS.out.1 ?_
        · intro w'' hS; go_simp; try with_reducible rfl
        simp only [Act.put, List.setIfInBounds_toArray, List.set_cons_zero, List.set_cons_succ]
        refine wpAnyV_takeS (i := 10) (oi := ⟨some 45, _, _, _, _, _⟩) (v := (.agg #[.string ka, .int .i64 ya])) rfl (by kernel_rfl) (by kernel_rfl) (by kernel_rfl) (by kernel_rfl) (fun _ _ _ h => h) (Or.inl ⟨by rfl, ?_⟩) HTS.out ?_
        · intro w'' hS; have z0 : w''.cell? ⟨g, a * 2, none⟩ = some (.string ka) := (World.cell?_of_block (w := w') (w' := w'') hS.2).trans CAd.out.1; have z1 : w''.cell? ⟨g, a * 2 + 1, none⟩ = some (.int .i64 ya) := (World.cell?_of_block (w := w') (w' := w'') hS.2).trans CAd.out.2; go_simp; try with_reducible rfl
        simp only [Act.put, List.setIfInBounds_toArray, List.set_cons_zero, List.set_cons_succ]
        refine wpAnyV_take (i := 11) (oi := ⟨some 46, _, _, _, _, _⟩) (v := (.slice (some ⟨g, 0, none⟩) n c1)) rfl (by kernel_rfl) (by kernel_rfl) (by kernel_rfl) (fun _ _ _ h => h) (Or.inl ⟨by rfl, ?_⟩) HTS.out.1 ?_
        · intro w'' hS; have z0 : w''.cell? ⟨P1, 0, none⟩ = some (.slice (some ⟨g, 0, none⟩) n c1) := (World.cell?_of_block (w := w') (w' := w'') (hS _ (by have := HDfo.out; show P1 ≠ g; omega))).trans (HND.out.bp.cell 0); go_simp; try with_reducible rfl
        simp only [Act.put, List.setIfInBounds_toArray, List.set_cons_zero, List.set_cons_succ]
        refine wpAnyV_take (i := 12) (oi := ⟨some 47, _, _, _, _, _⟩) (v := (.pointer (some ⟨Bx, 1, none⟩))) rfl (by kernel_rfl) (by kernel_rfl) (by kernel_rfl) (fun _ _ _ h => h) (Or.inl ⟨by rfl, ?_⟩) HTS.out.1 ?_
        · intro w'' hS; go_simp; try with_reducible rfl
        simp only [Act.put, List.setIfInBounds_toArray, List.set_cons_zero, List.set_cons_succ]
        refine wpAnyV_take (i := 13) (oi := ⟨some 48, _, _, _, _, _⟩) (v := (.int .i64 (b : Int))) rfl (by kernel_rfl) (by kernel_rfl) (by kernel_rfl) (fun _ _ _ h => h) (Or.inl ⟨by rfl, ?_⟩) HTS.out.1 ?_
        · intro w'' hS; have z0 : w''.cell? ⟨Bx, 1, none⟩ = some (.int .i64 (b : Int)) := (World.cell?_of_block (w := w') (w' := w'') (hS _ (by have := HDfo.out; show Bx ≠ g; omega))).trans (BXD.out.cell 1); go_simp; try with_reducible rfl
        simp only [Act.put, List.setIfInBounds_toArray, List.set_cons_zero, List.set_cons_succ]
        refine wpAnyV_take (i := 14) (oi := ⟨some 49, _, _, _, _, _⟩) (v := (.pointer (some ⟨g, b * 2, none⟩))) rfl (by kernel_rfl) (by kernel_rfl) (by kernel_rfl) (fun _ _ _ h => h) (Or.inl ⟨by rfl, ?_⟩) HTS.out.1 ?_
        · intro w'' hS; go_simp; try with_reducible rfl
        simp only [Act.put, List.setIfInBounds_toArray, List.set_cons_zero, List.set_cons_succ]
        refine wpAnyV_takeS (i := 15) (oi := ⟨some 50, _, _, _, _, _⟩) (v := (.agg #[.string kb, .int .i64 yb])) rfl (by kernel_rfl) (by kernel_rfl) (by kernel_rfl) (by kernel_rfl) (fun _ _ _ h => h) (Or.inl ⟨by rfl, ?_⟩) HTS.out ?_
        · intro w'' hS; have z0 : w''.cell? ⟨g, b * 2, none⟩ = some (.string kb) := (World.cell?_of_block (w := w') (w' := w'') hS.2).trans CBd.out.1; have z1 : w''.cell? ⟨g, b * 2 + 1, none⟩ = some (.int .i64 yb) := (World.cell?_of_block (w := w') (w' := w'') hS.2).trans CBd.out.2; go_simp; try with_reducible rfl
        simp only [Act.put, List.setIfInBounds_toArray, List.set_cons_zero, List.set_cons_succ]
        refine wpAnyV_take (i := 16) (oi := ⟨some 51, _, _, _, _, _⟩) (v := (.pointer (some ⟨g, b * 2, none⟩))) rfl (by kernel_rfl) (by kernel_rfl) (by kernel_rfl) (fun _ _ _ h => h) (Or.inl ⟨by rfl, ?_⟩) HTS.out.1 ?_
        · intro w'' hS; go_simp; try with_reducible rfl
        simp only [Act.put, List.setIfInBounds_toArray, List.set_cons_zero, List.set_cons_succ]
        refine wpAnyV_one (i := 17) (o := ⟨none, _, _, _, _, _⟩) rfl (by kernel_rfl) (by rfl) (fun K hK => ?_)
        have BGE : Hid (Blk DD g 54 (thF KS PV P ++ rest)) := Lib.hid (by unfold Blk; rw [hWDD]; exact BGD.out)
        have f1 : DD.frozen? ⟨g, b * 2, none⟩ = false := BGE.out.frozen _
        have f2 : DD.frozen? ⟨g, b * 2 + 1, none⟩ = false := BGE.out.frozen _
        have g1 : DD.cell? ⟨g, b * 2, none⟩ = some (.string kb) := (World.cell?_of_block (w := w') (w' := DD) (by rw [hWDD])).trans CBd.out.1
        have g2 : DD.cell? ⟨g, b * 2 + 1, none⟩ = some (.int .i64 yb) := (World.cell?_of_block (w := w') (w' := DD) (by rw [hWDD])).trans CBd.out.2
        go_simp
        refine hK.out _ _ (fun k hk => ((Below.heap_setCell _ ⟨g, b * 2 + 1, none⟩ _ k hk).trans (Below.heap_setCell DD ⟨g, b * 2, none⟩ _ k hk)).trans (by rw [hWDD])) (fun hn => absurd (by decide) hn) ?_
        clear hK K f1 f2 g1 g2
        have BG1 : Hid (Blk ((DD.setCell ⟨g, b * 2, none⟩ (.string ka)).setCell ⟨g, b * 2 + 1, none⟩ (.int .i64 ya)) g 54 (thF KS PV (P.set b p) ++ rest)) := Lib.hid (by rw [HKA.out, HYA.out]; exact blkT_set BGE.out b p HPa.out.2)
        have HT1 : Hid (∀ k, k ≠ g → ((DD.setCell ⟨g, b * 2, none⟩ (.string ka)).setCell ⟨g, b * 2 + 1, none⟩ (.int .i64 ya)).heap[k]? = w'.heap[k]?) := Lib.hid (fun k hk => ((Below.heap_setCell _ ⟨g, b * 2 + 1, none⟩ _ k hk).trans (Below.heap_setCell DD ⟨g, b * 2, none⟩ _ k hk)).trans (by rw [hWDD]))
        have HB1 : Hid (Fr (fun k => k = g) w' ((DD.setCell ⟨g, b * 2, none⟩ (.string ka)).setCell ⟨g, b * 2 + 1, none⟩ (.int .i64 ya)) ∧ KeepsOthers w' ((DD.setCell ⟨g, b * 2, none⟩ (.string ka)).setCell ⟨g, b * 2 + 1, none⟩ (.int .i64 ya))) := Lib.hid ⟨(HDS.out.1.setCell (p := ⟨g, b * 2, none⟩) (.inl rfl) _).setCell (p := ⟨g, b * 2 + 1, none⟩) (.inl rfl) _, (HDS.out.2.trans (KeepsOthers.setCell _ _ _)).trans (KeepsOthers.setCell _ _ _)⟩
        clear BGE HDS HTS hWDD
        generalize (DD.setCell ⟨g, b * 2, none⟩ (.string ka)).setCell ⟨g, b * 2 + 1, none⟩ (.int .i64 ya) = D1 at BG1 HT1 HB1 ⊢
        refine wpAnyV_take (i := 18) (oi := ⟨some 52, _, _, _, _, _⟩) (v := (.pointer (some ⟨g, a * 2, none⟩))) rfl (by kernel_rfl) (by kernel_rfl) (by kernel_rfl) (fun _ _ _ h => h) (Or.inl ⟨by rfl, ?_⟩) HT1.out ?_
        · intro w'' hS; go_simp; try with_reducible rfl
        simp only [Act.put, List.setIfInBounds_toArray, List.set_cons_zero, List.set_cons_succ]
        refine wpAnyV_one (i := 19) (o := ⟨none, _, _, _, _, _⟩) rfl (by kernel_rfl) (by rfl) (fun K hK => ?_)
        have CA1 := Lib.hid (blkT_cell BG1.out a p (by rw [List.getElem?_set_ne (Ne.symm HAB.out.2.2)]; exact HPA.out))
        have f1 : D1.frozen? ⟨g, a * 2, none⟩ = false := BG1.out.frozen _
        have f2 : D1.frozen? ⟨g, a * 2 + 1, none⟩ = false := BG1.out.frozen _
        have g1 : D1.cell? ⟨g, a * 2, none⟩ = some (.string ka) := by rw [HKA.out]; exact CA1.out.1
        have g2 : D1.cell? ⟨g, a * 2 + 1, none⟩ = some (.int .i64 ya) := by rw [HYA.out]; exact CA1.out.2
        go_simp
        refine hK.out _ _ (fun k hk => ((Below.heap_setCell _ ⟨g, a * 2 + 1, none⟩ _ k hk).trans (Below.heap_setCell D1 ⟨g, a * 2, none⟩ _ k hk)).trans (HT1.out k hk)) (fun hn => absurd (by decide) hn) ?_
        clear hK K f1 f2 g1 g2
        refine wpAnyV_done (by kernel_rfl) ?_ _
        simp only [onN]
        have BGn : Hid (Blk ((D1.setCell ⟨g, a * 2, none⟩ (.string kb)).setCell ⟨g, a * 2 + 1, none⟩ (.int .i64 yb)) g 54 (thF KS PV ((P.set b p).set a q) ++ rest)) := Lib.hid (by rw [HKB.out, HYB.out]; exact blkT_set BG1.out a q (by rw [List.length_set]; exact HPa.out.1))
        have HF : Hid (Fr (fun k => k = g) w' ((D1.setCell ⟨g, a * 2, none⟩ (.string kb)).setCell ⟨g, a * 2 + 1, none⟩ (.int .i64 yb)) ∧ KeepsOthers w' ((D1.setCell ⟨g, a * 2, none⟩ (.string kb)).setCell ⟨g, a * 2 + 1, none⟩ (.int .i64 yb))) := Lib.hid ⟨(HB1.out.1.setCell (p := ⟨g, a * 2, none⟩) (.inl rfl) _).setCell (p := ⟨g, a * 2 + 1, none⟩) (.inl rfl) _, (HB1.out.2.trans (KeepsOthers.setCell _ _ _)).trans (KeepsOthers.setCell _ _ _)⟩
        clear BG1 HT1 HB1 CA1
        generalize (D1.setCell ⟨g, a * 2, none⟩ (.string kb)).setCell ⟨g, a * 2 + 1, none⟩ (.int .i64 yb) = D2 at BGn HF ⊢
        have HNE : Hid (Nsw KS PV w (some ⟨g, 0, none⟩) n c1 P1 (.func (.func F) #[] bs) (swapL 0 P a b) D2) := Lib.hid (by
          have hl2 : (swapL 0 P a b).length = n := by rw [HSW2.out]; simp; exact HPL.out.1
          have o1 : Blk D2 g 54 (thF KS PV (swapL 0 P a b) ++ rest) := by rw [HSW2.out]; exact BGn.out
          have o2 := OwnT.mk HGE.out o1 (by rw [hl2, ← HPL.out.1]; exact HCL.out.1) HCL.out.2
          rw [hl2] at o2
          exact ⟨o2, HND.out.bp.fr HF.out.1 HDfo.out.1, HND.out.bb.fr HF.out.1 HDfo.out.2.2.1, HND.out.bn.fr HF.out.1 HDfo.out.2.2.2, HND.out.bel.trans (HF.out.1.below HND.out.bel.size (fun k hk => by rw [hk]; exact HGE.out))⟩)
        try gi_wp2
        exact ⟨(HKO.out.1.trans HF.out.2).from _, HNE.out.bn.trans (HND.out.bn.symm.trans HKO.out.2), by have h := HNE.out; rw [← HPE.out] at h; exact h⟩
    case done =>
      rintro D xs' W hD hxs hN hK
      have HPE : Hid (sortG 0 lt (List.range n) (vals xs') = sortF 0 lt (List.range n)) := Lib.hid (by unfold sortF; rw [List.length_range, show vals xs' = gatesF (n : Int) from hxs])
      rw [HPE.out] at hN
      have cP : W.cell? ⟨P1, 0, none⟩ = some (.slice A1 n c1) := hN.bp.cell 0
      have HKD := Lib.hid hK
      have HNN := Lib.hid hN
      have HDD : Hid (P1 + 1 < D) := Lib.hid (by have := HSM.out; omega)
      clear hN hK hxs hD
      gi_wp2
      refine leave27 W D _ rfl rfl HKD.out ?_
      have hb : Below w.heap.size w (W.putObj D (.deferred none)) := HNN.out.bel.trans (belowK_b (w := wM) (n₀ := w.heap.size) HNT0.out.bel.size W D _ _ (by have := HSM.out; have := HDD.out; omega) HKD.out rfl rfl)
      exact ⟨_, rfl, HNN.out.ow.fr ((Fr.refl (fun b => b = D) W).grown (grownBy_putObj' W D (.deferred none)) (fun k e => by cases e; exact .inl rfl)) (fun g hg e => by have := (HOW.out g hg).2; have := HDD.out; omega), hb⟩
    case stop =>
      rintro D cd pre W hD hsp hf
      exact hf.elim
end Go.Proofs.Ytpglocgfdonmaaa

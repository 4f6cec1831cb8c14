/-
  Walk: the program's Layers.
-/
import Derived.Test.YtpglocgfdonmaaaLb
set_option linter.unusedVariables false
set_option linter.unusedSimpArgs false
namespace Go.Proofs.Ytpglocgfdonmaaa
open Go.RowKit Go.Shelf
attribute [local go_sem] Oper.semAt_some

theorem ownp_blk {w : World} {base T : Nat} {v : Value} {xs : List (Int × Int)} (h : OwnP w base T v xs) {g : Nat} (hg : v.ownBlock = some g) : ∃ cs, Blk w g T cs := by
  rcases h.form with ⟨h4, h5⟩ | ⟨g', c', rest, h4, h5, h6, h7, h8⟩
  · rw [h4] at hg; cases hg
  · rw [h4] at hg
    injection hg with hg
    subst hg
    exact ⟨_, h6⟩
theorem ownv_blk {w : World} {base T : Nat} {v : Value} {xs : List Value} (h : OwnV w base T v xs) {g : Nat} (hg : v.ownBlock = some g) : ∃ cs, Blk w g T cs := by
  rcases h.form with ⟨h4, h5⟩ | ⟨g', c', rest, h4, h5, h6, h7, h8⟩
  · rw [h4] at hg; cases hg
  · rw [h4] at hg
    injection hg with hg
    subst hg
    exact ⟨_, h6⟩
theorem keeps_fr {S : Nat → Prop} {W W' : World} (h : Fr S W W') (hS : ∀ b, S b → ∃ T cs, Blk W b T cs) : KeepsOthers W W' := ⟨h.size, fun k o hk ho => by
  have hlt := (Array.getElem?_eq_some_iff.1 hk).1
  rw [h.block k hlt (fun hs => by
    obtain ⟨T, cs, hb⟩ := hS k hs
    rw [show W.heap[k]? = _ from hb] at hk
    cases hk
    cases ho)]
  exact hk⟩
/-- What is known while the gates are laid in rows. -/
structure LyN (w : World) (N : Int) (ov rv : Value) (cs : List Value) (st : List (List (Int × Int)) × List (Int × Int)) (W : World) : Prop where
  b1 : Blk W w.heap.size 3 [.int .i64 N]
  b3 : Blk W (w.heap.size + 1) 61 [ov]
  b4 : Blk W (w.heap.size + 2) 32 [rv]
  bn : Blk W (w.heap.size + 3) 3 [.int .i64 N]
  le : LayE W (w.heap.size + 4) ov st.1 cs
  rw_ : OwnP W (w.heap.size + 4) 38 rv st.2
  dis : ∀ i, i < st.1.length → ∀ g, (cs.getD i undef).ownBlock = some g → rv.ownBlock ≠ some g
  bel : Below w.heap.size w W
theorem LyN.own {β : Type} {w : World} {N : Int} (f : β → List (List (Int × Int)) × List (Int × Int)) {B : Nat} (hB : w.heap.size ≤ B) :
    OwnFrom B (fun s W => ∃ ov rv cs, LyN w N ov rv cs (f s) W) := fun s X Y row hs hg hr => by
  obtain ⟨ov, rv, cs, h⟩ := hs
  have hf : Fr (fun b => row = some b) X Y := (Fr.refl _ X).grown hg (fun k e => .inl e)
  have hno : ∀ g T cs, Blk X g T cs → ¬ row = some g := fun g T cs hb e => by
    obtain ⟨o, ho, hc⟩ := (hr g e).2
    rw [show X.heap[g]? = _ from hb] at ho
    cases ho
    cases hc
  exact ⟨ov, rv, cs, h.b1.fr hf (hno _ _ _ h.b1), h.b3.fr hf (hno _ _ _ h.b3), h.b4.fr hf (hno _ _ _ h.b4), h.bn.fr hf (hno _ _ _ h.bn),
    h.le.fr hf (fun g hg => by obtain ⟨_, hb⟩ := ownv_blk h.le.ov_ hg; exact hno _ _ _ hb) (fun i hi g hg => by obtain ⟨_, hb⟩ := ownp_blk (h.le.row i hi) hg; exact hno _ _ _ hb),
    h.rw_.fr hf (fun g hg => by obtain ⟨_, hb⟩ := ownp_blk h.rw_ hg; exact hno _ _ _ hb), h.dis, ownFrom_below (β := Unit) (Nat.le_refl _) hB () X Y row h.bel hg hr⟩
theorem LyN.below {w : World} {N : Int} {ov rv : Value} {cs : List Value} {st : List (List (Int × Int)) × List (Int × Int)} {W W' : World} (h : LyN w N ov rv cs st W) (hb : Below W.heap.size W W') : LyN w N ov rv cs st W' :=
  ⟨h.b1.below hb h.b1.lt, h.b3.below hb h.b3.lt, h.b4.below hb h.b4.lt, h.bn.below hb h.bn.lt, h.le.below hb, h.rw_.below hb, h.dis, h.bel.trans (hb.mono h.bel.size)⟩
theorem leave31 {tmps : Array Value} {R : Ending → World → Prop} (W : World) (D : Nat) (v : Value) (h2 : tmps.getD 2 undef = v) (hK : W.heap[D]? = some (.deferred (some [])))
    (hR : R (.returned v) (W.putObj D (.deferred none))) :
    LeavesInM Fence.wide 8 Try.prog Try.f31 tmps R [{ target := .collected D, args := #[] }] .returning W := by
  refine ⟨by simp, .inl ⟨_, _, rfl, run_takeDeferred hK, ?_⟩⟩
  refine ⟨v, ?_, hR⟩
  have h2' : tmps[2]?.getD undef = v := by simpa using h2
  simp [results, Try.results31, go_sem, h2']
/-- The row grown, not yet whole. -/
theorem LyN.part {w : World} {N : Int} {ov rv v' : Value} {cs : List Value} {st : List (List (Int × Int)) × List (Int × Int)} {W W1 : World} {x : Int × Int} (h : LyN w N ov rv cs st W) (ho : OwnP W1 (w.heap.size + 4) 38 v' (st.2 ++ [x])) (hp : Pushed W W1 rv v') :
    LyN w N ov v' cs (st.1, st.2 ++ [x]) (W1.setCell ⟨w.heap.size + 2, 0, none⟩ v') ∧ Fr (fun b => rv.ownBlock = some b ∨ b = w.heap.size + 2) W (W1.setCell ⟨w.heap.size + 2, 0, none⟩ v') := by
  have hf := hp.fr
  have nB : ∀ g, g < w.heap.size + 4 → ¬ rv.ownBlock = some g := fun g hg e => by have := (h.rw_.base_le e).1; omega
  have b4' := h.b4.fr hf (nB _ (by omega))
  have hfs : Fr (fun b => b = w.heap.size + 2) W1 (W1.setCell ⟨w.heap.size + 2, 0, none⟩ v') := (Fr.refl (fun b => b = w.heap.size + 2) W1).setCell (p := ⟨w.heap.size + 2, 0, none⟩) (.inl rfl) _
  have le1 : LayE W1 (w.heap.size + 4) ov st.1 cs := h.le.fr hf (fun g hg e => own_ne h.rw_ h.le.ov_ g e hg) (fun i hi g hg e => h.dis i hi g hg e)
  have hv' : ∀ g, v'.ownBlock = some g → rv.ownBlock = some g ∨ W.heap.size ≤ g := fun g hg => pushed_own hp hg
  refine ⟨⟨(h.b1.fr hf (nB _ (by omega))).fr hfs (by omega), (h.b3.fr hf (nB _ (by omega))).fr hfs (by omega), Blk.set b4' 0 v', (h.bn.fr hf (nB _ (by omega))).fr hfs (by omega),
    le1.fr hfs (fun g hg e => by have := (le1.ov_.base_le hg).1; omega) (fun i hi g hg e => by have := ((le1.row i hi).base_le hg).1; omega), ho.fr hfs (fun g hg e => by have := (ho.base_le hg).1; omega), fun i hi g hg e => ?_, ?_⟩, ?_⟩
  · rcases hv' g e with h1 | h1
    · exact h.dis i hi g hg h1
    · have := ((h.le.row i hi).base_le hg).2; omega
  · exact (h.bel.trans (hf.below h.bel.size (fun g hg => by have := (h.rw_.base_le hg).1; omega))).setCell (p := ⟨w.heap.size + 2, 0, none⟩) (by show _ ≤ w.heap.size + 2; omega) _
  · exact (hf.mono (fun b hb => .inl hb)).setCell (p := ⟨w.heap.size + 2, 0, none⟩) (.inl (.inr rfl)) _
/-- The row laid in, a new one begun. -/
theorem LyN.whole {w : World} {N : Int} {ov rv ov' : Value} {cs : List Value} {st : List (List (Int × Int)) × List (Int × Int)} {W W1 : World} (h : LyN w N ov rv cs st W) (ho : OwnV W1 (w.heap.size + 4) 32 ov' (cs ++ [rv])) (hp : Pushed W W1 ov ov') :
    LyN w N ov' (.slice none 0 0) (cs ++ [rv]) (st.1 ++ [st.2], []) ((W1.setCell ⟨w.heap.size + 1, 0, none⟩ ov').setCell ⟨w.heap.size + 2, 0, none⟩ (.slice none 0 0)) ∧
    Fr (fun b => ov.ownBlock = some b ∨ b = w.heap.size + 1 ∨ b = w.heap.size + 2) W ((W1.setCell ⟨w.heap.size + 1, 0, none⟩ ov').setCell ⟨w.heap.size + 2, 0, none⟩ (.slice none 0 0)) := by
  have hf := hp.fr
  have nB : ∀ g, g < w.heap.size + 4 → ¬ ov.ownBlock = some g := fun g hg e => by have := (h.le.ov_.base_le e).1; omega
  have le1 := h.le.push h.rw_ h.dis ho hf
  have hfs : Fr (fun b => b = w.heap.size + 1 ∨ b = w.heap.size + 2) W1 ((W1.setCell ⟨w.heap.size + 1, 0, none⟩ ov').setCell ⟨w.heap.size + 2, 0, none⟩ (.slice none 0 0)) :=
    ((Fr.refl (fun b => b = w.heap.size + 1 ∨ b = w.heap.size + 2) W1).setCell (p := ⟨w.heap.size + 1, 0, none⟩) (.inl (.inl rfl)) _).setCell (p := ⟨w.heap.size + 2, 0, none⟩) (.inl (.inr rfl)) _
  refine ⟨⟨(h.b1.fr hf (nB _ (by omega))).fr hfs (by omega), (Blk.set (h.b3.fr hf (nB _ (by omega))) 0 ov').other (p := ⟨w.heap.size + 2, 0, none⟩) (by show w.heap.size + 1 ≠ w.heap.size + 2; omega) _,
    Blk.set ((h.b4.fr hf (nB _ (by omega))).other (p := ⟨w.heap.size + 1, 0, none⟩) (by show w.heap.size + 2 ≠ w.heap.size + 1; omega) _) 0 _, (h.bn.fr hf (nB _ (by omega))).fr hfs (by omega),
    le1.fr hfs (fun g hg e => by have := (le1.ov_.base_le hg).1; omega) (fun i hi g hg e => by have := ((le1.row i hi).base_le hg).1; omega), World.ownsRow_nil _ _ _ _, fun i hi g hg e => (by cases e), ?_⟩, ?_⟩
  · exact ((h.bel.trans (hf.below h.bel.size (fun g hg => by have := (h.le.ov_.base_le hg).1; omega))).setCell (p := ⟨w.heap.size + 1, 0, none⟩) (by show _ ≤ w.heap.size + 1; omega) _).setCell (p := ⟨w.heap.size + 2, 0, none⟩) (by show _ ≤ w.heap.size + 2; omega) _
  · exact ((hf.mono (fun b hb => .inl hb)).setCell (p := ⟨w.heap.size + 1, 0, none⟩) (.inl (.inr (.inl rfl))) _).setCell (p := ⟨w.heap.size + 2, 0, none⟩) (.inl (.inr (.inr rfl))) _

set_option maxRecDepth 100000 in
set_option maxHeartbeats 8000000 in
theorem layers_any (N : Int) (w : World) : Calls Try.prog 31 #[.int .i64 N] w fun e w' => ∃ v cs, e = .returned v ∧ LayE w' w.heap.size v (layersF N) cs ∧ Below w.heap.size w w' := by
  have HLN := Lib.hid (gates_len N).1
  have HAC := Lib.hid (acc_all N)
  refine (callsIn_wide (n := 8)).1 ?_
  refine callsIn_of_wp_marks Try.func31 rfl trivial ?_ rfl
  simp only [Try.ntmps31, List.size_toArray, List.length_cons, List.length_nil, Nat.reduceAdd, Nat.reduceSub, Array.replicate_succ, Array.replicate_zero, List.push_toArray, List.append_toArray, List.nil_append, List.cons_append]
  gi_wp2_with (first
    | (refine ⟨trivial, ?_⟩; gi_at_call 16; refine (callsIn_wide.2 (gatesmk _ _)).mono ?_; rintro e w' ⟨rfl, rfl⟩)
    | (refine ⟨trivial, ?_⟩))
  generalize hWM : ((((w.alloc (.cells #[.int .i64 N] 3)).alloc (.cells #[.slice none 0 0] 61)).alloc (.cells #[.slice none 0 0] 32)).alloc (.cells #[.int .i64 N] 3)) = wM
  have HNT0 : Hid (LyN w N (.slice none 0 0) (.slice none 0 0) [] ([], []) wM) := Lib.hid (by
    rw [← hWM]
    exact ⟨(((Blk.new w 3 [.int .i64 N]).alloc _).alloc _).alloc _, ((Blk.new_at (w.alloc (.cells #[.int .i64 N] 3)) 61 [.slice none 0 0] (by simp)).alloc _).alloc _, (Blk.new_at ((w.alloc (.cells #[.int .i64 N] 3)).alloc (.cells #[.slice none 0 0] 61)) 32 [.slice none 0 0] (by simp)).alloc _,
      Blk.new_at (((w.alloc (.cells #[.int .i64 N] 3)).alloc (.cells #[.slice none 0 0] 61)).alloc (.cells #[.slice none 0 0] 32)) 3 [.int .i64 N] (by simp), LayE.nil _ _, World.ownsRow_nil _ _ _ _, fun i hi => by simp at hi,
      ((((Below.refl w.heap.size w).alloc (Nat.le_refl _) _).alloc (by simp) _).alloc (by simp; omega) _).alloc (by simp; omega) _⟩)
  have HSM : Hid (wM.heap.size = w.heap.size + 4) := Lib.hid (by rw [← hWM]; simp)
  clear hWM
  rw [show w.heap.size + 1 + 1 + 1 = w.heap.size + 3 from rfl, show w.heap.size + 1 + 1 = w.heap.size + 2 from rfl]
  refine wpIn_rangeFunc_ownH rfl (by omega) (gf := 42) (lb := #[.pointer (some ⟨w.heap.size + 3, 0, none⟩)]) rfl trivial (enters_of Try.func42 (by kernel_rfl) rfl)
    (gates_stopsB (8 - 1) (by omega) (w.heap.size + 3) N wM (by have := HSM.out; omega) (HNT0.out.bn.cell 0)) keepB_t (keepB_b (by have := HSM.out; omega)) (Below.refl _ _) (fun _ => rfl)
    (fun pre W => ∃ ov rv cs, LyN w N ov rv cs (accS N (vals pre)) W)
    (fun cd pre W => False)
    (LyN.own (fun pre => accS N (vals pre)) HNT0.out.bel.size)
    (fun _ => ownFrom_pure _ _)
    ⟨_, _, _, HNT0.out⟩
    (fun x a' W => ∃ Bx, w.heap.size + 3 < Bx ∧ Blk W Bx 38 [.int .i64 x.1.1, .int .i64 x.1.2] ∧ a' = { tmps := #[.int .i64 N, .pointer (some ⟨w.heap.size, 0, none⟩), .slice none 0 0, .pointer (some ⟨w.heap.size + 1, 0, none⟩), .pointer (some ⟨w.heap.size + 2, 0, none⟩), .pointer (some ⟨Bx, 0, none⟩), .int .i64 N, (.func (.func 42) #[] #[.pointer (some ⟨w.heap.size + 3, 0, none⟩)]), .agg #[.int .i64 x.1.1, .int .i64 x.1.2], undef, undef, undef, undef, undef, undef, undef, undef, undef, undef, undef, undef, undef, undef], defers := [] })
    (fun x a' _ X Y row hs hg hr => by obtain ⟨Bx, h1, h2, h3⟩ := hs; exact ⟨Bx, h1, blk_own Bx 38 (fun (_ : Unit) => [Value.int .i64 x.1.1, Value.int .i64 x.1.2]) () X Y row h2 hg (fun r e => (hr r e).2), h3⟩)
    ?assign ?body ?done ?stop
  case assign =>
    rintro l pre x W K ⟨ov, rv, cs, hN⟩ hK
    have KK := Lib.hid hK
    have HNN := Lib.hid hN
    have HLT : Hid (w.heap.size + 3 < W.heap.size) := Lib.hid (Blk.lt hN.bn)
    clear hK hN
    unfold encG encH
    gi_wp2
    exact KK.out _ _ ((KeepsOthers.alloc _ _).from _) (Below.heap_alloc _ _ _ HLT.out) ⟨ov, rv, cs, HNN.out.below ((Below.refl _ _).alloc (Nat.le_refl _) _)⟩ ⟨W.heap.size, HLT.out, Blk.new W 38 [.int .i64 x.1.1, .int .i64 x.1.2], rfl⟩
  case body =>
    rintro l pre x a' W hl - ⟨ov, rv, cs, hN⟩ ⟨Bx, hBx, bX, rfl⟩ hpl
    obtain ⟨⟨x1, x2⟩, hx⟩ := x
    obtain ⟨a, b, n, hn', hx12, ha, hb, hab⟩ := gates_mem hx
    injection hx12 with hx1 hx2
    subst hx1 hx2 hn'
    dsimp only at bX ⊢
    have hn6 : n ≤ 65536 := by
      have h1 : sizeB (n : Int) = true := by
        cases h2 : sizeB (n : Int)
        · rw [gates_no h2] at hx; cases hx
        · rfl
      have := size_range h1
      omega
    have HSTP : Hid (accS (n : Int) (vals (pre ++ [⟨((a : Int), (b : Int)), hx⟩])) = pushS (n : Int) (accS (n : Int) (vals pre)) ((a : Int), (b : Int))) := Lib.hid (by rw [vals_snoc, accS_snoc])
    have HAL : Hid ((accS (n : Int) (vals pre)).1.length ≤ 20000000 ∧ (accS (n : Int) (vals pre)).2.length ≤ 40000000) := Lib.hid (by
      have h1 := acc_len (n : Int) (vals pre)
      rw [vals_len] at h1
      omega)
    generalize accS (n : Int) (vals pre) = st at *
    have HNN := Lib.hid hN
    have BXW := Lib.hid bX
    have c4 : W.cell? ⟨w.heap.size + 2, 0, none⟩ = some rv := hN.b4.cell 0
    have x0 : W.cell? ⟨Bx, 0, none⟩ = some (.int .i64 (a : Int)) := bX.cell 0
    have x1 : W.cell? ⟨Bx, 1, none⟩ = some (.int .i64 (b : Int)) := bX.cell 1
    obtain ⟨RA, rc, hrv, -⟩ := hN.rw_.slice
    obtain ⟨OA, oc, hov, -⟩ := hN.le.ov_.slice
    have HBW : Hid (w.heap.size + 4 ≤ W.heap.size) := Lib.hid (by have := hN.bn.lt; omega)
    have HCL : Hid (cs.length = st.1.length) := Lib.hid hN.le.len
    subst hrv hov
    have q2 : wrap64 (2 * ((st.2.length : Int) + 1)) = 2 * ((st.2.length : Int) + 1) := IntWalk.wrap64_in _ (by have := HAL.out.2; omega)
    have HS1 : Hid (∀ b, (Value.slice RA st.2.length rc).ownBlock = some b ∨ b = w.heap.size + 2 → ∃ T cs', Blk W b T cs') := Lib.hid (fun b hb => by
      rcases hb with hb | rfl
      · obtain ⟨cs', h⟩ := ownp_blk HNN.out.rw_ hb; exact ⟨_, _, h⟩
      · exact ⟨_, _, HNN.out.b4⟩)
    clear hN bX hl hab ha hb hpl
    by_cases hc : 2 * ((st.2.length + 1 : Nat) : Int) = (n : Int)
    · have q3 : (2 * ((st.2.length : Int) + 1) == (n : Int)) = true := by simp; omega
      have HPS : Hid (accS (n : Int) (vals (pre ++ [⟨((a : Int), (b : Int)), hx⟩])) = (st.1 ++ [st.2 ++ [((a : Int), (b : Int))]], [])) := Lib.hid (by rw [HSTP.out]; unfold pushS; rw [if_pos hc])
      clear hc HSTP
      gi_wp2_with (first
        | (show wpListIn _ _ _ _ _ ({ dst := some 12, op := _, type := _, pos := _, after := _, guard := _ } :: _) _ _; refine wpListIn_pushPP W rfl _ _ 32 rfl (w.heap.size + 4) 38 _ rfl Try.underlying32 info38 ((a : Int), (b : Int)) rfl _ st.2 rfl rfl HNN.out.rw_ HAL.out.2 HBW.out ?_; intro v' w1 ho hp; obtain ⟨A1, c1, rfl, -⟩ := ho.slice; have HPT := Lib.hid (HNN.out.part ho hp); have hff := hp.fr; have nB : ∀ g, g < w.heap.size + 4 → ¬ (Value.slice RA st.2.length rc).ownBlock = some g := (fun g hg e => by have := (HNN.out.rw_.base_le e).1; omega); have d4 : w1.cell? ⟨w.heap.size + 2, 0, none⟩ = some (.slice RA st.2.length rc) := (HNN.out.b4.fr hff (nB _ (by omega))).cell 0; have e4 : w1.frozen? ⟨w.heap.size + 2, 0, none⟩ = false := (HNN.out.b4.fr hff (nB _ (by omega))).frozen 0; have d1 : w1.cell? ⟨w.heap.size, 0, none⟩ = some (.int .i64 (n : Int)) := (HNN.out.b1.fr hff (nB _ (by omega))).cell 0; have d3 : w1.cell? ⟨w.heap.size + 1, 0, none⟩ = some (.slice OA cs.length oc) := (HNN.out.b3.fr hff (nB _ (by omega))).cell 0; clear ho hp hff nB)
        | (show wpListIn _ _ _ _ _ ({ dst := some 21, op := _, type := _, pos := _, after := _, guard := _ } :: _) _ _; refine wpListIn_pushV (w1.setCell ⟨w.heap.size + 2, 0, none⟩ (.slice A1 (st.2 ++ [((a : Int), (b : Int))]).length c1)) rfl _ _ 61 rfl (w.heap.size + 4) 32 (.slice none 0 0) 24 Try.underlying61 info32 rfl (.slice A1 (st.2 ++ [((a : Int), (b : Int))]).length c1) rfl (by simp) _ cs rfl (by have e : ∀ p u, (w1.setCell p u).heap.size = w1.heap.size := (fun p u => by simp [World.setCell]); rw [e]; rfl) HPT.out.1.le.ov_ (by have := HAL.out.1; have := HCL.out; omega) (by decide) (by have := HPT.out.1.bn.lt; omega) ?_; intro v2 w2 ho hp; obtain ⟨A2, c2, rfl, -⟩ := ho.slice; have HWH := Lib.hid (HPT.out.1.whole ho hp); have hff := hp.fr; have nB : ∀ g, g < w.heap.size + 4 → ¬ (Value.slice OA cs.length oc).ownBlock = some g := (fun g hg e => by have := (HPT.out.1.le.ov_.base_le e).1; omega); have d4' : w2.cell? ⟨w.heap.size + 2, 0, none⟩ = some (.slice A1 (st.2 ++ [((a : Int), (b : Int))]).length c1) := (HPT.out.1.b4.fr hff (nB _ (by omega))).cell 0; have e4' : w2.frozen? ⟨w.heap.size + 2, 0, none⟩ = false := (HPT.out.1.b4.fr hff (nB _ (by omega))).frozen 0; have d3' : w2.cell? ⟨w.heap.size + 1, 0, none⟩ = some (.slice OA cs.length oc) := (HPT.out.1.b3.fr hff (nB _ (by omega))).cell 0; have e3' : w2.frozen? ⟨w.heap.size + 1, 0, none⟩ = false := (HPT.out.1.b3.fr hff (nB _ (by omega))).frozen 0; clear ho hp hff nB d1 d3 d4 e4))
      rw [show ∀ z : Value, (cs ++ [z]).length = cs.length + 1 from fun z => by simp] at HWH
      have HS2 : ∀ k, (Value.slice OA cs.length oc).ownBlock = some k ∨ k = w.heap.size + 1 ∨ k = w.heap.size + 2 → ∃ T cs', Blk (w1.setCell ⟨w.heap.size + 2, 0, none⟩ (.slice A1 (st.2 ++ [((a : Int), (b : Int))]).length c1)) k T cs' := fun k hk => by
        rcases hk with hk | rfl | rfl
        · obtain ⟨cs', h⟩ := ownv_blk HPT.out.1.le.ov_ hk; exact ⟨_, _, h⟩
        · exact ⟨_, _, HPT.out.1.b3⟩
        · exact ⟨_, _, HPT.out.1.b4⟩
      exact ⟨((keeps_fr HPT.out.2 HS1.out).trans (keeps_fr HWH.out.2 HS2)).from _, HWH.out.1.bn.trans HNN.out.bn.symm, _, _, _, by rw [HPS.out]; exact HWH.out.1⟩
    · have q3 : (2 * ((st.2.length : Int) + 1) == (n : Int)) = false := by simp; omega
      have HPS : Hid (accS (n : Int) (vals (pre ++ [⟨((a : Int), (b : Int)), hx⟩])) = (st.1, st.2 ++ [((a : Int), (b : Int))])) := Lib.hid (by rw [HSTP.out]; unfold pushS; rw [if_neg hc])
      clear hc HSTP
      gi_wp2_with (show wpListIn _ _ _ _ _ ({ dst := some 12, op := _, type := _, pos := _, after := _, guard := _ } :: _) _ _; refine wpListIn_pushPP W rfl _ _ 32 rfl (w.heap.size + 4) 38 _ rfl Try.underlying32 info38 ((a : Int), (b : Int)) rfl _ st.2 rfl rfl HNN.out.rw_ HAL.out.2 HBW.out ?_; intro v' w1 ho hp; obtain ⟨A1, c1, rfl, -⟩ := ho.slice; have HPT := Lib.hid (HNN.out.part ho hp); have hff := hp.fr; have nB : ∀ g, g < w.heap.size + 4 → ¬ (Value.slice RA st.2.length rc).ownBlock = some g := (fun g hg e => by have := (HNN.out.rw_.base_le e).1; omega); have d4 : w1.cell? ⟨w.heap.size + 2, 0, none⟩ = some (.slice RA st.2.length rc) := (HNN.out.b4.fr hff (nB _ (by omega))).cell 0; have e4 : w1.frozen? ⟨w.heap.size + 2, 0, none⟩ = false := (HNN.out.b4.fr hff (nB _ (by omega))).frozen 0; have d1 : w1.cell? ⟨w.heap.size, 0, none⟩ = some (.int .i64 (n : Int)) := (HNN.out.b1.fr hff (nB _ (by omega))).cell 0; have d3 : w1.cell? ⟨w.heap.size + 1, 0, none⟩ = some (.slice OA cs.length oc) := (HNN.out.b3.fr hff (nB _ (by omega))).cell 0; clear ho hp hff nB)
      rw [show (st.2 ++ [((a : Int), (b : Int))]).length = st.2.length + 1 from by simp] at HPT
      exact ⟨(keeps_fr HPT.out.2 HS1.out).from _, HPT.out.1.bn.trans HNN.out.bn.symm, _, _, _, by rw [HPS.out]; exact HPT.out.1⟩
  case done =>
    rintro D xs' W hD hxs ⟨ov, rv, cs, hN⟩ hK
    have HPE : Hid (accS N (vals xs') = (layersF N, [])) := Lib.hid (by rw [show vals xs' = gatesF N from hxs, HAC.out])
    rw [HPE.out] at hN
    have c3 : W.cell? ⟨w.heap.size + 1, 0, none⟩ = some ov := hN.b3.cell 0
    have HKD := Lib.hid hK
    have HNN := Lib.hid hN
    have HDD : Hid (w.heap.size + 3 < D) := Lib.hid (by have := HSM.out; omega)
    obtain ⟨OA, oc, hov, -⟩ := hN.le.ov_.slice
    subst hov
    have HKB : Hid (∀ b T cs', Blk W b T cs' → b ≠ D) := Lib.hid (fun b T cs' hb e => by
      subst e
      rw [show W.heap[b]? = _ from hb] at hK
      cases hK)
    clear hN hK hxs hD
    gi_wp2
    refine leave31 W D _ rfl HKD.out ?_
    have hb : Below w.heap.size w (W.putObj D (.deferred none)) := HNN.out.bel.trans (belowK_b (w := wM) (n₀ := w.heap.size) HNT0.out.bel.size W D _ _ (by have := HSM.out; have := HDD.out; omega) HKD.out rfl rfl)
    have hf : Fr (fun b => b = D) W (W.putObj D (.deferred none)) := (Fr.refl (fun b => b = D) W).grown (grownBy_putObj' W D (.deferred none)) (fun k e => by cases e; exact .inl rfl)
    have hle := HNN.out.le.fr hf (fun g hg => by obtain ⟨_, hb⟩ := ownv_blk HNN.out.le.ov_ hg; exact HKB.out _ _ _ hb) (fun i hi g hg => by obtain ⟨_, hb⟩ := ownp_blk (HNN.out.le.row i hi) hg; exact HKB.out _ _ _ hb)
    exact ⟨_, cs, rfl, ⟨hle.ov_.lower (by omega), hle.len, fun i hi => (hle.row i hi).lower (by omega), hle.dis⟩, hb⟩
  case stop =>
    rintro D cd pre W hD hsp hf
    exact hf.elim
end Go.Proofs.Ytpglocgfdonmaaa

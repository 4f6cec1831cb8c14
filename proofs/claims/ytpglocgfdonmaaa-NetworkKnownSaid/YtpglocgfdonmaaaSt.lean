/-
  Walk: Shift of things.
-/
import Derived.Test.YtpglocgfdonmaaaTh
import Derived.Test.YtpglocgfdonmaaaSh
set_option linter.unusedVariables false
set_option linter.unusedSimpArgs false
namespace Go.Proofs.Ytpglocgfdonmaaa
open Go.RowKit Go.Shelf
attribute [local go_sem] Oper.semAt_some

theorem shiftT_big (F : Value) (A : Option Addr) (n c : Nat) (w : World) (hbig : 65536 < n) : Calls Try.prog 36 #[.slice A n c, F] w fun e w' => e = .returned (.slice none 0 0) ∧ w' = w := by
  have hb : (65536 : Int) < (n : Int) := by omega
  go_enter Try.func36, Try.ntmps36
  go_wp2_with fail
  go_ret
  exact ⟨rfl, rfl⟩
/-- What is known of the asker's own blocks while it asks. -/
structure Sjt (KS : Nat → ByteArray) (PV : Nat → Int) (w : World) (A1 : Option Addr) (n c1 P5 gW P6 gB P7 : Nat) (ws bs' : List Value) (W : World) : Prop where
  b5 : Blk W P5 52 [.slice A1 n c1]
  bw : Blk W gW 3 ws
  b6 : Blk W P6 39 [.slice (some ⟨gW, 0, none⟩) n n]
  bb : Blk W gB 4 bs'
  b7 : Blk W P7 59 [.slice (some ⟨gB, 0, none⟩) n n]
  ow : OwnT KS PV W w.heap.size (.slice A1 n c1) (List.range n)
  bel : Below w.heap.size w W
section
variable {KS : Nat → ByteArray} {PV : Nat → Int} {w : World} {A1 : Option Addr} {n c1 P5 gW P6 gB P7 : Nat} {ws bs' : List Value} {W W' : World}
theorem Sjt.below (h : Sjt KS PV w A1 n c1 P5 gW P6 gB P7 ws bs' W) (hb : Below W.heap.size W W') : Sjt KS PV w A1 n c1 P5 gW P6 gB P7 ws bs' W' :=
  ⟨h.b5.below hb h.b5.lt, h.bw.below hb h.bw.lt, h.b6.below hb h.b6.lt, h.bb.below hb h.bb.lt, h.b7.below hb h.b7.lt, h.ow.below hb, h.bel.trans (hb.mono h.bel.size)⟩
theorem Sjt.drew (h : Sjt KS PV w A1 n c1 P5 gW P6 gB P7 ws bs' W) : Sjt KS PV w A1 n c1 P5 gW P6 gB P7 ws bs' W.drew := ⟨h.b5, h.bw, h.b6, h.bb, h.b7, h.ow.drew, h.bel.drew⟩
theorem Sjt.alloc (h : Sjt KS PV w A1 n c1 P5 gW P6 gB P7 ws bs' W) (o : Obj) : Sjt KS PV w A1 n c1 P5 gW P6 gB P7 ws bs' (W.alloc o) := h.below ((Below.refl _ W).alloc (Nat.le_refl _) o)
theorem Sjt.setW (h : Sjt KS PV w A1 n c1 P5 gW P6 gB P7 ws bs' W) (hO : Odr w.heap.size A1 n c1 P5 gW P6 gB P7) (j : Nat) (u : Value) :
    Sjt KS PV w A1 n c1 P5 gW P6 gB P7 (ws.set j u) bs' (W.setCell ⟨gW, j, none⟩ u) := by
  have h1 := hO.lo_
  have h2 := hO.w_
  have h3 := hO.p6
  have h4 := hO.b_
  have h5 := hO.p7
  have hg : Fr (fun b => b = gW) W (W.setCell ⟨gW, j, none⟩ u) := (Fr.refl (fun b => b = gW) W).setCell (p := ⟨gW, j, none⟩) (.inl rfl) _
  exact ⟨h.b5.fr hg (by omega), h.bw.set j u, h.b6.fr hg (by omega), h.bb.fr hg (by omega), h.b7.fr hg (by omega),
    h.ow.fr hg (fun g hg => by have := hO.ow g hg; omega), h.bel.setCell (p := ⟨gW, j, none⟩) (by show _ ≤ gW; omega) _⟩
theorem Sjt.setB (h : Sjt KS PV w A1 n c1 P5 gW P6 gB P7 ws bs' W) (hO : Odr w.heap.size A1 n c1 P5 gW P6 gB P7) (j : Nat) (u : Value) :
    Sjt KS PV w A1 n c1 P5 gW P6 gB P7 ws (bs'.set j u) (W.setCell ⟨gB, j, none⟩ u) := by
  have h1 := hO.lo_
  have h2 := hO.w_
  have h3 := hO.p6
  have h4 := hO.b_
  have h5 := hO.p7
  have hg : Fr (fun b => b = gB) W (W.setCell ⟨gB, j, none⟩ u) := (Fr.refl (fun b => b = gB) W).setCell (p := ⟨gB, j, none⟩) (.inl rfl) _
  exact ⟨h.b5.fr hg (by omega), h.bw.fr hg (by omega), h.b6.fr hg (by omega), h.bb.set j u, h.b7.fr hg (by omega),
    h.ow.fr hg (fun g hg => by have := hO.ow g hg; omega), h.bel.setCell (p := ⟨gB, j, none⟩) (by show _ ≤ gB; omega) _⟩
end
/-- What is known of the blocks while the hops are gone. -/
structure Nwt (KS : Nat → ByteArray) (PV : Nat → Int) (w : World) (A1 : Option Addr) (n c1 P5 gW P6 gB P7 Bn : Nat) (lv : Nat → Bool) (P : List Nat) (W : World) : Prop where
  ow : OwnT KS PV W w.heap.size (.slice A1 n c1) P
  b5 : Blk W P5 52 [.slice A1 n c1]
  bw : Blk W gW 3 (P.map (fW lv n))
  b6 : Blk W P6 39 [.slice (some ⟨gW, 0, none⟩) n n]
  bb : Blk W gB 4 (P.map (fB lv))
  b7 : Blk W P7 59 [.slice (some ⟨gB, 0, none⟩) n n]
  bn : Blk W Bn 3 [.int .i64 (n : Int)]
  bel : Below w.heap.size w W
theorem Nwt.own {β : Type} {KS : Nat → ByteArray} {PV : Nat → Int} {w : World} {A1 : Option Addr} {n c1 P5 gW P6 gB P7 Bn : Nat} {lv : Nat → Bool} (f : β → List Nat) {B : Nat} (hB : w.heap.size ≤ B) :
    OwnFrom B (fun s W => Nwt KS PV w A1 n c1 P5 gW P6 gB P7 Bn lv (f s) W) := fun s X Y row hs hg hr => by
  have hr' : ∀ r, row = some r → ∃ o : Obj, X.heap[r]? = some o ∧ o.isCells = false := fun r e => (hr r e).2
  exact ⟨OwnT.own w.heap.size _ f s X Y row hs.ow hg hr', blk_own P5 52 (fun (_ : Unit) => _) () X Y row hs.b5 hg hr', blk_own gW 3 (fun s => (f s).map (fW lv n)) s X Y row hs.bw hg hr',
    blk_own P6 39 (fun (_ : Unit) => _) () X Y row hs.b6 hg hr', blk_own gB 4 (fun s => (f s).map (fB lv)) s X Y row hs.bb hg hr', blk_own P7 59 (fun (_ : Unit) => _) () X Y row hs.b7 hg hr', blk_own Bn 3 (fun (_ : Unit) => _) () X Y row hs.bn hg hr',
    ownFrom_below (β := Unit) (Nat.le_refl _) hB () X Y row hs.bel hg hr⟩
theorem leave36 {tmps : Array Value} {R : Ending → World → Prop} (W : World) (D : Nat) (v : Value) (h4 : tmps.getD 4 undef = v) (hK : W.heap[D]? = some (.deferred (some [])))
    (hR : R (.returned v) (W.putObj D (.deferred none))) :
    LeavesInM Fence.wide 8 Try.prog Try.f36 tmps R [{ target := .collected D, args := #[] }] .returning W := by
  refine ⟨by simp, .inl ⟨_, _, rfl, run_takeDeferred hK, ?_⟩⟩
  refine ⟨v, ?_, hR⟩
  have h4' : tmps[4]?.getD undef = v := by simpa using h4
  simp [results, Try.results36, go_sem, h4']
set_option maxRecDepth 100000 in
set_option maxHeartbeats 8000000 in
theorem shiftT_any (F : Nat) (bs : Array Value) (lv : Nat → Bool) (KS : Nat → ByteArray) (PV : Nat → Int) (A : Option Addr) (n c : Nat) (w : World) (hr : RdT KS PV w A (List.range n)) (hl : n ≤ 65536)
    (hF : ∀ args w, (callFunc F args).run Try.prog w = .ok (.enter F args) w) (hA : ∀ W k, Below w.heap.size w W → k < n → Calls Try.prog F (#[.agg #[.string (KS k), .int .i64 (PV k)]] ++ bs) W fun e W' => e = .returned (.bool (lv k)) ∧ Below W.heap.size W W') :
    Calls Try.prog 36 #[.slice A n c, .func (.func F) #[] bs] w fun e w' => ∃ v, e = .returned v ∧ OwnT KS PV w' w.heap.size v (shF (lvL lv n)) ∧ Below w.heap.size w w' := by
  have HR := Lib.hid hr
  have HA := Lib.hid hA
  have HNR : Hid (n = (List.range n).length) := Lib.hid (by simp)
  have HNB : Hid ((List.range n).length * 24 ≤ 140737488355328) := Lib.hid (by simp; omega)
  have D0 := Lib.hid (dead_zero (lvL lv n))
  clear hr hA
  have hb : ¬ (65536 : Int) < (n : Int) := by omega
  have k39 := run_make_blk (P := Try.prog) 39 3 (.int .i64 0) 8 Try.underlying39 info3 rfl n (by omega) (by omega)
  have k59 := run_make_blk (P := Try.prog) 59 4 (.bool false) 1 Try.underlying59 info4 rfl n (by omega) (by omega)
  refine (callsIn_wide (n := 8)).1 ?_
  refine callsIn_of_wp_marks Try.func36 rfl trivial ?_ rfl
  simp only [Try.ntmps36, List.size_toArray, List.length_cons, List.length_nil, Nat.reduceAdd, Nat.reduceSub, Array.replicate_succ, Array.replicate_zero, List.push_toArray, List.append_toArray, List.nil_append, List.cons_append]
  gi_wp2_with (first
      | (show wpListIn _ _ _ _ _ ({ dst := some 18, op := _, type := _, pos := _, after := _, guard := _ } :: _) _ _; refine wpListIn_copyT w rfl _ _ rfl rfl A _ c (List.range n) rfl HNR.out HR.out HNB.out ?_; intro v' w1 ho hf; have O1 := Lib.hid ho; obtain ⟨A1, c1, rfl, -⟩ := ho.slice; have F1 := Lib.hid hf; clear ho hf)
      | (refine ⟨trivial, ?_⟩))
  rw [List.length_range] at O1
  have V1 : Hid (∀ g, (Value.slice A1 n c1).ownBlock = some g → w.heap.size ≤ g ∧ g < w1.heap.size) := Lib.hid (fun g hg => O1.out.base_le hg)
  have L1 : Hid (w.heap.size ≤ w1.heap.size) := Lib.hid F1.out.size
  have BX : Hid (Blk ((((w1.alloc (.cells #[.slice A1 n c1] 52)).alloc (.cells (Array.replicate n (.int .i64 0)) 3)).alloc (.cells #[.slice (some ⟨w1.heap.size + 1, 0, none⟩) n n] 39)).alloc (.cells (Array.replicate n (.bool false)) 4)) (w1.heap.size + 1) 3 (List.replicate n (.int .i64 0))) := Lib.hid (by
    have h := Blk.new_at (w1.alloc (.cells #[.slice A1 n c1] 52)) 3 (List.replicate n (Value.int .i64 0)) (g := w1.heap.size + 1) (by simp)
    rw [List.toArray_replicate] at h
    exact (h.alloc _).alloc _)
  have BY : Hid (Blk ((((w1.alloc (.cells #[.slice A1 n c1] 52)).alloc (.cells (Array.replicate n (.int .i64 0)) 3)).alloc (.cells #[.slice (some ⟨w1.heap.size + 1, 0, none⟩) n n] 39)).alloc (.cells (Array.replicate n (.bool false)) 4)) (w1.heap.size + 1 + 1 + 1) 4 (List.replicate n (.bool false))) := Lib.hid (by
    have h := Blk.new_at (((w1.alloc (.cells #[.slice A1 n c1] 52)).alloc (.cells (Array.replicate n (.int .i64 0)) 3)).alloc (.cells #[.slice (some ⟨w1.heap.size + 1, 0, none⟩) n n] 39)) 4 (List.replicate n (Value.bool false)) (g := w1.heap.size + 1 + 1 + 1) (by simp)
    rw [List.toArray_replicate] at h
    exact h)
  generalize hWM : (((((w1.alloc (.cells #[.slice A1 n c1] 52)).alloc (.cells (Array.replicate n (.int .i64 0)) 3)).alloc (.cells #[.slice (some ⟨w1.heap.size + 1, 0, none⟩) n n] 39)).alloc (.cells (Array.replicate n (.bool false)) 4)).alloc (.cells #[.slice (some ⟨w1.heap.size + 1 + 1 + 1, 0, none⟩) n n] 59)) = wM
  have HT : Hid (Sjt KS PV w A1 n c1 w1.heap.size (w1.heap.size + 1) (w1.heap.size + 1 + 1) (w1.heap.size + 1 + 1 + 1) (w1.heap.size + 1 + 1 + 1 + 1) ((List.range 0).map (fW lv n) ++ List.replicate (n - 0) (.int .i64 0)) ((List.range 0).map (fB lv) ++ List.replicate (n - 0) (.bool false)) wM) := Lib.hid (by
    rw [← hWM]
    have hbl := ((((F1.out.alloc L1.out (.cells #[.slice A1 n c1] 52)).alloc (by have := L1.out; simp; omega) (.cells (Array.replicate n (.int .i64 0)) 3)).alloc (by have := L1.out; simp; omega) (.cells #[.slice (some ⟨w1.heap.size + 1, 0, none⟩) n n] 39)).alloc (by have := L1.out; simp; omega) (.cells (Array.replicate n (.bool false)) 4)).alloc (by have := L1.out; simp; omega) (.cells #[.slice (some ⟨w1.heap.size + 1 + 1 + 1, 0, none⟩) n n] 59)
    exact ⟨((((Blk.new w1 52 [.slice A1 n c1]).alloc _).alloc _).alloc _).alloc _, BX.out.alloc _,
      (((Blk.new_at ((w1.alloc (.cells #[.slice A1 n c1] 52)).alloc (.cells (Array.replicate n (.int .i64 0)) 3)) 39 [.slice (some ⟨w1.heap.size + 1, 0, none⟩) n n] (g := w1.heap.size + 1 + 1) (by simp)).alloc _).alloc _), BY.out.alloc _,
      Blk.new_at _ 59 [.slice (some ⟨w1.heap.size + 1 + 1 + 1, 0, none⟩) n n] (by simp),
      ((((O1.out.alloc _).alloc _).alloc _).alloc _).alloc _, hbl⟩)
  have HO : Hid (Odr w.heap.size A1 n c1 w1.heap.size (w1.heap.size + 1) (w1.heap.size + 1 + 1) (w1.heap.size + 1 + 1 + 1) (w1.heap.size + 1 + 1 + 1 + 1)) := Lib.hid ⟨L1.out, V1.out, rfl, rfl, rfl, rfl⟩
  have HSZ : Hid (wM.heap.size = w1.heap.size + 1 + 1 + 1 + 1 + 1) := Lib.hid (by rw [← hWM]; simp)
  clear hWM BX BY V1 L1 F1 O1 k39 k59 HNR HNB
  generalize w1.heap.size + 1 + 1 + 1 + 1 = P7 at *
  generalize w1.heap.size + 1 + 1 + 1 = gB at *
  generalize w1.heap.size + 1 + 1 = P6 at *
  generalize w1.heap.size + 1 = gW at *
  generalize w1.heap.size = P5 at *
  gi_loopw [8, 27] (fun dv iv wr => ∃ i : Nat, iv = .int .i64 (i : Int) ∧ i ≤ n ∧ dv = .int .i64 (deadF (lvL lv n) i : Int) ∧ wM.heap.size ≤ wr.heap.size ∧ Hid (Sjt KS PV w A1 n c1 P5 gW P6 gB P7 ((List.range i).map (fW lv n) ++ List.replicate (n - i) (.int .i64 0)) ((List.range i).map (fB lv) ++ List.replicate (n - i) (.bool false)) wr)) (fun _ iv _ => n - (intOf iv).toNat)
  case atStart => exact ⟨0, rfl, by omega, by rw [D0.out]; rfl, Nat.le_refl _, HT⟩
  case round =>
    clear HT
    obtain ⟨i, rfl, hi, rfl, hsz, HT⟩ := hrel
    by_cases hlt : i < n
    · have hlt' : (i : Int) < (n : Int) := by omega
      obtain ⟨ba, off, rfl, hba, hc0, hc1⟩ := (HR.out.below (w' := wr) HT.out.bel) i (by simpa using hlt)
      rw [List.getD_eq_getElem?_getD, List.getElem?_range hlt, Option.getD_some] at hc0 hc1
      obtain ⟨ks, hks⟩ : ∃ k, k = KS i := ⟨_, rfl⟩
      obtain ⟨pv, hpv⟩ : ∃ k, k = PV i := ⟨_, rfl⟩
      have HKS := Lib.hid hks
      have HPV := Lib.hid hpv
      rw [← hks] at hc0
      rw [← hpv] at hc1
      have hdl := dead_le (lvL lv n) i
      have m1 : IntKind.i64.wrap ((i : Int) + 1) = ((i + 1 : Nat) : Int) := by rw [IntKind.wrap_i64] <;> omega
      have m2 : IntKind.i64.wrap ((deadF (lvL lv n) i : Int) + 1) = ((deadF (lvL lv n) i + 1 : Nat) : Int) := by rw [IntKind.wrap_i64] <;> omega
      have HDS : Hid (deadF (lvL lv n) (i + 1) = if lv i = true then deadF (lvL lv n) i else deadF (lvL lv n) i + 1) := Lib.hid (by rw [dead_succ _ _ (by rw [lvL_len]; exact hlt), lvL_at lv hlt])
      have HWS : Hid (fW lv n i = .int .i64 (deadF (lvL lv n) i : Int)) := Lib.hid rfl
      clear hdl hks hpv
      generalize deadF (lvL lv n) i = d at *
      gi_wp2
      have hBX : wr.heap.size = wr.heap.size := rfl
      have BXN : Hid (Blk (wr.alloc (.cells #[.string ks, .int .i64 pv] 54)) wr.heap.size 54 [.string ks, .int .i64 pv]) := Lib.hid (Blk.new wr 54 [.string ks, .int .i64 pv])
      have HTA := Lib.hid (HT.out.alloc (.cells #[.string ks, .int .i64 pv] 54))
      have hszA : wM.heap.size ≤ (wr.alloc (.cells #[.string ks, .int .i64 pv] 54)).heap.size := by simp; omega
      have HBXL : Hid (P7 < wr.heap.size) := Lib.hid HT.out.b7.lt
      clear HT hsz hBX
      generalize wr.alloc (.cells #[.string ks, .int .i64 pv] 54) = wa at *
      generalize wr.heap.size = Bx at *
      have HCC : Hid (Calls Try.prog F (#[.agg #[.string ks, .int .i64 pv]] ++ bs) wa.drew fun e W' => e = .returned (.bool (lv i)) ∧ Below wa.drew.heap.size wa.drew W') := Lib.hid (by
        have h := HA.out wa.drew i HTA.out.bel.drew hlt
        rw [← HKS.out, ← HPV.out] at h
        exact h)
      have HTD := Lib.hid (HTA.out.drew)
      have BXD : Hid (Blk wa.drew Bx 54 [.string ks, .int .i64 pv]) := Lib.hid BXN.out
      clear HTA
      refine region_wide (S := fun w' => w'.heap[P7]? = wa.heap[P7]? ∧ w'.heap[Bx]? = wa.heap[Bx]?) (by kernel_rfl) ⟨rfl, rfl⟩ (fun hHeld => ?_)
      refine wpAnyH_take (i := 0) (oi := ⟨some 32, _, _, _, _, _⟩) (v := (.slice (some ⟨gB, 0, none⟩) n n)) rfl (by kernel_rfl) (by kernel_rfl) (by kernel_rfl) (fun _ _ _ h => h) (Or.inl ⟨by rfl, ?_⟩) (by assumption) ?_
      · intro w' hS; have z0 : w'.cell? ⟨P7, 0, none⟩ = some (.slice (some ⟨gB, 0, none⟩) n n) := (World.cell?_of_block (w := wa.drew) (w' := w') (by show _ = wa.heap[P7]?; exact hS.1)).trans (HTD.out.b7.cell 0); go_simp; try with_reducible rfl
      simp only [Act.put, List.setIfInBounds_toArray, List.set_cons_zero, List.set_cons_succ]
      refine wpAnyH_take (i := 1) (oi := ⟨some 33, _, _, _, _, _⟩) (v := (.int .i64 (i : Int))) rfl (by kernel_rfl) (by kernel_rfl) (by kernel_rfl) (fun _ _ _ h => h) (Or.inl ⟨by rfl, ?_⟩) (by assumption) ?_
      · intro w' hS; go_simp; try with_reducible rfl
      simp only [Act.put, List.setIfInBounds_toArray, List.set_cons_zero, List.set_cons_succ]
      refine wpAnyH_take (i := 2) (oi := ⟨some 34, _, _, _, _, _⟩) (v := (.func (.func F) #[] bs)) rfl (by kernel_rfl) (by kernel_rfl) (by kernel_rfl) (fun _ _ _ h => h) (Or.inl ⟨by rfl, ?_⟩) (by assumption) ?_
      · intro w' hS; go_simp; try with_reducible rfl
      simp only [Act.put, List.setIfInBounds_toArray, List.set_cons_zero, List.set_cons_succ]
      refine wpAnyH_take (i := 3) (oi := ⟨some 35, _, _, _, _, _⟩) (v := (.agg #[.string ks, .int .i64 pv])) rfl (by kernel_rfl) (by kernel_rfl) (by kernel_rfl) (fun _ _ _ h => h) (Or.inl ⟨by rfl, ?_⟩) (by assumption) ?_
      · intro w' hS; have z0 : w'.cell? ⟨Bx, 0, none⟩ = some (.string ks) := (World.cell?_of_block (w := wa.drew) (w' := w') (by show _ = wa.heap[Bx]?; exact hS.2)).trans (BXD.out.cell 0); have z1 : w'.cell? ⟨Bx, 1, none⟩ = some (.int .i64 pv) := (World.cell?_of_block (w := wa.drew) (w' := w') (by show _ = wa.heap[Bx]?; exact hS.2)).trans (BXD.out.cell 1); go_simp; try with_reducible rfl
      simp only [Act.put, List.setIfInBounds_toArray, List.set_cons_zero, List.set_cons_succ]
      refine wpAnyH_ready (rs := [4]) (by kernel_rfl) (by simp) ?_
      refine AllReadyH.cons (o := ⟨some 36, _, _, _, _, _⟩) rfl (fun K hK => ?_) AllReadyH.nil
      rw [if_pos (by rfl)]
      go_simp
      refine HCC.out.mono ?_
      rintro e' w' ⟨rfl, hfr⟩
      have HT2 := Lib.hid (HTD.out.below hfr)
      have BX2 : Hid (Blk w' Bx 54 [.string ks, .int .i64 pv]) := Lib.hid (BXD.out.below hfr BXD.out.lt)
      have HSZ2 : Hid (wM.heap.size ≤ w'.heap.size) := Lib.hid (Nat.le_trans hszA hfr.size)
      clear hfr
      dsimp only
      (try simp only [Act.put, List.setIfInBounds_toArray, List.set_cons_zero, List.set_cons_succ])
      refine hK.out _ _ ⟨HT2.out.b7.trans HTD.out.b7.symm, BX2.out.trans BXD.out.symm⟩ (fun hHeld => ?_)
      clear hK K
      have cB : w'.cell? ⟨gB, i, none⟩ = some (.bool false) := (HT2.out.bb.cell i).trans (fill_at hlt)
      have fB' : w'.frozen? ⟨gB, i, none⟩ = false := HT2.out.bb.frozen i
      refine wpAnyH_take (i := 5) (oi := ⟨some 37, _, _, _, _, _⟩) (v := (.pointer (some ⟨gB, i, none⟩))) rfl (by kernel_rfl) (by kernel_rfl) (by kernel_rfl) (fun _ _ _ h => h) (Or.inl ⟨by rfl, ?_⟩) (by assumption) ?_
      · intro w' hS; go_simp; try with_reducible rfl
      simp only [Act.put, List.setIfInBounds_toArray, List.set_cons_zero, List.set_cons_succ]
      refine wpAnyH_ready (rs := [6]) (by kernel_rfl) (by simp) ?_
      refine AllReadyH.cons (o := ⟨none, _, _, _, _, _⟩) rfl (fun K hK => ?_) AllReadyH.nil
      rw [if_pos (by rfl)]
      go_simp
      have HT3 : Hid (Sjt KS PV w A1 n c1 P5 gW P6 gB P7 ((List.range i).map (fW lv n) ++ List.replicate (n - i) (.int .i64 0)) ((List.range (i + 1)).map (fB lv) ++ List.replicate (n - (i + 1)) (.bool false)) (w'.setCell ⟨gB, i, none⟩ (.bool (lv i)))) := Lib.hid (by
        have h := HT2.out.setB HO.out i (.bool (lv i))
        rw [show Value.bool (lv i) = fB lv i from rfl, fill_set hlt] at h
        exact h)
      refine hK.out _ _ ⟨HT3.out.b7.trans HTD.out.b7.symm, (Below.heap_setCell _ _ _ _ (by have := HO.out.b_; have := HO.out.p7; have := HBXL.out; show Bx ≠ gB; omega)).trans (BX2.out.trans BXD.out.symm)⟩ (fun hHeld => ?_)
      clear hK K cB fB' hHeld
      refine wpAnyH_done (by kernel_rfl) ?_ _
      simp only [onN]
      have HSZ3 : Hid (wM.heap.size ≤ (w'.setCell ⟨gB, i, none⟩ (.bool (lv i))).heap.size) := Lib.hid (by simpa [World.setCell] using HSZ2.out)
      clear HCC HTD HT2 HSZ2 hc0 hc1 hszA BXD BX2 BXN HBXL
      generalize w'.setCell ⟨gB, i, none⟩ (.bool (lv i)) = w2 at *
      have b6c : w2.cell? ⟨P6, 0, none⟩ = some (.slice (some ⟨gW, 0, none⟩) n n) := HT3.out.b6.cell 0
      have cW : w2.cell? ⟨gW, i, none⟩ = some (.int .i64 0) := (HT3.out.bw.cell i).trans (fill_at hlt)
      have fW' : w2.frozen? ⟨gW, i, none⟩ = false := HT3.out.bw.frozen i
      have HT4 : Hid (Sjt KS PV w A1 n c1 P5 gW P6 gB P7 ((List.range (i + 1)).map (fW lv n) ++ List.replicate (n - (i + 1)) (.int .i64 0)) ((List.range (i + 1)).map (fB lv) ++ List.replicate (n - (i + 1)) (.bool false)) (w2.setCell ⟨gW, i, none⟩ (.int .i64 (d : Int)))) := Lib.hid (by
        have h := HT3.out.setW HO.out i (.int .i64 (d : Int))
        rw [← HWS.out, fill_set hlt, HWS.out] at h
        exact h)
      have HSZ4 : Hid (wM.heap.size ≤ (w2.setCell ⟨gW, i, none⟩ (.int .i64 (d : Int))).heap.size) := Lib.hid (by simpa [World.setCell] using HSZ3.out)
      have cB4 : w2.cell? ⟨gB, i, none⟩ = some (.bool (lv i)) := by
        rw [HT3.out.bb.cell i, List.getElem?_append_left (by simp)]
        simp [fB]
      have b7c : w2.cell? ⟨P7, 0, none⟩ = some (.slice (some ⟨gB, 0, none⟩) n n) := HT3.out.b7.cell 0
      have hne1 : ¬ gW = P7 := by have := HO.out.w_; have := HO.out.p7; omega
      have hne2 : ¬ gW = gB := by have := HO.out.w_; have := HO.out.b_; omega
      have hne3 : ¬ P7 = gW := fun e => hne1 e.symm
      have hne4 : ¬ gB = gW := fun e => hne2 e.symm
      clear HT3 HSZ3
      cases hlv : lv i
      · have HD2 : Hid (deadF (lvL lv n) (i + 1) = d + 1) := Lib.hid (by rw [HDS.out, hlv]; rfl)
        rw [hlv] at cB4
        clear hlv HDS
        gi_wp2
        go_roundw
        case rel => exact ⟨i + 1, by simp, by omega, by rw [HD2.out]; simp, HSZ4.out, HT4⟩
        case measure => simp [intOf]; omega
      · have HD2 : Hid (deadF (lvL lv n) (i + 1) = d) := Lib.hid (by rw [HDS.out, hlv]; rfl)
        rw [hlv] at cB4
        clear hlv HDS
        gi_wp2
        go_roundw
        case rel => exact ⟨i + 1, by simp, by omega, by rw [HD2.out], HSZ4.out, HT4⟩
        case measure => simp [intOf]; omega
    · obtain rfl : n = i := by omega
      have hge : decide ((n : Int) < (n : Int)) = false := by simp
      have HSZ2 : Hid (wM.heap.size ≤ wr.heap.size) := Lib.hid hsz
      clear hlt hi hsz hge
      gi_wp2_with (first
        | (refine ⟨trivial, ?_⟩; gi_at_call 13; refine (callsIn_wide.2 (hopsmk (n : Int) _)).mono ?_; rintro e w' ⟨rfl, rfl⟩)
        | (refine ⟨trivial, ?_⟩))
      generalize hBn : wr.heap.size = Bn
      have HBN := Lib.hid hBn
      have HNT0 : Hid (Nwt KS PV w A1 n c1 P5 gW P6 gB P7 Bn lv (List.range n) (wr.alloc (.cells #[.int .i64 (n : Int)] 3))) := Lib.hid (by
        have h := HT.out
        exact ⟨h.ow.alloc _, h.b5.alloc _, by have := h.bw.alloc (.cells #[.int .i64 (n : Int)] 3); rw [Nat.sub_self] at this; simpa using this, h.b6.alloc _, by have := h.bb.alloc (.cells #[.int .i64 (n : Int)] 3); rw [Nat.sub_self] at this; simpa using this, h.b7.alloc _, Blk.new_at wr 3 [.int .i64 (n : Int)] hBn.symm, h.bel.alloc h.bel.size _⟩)
      have HSW : Hid ((wr.alloc (.cells #[.int .i64 (n : Int)] 3)).heap.size = Bn + 1) := Lib.hid (by simp; exact hBn)
      have HBP : Hid (P7 < Bn) := Lib.hid (by have := HT.out.b7.lt; omega)
      clear HT hBn
      generalize wr.alloc (.cells #[.int .i64 (n : Int)] 3) = wL at *
      refine wpIn_rangeFunc_ownH rfl (by omega) (gf := 39) (lb := #[.pointer (some ⟨Bn, 0, none⟩)]) rfl trivial (enters_of Try.func39 (by kernel_rfl) rfl)
        (hops_stopsB (8 - 1) (by omega) Bn (n : Int) wL (by have := HSW.out; omega) (HNT0.out.bn.cell 0)) keepB_t (keepB_b (by have := HSW.out; omega)) (Below.refl _ _) (fun _ => rfl)
        (fun pre W => Nwt KS PV w A1 n c1 P5 gW P6 gB P7 Bn lv (shG (lvL lv n) (List.range n) (hvals pre)) W)
        (fun cd pre W => False)
        (Nwt.own (fun pre => shG (lvL lv n) (List.range n) (hvals pre)) HNT0.out.bel.size)
        (fun _ => ownFrom_pure _ _)
        HNT0.out
        (fun x a' W => ∃ Bx, Bn < Bx ∧ Blk W Bx 29 [.int .i64 x.1.1, .int .i64 x.1.2] ∧ a' = { tmps := #[.slice A n c, .func (.func F) #[] bs, undef, undef, .slice none 0 0, .pointer (some ⟨P5, 0, none⟩), .pointer (some ⟨P6, 0, none⟩), .pointer (some ⟨P7, 0, none⟩), .int .i64 (deadF (lvL lv n) n : Int), u9, u10, .pointer (some ⟨Bx, 0, none⟩), undef, undef, .slice A n c, .int .i64 (n : Int), .bool false, .slice A n c, .slice A1 n c1, .slice A n c, .int .i64 (n : Int), .slice (some ⟨gW, 0, none⟩) n n, .slice A n c, .int .i64 (n : Int), .slice (some ⟨gB, 0, none⟩) n n, .slice A n c, .int .i64 (n : Int), .int .i64 (n : Int), .bool false, u29, u30, u31, u32, u33, u34, u35, u36, u37, u38, u39, u40, u41, u42, u43, u44, u45, u46, u47, u48, u49, .slice A n c, .int .i64 (n : Int), (.func (.func 39) #[] #[.pointer (some ⟨Bn, 0, none⟩)]), .agg #[.int .i64 x.1.1, .int .i64 x.1.2], undef, undef, undef, undef, undef, undef, undef, undef, undef, undef, undef, undef, undef, undef, undef, undef, undef, undef, undef, undef, undef, undef, undef, undef, undef, undef, undef, undef, undef, undef, undef, undef, undef, undef, undef, undef, undef, undef, undef, undef, undef, undef, undef, undef, undef, undef, undef, undef, undef, undef, undef, undef, undef, undef, undef, undef, undef, undef, undef, undef, undef, undef], defers := [] })
        (fun x a' _ X Y row hs hg hr => by obtain ⟨Bx, h1, h2, h3⟩ := hs; exact ⟨Bx, h1, blk_own Bx 29 (fun (_ : Unit) => [Value.int .i64 x.1.1, Value.int .i64 x.1.2]) () X Y row h2 hg (fun r e => (hr r e).2), h3⟩)
        ?assign ?body ?done ?stop
      case assign =>
        rintro l pre x W K hN hK
        have KK := Lib.hid hK
        have HNN := Lib.hid hN
        have HLT : Hid (Bn < W.heap.size) := Lib.hid (Blk.lt hN.bn)
        clear hK hN
        unfold encHE encH
        gi_wp2
        exact KK.out _ _ ((KeepsOthers.alloc _ _).from _) (Below.heap_alloc _ _ _ HLT.out) ⟨HNN.out.ow.alloc _, HNN.out.b5.alloc _, HNN.out.bw.alloc _, HNN.out.b6.alloc _, HNN.out.bb.alloc _, HNN.out.b7.alloc _, HNN.out.bn.alloc _, HNN.out.bel.alloc HNN.out.bel.size _⟩ ⟨W.heap.size, HLT.out, Blk.new W 29 [.int .i64 x.1.1, .int .i64 x.1.2], rfl⟩
      case body =>
        rintro l pre x a' W hl - hN ⟨Bx, hBx, bX, rfl⟩ -
        obtain ⟨⟨x1, x2⟩, hx⟩ := x
        obtain ⟨a, b, n', cc, hn', hx12, ha, hbc⟩ := hops_mem hx
        injection hx12 with hx1 hx2
        subst hx1 hx2
        obtain rfl : n = n' := by omega
        dsimp only at bX ⊢
        have HPL : Hid (Pl n (shG (lvL lv n) (List.range n) (hvals pre))) := Lib.hid (Pl.all _ (Pl.range n) (fun y hy => by
          obtain ⟨z, -, rfl⟩ := List.mem_map.1 hy
          exact z.2))
        have HSTP : Hid (∀ y, stepH (lvL lv n) (shG (lvL lv n) (List.range n) (hvals pre)) ((a : Int), (b : Int)) = y → shG (lvL lv n) (List.range n) (hvals (pre ++ [⟨((a : Int), (b : Int)), hx⟩])) = y) := Lib.hid (fun y hy => by rw [← hy, hvals_snoc, shG_snoc])
        have hp2 : 0 < 2 ^ cc := Nat.two_pow_pos cc
        obtain ⟨d, hd⟩ : ∃ d, d = 2 ^ cc := ⟨_, rfl⟩
        have HD := Lib.hid hd
        rw [← hd] at hbc hp2
        generalize shG (lvL lv n) (List.range n) (hvals pre) = P at *
        have HNN := Lib.hid hN
        have BXW := Lib.hid bX
        obtain ⟨p, hp⟩ : ∃ p, p = P.getD a 0 := ⟨_, rfl⟩
        obtain ⟨q, hq⟩ : ∃ q, q = P.getD b 0 := ⟨_, rfl⟩
        have hpn : p < n := by rw [hp]; exact HPL.out.2 a ha
        have HPA : Hid (P[a]? = some p) := Lib.hid (by rw [hp, List.getD_eq_getElem?_getD, List.getElem?_eq_getElem (by rw [HPL.out.1]; exact ha)]; rfl)
        have HPB : Hid (P[b]? = some q) := Lib.hid (by rw [hq, List.getD_eq_getElem?_getD, List.getElem?_eq_getElem (by rw [HPL.out.1]; omega)]; rfl)
        have HGo : Hid (stepH (lvL lv n) P ((a : Int), (b : Int)) = if goF (lvL lv n) p d = true then swapL 0 P a b else P) := Lib.hid (by
          unfold stepH
          rw [Int.toNat_natCast, Int.toNat_natCast, ← hp, show ((a : Int) - (b : Int)).toNat = d from by omega])
        have HGX : Hid (goF (lvL lv n) p d = (lv p && (deadF (lvL lv n) p / d % 2 == 1))) := Lib.hid (by unfold goF; rw [lvL_at lv hpn])
        have hdl := dead_le (lvL lv n) p
        have CB : Hid (W.cell? ⟨gB, a, none⟩ = some (.bool (lv p))) := Lib.hid (by rw [hN.bb.cell a, List.getElem?_map, HPA.out]; rfl)
        have CW : Hid (W.cell? ⟨gW, a, none⟩ = some (.int .i64 (deadF (lvL lv n) p : Int))) := Lib.hid (by rw [hN.bw.cell a, List.getElem?_map, HPA.out]; rfl)
        have HSW2 : Hid (swapL 0 P a b = (P.set b p).set a q) := Lib.hid (by unfold swapL; rw [← hp, ← hq])
        have ha' : (a : Int) < (n : Int) := by omega
        have hb' : (b : Int) < (n : Int) := by omega
        have m2 : IntKind.i64.wrap ((a : Int) - (b : Int)) = (d : Int) := by rw [IntKind.wrap_i64] <;> omega
        have hab : ¬ a = b := by omega
        have HAB : Hid (a < n ∧ b < n ∧ a ≠ b) := Lib.hid ⟨ha, by omega, hab⟩
        have HBX := Lib.hid hBx
        clear hN bX hl hp hq hd hab hBx
        gi_wp2
        refine region_round (S := fun w' => w'.heap = W.heap) (by kernel_rfl) (by kernel_rfl) rfl (fun hHeld => ?_)
        refine wpAnyH_take (i := 0) (oi := ⟨some 54, _, _, _, _, _⟩) (v := (.pointer (some ⟨Bx, 0, none⟩))) rfl (by kernel_rfl) (by kernel_rfl) (by kernel_rfl) (fun _ _ _ h => h) (Or.inl ⟨by rfl, ?_⟩) (by assumption) ?_
        · intro w' hS; go_simp; try with_reducible rfl
        simp only [Act.put, List.setIfInBounds_toArray, List.set_cons_zero, List.set_cons_succ]
        refine wpAnyH_take (i := 1) (oi := ⟨some 55, _, _, _, _, _⟩) (v := (.int .i64 (a : Int))) rfl (by kernel_rfl) (by kernel_rfl) (by kernel_rfl) (fun _ _ _ h => h) (Or.inl ⟨by rfl, ?_⟩) (by assumption) ?_
        · intro w' hS; have z0 : w'.cell? ⟨Bx, 0, none⟩ = some (.int .i64 (a : Int)) := (World.cell?_of_block (w := W) (w' := w') (by rw [hS])).trans (BXW.out.cell 0); go_simp; try with_reducible rfl
        simp only [Act.put, List.setIfInBounds_toArray, List.set_cons_zero, List.set_cons_succ]
        refine wpAnyH_take (i := 2) (oi := ⟨some 56, _, _, _, _, _⟩) (v := (.pointer (some ⟨Bx, 1, none⟩))) rfl (by kernel_rfl) (by kernel_rfl) (by kernel_rfl) (fun _ _ _ h => h) (Or.inl ⟨by rfl, ?_⟩) (by assumption) ?_
        · intro w' hS; go_simp; try with_reducible rfl
        simp only [Act.put, List.setIfInBounds_toArray, List.set_cons_zero, List.set_cons_succ]
        refine wpAnyH_take (i := 3) (oi := ⟨some 57, _, _, _, _, _⟩) (v := (.int .i64 (b : Int))) rfl (by kernel_rfl) (by kernel_rfl) (by kernel_rfl) (fun _ _ _ h => h) (Or.inl ⟨by rfl, ?_⟩) (by assumption) ?_
        · intro w' hS; have z0 : w'.cell? ⟨Bx, 1, none⟩ = some (.int .i64 (b : Int)) := (World.cell?_of_block (w := W) (w' := w') (by rw [hS])).trans (BXW.out.cell 1); go_simp; try with_reducible rfl
        simp only [Act.put, List.setIfInBounds_toArray, List.set_cons_zero, List.set_cons_succ]
        refine wpAnyH_take (i := 4) (oi := ⟨some 12, _, _, _, _, _⟩) (v := (.int .i64 (a : Int))) rfl (by kernel_rfl) (by kernel_rfl) (by kernel_rfl) (fun _ _ _ h => h) (Or.inl ⟨by rfl, ?_⟩) (by assumption) ?_
        · intro w' hS; go_simp; try with_reducible rfl
        simp only [Act.put, List.setIfInBounds_toArray, List.set_cons_zero, List.set_cons_succ]
        refine wpAnyH_take (i := 5) (oi := ⟨some 13, _, _, _, _, _⟩) (v := (.int .i64 (b : Int))) rfl (by kernel_rfl) (by kernel_rfl) (by kernel_rfl) (fun _ _ _ h => h) (Or.inl ⟨by rfl, ?_⟩) (by assumption) ?_
        · intro w' hS; go_simp; try with_reducible rfl
        simp only [Act.put, List.setIfInBounds_toArray, List.set_cons_zero, List.set_cons_succ]
        refine wpAnyH_done (by kernel_rfl) ?_ _
        simp only [onN]
        have cB : W.drew.cell? ⟨gB, a, none⟩ = some (.bool (lv p)) := CB.out
        have cW : W.drew.cell? ⟨gW, a, none⟩ = some (.int .i64 (deadF (lvL lv n) p : Int)) := CW.out
        have c6 : W.drew.cell? ⟨P6, 0, none⟩ = some (.slice (some ⟨gW, 0, none⟩) n n) := HNN.out.b6.cell 0
        have c7 : W.drew.cell? ⟨P7, 0, none⟩ = some (.slice (some ⟨gB, 0, none⟩) n n) := HNN.out.b7.cell 0
        have HND : Hid (Nwt KS PV w A1 n c1 P5 gW P6 gB P7 Bn lv P W.drew) := Lib.hid ⟨HNN.out.ow.drew, HNN.out.b5, HNN.out.bw, HNN.out.b6, HNN.out.bb, HNN.out.b7, HNN.out.bn, HNN.out.bel.drew⟩
        have HKO : Hid (KeepsOthers W W.drew ∧ W.drew.heap[Bn]? = W.heap[Bn]?) := Lib.hid ⟨KeepsOthers.drew _, rfl⟩
        have hba : bits .and .i64 (deadF (lvL lv n) p : Int) (d : Int) = ((if deadF (lvL lv n) p / d % 2 = 1 then d else 0 : Nat) : Int) := by
          rw [i64_and_nat _ _ (by omega) (by have : d ≤ a := by omega
                                             omega), HD.out, and_pow]
        clear HNN CB CW hHeld HD
        generalize W.drew = D0 at *
        generalize deadF (lvL lv n) p = dd at *
        generalize goF (lvL lv n) p d = go at *
        cases hlp : lv p
        · rw [hlp] at cB HGX
          have HPE : Hid (shG (lvL lv n) (List.range n) (hvals (pre ++ [⟨((a : Int), (b : Int)), hx⟩])) = P) := Lib.hid (HSTP.out _ (by rw [HGo.out, HGX.out, if_neg (by simp)]))
          clear HGo HGX
          gi_wp2
          exact ⟨HKO.out.1.from _, HKO.out.2, by have h := HND.out; rw [← HPE.out] at h; exact h⟩
        · rw [hlp] at cB HGX
          by_cases hbit : dd / d % 2 = 1
          · rw [if_pos hbit] at hba
            have HPE : Hid (shG (lvL lv n) (List.range n) (hvals (pre ++ [⟨((a : Int), (b : Int)), hx⟩])) = swapL 0 P a b) := Lib.hid (HSTP.out _ (by rw [HGo.out, HGX.out, if_pos (by simp; omega)]))
            have hdne : ((d : Int) != 0) = true := by simp; omega
            clear HGo HGX
            obtain ⟨g, rest, hA1, hgB, bG1, hcl⟩ : ∃ g rest, A1 = some ⟨g, 0, none⟩ ∧ w.heap.size ≤ g ∧ Blk D0 g 54 (thF KS PV P ++ rest) ∧ (P.length * 2 + rest.length = c1 * 2 ∧ c1 ≤ maxLen) := by
              rcases HND.out.ow.form with ⟨h1, h2⟩ | ⟨g, c', rest, h1, h2, h3, h4, h5⟩
              · exfalso
                have h3 := congrArg List.length h2
                rw [HPL.out.1, List.length_nil] at h3
                have := HAB.out.1
                omega
              · injection h1 with e1 e2 e3
                exact ⟨g, rest, e1, h2, h3, by omega, by omega⟩
            subst hA1
            have HCL := Lib.hid hcl
            have HGE := Lib.hid hgB
            have BGo : Hid (Blk D0 g 54 (thF KS PV P ++ rest)) := Lib.hid bG1
            have HGP := Lib.hid (HO.out.ow g rfl)
            have HDfo : Hid (P5 ≠ g ∧ gW ≠ g ∧ P6 ≠ g ∧ gB ≠ g ∧ P7 ≠ g ∧ Bn ≠ g) := Lib.hid (by have := HGP.out; have := HO.out.w_; have := HO.out.p6; have := HO.out.b_; have := HO.out.p7; have := HBP.out; omega)
            have HDfw : Hid (P5 ≠ gW ∧ P6 ≠ gW ∧ gB ≠ gW ∧ P7 ≠ gW ∧ Bn ≠ gW ∧ g ≠ gW) := Lib.hid (by have := HGP.out; have := HO.out.w_; have := HO.out.p6; have := HO.out.b_; have := HO.out.p7; have := HBP.out; omega)
            have HDfb : Hid (P5 ≠ gB ∧ P6 ≠ gB ∧ gW ≠ gB ∧ P7 ≠ gB ∧ Bn ≠ gB ∧ g ≠ gB) := Lib.hid (by have := HGP.out; have := HO.out.w_; have := HO.out.p6; have := HO.out.b_; have := HO.out.p7; have := HBP.out; omega)
            obtain ⟨ka, hka⟩ : ∃ y, y = KS p := ⟨_, rfl⟩
            obtain ⟨kb, hkb⟩ : ∃ y, y = KS q := ⟨_, rfl⟩
            obtain ⟨ya, hya⟩ : ∃ y, y = PV p := ⟨_, rfl⟩
            obtain ⟨yb, hyb⟩ : ∃ y, y = PV q := ⟨_, rfl⟩
            have CAo : Hid (D0.cell? ⟨g, a * 2, none⟩ = some (.string ka) ∧ D0.cell? ⟨g, a * 2 + 1, none⟩ = some (.int .i64 ya)) := Lib.hid (by rw [hka, hya]; exact blkT_cell bG1 a p HPA.out)
            have CBo : Hid (D0.cell? ⟨g, b * 2, none⟩ = some (.string kb) ∧ D0.cell? ⟨g, b * 2 + 1, none⟩ = some (.int .i64 yb)) := Lib.hid (by rw [hkb, hyb]; exact blkT_cell bG1 b q HPB.out)
            have HPa : Hid (a < P.length ∧ b < P.length) := Lib.hid (by have := HAB.out; rw [HPL.out.1]; omega)
            clear hcl hgB bG1
            have HKA := Lib.hid hka
            have HKB := Lib.hid hkb
            have HYA := Lib.hid hya
            have HYB := Lib.hid hyb
            clear hka hkb hya hyb
            obtain ⟨za, hza⟩ : ∃ z, fW lv n p = .int .i64 z := ⟨_, rfl⟩
            obtain ⟨zb, hzb⟩ : ∃ z, fW lv n q = .int .i64 z := ⟨_, rfl⟩
            obtain ⟨va, hva⟩ : ∃ z, fB lv p = .bool z := ⟨_, rfl⟩
            obtain ⟨vb, hvb⟩ : ∃ z, fB lv q = .bool z := ⟨_, rfl⟩
            have HZA := Lib.hid hza
            have HZB := Lib.hid hzb
            have HVA := Lib.hid hva
            have HVB := Lib.hid hvb
            clear hza hzb hva hvb
            gi_wp2
            clear cB cW
            refine region_round_late (fun w' => (∀ k, k ≠ g → w'.heap[k]? = D0.heap[k]?)) (fun w' => w'.heap[g]? = D0.heap[g]?) [13, 14, 15] (by kernel_rfl) (by kernel_rfl) ⟨fun _ _ => rfl, rfl⟩ (fun hHeld => ?_)
            have HTS := Lib.hid hHeld
            clear hHeld
            have hWDD : D0.drew.heap = D0.heap := rfl
            have HDS : Hid (Fr (fun k => k = g) D0 D0.drew ∧ KeepsOthers D0 D0.drew) := Lib.hid ⟨(Fr.refl (fun k => k = g) D0).drew, KeepsOthers.drew _⟩
            generalize D0.drew = DD at hWDD HTS HDS ⊢
            refine wpAnyV_take (i := 0) (oi := ⟨some 73, _, _, _, _, _⟩) (v := (.slice (some ⟨g, 0, none⟩) n c1)) rfl (by kernel_rfl) (by kernel_rfl) (by kernel_rfl) (fun _ _ _ h => h) (Or.inl ⟨by rfl, ?_⟩) HTS.out.1 ?_
            · intro w' hS; have z0 : w'.cell? ⟨P5, 0, none⟩ = some (.slice (some ⟨g, 0, none⟩) n c1) := (World.cell?_of_block (w := D0) (w' := w') (hS _ (by have := HDfo.out; show P5 ≠ g; omega))).trans (HND.out.b5.cell 0); go_simp; try with_reducible rfl
            simp only [Act.put, List.setIfInBounds_toArray, List.set_cons_zero, List.set_cons_succ]
            refine wpAnyV_take (i := 1) (oi := ⟨some 74, _, _, _, _, _⟩) (v := (.int .i64 (a : Int))) rfl (by kernel_rfl) (by kernel_rfl) (by kernel_rfl) (fun _ _ _ h => h) (Or.inl ⟨by rfl, ?_⟩) HTS.out.1 ?_
            · intro w' hS; go_simp; try with_reducible rfl
            simp only [Act.put, List.setIfInBounds_toArray, List.set_cons_zero, List.set_cons_succ]
            refine wpAnyV_take (i := 2) (oi := ⟨some 75, _, _, _, _, _⟩) (v := (.slice (some ⟨g, 0, none⟩) n c1)) rfl (by kernel_rfl) (by kernel_rfl) (by kernel_rfl) (fun _ _ _ h => h) (Or.inl ⟨by rfl, ?_⟩) HTS.out.1 ?_
            · intro w' hS; have z0 : w'.cell? ⟨P5, 0, none⟩ = some (.slice (some ⟨g, 0, none⟩) n c1) := (World.cell?_of_block (w := D0) (w' := w') (hS _ (by have := HDfo.out; show P5 ≠ g; omega))).trans (HND.out.b5.cell 0); go_simp; try with_reducible rfl
            simp only [Act.put, List.setIfInBounds_toArray, List.set_cons_zero, List.set_cons_succ]
            refine wpAnyV_take (i := 3) (oi := ⟨some 76, _, _, _, _, _⟩) (v := (.int .i64 (b : Int))) rfl (by kernel_rfl) (by kernel_rfl) (by kernel_rfl) (fun _ _ _ h => h) (Or.inl ⟨by rfl, ?_⟩) HTS.out.1 ?_
            · intro w' hS; go_simp; try with_reducible rfl
            simp only [Act.put, List.setIfInBounds_toArray, List.set_cons_zero, List.set_cons_succ]
            refine wpAnyV_take (i := 4) (oi := ⟨some 77, _, _, _, _, _⟩) (v := (.slice (some ⟨g, 0, none⟩) n c1)) rfl (by kernel_rfl) (by kernel_rfl) (by kernel_rfl) (fun _ _ _ h => h) (Or.inl ⟨by rfl, ?_⟩) HTS.out.1 ?_
            · intro w' hS; have z0 : w'.cell? ⟨P5, 0, none⟩ = some (.slice (some ⟨g, 0, none⟩) n c1) := (World.cell?_of_block (w := D0) (w' := w') (hS _ (by have := HDfo.out; show P5 ≠ g; omega))).trans (HND.out.b5.cell 0); go_simp; try with_reducible rfl
            simp only [Act.put, List.setIfInBounds_toArray, List.set_cons_zero, List.set_cons_succ]
            refine wpAnyV_take (i := 5) (oi := ⟨some 78, _, _, _, _, _⟩) (v := (.int .i64 (b : Int))) rfl (by kernel_rfl) (by kernel_rfl) (by kernel_rfl) (fun _ _ _ h => h) (Or.inl ⟨by rfl, ?_⟩) HTS.out.1 ?_
            · intro w' hS; go_simp; try with_reducible rfl
            simp only [Act.put, List.setIfInBounds_toArray, List.set_cons_zero, List.set_cons_succ]
            refine wpAnyV_take (i := 6) (oi := ⟨some 79, _, _, _, _, _⟩) (v := (.pointer (some ⟨g, b * 2, none⟩))) rfl (by kernel_rfl) (by kernel_rfl) (by kernel_rfl) (fun _ _ _ h => h) (Or.inl ⟨by rfl, ?_⟩) HTS.out.1 ?_
            · intro w' hS; go_simp; try with_reducible rfl
            simp only [Act.put, List.setIfInBounds_toArray, List.set_cons_zero, List.set_cons_succ]
            refine wpAnyV_takeS (i := 7) (oi := ⟨some 80, _, _, _, _, _⟩) (v := (.agg #[.string kb, .int .i64 yb])) rfl (by kernel_rfl) (by kernel_rfl) (by kernel_rfl) (by kernel_rfl) (fun _ _ _ h => h) (Or.inl ⟨by rfl, ?_⟩) HTS.out ?_
            · intro w' hS; have z0 : w'.cell? ⟨g, b * 2, none⟩ = some (.string kb) := (World.cell?_of_block (w := D0) (w' := w') hS.2).trans CBo.out.1; have z1 : w'.cell? ⟨g, b * 2 + 1, none⟩ = some (.int .i64 yb) := (World.cell?_of_block (w := D0) (w' := w') hS.2).trans CBo.out.2; go_simp; try with_reducible rfl
            simp only [Act.put, List.setIfInBounds_toArray, List.set_cons_zero, List.set_cons_succ]
            refine wpAnyV_take (i := 8) (oi := ⟨some 81, _, _, _, _, _⟩) (v := (.slice (some ⟨g, 0, none⟩) n c1)) rfl (by kernel_rfl) (by kernel_rfl) (by kernel_rfl) (fun _ _ _ h => h) (Or.inl ⟨by rfl, ?_⟩) HTS.out.1 ?_
            · intro w' hS; have z0 : w'.cell? ⟨P5, 0, none⟩ = some (.slice (some ⟨g, 0, none⟩) n c1) := (World.cell?_of_block (w := D0) (w' := w') (hS _ (by have := HDfo.out; show P5 ≠ g; omega))).trans (HND.out.b5.cell 0); go_simp; try with_reducible rfl
            simp only [Act.put, List.setIfInBounds_toArray, List.set_cons_zero, List.set_cons_succ]
            refine wpAnyV_take (i := 9) (oi := ⟨some 82, _, _, _, _, _⟩) (v := (.int .i64 (a : Int))) rfl (by kernel_rfl) (by kernel_rfl) (by kernel_rfl) (fun _ _ _ h => h) (Or.inl ⟨by rfl, ?_⟩) HTS.out.1 ?_
            · intro w' hS; go_simp; try with_reducible rfl
            simp only [Act.put, List.setIfInBounds_toArray, List.set_cons_zero, List.set_cons_succ]
            refine wpAnyV_take (i := 10) (oi := ⟨some 83, _, _, _, _, _⟩) (v := (.pointer (some ⟨g, a * 2, none⟩))) rfl (by kernel_rfl) (by kernel_rfl) (by kernel_rfl) (fun _ _ _ h => h) (Or.inl ⟨by rfl, ?_⟩) HTS.out.1 ?_
            · intro w' hS; go_simp; try with_reducible rfl
            simp only [Act.put, List.setIfInBounds_toArray, List.set_cons_zero, List.set_cons_succ]
            refine wpAnyV_takeS (i := 11) (oi := ⟨some 84, _, _, _, _, _⟩) (v := (.agg #[.string ka, .int .i64 ya])) rfl (by kernel_rfl) (by kernel_rfl) (by kernel_rfl) (by kernel_rfl) (fun _ _ _ h => h) (Or.inl ⟨by rfl, ?_⟩) HTS.out ?_
            · intro w' hS; have z0 : w'.cell? ⟨g, a * 2, none⟩ = some (.string ka) := (World.cell?_of_block (w := D0) (w' := w') hS.2).trans CAo.out.1; have z1 : w'.cell? ⟨g, a * 2 + 1, none⟩ = some (.int .i64 ya) := (World.cell?_of_block (w := D0) (w' := w') hS.2).trans CAo.out.2; go_simp; try with_reducible rfl
            simp only [Act.put, List.setIfInBounds_toArray, List.set_cons_zero, List.set_cons_succ]
            refine wpAnyV_take (i := 12) (oi := ⟨some 85, _, _, _, _, _⟩) (v := (.pointer (some ⟨g, a * 2, none⟩))) rfl (by kernel_rfl) (by kernel_rfl) (by kernel_rfl) (fun _ _ _ h => h) (Or.inl ⟨by rfl, ?_⟩) HTS.out.1 ?_
            · intro w' hS; go_simp; try with_reducible rfl
            simp only [Act.put, List.setIfInBounds_toArray, List.set_cons_zero, List.set_cons_succ]
            refine wpAnyV_one (i := 13) (o := ⟨none, _, _, _, _, _⟩) rfl (by kernel_rfl) (by rfl) (fun K hK => ?_)
            have BGD : Hid (Blk DD g 54 (thF KS PV P ++ rest)) := Lib.hid (by unfold Blk; rw [hWDD]; exact BGo.out)
            have f1 : DD.frozen? ⟨g, a * 2, none⟩ = false := BGD.out.frozen _
            have f2 : DD.frozen? ⟨g, a * 2 + 1, none⟩ = false := BGD.out.frozen _
            have g1 : DD.cell? ⟨g, a * 2, none⟩ = some (.string ka) := (World.cell?_of_block (w := D0) (w' := DD) (by rw [hWDD])).trans CAo.out.1
            have g2 : DD.cell? ⟨g, a * 2 + 1, none⟩ = some (.int .i64 ya) := (World.cell?_of_block (w := D0) (w' := DD) (by rw [hWDD])).trans CAo.out.2
            go_simp
            refine hK.out _ _ (fun k hk => ((Below.heap_setCell _ ⟨g, a * 2 + 1, none⟩ _ k hk).trans (Below.heap_setCell DD ⟨g, a * 2, none⟩ _ k hk)).trans (by rw [hWDD])) (fun hn => absurd (by decide) hn) ?_
            clear hK K f1 f2 g1 g2
            have BG1 : Hid (Blk ((DD.setCell ⟨g, a * 2, none⟩ (.string kb)).setCell ⟨g, a * 2 + 1, none⟩ (.int .i64 yb)) g 54 (thF KS PV (P.set a q) ++ rest)) := Lib.hid (by rw [HKB.out, HYB.out]; exact blkT_set BGD.out a q HPa.out.1)
            have HT1 : Hid (∀ k, k ≠ g → ((DD.setCell ⟨g, a * 2, none⟩ (.string kb)).setCell ⟨g, a * 2 + 1, none⟩ (.int .i64 yb)).heap[k]? = D0.heap[k]?) := Lib.hid (fun k hk => ((Below.heap_setCell _ ⟨g, a * 2 + 1, none⟩ _ k hk).trans (Below.heap_setCell DD ⟨g, a * 2, none⟩ _ k hk)).trans (by rw [hWDD]))
            have HB1 : Hid (Fr (fun k => k = g) D0 ((DD.setCell ⟨g, a * 2, none⟩ (.string kb)).setCell ⟨g, a * 2 + 1, none⟩ (.int .i64 yb)) ∧ KeepsOthers D0 ((DD.setCell ⟨g, a * 2, none⟩ (.string kb)).setCell ⟨g, a * 2 + 1, none⟩ (.int .i64 yb))) := Lib.hid ⟨(HDS.out.1.setCell (p := ⟨g, a * 2, none⟩) (.inl rfl) _).setCell (p := ⟨g, a * 2 + 1, none⟩) (.inl rfl) _, (HDS.out.2.trans (KeepsOthers.setCell _ _ _)).trans (KeepsOthers.setCell _ _ _)⟩
            clear BGD HDS HTS hWDD
            generalize (DD.setCell ⟨g, a * 2, none⟩ (.string kb)).setCell ⟨g, a * 2 + 1, none⟩ (.int .i64 yb) = D1 at BG1 HT1 HB1 ⊢
            refine wpAnyV_take (i := 14) (oi := ⟨some 86, _, _, _, _, _⟩) (v := (.pointer (some ⟨g, b * 2, none⟩))) rfl (by kernel_rfl) (by kernel_rfl) (by kernel_rfl) (fun _ _ _ h => h) (Or.inl ⟨by rfl, ?_⟩) HT1.out ?_
            · intro w' hS; go_simp; try with_reducible rfl
            simp only [Act.put, List.setIfInBounds_toArray, List.set_cons_zero, List.set_cons_succ]
            refine wpAnyV_one (i := 15) (o := ⟨none, _, _, _, _, _⟩) rfl (by kernel_rfl) (by rfl) (fun K hK => ?_)
            have CB1 := Lib.hid (blkT_cell BG1.out b q (by rw [List.getElem?_set_ne HAB.out.2.2]; exact HPB.out))
            have f1 : D1.frozen? ⟨g, b * 2, none⟩ = false := BG1.out.frozen _
            have f2 : D1.frozen? ⟨g, b * 2 + 1, none⟩ = false := BG1.out.frozen _
            have g1 : D1.cell? ⟨g, b * 2, none⟩ = some (.string kb) := by rw [HKB.out]; exact CB1.out.1
            have g2 : D1.cell? ⟨g, b * 2 + 1, none⟩ = some (.int .i64 yb) := by rw [HYB.out]; exact CB1.out.2
            go_simp
            refine hK.out _ _ (fun k hk => ((Below.heap_setCell _ ⟨g, b * 2 + 1, none⟩ _ k hk).trans (Below.heap_setCell D1 ⟨g, b * 2, none⟩ _ k hk)).trans (HT1.out k hk)) (fun hn => absurd (by decide) hn) ?_
            clear hK K f1 f2 g1 g2
            refine wpAnyV_done (by kernel_rfl) ?_ _
            simp only [onN]
            have BGno : Hid (Blk ((D1.setCell ⟨g, b * 2, none⟩ (.string ka)).setCell ⟨g, b * 2 + 1, none⟩ (.int .i64 ya)) g 54 (thF KS PV ((P.set a q).set b p) ++ rest)) := Lib.hid (by rw [HKA.out, HYA.out]; exact blkT_set BG1.out b p (by rw [List.length_set]; exact HPa.out.2))
            have HFo : Hid (Fr (fun k => k = g) D0 ((D1.setCell ⟨g, b * 2, none⟩ (.string ka)).setCell ⟨g, b * 2 + 1, none⟩ (.int .i64 ya)) ∧ KeepsOthers D0 ((D1.setCell ⟨g, b * 2, none⟩ (.string ka)).setCell ⟨g, b * 2 + 1, none⟩ (.int .i64 ya))) := Lib.hid ⟨(HB1.out.1.setCell (p := ⟨g, b * 2, none⟩) (.inl rfl) _).setCell (p := ⟨g, b * 2 + 1, none⟩) (.inl rfl) _, (HB1.out.2.trans (KeepsOthers.setCell _ _ _)).trans (KeepsOthers.setCell _ _ _)⟩
            clear BG1 HT1 HB1 CB1
            generalize (D1.setCell ⟨g, b * 2, none⟩ (.string ka)).setCell ⟨g, b * 2 + 1, none⟩ (.int .i64 ya) = D1o at BGno HFo ⊢
            have BGw : Hid (Blk D1o gW 3 (P.map (fW lv n))) := Lib.hid (HND.out.bw.fr HFo.out.1 HDfo.out.2.1)
            have B6w : Hid (Blk D1o P6 39 [.slice (some ⟨gW, 0, none⟩) n n]) := Lib.hid (HND.out.b6.fr HFo.out.1 HDfo.out.2.2.1)
            have CAw : Hid (D1o.cell? ⟨gW, a, none⟩ = some (.int .i64 za)) := Lib.hid (by rw [← HZA.out, BGw.out.cell a, List.getElem?_map, HPA.out]; rfl)
            have CBw : Hid (D1o.cell? ⟨gW, b, none⟩ = some (.int .i64 zb)) := Lib.hid (by rw [← HZB.out, BGw.out.cell b, List.getElem?_map, HPB.out]; rfl)
            clear BGo CAo CBo c6 c7
            gi_wp2
            refine region_round_late (fun w' => (∀ k, k ≠ gW → w'.heap[k]? = D1o.heap[k]?)) (fun w' => w'.heap[gW]? = D1o.heap[gW]?) [13, 14, 15] (by kernel_rfl) (by kernel_rfl) ⟨fun _ _ => rfl, rfl⟩ (fun hHeld => ?_)
            have HTS := Lib.hid hHeld
            clear hHeld
            have hWDD : D1o.drew.heap = D1o.heap := rfl
            have HDS : Hid (Fr (fun k => k = gW) D1o D1o.drew ∧ KeepsOthers D1o D1o.drew) := Lib.hid ⟨(Fr.refl (fun k => k = gW) D1o).drew, KeepsOthers.drew _⟩
            generalize D1o.drew = DD at hWDD HTS HDS ⊢
            refine wpAnyV_take (i := 0) (oi := ⟨some 87, _, _, _, _, _⟩) (v := (.slice (some ⟨gW, 0, none⟩) n n)) rfl (by kernel_rfl) (by kernel_rfl) (by kernel_rfl) (fun _ _ _ h => h) (Or.inl ⟨by rfl, ?_⟩) HTS.out.1 ?_
            · intro w' hS; have z0 : w'.cell? ⟨P6, 0, none⟩ = some (.slice (some ⟨gW, 0, none⟩) n n) := (World.cell?_of_block (w := D1o) (w' := w') (hS _ (by have := HDfw.out; show P6 ≠ gW; omega))).trans (B6w.out.cell 0); go_simp; try with_reducible rfl
            simp only [Act.put, List.setIfInBounds_toArray, List.set_cons_zero, List.set_cons_succ]
            refine wpAnyV_take (i := 1) (oi := ⟨some 88, _, _, _, _, _⟩) (v := (.int .i64 (a : Int))) rfl (by kernel_rfl) (by kernel_rfl) (by kernel_rfl) (fun _ _ _ h => h) (Or.inl ⟨by rfl, ?_⟩) HTS.out.1 ?_
            · intro w' hS; go_simp; try with_reducible rfl
            simp only [Act.put, List.setIfInBounds_toArray, List.set_cons_zero, List.set_cons_succ]
            refine wpAnyV_take (i := 2) (oi := ⟨some 89, _, _, _, _, _⟩) (v := (.slice (some ⟨gW, 0, none⟩) n n)) rfl (by kernel_rfl) (by kernel_rfl) (by kernel_rfl) (fun _ _ _ h => h) (Or.inl ⟨by rfl, ?_⟩) HTS.out.1 ?_
            · intro w' hS; have z0 : w'.cell? ⟨P6, 0, none⟩ = some (.slice (some ⟨gW, 0, none⟩) n n) := (World.cell?_of_block (w := D1o) (w' := w') (hS _ (by have := HDfw.out; show P6 ≠ gW; omega))).trans (B6w.out.cell 0); go_simp; try with_reducible rfl
            simp only [Act.put, List.setIfInBounds_toArray, List.set_cons_zero, List.set_cons_succ]
            refine wpAnyV_take (i := 3) (oi := ⟨some 90, _, _, _, _, _⟩) (v := (.int .i64 (b : Int))) rfl (by kernel_rfl) (by kernel_rfl) (by kernel_rfl) (fun _ _ _ h => h) (Or.inl ⟨by rfl, ?_⟩) HTS.out.1 ?_
            · intro w' hS; go_simp; try with_reducible rfl
            simp only [Act.put, List.setIfInBounds_toArray, List.set_cons_zero, List.set_cons_succ]
            refine wpAnyV_take (i := 4) (oi := ⟨some 91, _, _, _, _, _⟩) (v := (.slice (some ⟨gW, 0, none⟩) n n)) rfl (by kernel_rfl) (by kernel_rfl) (by kernel_rfl) (fun _ _ _ h => h) (Or.inl ⟨by rfl, ?_⟩) HTS.out.1 ?_
            · intro w' hS; have z0 : w'.cell? ⟨P6, 0, none⟩ = some (.slice (some ⟨gW, 0, none⟩) n n) := (World.cell?_of_block (w := D1o) (w' := w') (hS _ (by have := HDfw.out; show P6 ≠ gW; omega))).trans (B6w.out.cell 0); go_simp; try with_reducible rfl
            simp only [Act.put, List.setIfInBounds_toArray, List.set_cons_zero, List.set_cons_succ]
            refine wpAnyV_take (i := 5) (oi := ⟨some 92, _, _, _, _, _⟩) (v := (.int .i64 (b : Int))) rfl (by kernel_rfl) (by kernel_rfl) (by kernel_rfl) (fun _ _ _ h => h) (Or.inl ⟨by rfl, ?_⟩) HTS.out.1 ?_
            · intro w' hS; go_simp; try with_reducible rfl
            simp only [Act.put, List.setIfInBounds_toArray, List.set_cons_zero, List.set_cons_succ]
            refine wpAnyV_take (i := 6) (oi := ⟨some 93, _, _, _, _, _⟩) (v := (.pointer (some ⟨gW, b, none⟩))) rfl (by kernel_rfl) (by kernel_rfl) (by kernel_rfl) (fun _ _ _ h => h) (Or.inl ⟨by rfl, ?_⟩) HTS.out.1 ?_
            · intro w' hS; go_simp; try with_reducible rfl
            simp only [Act.put, List.setIfInBounds_toArray, List.set_cons_zero, List.set_cons_succ]
            refine wpAnyV_takeS (i := 7) (oi := ⟨some 94, _, _, _, _, _⟩) (v := (.int .i64 zb)) rfl (by kernel_rfl) (by kernel_rfl) (by kernel_rfl) (by kernel_rfl) (fun _ _ _ h => h) (Or.inl ⟨by rfl, ?_⟩) HTS.out ?_
            · intro w' hS; have z0 : w'.cell? ⟨gW, b, none⟩ = some (.int .i64 zb) := (World.cell?_of_block (w := D1o) (w' := w') hS.2).trans (CBw.out); go_simp; try with_reducible rfl
            simp only [Act.put, List.setIfInBounds_toArray, List.set_cons_zero, List.set_cons_succ]
            refine wpAnyV_take (i := 8) (oi := ⟨some 95, _, _, _, _, _⟩) (v := (.slice (some ⟨gW, 0, none⟩) n n)) rfl (by kernel_rfl) (by kernel_rfl) (by kernel_rfl) (fun _ _ _ h => h) (Or.inl ⟨by rfl, ?_⟩) HTS.out.1 ?_
            · intro w' hS; have z0 : w'.cell? ⟨P6, 0, none⟩ = some (.slice (some ⟨gW, 0, none⟩) n n) := (World.cell?_of_block (w := D1o) (w' := w') (hS _ (by have := HDfw.out; show P6 ≠ gW; omega))).trans (B6w.out.cell 0); go_simp; try with_reducible rfl
            simp only [Act.put, List.setIfInBounds_toArray, List.set_cons_zero, List.set_cons_succ]
            refine wpAnyV_take (i := 9) (oi := ⟨some 96, _, _, _, _, _⟩) (v := (.int .i64 (a : Int))) rfl (by kernel_rfl) (by kernel_rfl) (by kernel_rfl) (fun _ _ _ h => h) (Or.inl ⟨by rfl, ?_⟩) HTS.out.1 ?_
            · intro w' hS; go_simp; try with_reducible rfl
            simp only [Act.put, List.setIfInBounds_toArray, List.set_cons_zero, List.set_cons_succ]
            refine wpAnyV_take (i := 10) (oi := ⟨some 97, _, _, _, _, _⟩) (v := (.pointer (some ⟨gW, a, none⟩))) rfl (by kernel_rfl) (by kernel_rfl) (by kernel_rfl) (fun _ _ _ h => h) (Or.inl ⟨by rfl, ?_⟩) HTS.out.1 ?_
            · intro w' hS; go_simp; try with_reducible rfl
            simp only [Act.put, List.setIfInBounds_toArray, List.set_cons_zero, List.set_cons_succ]
            refine wpAnyV_takeS (i := 11) (oi := ⟨some 98, _, _, _, _, _⟩) (v := (.int .i64 za)) rfl (by kernel_rfl) (by kernel_rfl) (by kernel_rfl) (by kernel_rfl) (fun _ _ _ h => h) (Or.inl ⟨by rfl, ?_⟩) HTS.out ?_
            · intro w' hS; have z0 : w'.cell? ⟨gW, a, none⟩ = some (.int .i64 za) := (World.cell?_of_block (w := D1o) (w' := w') hS.2).trans (CAw.out); go_simp; try with_reducible rfl
            simp only [Act.put, List.setIfInBounds_toArray, List.set_cons_zero, List.set_cons_succ]
            refine wpAnyV_take (i := 12) (oi := ⟨some 99, _, _, _, _, _⟩) (v := (.pointer (some ⟨gW, a, none⟩))) rfl (by kernel_rfl) (by kernel_rfl) (by kernel_rfl) (fun _ _ _ h => h) (Or.inl ⟨by rfl, ?_⟩) HTS.out.1 ?_
            · intro w' hS; go_simp; try with_reducible rfl
            simp only [Act.put, List.setIfInBounds_toArray, List.set_cons_zero, List.set_cons_succ]
            refine wpAnyV_one (i := 13) (o := ⟨none, _, _, _, _, _⟩) rfl (by kernel_rfl) (by rfl) (fun K hK => ?_)
            have BGD : Hid (Blk DD gW 3 (P.map (fW lv n))) := Lib.hid (by unfold Blk; rw [hWDD]; exact BGw.out)
            have f1 : DD.frozen? ⟨gW, a, none⟩ = false := BGD.out.frozen a
            have g1 : DD.cell? ⟨gW, a, none⟩ = some (.int .i64 za) := (World.cell?_of_block (w := D1o) (w' := DD) (by rw [hWDD])).trans CAw.out
            go_simp
            refine hK.out _ _ (fun k hk => (Below.heap_setCell DD ⟨gW, a, none⟩ _ k hk).trans (by rw [hWDD])) (fun hn => absurd (by decide) hn) ?_
            clear hK K f1 g1
            have BG1 : Hid (Blk (DD.setCell ⟨gW, a, none⟩ (.int .i64 zb)) gW 3 ((P.map (fW lv n)).set a (.int .i64 zb))) := Lib.hid (Blk.set BGD.out a _)
            have HT1 : Hid (∀ k, k ≠ gW → (DD.setCell ⟨gW, a, none⟩ (.int .i64 zb)).heap[k]? = D1o.heap[k]?) := Lib.hid (fun k hk => (Below.heap_setCell DD ⟨gW, a, none⟩ _ k hk).trans (by rw [hWDD]))
            have HB1 : Hid (Fr (fun k => k = gW) D1o (DD.setCell ⟨gW, a, none⟩ (.int .i64 zb)) ∧ KeepsOthers D1o (DD.setCell ⟨gW, a, none⟩ (.int .i64 zb))) := Lib.hid ⟨HDS.out.1.setCell (p := ⟨gW, a, none⟩) (.inl rfl) _, HDS.out.2.trans (KeepsOthers.setCell _ _ _)⟩
            have cb1 : Hid (DD.cell? ⟨gW, b, none⟩ = some (.int .i64 zb)) := Lib.hid ((World.cell?_of_block (w := D1o) (w' := DD) (by rw [hWDD])).trans CBw.out)
            clear BGD HDS HTS hWDD
            generalize DD.setCell ⟨gW, a, none⟩ (.int .i64 zb) = D1 at BG1 HT1 HB1 ⊢
            refine wpAnyV_take (i := 14) (oi := ⟨some 100, _, _, _, _, _⟩) (v := (.pointer (some ⟨gW, b, none⟩))) rfl (by kernel_rfl) (by kernel_rfl) (by kernel_rfl) (fun _ _ _ h => h) (Or.inl ⟨by rfl, ?_⟩) HT1.out ?_
            · intro w' hS; go_simp; try with_reducible rfl
            simp only [Act.put, List.setIfInBounds_toArray, List.set_cons_zero, List.set_cons_succ]
            refine wpAnyV_one (i := 15) (o := ⟨none, _, _, _, _, _⟩) rfl (by kernel_rfl) (by rfl) (fun K hK => ?_)
            have f1 : D1.frozen? ⟨gW, b, none⟩ = false := BG1.out.frozen b
            have g1 : D1.cell? ⟨gW, b, none⟩ = some (.int .i64 zb) := (BG1.out.cell b).trans (by rw [List.getElem?_set_ne HAB.out.2.2, ← BGw.out.cell b]; exact CBw.out)
            go_simp
            refine hK.out _ _ (fun k hk => (Below.heap_setCell D1 ⟨gW, b, none⟩ _ k hk).trans (HT1.out k hk)) (fun hn => absurd (by decide) hn) ?_
            clear hK K f1 g1
            refine wpAnyV_done (by kernel_rfl) ?_ _
            simp only [onN]
            have BGnw : Hid (Blk (D1.setCell ⟨gW, b, none⟩ (.int .i64 za)) gW 3 (((P.map (fW lv n)).set a (.int .i64 zb)).set b (.int .i64 za))) := Lib.hid (Blk.set BG1.out b _)
            have HFw : Hid (Fr (fun k => k = gW) D1o (D1.setCell ⟨gW, b, none⟩ (.int .i64 za)) ∧ KeepsOthers D1o (D1.setCell ⟨gW, b, none⟩ (.int .i64 za))) := Lib.hid ⟨HB1.out.1.setCell (p := ⟨gW, b, none⟩) (.inl rfl) _, HB1.out.2.trans (KeepsOthers.setCell _ _ _)⟩
            clear BG1 HT1 HB1 cb1
            generalize D1.setCell ⟨gW, b, none⟩ (.int .i64 za) = D1w at BGnw HFw ⊢
            have BGb : Hid (Blk D1w gB 4 (P.map (fB lv))) := Lib.hid ((HND.out.bb.fr HFo.out.1 HDfo.out.2.2.2.1).fr HFw.out.1 HDfw.out.2.2.1)
            have B7b : Hid (Blk D1w P7 59 [.slice (some ⟨gB, 0, none⟩) n n]) := Lib.hid ((HND.out.b7.fr HFo.out.1 HDfo.out.2.2.2.2.1).fr HFw.out.1 HDfw.out.2.2.2.1)
            have CAb : Hid (D1w.cell? ⟨gB, a, none⟩ = some (.bool va)) := Lib.hid (by rw [← HVA.out, BGb.out.cell a, List.getElem?_map, HPA.out]; rfl)
            have CBb : Hid (D1w.cell? ⟨gB, b, none⟩ = some (.bool vb)) := Lib.hid (by rw [← HVB.out, BGb.out.cell b, List.getElem?_map, HPB.out]; rfl)
            clear BGw CAw CBw
            gi_wp2
            refine region_round_late (fun w' => (∀ k, k ≠ gB → w'.heap[k]? = D1w.heap[k]?)) (fun w' => w'.heap[gB]? = D1w.heap[gB]?) [13, 14, 15] (by kernel_rfl) (by kernel_rfl) ⟨fun _ _ => rfl, rfl⟩ (fun hHeld => ?_)
            have HTS := Lib.hid hHeld
            clear hHeld
            have hWDD : D1w.drew.heap = D1w.heap := rfl
            have HDS : Hid (Fr (fun k => k = gB) D1w D1w.drew ∧ KeepsOthers D1w D1w.drew) := Lib.hid ⟨(Fr.refl (fun k => k = gB) D1w).drew, KeepsOthers.drew _⟩
            generalize D1w.drew = DD at hWDD HTS HDS ⊢
            refine wpAnyV_take (i := 0) (oi := ⟨some 101, _, _, _, _, _⟩) (v := (.slice (some ⟨gB, 0, none⟩) n n)) rfl (by kernel_rfl) (by kernel_rfl) (by kernel_rfl) (fun _ _ _ h => h) (Or.inl ⟨by rfl, ?_⟩) HTS.out.1 ?_
            · intro w' hS; have z0 : w'.cell? ⟨P7, 0, none⟩ = some (.slice (some ⟨gB, 0, none⟩) n n) := (World.cell?_of_block (w := D1w) (w' := w') (hS _ (by have := HDfb.out; show P7 ≠ gB; omega))).trans (B7b.out.cell 0); go_simp; try with_reducible rfl
            simp only [Act.put, List.setIfInBounds_toArray, List.set_cons_zero, List.set_cons_succ]
            refine wpAnyV_take (i := 1) (oi := ⟨some 102, _, _, _, _, _⟩) (v := (.int .i64 (a : Int))) rfl (by kernel_rfl) (by kernel_rfl) (by kernel_rfl) (fun _ _ _ h => h) (Or.inl ⟨by rfl, ?_⟩) HTS.out.1 ?_
            · intro w' hS; go_simp; try with_reducible rfl
            simp only [Act.put, List.setIfInBounds_toArray, List.set_cons_zero, List.set_cons_succ]
            refine wpAnyV_take (i := 2) (oi := ⟨some 103, _, _, _, _, _⟩) (v := (.slice (some ⟨gB, 0, none⟩) n n)) rfl (by kernel_rfl) (by kernel_rfl) (by kernel_rfl) (fun _ _ _ h => h) (Or.inl ⟨by rfl, ?_⟩) HTS.out.1 ?_
            · intro w' hS; have z0 : w'.cell? ⟨P7, 0, none⟩ = some (.slice (some ⟨gB, 0, none⟩) n n) := (World.cell?_of_block (w := D1w) (w' := w') (hS _ (by have := HDfb.out; show P7 ≠ gB; omega))).trans (B7b.out.cell 0); go_simp; try with_reducible rfl
            simp only [Act.put, List.setIfInBounds_toArray, List.set_cons_zero, List.set_cons_succ]
            refine wpAnyV_take (i := 3) (oi := ⟨some 104, _, _, _, _, _⟩) (v := (.int .i64 (b : Int))) rfl (by kernel_rfl) (by kernel_rfl) (by kernel_rfl) (fun _ _ _ h => h) (Or.inl ⟨by rfl, ?_⟩) HTS.out.1 ?_
            · intro w' hS; go_simp; try with_reducible rfl
            simp only [Act.put, List.setIfInBounds_toArray, List.set_cons_zero, List.set_cons_succ]
            refine wpAnyV_take (i := 4) (oi := ⟨some 105, _, _, _, _, _⟩) (v := (.slice (some ⟨gB, 0, none⟩) n n)) rfl (by kernel_rfl) (by kernel_rfl) (by kernel_rfl) (fun _ _ _ h => h) (Or.inl ⟨by rfl, ?_⟩) HTS.out.1 ?_
            · intro w' hS; have z0 : w'.cell? ⟨P7, 0, none⟩ = some (.slice (some ⟨gB, 0, none⟩) n n) := (World.cell?_of_block (w := D1w) (w' := w') (hS _ (by have := HDfb.out; show P7 ≠ gB; omega))).trans (B7b.out.cell 0); go_simp; try with_reducible rfl
            simp only [Act.put, List.setIfInBounds_toArray, List.set_cons_zero, List.set_cons_succ]
            refine wpAnyV_take (i := 5) (oi := ⟨some 106, _, _, _, _, _⟩) (v := (.int .i64 (b : Int))) rfl (by kernel_rfl) (by kernel_rfl) (by kernel_rfl) (fun _ _ _ h => h) (Or.inl ⟨by rfl, ?_⟩) HTS.out.1 ?_
            · intro w' hS; go_simp; try with_reducible rfl
            simp only [Act.put, List.setIfInBounds_toArray, List.set_cons_zero, List.set_cons_succ]
            refine wpAnyV_take (i := 6) (oi := ⟨some 107, _, _, _, _, _⟩) (v := (.pointer (some ⟨gB, b, none⟩))) rfl (by kernel_rfl) (by kernel_rfl) (by kernel_rfl) (fun _ _ _ h => h) (Or.inl ⟨by rfl, ?_⟩) HTS.out.1 ?_
            · intro w' hS; go_simp; try with_reducible rfl
            simp only [Act.put, List.setIfInBounds_toArray, List.set_cons_zero, List.set_cons_succ]
            refine wpAnyV_takeS (i := 7) (oi := ⟨some 108, _, _, _, _, _⟩) (v := (.bool vb)) rfl (by kernel_rfl) (by kernel_rfl) (by kernel_rfl) (by kernel_rfl) (fun _ _ _ h => h) (Or.inl ⟨by rfl, ?_⟩) HTS.out ?_
            · intro w' hS; have z0 : w'.cell? ⟨gB, b, none⟩ = some (.bool vb) := (World.cell?_of_block (w := D1w) (w' := w') hS.2).trans (CBb.out); go_simp; try with_reducible rfl
            simp only [Act.put, List.setIfInBounds_toArray, List.set_cons_zero, List.set_cons_succ]
            refine wpAnyV_take (i := 8) (oi := ⟨some 109, _, _, _, _, _⟩) (v := (.slice (some ⟨gB, 0, none⟩) n n)) rfl (by kernel_rfl) (by kernel_rfl) (by kernel_rfl) (fun _ _ _ h => h) (Or.inl ⟨by rfl, ?_⟩) HTS.out.1 ?_
            · intro w' hS; have z0 : w'.cell? ⟨P7, 0, none⟩ = some (.slice (some ⟨gB, 0, none⟩) n n) := (World.cell?_of_block (w := D1w) (w' := w') (hS _ (by have := HDfb.out; show P7 ≠ gB; omega))).trans (B7b.out.cell 0); go_simp; try with_reducible rfl
            simp only [Act.put, List.setIfInBounds_toArray, List.set_cons_zero, List.set_cons_succ]
            refine wpAnyV_take (i := 9) (oi := ⟨some 110, _, _, _, _, _⟩) (v := (.int .i64 (a : Int))) rfl (by kernel_rfl) (by kernel_rfl) (by kernel_rfl) (fun _ _ _ h => h) (Or.inl ⟨by rfl, ?_⟩) HTS.out.1 ?_
            · intro w' hS; go_simp; try with_reducible rfl
            simp only [Act.put, List.setIfInBounds_toArray, List.set_cons_zero, List.set_cons_succ]
            refine wpAnyV_take (i := 10) (oi := ⟨some 111, _, _, _, _, _⟩) (v := (.pointer (some ⟨gB, a, none⟩))) rfl (by kernel_rfl) (by kernel_rfl) (by kernel_rfl) (fun _ _ _ h => h) (Or.inl ⟨by rfl, ?_⟩) HTS.out.1 ?_
            · intro w' hS; go_simp; try with_reducible rfl
            simp only [Act.put, List.setIfInBounds_toArray, List.set_cons_zero, List.set_cons_succ]
            refine wpAnyV_takeS (i := 11) (oi := ⟨some 112, _, _, _, _, _⟩) (v := (.bool va)) rfl (by kernel_rfl) (by kernel_rfl) (by kernel_rfl) (by kernel_rfl) (fun _ _ _ h => h) (Or.inl ⟨by rfl, ?_⟩) HTS.out ?_
            · intro w' hS; have z0 : w'.cell? ⟨gB, a, none⟩ = some (.bool va) := (World.cell?_of_block (w := D1w) (w' := w') hS.2).trans (CAb.out); go_simp; try with_reducible rfl
            simp only [Act.put, List.setIfInBounds_toArray, List.set_cons_zero, List.set_cons_succ]
            refine wpAnyV_take (i := 12) (oi := ⟨some 113, _, _, _, _, _⟩) (v := (.pointer (some ⟨gB, a, none⟩))) rfl (by kernel_rfl) (by kernel_rfl) (by kernel_rfl) (fun _ _ _ h => h) (Or.inl ⟨by rfl, ?_⟩) HTS.out.1 ?_
            · intro w' hS; go_simp; try with_reducible rfl
            simp only [Act.put, List.setIfInBounds_toArray, List.set_cons_zero, List.set_cons_succ]
            refine wpAnyV_one (i := 13) (o := ⟨none, _, _, _, _, _⟩) rfl (by kernel_rfl) (by rfl) (fun K hK => ?_)
            have BGD : Hid (Blk DD gB 4 (P.map (fB lv))) := Lib.hid (by unfold Blk; rw [hWDD]; exact BGb.out)
            have f1 : DD.frozen? ⟨gB, a, none⟩ = false := BGD.out.frozen a
            have g1 : DD.cell? ⟨gB, a, none⟩ = some (.bool va) := (World.cell?_of_block (w := D1w) (w' := DD) (by rw [hWDD])).trans CAb.out
            go_simp
            refine hK.out _ _ (fun k hk => (Below.heap_setCell DD ⟨gB, a, none⟩ _ k hk).trans (by rw [hWDD])) (fun hn => absurd (by decide) hn) ?_
            clear hK K f1 g1
            have BG1 : Hid (Blk (DD.setCell ⟨gB, a, none⟩ (.bool vb)) gB 4 ((P.map (fB lv)).set a (.bool vb))) := Lib.hid (Blk.set BGD.out a _)
            have HT1 : Hid (∀ k, k ≠ gB → (DD.setCell ⟨gB, a, none⟩ (.bool vb)).heap[k]? = D1w.heap[k]?) := Lib.hid (fun k hk => (Below.heap_setCell DD ⟨gB, a, none⟩ _ k hk).trans (by rw [hWDD]))
            have HB1 : Hid (Fr (fun k => k = gB) D1w (DD.setCell ⟨gB, a, none⟩ (.bool vb)) ∧ KeepsOthers D1w (DD.setCell ⟨gB, a, none⟩ (.bool vb))) := Lib.hid ⟨HDS.out.1.setCell (p := ⟨gB, a, none⟩) (.inl rfl) _, HDS.out.2.trans (KeepsOthers.setCell _ _ _)⟩
            have cb1 : Hid (DD.cell? ⟨gB, b, none⟩ = some (.bool vb)) := Lib.hid ((World.cell?_of_block (w := D1w) (w' := DD) (by rw [hWDD])).trans CBb.out)
            clear BGD HDS HTS hWDD
            generalize DD.setCell ⟨gB, a, none⟩ (.bool vb) = D1 at BG1 HT1 HB1 ⊢
            refine wpAnyV_take (i := 14) (oi := ⟨some 114, _, _, _, _, _⟩) (v := (.pointer (some ⟨gB, b, none⟩))) rfl (by kernel_rfl) (by kernel_rfl) (by kernel_rfl) (fun _ _ _ h => h) (Or.inl ⟨by rfl, ?_⟩) HT1.out ?_
            · intro w' hS; go_simp; try with_reducible rfl
            simp only [Act.put, List.setIfInBounds_toArray, List.set_cons_zero, List.set_cons_succ]
            refine wpAnyV_one (i := 15) (o := ⟨none, _, _, _, _, _⟩) rfl (by kernel_rfl) (by rfl) (fun K hK => ?_)
            have f1 : D1.frozen? ⟨gB, b, none⟩ = false := BG1.out.frozen b
            have g1 : D1.cell? ⟨gB, b, none⟩ = some (.bool vb) := (BG1.out.cell b).trans (by rw [List.getElem?_set_ne HAB.out.2.2, ← BGb.out.cell b]; exact CBb.out)
            go_simp
            refine hK.out _ _ (fun k hk => (Below.heap_setCell D1 ⟨gB, b, none⟩ _ k hk).trans (HT1.out k hk)) (fun hn => absurd (by decide) hn) ?_
            clear hK K f1 g1
            refine wpAnyV_done (by kernel_rfl) ?_ _
            simp only [onN]
            have BGnb : Hid (Blk (D1.setCell ⟨gB, b, none⟩ (.bool va)) gB 4 (((P.map (fB lv)).set a (.bool vb)).set b (.bool va))) := Lib.hid (Blk.set BG1.out b _)
            have HFb : Hid (Fr (fun k => k = gB) D1w (D1.setCell ⟨gB, b, none⟩ (.bool va)) ∧ KeepsOthers D1w (D1.setCell ⟨gB, b, none⟩ (.bool va))) := Lib.hid ⟨HB1.out.1.setCell (p := ⟨gB, b, none⟩) (.inl rfl) _, HB1.out.2.trans (KeepsOthers.setCell _ _ _)⟩
            clear BG1 HT1 HB1 cb1
            generalize D1.setCell ⟨gB, b, none⟩ (.bool va) = D1b at BGnb HFb ⊢
            have HNE : Hid (Nwt KS PV w (some ⟨g, 0, none⟩) n c1 P5 gW P6 gB P7 Bn lv (swapL 0 P a b) D1b) := Lib.hid (by
              have hbn : b ≠ a := fun e => HAB.out.2.2 e.symm
              have e1 : swapL 0 P a b = (P.set a q).set b p := by rw [HSW2.out, List.set_comm _ _ hbn]
              have e2 : (swapL 0 P a b).map (fW lv n) = ((P.map (fW lv n)).set a (.int .i64 zb)).set b (.int .i64 za) := by rw [← HZA.out, ← HZB.out, HSW2.out, List.map_set, List.map_set, List.set_comm _ _ hbn]
              have e3 : (swapL 0 P a b).map (fB lv) = ((P.map (fB lv)).set a (.bool vb)).set b (.bool va) := by rw [← HVA.out, ← HVB.out, HSW2.out, List.map_set, List.map_set, List.set_comm _ _ hbn]
              have hl2 : (swapL 0 P a b).length = n := by rw [e1]; simp; exact HPL.out.1
              have o1 : Blk D1o g 54 (thF KS PV (swapL 0 P a b) ++ rest) := by rw [e1]; exact BGno.out
              have o2 := OwnT.mk HGE.out ((o1.fr HFw.out.1 HDfw.out.2.2.2.2.2).fr HFb.out.1 HDfb.out.2.2.2.2.2) (by rw [hl2, ← HPL.out.1]; exact HCL.out.1) HCL.out.2
              rw [hl2] at o2
              have hlo : ∀ k, k = g ∨ k = gW ∨ k = gB → w.heap.size ≤ k := fun k hk => by have := HGP.out; have := HO.out.lo_; have := HO.out.w_; have := HO.out.b_; omega
              have f0 : Below w.heap.size w D1b := ((HND.out.bel.trans (HFo.out.1.below HND.out.bel.size (fun k hk => hlo k (.inl hk)))).trans (HFw.out.1.below (Nat.le_trans HND.out.bel.size HFo.out.1.size) (fun k hk => hlo k (.inr (.inl hk))))).trans (HFb.out.1.below (Nat.le_trans (Nat.le_trans HND.out.bel.size HFo.out.1.size) HFw.out.1.size) (fun k hk => hlo k (.inr (.inr hk))))
              exact ⟨o2, ((HND.out.b5.fr HFo.out.1 HDfo.out.1).fr HFw.out.1 HDfw.out.1).fr HFb.out.1 HDfb.out.1, by rw [e2]; exact BGnw.out.fr HFb.out.1 HDfb.out.2.2.1, B6w.out.fr HFw.out.1 HDfw.out.2.1 |>.fr HFb.out.1 HDfb.out.2.1, by rw [e3]; exact BGnb.out, B7b.out.fr HFb.out.1 HDfb.out.2.2.2.1,
                ((HND.out.bn.fr HFo.out.1 HDfo.out.2.2.2.2.2).fr HFw.out.1 HDfw.out.2.2.2.2.1).fr HFb.out.1 HDfb.out.2.2.2.2.1, f0⟩)
            have HKB : Hid (D1b.heap[Bn]? = W.heap[Bn]?) := Lib.hid (HNE.out.bn.trans (HND.out.bn.symm.trans HKO.out.2))
            try gi_wp2
            exact ⟨(((HKO.out.1.trans HFo.out.2).trans HFw.out.2).trans HFb.out.2).from _, HKB.out, by have h := HNE.out; rw [← HPE.out] at h; exact h⟩
          · rw [if_neg hbit] at hba
            have HPE : Hid (shG (lvL lv n) (List.range n) (hvals (pre ++ [⟨((a : Int), (b : Int)), hx⟩])) = P) := Lib.hid (HSTP.out _ (by rw [HGo.out, HGX.out, if_neg (by simp; omega)]))
            clear HGo HGX
            gi_wp2
            exact ⟨HKO.out.1.from _, HKO.out.2, by have h := HND.out; rw [← HPE.out] at h; exact h⟩
      case done =>
        rintro D xs' W hD hxs hN hK
        have HPE : Hid (shG (lvL lv n) (List.range n) (hvals xs') = shF (lvL lv n)) := Lib.hid (by unfold shF; rw [lvL_len, show hvals xs' = hops (n : Int) from hxs])
        rw [HPE.out] at hN
        have c5 : W.cell? ⟨P5, 0, none⟩ = some (.slice A1 n c1) := hN.b5.cell 0
        have HKD := Lib.hid hK
        have HNN := Lib.hid hN
        have HDD : Hid (Bn < D) := Lib.hid (by have := HSW.out; omega)
        clear hN hK hxs hD
        gi_wp2
        refine leave36 W D _ rfl HKD.out ?_
        have hO := HO.out
        have hb : Below w.heap.size w (W.putObj D (.deferred none)) := HNN.out.bel.trans (belowK_b (w := wL) (n₀ := w.heap.size) HNT0.out.bel.size W D _ _ (by have := HSW.out; have := HDD.out; omega) HKD.out rfl rfl)
        exact ⟨_, rfl, HNN.out.ow.fr ((Fr.refl (fun b => b = D) W).grown (grownBy_putObj' W D (.deferred none)) (fun k e => by cases e; exact .inl rfl)) (fun g hg e => by have := (hO.ow g hg).2; have := hO.p7; have := HDD.out; have := HBP.out; omega), hb⟩
      case stop =>
        rintro D cd pre W hD hsp hf
        exact hf.elim
end Go.Proofs.Ytpglocgfdonmaaa

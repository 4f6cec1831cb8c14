/-
  Walks: the closure that the law NetworkShifts hands over, and its own 'shifted'.
-/
import Derived.Test.YtpglocgfdonmaaaSh
set_option linter.unusedVariables false
set_option linter.unusedSimpArgs false
namespace Go.Proofs.Ytpglocgfdonmaaa
open Go.RowKit Go.Shelf

def evF (x : Int) : Bool := x.tmod 2 == 0
def SHF (xs : List Int) : List Int := (SHL (xs.map evF)).map fun p => xs.getD p 0
theorem evL (xs : List Int) {n : Nat} (hn : n = xs.length) : lvL (fun k => evF (xs.getD k 0)) n = xs.map evF := by
  subst hn
  apply List.ext_getElem?
  intro i
  unfold lvL
  rw [List.getElem?_map, List.getElem?_map]
  rcases Nat.lt_or_ge i xs.length with h | h
  · simp [h]
  · simp [h]
/-- What is known of the row of those asked. -/
def Askd (base Ba : Nat) (CS : Nat → Prop) (pre xs : List Int) (hi k : Nat) (W : World) : Prop :=
  ∃ A m c, Blk W Ba 39 [.slice A m c] ∧ Own W base 3 .i64 (.slice A m c) (pre ++ xs.take k) ∧ (∀ g, (Value.slice A m c).ownBlock = some g → CS g ∨ hi ≤ g)
theorem pushed_at {w w' : World} {v v' : Value} (h : Pushed w w' v v') {g : Nat} (hg : v'.ownBlock = some g) : v.ownBlock = some g ∨ w.heap.size ≤ g := by
  rcases h.block with h1 | ⟨k, h1, h2⟩
  · exact .inl (h1 ▸ hg)
  · rw [h1] at hg
    injection hg with hg
    exact .inr (hg ▸ h2)
theorem OwnV.toI {w : World} {base : Nat} {v : Value} {xs : List Int} {y : Int} (h : OwnV w base 3 v (xs.map (Value.int .i64) ++ [.int .i64 y])) : Own w base 3 .i64 v (xs ++ [y]) := h.toOwn1

set_option maxHeartbeats 2000000 in
theorem live_asks (base Ba lo : Nat) (CS : Nat → Prop) (pre xs : List Int) (hlen : (pre.length + xs.length) * 8 ≤ 140737488355328) (hx : ∀ i, R64 (xs.getD i 0)) (hb : base ≤ lo) (hBa : CS Ba) (hlow : ∀ b, CS b → b < lo) :
    Asks 33 #[.pointer (some ⟨Ba, 0, none⟩)] xs (fun k => evF (xs.getD k 0)) lo CS (Askd base Ba CS pre xs) := by
  refine ⟨hlow, ?_, ?_⟩
  · rintro hi k W W' ⟨A, m, c, h1, h2, h3⟩ hf
    refine ⟨A, m, c, h1.fr hf (fun h => ?_), h2.fr hf (fun g hg h => ?_), h3⟩
    · have := hlow Ba hBa; omega
    · rcases h3 g hg with h4 | h4
      · have := hlow g h4; omega
      · omega
  · rintro hi k W hlo hhi hk ⟨A, m, c, h1, h2, h3⟩
    have HV : Hid (OwnV W base 3 (.slice A m c) ((pre ++ xs.take k).map (Value.int .i64))) := Lib.hid h2.toV
    have HBA := Lib.hid h1
    have H3 := Lib.hid h3
    have HTK : Hid (pre ++ xs.take (k + 1) = (pre ++ xs.take k) ++ [xs.getD k 0]) := Lib.hid (by rw [take_snocI xs k hk, List.append_assoc])
    have HL : Hid ((((pre ++ xs.take k).map (Value.int .i64)).length + 1) * 8 ≤ 140737488355328) := Lib.hid (by simp; omega)
    have hc0 : W.cell? ⟨Ba, 0, none⟩ = some (.slice A m c) := h1.cell 0
    have hf0 : W.frozen? ⟨Ba, 0, none⟩ = false := h1.frozen 0
    have hr := hx k
    have HBL : Hid (base ≤ W.heap.size) := Lib.hid (by omega)
    have HHI := Lib.hid hhi
    have HCB : Hid (CS Ba ∧ Ba < W.heap.size) := Lib.hid ⟨hBa, h1.lt⟩
    have HLOW := Lib.hid hlow
    have HLO := Lib.hid hlo
    have HNB : Hid (∀ g, (Value.slice A m c).ownBlock = some g → g ≠ Ba) := Lib.hid (fun g hg => by
      rcases h2.form with ⟨h4, h5⟩ | ⟨g', c', rest, h4, h5, h6, h7, h8⟩
      · rw [h4] at hg; cases hg
      · rw [h4] at hg
        injection hg with hg
        subst hg
        exact Blk.ne h6 h1 (by decide))
    obtain ⟨x, hxx⟩ : ∃ x, x = xs.getD k 0 := ⟨_, rfl⟩
    have HX := Lib.hid hxx
    rw [← hxx] at hr ⊢
    have HE : Hid (evF (xs.getD k 0) = (x.tmod 2 == 0)) := Lib.hid (by rw [← hxx]; rfl)
    clear h1 h2 h3 hxx hx hlen hk hb hBa hlow hhi hlo
    unfold R64 at hr
    have hm : -2 < x.tmod 2 ∧ x.tmod 2 < 2 := by
      have h := Int.natAbs_tmod x 2
      have h2 : x.natAbs % (2 : Int).natAbs < (2 : Int).natAbs := Nat.mod_lt _ (by decide)
      omega
    generalize hrr : x.tmod 2 = r at *
    have h2 : IntKind.i64.wrap r = r := by rw [IntKind.wrap_i64] <;> omega
    go_enter Try.func33, Try.ntmps33
    go_wp2_with (show wpList _ _ _ ({ dst := some 7, op := _, type := _, pos := _, after := _, guard := _ } :: _) _ _; refine wpList_pushV W rfl _ _ 39 rfl base 3 (.int .i64 0) 8 Try.underlying39 info3 rfl (.int .i64 x) rfl rfl _ _ rfl rfl HV.out HL.out (by decide) HBL.out ?_; intro v' w1 ho hp; obtain ⟨A1, k1, c1, rfl⟩ : ∃ A1 k1 c1, v' = .slice A1 k1 c1 := (by obtain ⟨A', c', h, -⟩ := ho.slice; exact ⟨_, _, _, h⟩); have O1 := Lib.hid ho.toI; have HP := Lib.hid hp; have B1 := Lib.hid (HBA.out.fr hp.fr (fun h => HNB.out _ h rfl)); have cA1 := B1.out.cell 0; have cA2 := B1.out.frozen 0; clear ho hp hc0 hf0; simp only [List.getElem?_cons_zero] at cA1)
    go_ret
    have hne : ∀ g, (Value.slice A1 k1 c1).ownBlock = some g → g ≠ Ba := fun g hg => by
      rcases pushed_at HP.out hg with h | h
      · exact HNB.out g h
      · have := HCB.out.2; omega
    refine ⟨by rw [HX.out, HE.out]; rfl, ⟨A1, k1, c1, Blk.set B1.out 0 _, ?_, fun g hg => ?_⟩, ?_⟩
    · rw [HTK.out, ← HX.out]
      exact O1.out.fr ((Fr.refl (fun b => b = Ba) w1).setCell (p := ⟨Ba, 0, none⟩) (.inl rfl) _) (fun g hg e => hne g hg e)
    · rcases pushed_at HP.out hg with h | h
      · exact H3.out g h
      · exact .inr (by have := HHI.out; omega)
    · exact (HP.out.fr.mono (fun g hg => H3.out g hg)).setCell (p := ⟨Ba, 0, none⟩) (.inl (.inl HCB.out.1)) _

theorem SHL_len_le (L : List Bool) : (SHL L).length ≤ L.length := by
  unfold SHL
  split
  · rw [shF_len]; exact Nat.le_refl _
  · simp
theorem SHL_lt (L : List Bool) (j : Nat) (h : j < (SHL L).length) : (SHL L).getD j 0 < L.length := by
  unfold SHL at h ⊢
  split at h
  · rename_i h1
    rw [if_pos h1]
    rw [shF_len] at h
    exact (Pl.shF L).2 j h
  · simp at h
def outN (xs : List Int) (S : List Nat) (j : Nat) : List Int := (S.take j).map fun p => xs.getD p 0
theorem outN_succ (xs : List Int) (S : List Nat) {j : Nat} (h : j < S.length) : outN xs S (j + 1) = outN xs S j ++ [xs.getD (S.getD j 0) 0] := by
  unfold outN
  rw [List.take_add_one, List.map_append, List.getD_eq_getElem?_getD, List.getD_eq_getElem?_getD, List.getElem?_eq_getElem h]
  simp
theorem outN_len (xs : List Int) (S : List Nat) (j : Nat) : (outN xs S j).length ≤ S.length := by simp [outN]; omega
theorem tm2 (x : Int) : -2 < x.tmod 2 ∧ x.tmod 2 < 2 := by
  have h := Int.natAbs_tmod x 2
  have h2 : x.natAbs % (2 : Int).natAbs < (2 : Int).natAbs := Nat.mod_lt _ (by decide)
  omega

set_option maxHeartbeats 4000000 in
/-- the law's own 'shifted' -/
theorem shifted_any (A : Option Addr) (n c : Nat) (xs : List Int) (w : World) (hn : n = xs.length) (hr : Rd w .i64 A xs) (hl : xs.length ≤ 17592186044000) (hx : ∀ i, R64 (xs.getD i 0)) :
    Calls Try.prog 34 #[.slice A n c] w (Made 3 .i64 (SHF xs) w) := by
  have HR := Lib.hid hr
  have HN := Lib.hid hn
  have HX := Lib.hid hx
  have O0 : Hid (OwnV w w.heap.size 4 (.slice none 0 0) (((xs.map evF).take 0).map Value.bool)) := Lib.hid (OwnV.nil w w.heap.size 4)
  have HNL : Hid (n = (xs.map evF).length) := Lib.hid (by rw [hn]; simp)
  clear hr hn hx
  go_enter Try.func34, Try.ntmps34
  go_wp2_with fail
  go_loopw [3, 4] (fun v iv wr => ∃ i : Nat, i ≤ n ∧ iv = .int .i64 (i : Int) ∧ Hid (OwnV wr w.heap.size 4 v (((xs.map evF).take i).map Value.bool)) ∧ Hid (Below w.heap.size w wr)) (fun _ iv _ => n - (intOf iv).toNat)
  case atStart => exact ⟨0, Nat.zero_le _, rfl, O0, Lib.hid (Below.refl _ _)⟩
  case round =>
    clear O0
    obtain ⟨i, hi, rfl, HO, HB⟩ := hrel
    by_cases hlt : i < n
    · have hlt' : (i : Int) < (n : Int) := by omega
      have hix : i < xs.length := by rw [← HN.out]; exact hlt
      obtain ⟨b, off, x, rfl, hc, HXX⟩ := (HR.out.below (w' := wr) HB.out).at i hix
      have HT : Hid (((xs.map evF).take (i + 1)).map Value.bool = ((xs.map evF).take i).map Value.bool ++ [.bool (x.tmod 2 == 0)]) := Lib.hid (by
        rw [List.take_add_one, List.map_append, List.getElem?_map, List.getElem?_eq_getElem hix, HXX.out, List.getD_eq_getElem?_getD, List.getElem?_eq_getElem hix]
        rfl)
      have hxr := HX.out i
      rw [← HXX.out] at hxr
      have htm := tm2 x
      have HC1 : Hid (((((xs.map evF).take i).map Value.bool).length + 1) * 1 ≤ 140737488355328) := Lib.hid (by simp; omega)
      have m1 : IntKind.i64.wrap ((i : Int) + 1) = ((i + 1 : Nat) : Int) := by rw [IntKind.wrap_i64] <;> omega
      generalize hrr : x.tmod 2 = r at *
      have h2 : IntKind.i64.wrap r = r := by rw [IntKind.wrap_i64] <;> omega
      clear hxr htm
      go_wp2_with (show wpList _ _ _ ({ dst := some 22, op := _, type := _, pos := _, after := _, guard := _ } :: _) _ _; refine wpList_pushV wr rfl _ _ 59 rfl w.heap.size 4 (.bool false) 1 Try.underlying59 info4 rfl (.bool (r == 0)) rfl rfl _ _ rfl rfl HO.out HC1.out (by decide) HB.out.size ?_; intro v' w1 ho hp; have O1 := Lib.hid ho; have B1 : Hid (Below w.heap.size w w1) := Lib.hid (HB.out.trans (hp.fr.below HB.out.size (fun g hg => (HO.out.base_le hg).1))); clear ho hp)
      go_roundw
      case rel => exact ⟨i + 1, by omega, by simp, by rw [HT.out]; exact O1, B1⟩
      case measure => simp [intOf]; omega
    · obtain rfl : n = i := by omega
      have hge : decide ((n : Int) < (n : Int)) = false := by simp
      obtain ⟨LA, lc, hlv, -, -, hrl, -⟩ := HO.out.slice
      have hll : (((xs.map evF).take n).map Value.bool).length = n := by rw [List.length_map, List.length_take, ← HNL.out]; simp
      rw [hll] at hlv
      subst hlv
      have HRL : Hid (RdV wr LA ((xs.map evF).map Value.bool)) := Lib.hid (by
        have h := hrl
        rw [HNL.out, List.take_length] at h
        exact h)
      have HSH := Lib.hid (rshift_any LA n lc (xs.map evF) wr HNL.out HRL.out (by rw [← HNL.out, HN.out]; exact hl))
      have HLL : Hid ((SHL (xs.map evF)).length ≤ n) := Lib.hid (by have := SHL_len_le (xs.map evF); rw [← HNL.out] at this; exact this)
      have HSL : Hid (∀ j, j < (SHL (xs.map evF)).length → (SHL (xs.map evF)).getD j 0 < n) := Lib.hid (fun j hj => by have := SHL_lt (xs.map evF) j hj; rw [← HNL.out] at this; exact this)
      have HSF : Hid (SHF xs = (SHL (xs.map evF)).map fun p => xs.getD p 0) := Lib.hid rfl
      generalize SHL (xs.map evF) = S at *
      clear hlt hi hll hrl HRL HO
      go_wp2_with fail
      refine HSH.out.mono ?_
      rintro e w2 ⟨v2, rfl, ho, hb⟩
      obtain ⟨PA, pc, rfl, -, -, hrp, -⟩ := ho.slice
      rw [natI_len]
      have B2 : Hid (Below w.heap.size w w2) := Lib.hid (HB.out.trans (hb.mono HB.out.size))
      have HRP : Hid (∀ j, j < S.length → ∃ b off, PA = some ⟨b, off, none⟩ ∧ b < w2.heap.size ∧ w2.cell? ⟨b, off + j, none⟩ = some (.int .i64 ((S.getD j 0 : Nat) : Int))) := Lib.hid (fun j hj => by
        obtain ⟨b, off, hA, hcc⟩ := hrp j (by rw [natI_len]; exact hj)
        rw [natI_at S j hj] at hcc
        exact ⟨b, off, hA, World.block_lt_of_cell? w2 _ hcc, hcc⟩)
      have O2 : Hid (Own w2 w2.heap.size 3 .i64 (.slice none 0 0) (outN xs S 0)) := Lib.hid (Own.nil _ _ _ _)
      clear ho hb hrp HSH HB
      go_wp2_with fail
      go_loopw [6, 7] (fun v jv wr => ∃ j : Nat, j ≤ S.length ∧ jv = .int .i64 (j : Int) ∧ Hid (Own wr w2.heap.size 3 .i64 v (outN xs S j)) ∧ Hid (Below w2.heap.size w2 wr)) (fun _ jv _ => S.length - (intOf jv).toNat)
      case atStart => exact ⟨0, Nat.zero_le _, rfl, O2, Lib.hid (Below.refl _ _)⟩
      case round =>
        clear O2
        obtain ⟨j, hj, rfl, HO, HB⟩ := hrel
        by_cases hjl : j < S.length
        · have hjl' : (j : Int) < (S.length : Int) := by omega
          obtain ⟨pb, po, rfl, hpb, hpc⟩ := HRP.out j hjl
          have hps := HSL.out j hjl
          have HOS := Lib.hid (outN_succ xs S hjl)
          have hOL := outN_len xs S j
          have hcp : wr.cell? ⟨pb, po + j, none⟩ = some (.int .i64 ((S.getD j 0 : Nat) : Int)) := (HB.out.cell (p := ⟨pb, po + j, none⟩) hpb).trans hpc
          generalize S.getD j 0 = p at *
          obtain ⟨b, off, x, rfl, hc, HXX⟩ := (HR.out.below (w' := wr) (B2.out.trans (HB.out.mono B2.out.size))).at p (by rw [← HN.out]; exact hps)
          have hp' : (p : Int) < (n : Int) := by omega
          have HC1 : Hid (((outN xs S j).length + 1) * 8 ≤ 140737488355328) := Lib.hid (by have := HN.out; have := HLL.out; omega)
          have m1 : IntKind.i64.wrap ((j : Int) + 1) = ((j + 1 : Nat) : Int) := by have := HN.out; have := HLL.out; rw [IntKind.wrap_i64] <;> omega
          rw [← HXX.out] at HOS
          clear hpc hOL hps
          go_wp2_with (show wpList _ _ _ ({ dst := some 40, op := _, type := _, pos := _, after := _, guard := _ } :: _) _ _; refine wpList_push wr rfl _ _ 39 rfl w2.heap.size 3 .i64 8 Try.underlying39 info3 _ rfl _ _ rfl rfl HO.out HC1.out (by decide) HB.out.size ?_; intro v' w3 ho hf; have O1 := Lib.hid ho; have B1 : Hid (Below w2.heap.size w2 w3) := Lib.hid (HB.out.trans (hf.below HB.out.size (fun g hg => (HO.out.base_le hg).1))); clear ho hf)
          go_roundw
          case rel => exact ⟨j + 1, by omega, by simp, by rw [HOS.out]; exact O1, B1⟩
          case measure => simp [intOf]; omega
        · have hje : j = S.length := by omega
          have hge2 : decide ((j : Int) < (S.length : Int)) = false := by simp; omega
          have HE : Hid (Own wr w.heap.size 3 .i64 u6 (SHF xs)) := Lib.hid (by
            have h := HO.out
            rw [hje] at h
            unfold outN at h
            rw [List.take_length, ← HSF.out] at h
            exact h.lower B2.out.size)
          have HBE : Hid (Below w.heap.size w wr) := Lib.hid (B2.out.trans (HB.out.mono B2.out.size))
          clear HO HB
          go_wp2_with fail
          go_ret
          exact ⟨_, rfl, HE.out, HBE.out⟩
end Go.Proofs.Ytpglocgfdonmaaa

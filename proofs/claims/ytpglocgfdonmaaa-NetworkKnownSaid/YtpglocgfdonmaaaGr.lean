/-
  Walk: the document's Gates.
-/
import Derived.Test.YtpglocgfdonmaaaGl
set_option linter.unusedVariables false
set_option linter.unusedSimpArgs false
namespace Go.Proofs.Ytpglocgfdonmaaa
open Go.RowKit

theorem flat_append : ∀ xs ys, flat (xs ++ ys) = flat xs ++ flat ys
  | [], ys => rfl
  | x :: xs, ys => by simp only [List.cons_append, flat, flat_append xs ys]
theorem flat_one : ∀ xs, ∀ u ∈ flat xs, u.oneCell' = true
  | [], u, h => by simp [flat] at h
  | x :: xs, u, h => by
    simp only [flat, List.mem_cons] at h
    rcases h with rfl | rfl | h
    · rfl
    · rfl
    · exact flat_one xs u h
theorem RdP.cells {w : World} {b off : Nat} {ys : List (Int × Int)} (h : RdP w (some ⟨b, off, none⟩) ys) : ∀ j u, (flat ys)[j]? = some u → w.cell? ((⟨b, off, none⟩ : Addr).add j) = some u := by
  intro j u hu
  have hj : j < ys.length * 2 := by
    rw [← flat_len]
    exact (List.getElem?_eq_some_iff.1 hu).1
  obtain ⟨b1, o1, hA, -, h0, h1⟩ := h (j / 2) (by omega)
  simp only [Option.some.injEq, Addr.mk.injEq, and_true] at hA
  obtain ⟨rfl, rfl⟩ := hA
  obtain ⟨f0, f1⟩ := flat_at ys (j / 2) (by omega)
  rw [addN]
  rcases Nat.mod_two_eq_zero_or_one j with hm | hm
  · have e : j / 2 * 2 = j := by omega
    rw [e] at f0 h0
    rw [h0, ← f0, hu]
  · have e : j / 2 * 2 + 1 = j := by omega
    rw [e] at f1
    rw [show off + j = off + j / 2 * 2 + 1 from by omega, h1, ← f1, hu]
/-- append(v, ys...) -/
theorem wpList_flatP {P : Program} {w : World} {ops : Array Oper} {rest : List Oper} {o : Oper} {a : Act} {Q : Exit → Act → World → Prop} (hgd : o.guard = none) (s x : Operand) (t : TypeId)
    (ho : o.op = Op.call { callee := Callee.builtin Builtin.append, args := #[s, x], argTypes := #[t, t] })
    (base : Nat) (e : TypeId) (z : Value) (hz : z.cells.size = 2) (ht : P.underlying t = some (.slice e)) (hinfo : (P.info? e).map (fun i => (i.zero, i.size, i.bytes)) = some (some z, 2, 16))
    (v : Value) (xs : List (Int × Int)) (hs : a.eval s = v) (hown : OwnP w base e v xs) (b off c m : Nat) (ys : List (Int × Int)) (hx : a.eval x = .slice (some ⟨b, off, none⟩) m c) (hm : m = ys.length) (hr : RdP w (some ⟨b, off, none⟩) ys)
    (hlen : xs.length + ys.length ≤ 400000000) (hbase : base ≤ w.heap.size)
    (h : ∀ v' w', OwnP w' base e v' (xs ++ ys) → Fr (fun g => v.ownBlock = some g) w w' → wpList P ops Q rest (a.put o.dst v') w') :
    wpList P ops Q (o :: rest) a w := by
  subst hm
  obtain ⟨i0, hi, hz0, hz1, hz2⟩ := info_parts hinfo
  refine wpList_append_own w hgd s x t ho base e i0 z 2 16 ht hi hz0 hz1 hz2 hz (by decide) v xs.length (flat xs) hs hown ⟨b, off, none⟩ ys.length c (flat ys) hx (flat_len ys) hr.cells (flat_one ys) (by unfold maxLen; omega) (by omega) hbase (fun v' w' hown' hgrow _ => h v' w' ?_ ?_)
  · unfold OwnP; rw [flat_append, List.length_append]; exact hown'
  · exact (Fr.refl _ w).grown hgrow (fun g hg => .inl hg)

set_option maxRecDepth 100000 in
set_option maxHeartbeats 8000000 in
theorem rgates_any (N : Int) (w : World) : Calls Try.prog 15 #[.int .i64 N] w fun e w' => ∃ v, e = .returned v ∧ OwnP w' w.heap.size 38 v (gatesF N) ∧ Below w.heap.size w w' := by
  have HL := Lib.hid (gates_len N)
  have HG : Hid (gatesF N = (layersF N).flatten) := Lib.hid rfl
  have HC := Lib.hid (rlayers_any N w)
  generalize layersF N = rows at *
  generalize gatesF N = G at *
  go_enter Try.func15, Try.ntmps15
  go_wp2_with fail
  refine (HC.out).mono ?_
  rintro e w1 ⟨v, rfl, hlay, hb⟩
  obtain ⟨cs, ho, hcl, hrow, hne⟩ := hlay
  obtain ⟨A, c, rfl, -, -, hrd, hab⟩ := ho.slice
  have HROW := Lib.hid hrow
  have HNE := Lib.hid hne
  have HRD := Lib.hid hrd
  have HB1 := Lib.hid hb
  have HCL : Hid (cs.length = rows.length) := Lib.hid hcl
  rw [hcl]
  have hn289 := HL.out.2
  clear HC ho hrow hne hrd hb hab hcl
  go_wp2_with fail
  go_loopw [3, 5] (fun ov iv wr => ∃ i : Nat, iv = .int .i64 (i : Int) ∧ i ≤ rows.length ∧ Hid (OwnP wr w1.heap.size 38 ov (rows.take i).flatten) ∧ Hid (Below w1.heap.size w1 wr)) (fun _ iv _ => ((rows.length : Int) - intOf iv).toNat)
  case atStart => exact ⟨0, rfl, by omega, Lib.hid (World.ownsRow_nil _ _ _ _), Lib.hid (Below.refl _ _)⟩
  case round =>
    obtain ⟨i, rfl, hi, HO, HB⟩ := hrel
    by_cases hin : i < rows.length
    · obtain ⟨b, off, hA, hcell⟩ := HRD.out i (by rw [HCL.out]; exact hin)
      subst hA
      have hrow := HROW.out i hin
      obtain ⟨Ar, cr, hv, hrr⟩ := hrow.slice
      have hnr : rows.getD i [] ≠ [] := HNE.out _ (by rw [List.getD_eq_getElem?_getD, List.getElem?_eq_getElem hin]; simp)
      obtain ⟨br, offr, hAr, -, -, -⟩ := hrr 0 (by have := List.length_pos_iff.2 hnr; omega)
      subst hAr
      have HRR : Hid (RdP wr (some ⟨br, offr, none⟩) (rows.getD i [])) := Lib.hid (hrr.below HB.out)
      have HT : Hid ((rows.take (i + 1)).flatten = (rows.take i).flatten ++ rows.getD i []) := Lib.hid (by
        rw [List.take_add_one, List.flatten_append, List.getD_eq_getElem?_getD, List.getElem?_eq_getElem hin]; simp)
      have hlen : (rows.take i).flatten.length + (rows.getD i []).length ≤ 400000000 := by
        have h1 := HL.out.1
        rw [HG.out] at h1
        have h2 : rows.flatten = (rows.take (i + 1)).flatten ++ (rows.drop (i + 1)).flatten := by rw [← List.flatten_append, List.take_append_drop]
        rw [h2, HT.out, List.length_append, List.length_append] at h1
        omega
      have hcl : b < w1.heap.size := by
        rw [List.getElem?_eq_getElem (by rw [HCL.out]; exact hin)] at hcell
        exact World.block_lt_of_cell? w1 _ hcell
      have hc2 : wr.cell? ⟨b, off + i, none⟩ = some (.slice (some ⟨br, offr, none⟩) (rows.getD i []).length cr) := by
        rw [(HB.out.cell (p := ⟨b, _, none⟩) hcl).trans hcell, ← hv, List.getD_eq_getElem?_getD, List.getElem?_eq_getElem (by rw [HCL.out]; exact hin)]
        rfl
      generalize hR : rows.getD i [] = R at *
      generalize hrl : R.length = rl at *
      have HRL := Lib.hid hrl
      have hws : w1.heap.size ≤ wr.heap.size := HB.out.size
      clear hcell hrow hrr hnr hv hR hcl hrl
      obtain ⟨w2, rfl⟩ : ∃ w2 : World, w2 = wr := ⟨_, rfl⟩
      go_wp2_with (show wpList _ _ _ ({ dst := some 19, op := _, type := _, pos := _, after := _, guard := _ } :: _) _ _; refine wpList_flatP rfl _ _ 32 rfl w1.heap.size 38 _ rfl Try.underlying32 info38 u3 _ rfl HO.out br offr cr rl R rfl HRL.out.symm HRR.out (by rw [HRL.out]; exact hlen) hws ?_; intro v' w3 ho hf; have HO2 : Hid (OwnP w3 w1.heap.size 38 v' (rows.take (i + 1)).flatten) := Lib.hid (by rw [HT.out]; exact ho); have HB2 : Hid (Below w1.heap.size w1 w3) := Lib.hid (HB.out.trans (hf.below (B := w1.heap.size) hws (fun j hj => (World.ownsRow.lt HO.out j hj).1))); clear ho hf)
      go_roundw
      case rel => exact ⟨i + 1, by simp, by omega, HO2, HB2⟩
      case measure => simp [intOf]; omega
    · have hie : i = rows.length := by omega
      have HE : Hid (OwnP wr w.heap.size 38 u3 G) := Lib.hid (by
        have := HO.out
        rw [hie, List.take_length] at this
        rw [HG.out]
        exact this.lower HB1.out.size)
      clear HO
      go_wp2_with fail
      go_ret
      exact ⟨_, rfl, HE.out, HB1.out.trans (HB.out.mono HB1.out.size)⟩
end Go.Proofs.Ytpglocgfdonmaaa

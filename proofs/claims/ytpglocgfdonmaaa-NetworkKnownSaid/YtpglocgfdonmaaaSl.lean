/-
  Walk: the law NetworkSorts.
-/
import Derived.Test.YtpglocgfdonmaaaRs
import Derived.Deep.Cut
set_option linter.unusedVariables false
set_option linter.unusedSimpArgs false
namespace Go.Proofs.Ytpglocgfdonmaaa
open Go.RowKit Go.Shelf

def okN (n : Nat) : Bool := sizeB (n : Int) || n == 0
def kF (n : Nat) : Int := if okN n = true then 0 else 170
def SF (lt : Int → Int → Bool) (xs : List Int) : List Int := if okN xs.length = true then sortF 0 lt xs else []
theorem ok_yes {n : Nat} (h : okN n = true) : sizeB (n : Int) = true ∨ n = 0 := by
  unfold okN at h
  rw [Bool.or_eq_true] at h
  rcases h with h | h
  · exact .inl h
  · exact .inr (by simpa using h)
theorem ok_no {n : Nat} (h : ¬ okN n = true) : sizeB (n : Int) = false ∧ 0 < n := by
  unfold okN at h
  rw [Bool.or_eq_true] at h
  refine ⟨?_, ?_⟩
  · cases hs : sizeB (n : Int)
    · rfl
    · exact absurd (.inl hs) h
  · rcases Nat.eq_zero_or_pos n with h0 | h0
    · exact absurd (.inr (by simp [h0])) h
    · exact h0
/-- What both Sorts answer. -/
def Ans (n : Nat) (ys : List Int) (W : World) (e : Ending) (w' : World) : Prop := ∃ A k c, e = .returned (.tuple #[.slice A k c, .int .i64 (kF n)]) ∧ Hid (k = ys.length) ∧ Hid (Own w' W.heap.size 3 .i64 (.slice A k c) ys) ∧ Hid (Below W.heap.size W w')
theorem ans_of {n : Nat} {ys : List Int} {W : World} {v : Value} {w' : World} (ho : Own w' W.heap.size 3 .i64 v ys) (hb : Below W.heap.size W w') : Ans n ys W (.returned (.tuple #[v, .int .i64 (kF n)])) w' := by
  obtain ⟨A, c, rfl, -⟩ := ho.slice
  exact ⟨A, _, c, rfl, Lib.hid rfl, Lib.hid ho, Lib.hid hb⟩
theorem sort_all (A : Option Addr) (n c : Nat) (xs : List Int) (m : Int) (B : Nat) (W : World) (hn : n = xs.length) (hr : Rd W .i64 A xs) (hl : xs.length ≤ 17592186044000) (hx : ∀ i, R64 (xs.getD i 0)) (hm : R64 m) (hc : W.cell? ⟨B, 0, none⟩ = some (.int .i64 m)) :
    Calls Try.prog 23 #[.slice A n c, .func (.func 20) #[] #[.pointer (some ⟨B, 0, none⟩)]] W (Ans n (SF (befF m) xs) W) := by
  have hB : B < W.heap.size := World.block_lt_of_cell? W _ hc
  by_cases hok : okN n = true
  · refine (sort_any 20 #[.pointer (some ⟨B, 0, none⟩)] (befF m) A n c xs W hn hr hl hx (enters_of Try.func20 (by kernel_rfl) rfl) (fun W' hW a b ha hb => clos_any a b m B W' ha hb hm ((hW.cell (p := ⟨B, 0, none⟩) hB).trans hc)) (ok_yes hok)).mono ?_
    rintro e w' ⟨v, rfl, ho, hb⟩
    rw [show (0 : Int) = kF n from by unfold kF; rw [if_pos hok]]
    exact ans_of (by unfold SF; rw [← hn, if_pos hok]; exact ho) hb
  · obtain ⟨h1, h2⟩ := ok_no hok
    refine (sort_no 20 #[.pointer (some ⟨B, 0, none⟩)] A n c W h2 h1 (by omega)).mono ?_
    rintro e w' ⟨rfl, hb⟩
    rw [show (170 : Int) = kF n from by unfold kF; rw [if_neg hok]]
    exact ans_of (by unfold SF; rw [← hn, if_neg hok]; exact Own.nil _ _ _ _) hb
theorem rsort_all (A : Option Addr) (n c : Nat) (xs : List Int) (m : Int) (W : World) (hn : n = xs.length) (hr : Rd W .i64 A xs) (hl : xs.length ≤ 17592186044000) (hx : ∀ i, R64 (xs.getD i 0)) (hm : R64 m) :
    Calls Try.prog 22 #[.slice A n c, .int .i64 m] W (Ans n (SF (befF m) xs) W) := by
  by_cases hok : okN n = true
  · refine (rsort_any A n c xs m W hn hr hl hx hm (ok_yes hok)).mono ?_
    rintro e w' ⟨v, rfl, ho, hb⟩
    rw [show (0 : Int) = kF n from by unfold kF; rw [if_pos hok]]
    exact ans_of (by unfold SF; rw [← hn, if_pos hok]; exact ho) hb
  · obtain ⟨h1, h2⟩ := ok_no hok
    refine (rsort_no A n c m W h2 h1 (by omega)).mono ?_
    rintro e w' ⟨rfl, hb⟩
    rw [show (170 : Int) = kF n from by unfold kF; rw [if_neg hok]]
    exact ans_of (by unfold SF; rw [← hn, if_neg hok]; exact Own.nil _ _ _ _) hb
theorem own_rd {w : World} {base : Nat} {T : TypeId} {A : Option Addr} {k c : Nat} {xs : List Int} (h : Own w base T .i64 (.slice A k c) xs) : Rd w .i64 A xs := by
  obtain ⟨A', c', hv, -, -, hr, -⟩ := h.slice
  injection hv with h1 _ _
  subst h1
  exact hr
def tl : List Int := [-7, -8, -9]
theorem r64_app {xs : List Int} (h : ∀ i, R64 (xs.getD i 0)) (f : Int → Int) (hf : ∀ x, R64 x → R64 (f x)) : ∀ i, R64 ((xs.map f).getD i 0) := fun i => by
  rw [List.getD_eq_getElem?_getD, List.getElem?_map]
  have h1 := h i
  rw [List.getD_eq_getElem?_getD] at h1
  cases hx : xs[i]? with
  | none => unfold R64; simp
  | some x => rw [hx] at h1; exact hf _ h1

theorem app_form {w : World} {base n : Nat} {v : Value} {xs : List Int} (hn : n = xs.length) (h : Own w base 3 .i64 v (xs ++ tl)) :
    ∃ g c rest, v = .slice (some ⟨g, 0, none⟩) (n + 3) c ∧ base ≤ g ∧ Blk w g 3 ((xs ++ tl).map (Value.int .i64) ++ rest) ∧ n + 3 ≤ c ∧ c ≤ maxLen := by
  rcases h.form with ⟨h1, h2⟩ | ⟨g, c, rest, h1, h2, h3, h4, h5⟩
  · exfalso
    have := congrArg List.length h2
    simp [tl] at this
  · have hl : (xs ++ tl).length = n + 3 := by simp [tl, hn]
    rw [hl] at h1 h4
    exact ⟨g, c, rest, h1, h2, h3, by omega, h5⟩
theorem blk_pre {w : World} {g : Nat} {xs ys : List Int} {rest : List Value} (h : Blk w g 3 ((xs ++ ys).map (Value.int .i64) ++ rest)) : Rd w .i64 (some ⟨g, 0, none⟩) xs := fun i hi => by
  refine ⟨g, 0, rfl, ?_⟩
  rw [h.cell]
  simp [List.getElem?_append, hi, List.getD]
theorem eqi_same (A B : Option Addr) (n m c d : Nat) (ys : List Int) (w : World) (hn : n = ys.length) (hm : m = ys.length) (hx : Rd w .i64 A ys) (hy : Rd w .i64 B ys) (hl : ys.length ≤ 9223372036854775807) :
    Calls Try.prog 24 #[.slice A n c, .slice B m d] w fun e w' => e = .returned (.bool true) ∧ Hid (Below w.heap.size w w') := by
  have h := eqi_at A B n m c d ys ys w hn hm hx hy hl hl
  rw [show decide (ys = ys) = true from by simp] at h
  exact h
def xr (x : Int) : Int := bits .xor .i64 x 5
theorem xr_r (x : Int) : R64 (xr x) := by
  unfold xr R64
  show -9223372036854775808 ≤ IntKind.i64.wrap _ ∧ IntKind.i64.wrap _ ≤ 9223372036854775807
  rw [IntKind.wrap_i64]
  omega
def p3 {α : Type} (a b c : α) (j : Nat) : α := if j = 0 then a else if j = 1 then b else c
theorem lt3 {P : Nat → Prop} (h0 : P 0) (h1 : P 1) (h2 : P 2) : ∀ j, j < 3 → P j := fun j hj => by
  have : j = 0 ∨ j = 1 ∨ j = 2 := by omega
  rcases this with rfl | rfl | rfl <;> assumption
/-- Written over up to place i. -/
def xup (xs : List Int) (i : Nat) : List Int := (xs.take i).map xr ++ xs.drop i
theorem xup_len (xs : List Int) (i : Nat) : (xup xs i).length = xs.length := by simp [xup]; omega
theorem xup_zero (xs : List Int) : xup xs 0 = xs := by simp [xup]
theorem xup_all (xs : List Int) : xup xs xs.length = xs.map xr := by simp [xup]
theorem xup_at (xs : List Int) (i : Nat) (h : i < xs.length) : (xup xs i).getD i 0 = xs.getD i 0 := by
  unfold xup
  rw [List.getD_eq_getElem?_getD, List.getElem?_append_right (by simp; omega), List.getElem?_drop, List.getD_eq_getElem?_getD]
  congr 2
  simp
  omega
theorem xup_set (xs : List Int) (i : Nat) (h : i < xs.length) : (xup xs i).set i (xr (xs.getD i 0)) = xup xs (i + 1) := by
  apply List.ext_getElem?
  intro j
  unfold xup
  rw [List.getElem?_set]
  by_cases hj : i = j
  · subst hj
    rw [if_pos rfl, if_pos (by simp; omega), List.getElem?_append_left (by simp; omega), List.getElem?_map, List.getElem?_take, if_pos (by omega), List.getD_eq_getElem?_getD, List.getElem?_eq_getElem h]
    rfl
  · rw [if_neg hj]
    rcases Nat.lt_or_ge j i with h1 | h1
    · rw [List.getElem?_append_left (by simp; omega), List.getElem?_append_left (by simp; omega), List.getElem?_map, List.getElem?_map, List.getElem?_take, List.getElem?_take, if_pos h1, if_pos (by omega)]
    · rw [List.getElem?_append_right (by simp; omega), List.getElem?_append_right (by simp; omega), List.getElem?_drop, List.getElem?_drop]
      congr 1
      simp
      omega

set_option maxRecDepth 100000 in
set_option maxHeartbeats 16000000 in
theorem sorts_law (A : Option Addr) (n c : Nat) (xs : List Int) (m : Int) (w : World) (hn : n = xs.length) (hr : Rd w .i64 A xs) (hl : xs.length ≤ 17592186043904) (hx : ∀ i, R64 (xs.getD i 0)) (hm : R64 m) :
    Calls Try.prog 5 #[.slice A n c, .int .i64 m] w fun e w' => e = .returned (.bool true) ∧ Below w.heap.size w w' := by
  have HN := Lib.hid hn
  have HR := Lib.hid hr
  have HX := Lib.hid hx
  have HM := Lib.hid hm
  have hbt : (xs.length + tl.length) * 8 ≤ 140737488355328 := by simp [tl]; omega
  have F0 : Hid (Below w.heap.size w (w.alloc (.cells #[.int .i64 m] 3))) := Lib.hid ((Below.refl w.heap.size w).alloc (Nat.le_refl _) _)
  have M0 : Hid (Blk (w.alloc (.cells #[.int .i64 m] 3)) w.heap.size 3 [.int .i64 m]) := Lib.hid (Blk.new w 3 [.int .i64 m])
  have HCP : Hid (∀ W, Rd W .i64 A xs → Calls Try.prog 19 #[.slice A n c] W (Made 3 .i64 xs W)) := Lib.hid (fun W hr => by rw [hn]; exact copyi_any A c xs W hr (by omega))
  have S0 : Hid (w.heap.size < (w.alloc (.cells #[.int .i64 m] 3)).heap.size) := Lib.hid (by simp)
  clear hn hr hx hm
  go_enter Try.func5, Try.ntmps5
  go_upto_region 1 with fail
  generalize (w.alloc (.cells #[.int .i64 m] 3)) = w0 at *
  go_wp2_with fail
  refine (HCP.out w0 (HR.out.below F0.out)).mono ?_
  rintro e w1 ⟨v1, rfl, ho, hb⟩
  have O1 := Lib.hid ho
  have F1 : Hid (Below w.heap.size w w1) := Lib.hid (F0.out.trans (hb.mono F0.out.size))
  have M1 : Hid (Blk w1 w.heap.size 3 [.int .i64 m]) := Lib.hid (M0.out.below hb S0.out)
  have S1 : Hid (w0.heap.size ≤ w1.heap.size) := Lib.hid hb.size
  clear ho hb
  obtain ⟨A1, c1, hv1, -⟩ := O1.out.slice
  subst hv1
  have O1a : Hid (Own (w1.alloc (.cells #[.int .i64 (-7), .int .i64 (-8), .int .i64 (-9)] 3)) w0.heap.size 3 .i64 (.slice A1 xs.length c1) xs) := Lib.hid (O1.out.alloc _)
  have T1 : Hid (Rd (w1.alloc (.cells #[.int .i64 (-7), .int .i64 (-8), .int .i64 (-9)] 3)) .i64 (some ⟨w1.heap.size, 0, none⟩) tl) := Lib.hid (rd_blk (Blk.new w1 3 (tl.map (Value.int .i64))))
  have hlow : Hid (∀ g, (Value.slice A1 xs.length c1).ownBlock = some g → w.heap.size < g) := Lib.hid (fun g hg => by have := (O1.out.base_le hg).1; have := S0.out; omega)
  go_wp2_with (show wpList _ _ _ ({ dst := some 21, op := _, type := _, pos := _, after := _, guard := _ } :: _) _ _; refine wpList_pushes_any _ rfl _ _ 39 rfl w0.heap.size 3 .i64 8 Try.underlying39 info3 _ xs rfl O1a.out (some ⟨w1.heap.size, 0, none⟩) 3 3 tl rfl rfl T1.out hbt (by decide) (by have := S1.out; simp; omega) ?_; intro vx w2 ho hf; have F2 : Hid (Fr (fun g => (Value.slice A1 xs.length c1).ownBlock = some g) (w1.alloc (.cells #[.int .i64 (-7), .int .i64 (-8), .int .i64 (-9)] 3)) w2) := Lib.hid hf; have cM2 : w2.cell? ⟨w.heap.size, 0, none⟩ = some (.int .i64 m) := ((M1.out.alloc _).fr hf (fun h => by have := hlow.out _ h; omega)).cell 0; obtain ⟨gx, cx, rest, rfl, hgx, bx, hcx1, hcx2⟩ := app_form HN.out ho; have GX := Lib.hid hgx; have X2 := Lib.hid bx; have CX : Hid (n + 3 ≤ cx ∧ cx ≤ maxLen) := Lib.hid ⟨hcx1, hcx2⟩; clear ho hf hgx bx hcx1 hcx2)
  have M2 : Hid (Blk w2 w.heap.size 3 [.int .i64 m]) := Lib.hid ((M1.out.alloc _).fr F2.out (fun h => by have := hlow.out _ h; omega))
  have B2 : Hid (Below w.heap.size w w2) := Lib.hid ((F1.out.alloc F1.out.size _).trans (F2.out.below (B := w.heap.size) (by have := F1.out.size; simp; omega) (fun k h => by have := hlow.out _ h; omega)))
  have LG : Hid (w.heap.size < gx ∧ gx < w2.heap.size) := Lib.hid ⟨by have := GX.out; have := S0.out; omega, Blk.lt X2.out⟩
  clear hlow O1 O1a T1 F1 M1 S1 F2 F0 M0 hbt GX S0
  have HYL : Hid ((SF (befF m) xs).length ≤ 17592186043904) := Lib.hid (by unfold SF; split <;> simp [sortF, sortG_len]; omega)
  refine (rsort_all A n c xs m w2 HN.out (HR.out.below B2.out) (by omega) HX.out HM.out).mono ?_
  rintro e w3 ⟨Aw, kw, cw, rfl, KW, OW, hb⟩
  have B3 : Hid (Below w.heap.size w w3) := Lib.hid (B2.out.trans (hb.out.mono B2.out.size))
  have M3 : Hid (Blk w3 w.heap.size 3 [.int .i64 m]) := Lib.hid (M2.out.below hb.out M2.out.lt)
  have X3 : Hid (Blk w3 gx 3 ((xs ++ tl).map (Value.int .i64) ++ rest)) := Lib.hid (X2.out.below hb.out X2.out.lt)
  have L3 : Hid (w2.heap.size ≤ w3.heap.size) := Lib.hid hb.out.size
  have U0 : Hid (∀ g, (Value.slice Aw kw cw).ownBlock = some g → w2.heap.size ≤ g ∧ g < w3.heap.size) := Lib.hid (fun g hg => OW.out.base_le hg)
  clear cM2 M2 B2 X2 hb
  have e1 : (n : Int) ≤ (cx : Int) := by have := CX.out; omega
  go_wp2_with fail
  refine (sort_all (some ⟨gx, 0, none⟩) n cx xs m w.heap.size w3 HN.out (blk_pre X3.out) (by omega) HX.out HM.out (M3.out.cell 0)).mono ?_
  rintro e w4 ⟨A1, k1, d1, rfl, K1, O1, hb⟩
  have B4 : Hid (Below w.heap.size w w4) := Lib.hid (B3.out.trans (hb.out.mono B3.out.size))
  have M4 : Hid (Blk w4 w.heap.size 3 [.int .i64 m]) := Lib.hid (M3.out.below hb.out M3.out.lt)
  have X4 : Hid (Blk w4 gx 3 ((xs ++ tl).map (Value.int .i64) ++ rest)) := Lib.hid (X3.out.below hb.out X3.out.lt)
  have W4 : Hid (Own w4 w2.heap.size 3 .i64 (.slice Aw kw cw) (SF (befF m) xs)) := Lib.hid (OW.out.below hb.out)
  have L4 : Hid (w3.heap.size ≤ w4.heap.size) := Lib.hid hb.out.size
  clear B3 M3 X3 OW hb
  go_wp2_with fail
  refine (sort_all (some ⟨gx, 0, none⟩) n cx xs m w.heap.size w4 HN.out (blk_pre X4.out) (by omega) HX.out HM.out (M4.out.cell 0)).mono ?_
  rintro e w5 ⟨A2, k2, d2, rfl, K2, O2, hb⟩
  have B5 : Hid (Below w.heap.size w w5) := Lib.hid (B4.out.trans (hb.out.mono B4.out.size))
  have M5 : Hid (Blk w5 w.heap.size 3 [.int .i64 m]) := Lib.hid (M4.out.below hb.out M4.out.lt)
  have X5 : Hid (Blk w5 gx 3 ((xs ++ tl).map (Value.int .i64) ++ rest)) := Lib.hid (X4.out.below hb.out X4.out.lt)
  have W5 : Hid (Own w5 w2.heap.size 3 .i64 (.slice Aw kw cw) (SF (befF m) xs)) := Lib.hid (W4.out.below hb.out)
  have O15 : Hid (Own w5 w3.heap.size 3 .i64 (.slice A1 k1 d1) (SF (befF m) xs)) := Lib.hid (O1.out.below hb.out)
  have L5 : Hid (w4.heap.size ≤ w5.heap.size) := Lib.hid hb.out.size
  have U1 : Hid (∀ g, (Value.slice A1 k1 d1).ownBlock = some g → w3.heap.size ≤ g ∧ g < w4.heap.size) := Lib.hid (fun g hg => O1.out.base_le hg)
  have U2 : Hid (∀ g, (Value.slice A2 k2 d2).ownBlock = some g → w4.heap.size ≤ g ∧ g < w5.heap.size) := Lib.hid (fun g hg => O2.out.base_le hg)
  clear B4 M4 X4 W4 O1 hb
  go_wp2_with fail
  refine (eqi_same A1 Aw k1 kw d1 cw _ w5 K1.out KW.out (own_rd O15.out) (own_rd W5.out) (by have := HYL.out; omega)).mono ?_
  rintro e w6 ⟨rfl, F6⟩
  go_wp2_with fail
  refine (eqi_same A2 Aw k2 kw d2 cw _ w6 K2.out KW.out ((own_rd O2.out).below F6.out) ((own_rd W5.out).below F6.out) (by have := HYL.out; omega)).mono ?_
  rintro e w7 ⟨rfl, F7⟩
  have F57 : Hid (Below w5.heap.size w5 w7) := Lib.hid (F6.out.trans (F7.out.mono F6.out.size))
  clear F6 F7
  go_wp2_with fail
  refine (eqi_same (some ⟨gx, 0, none⟩) A n n cx c xs w7 HN.out HN.out ((blk_pre X5.out).below F57.out) (HR.out.below (B5.out.trans (F57.out.mono B5.out.size))) (by omega)).mono ?_
  rintro e w8 ⟨rfl, F8⟩
  have F58 : Hid (Below w5.heap.size w5 w8) := Lib.hid (F57.out.trans (F8.out.mono F57.out.size))
  have B8 : Hid (Below w.heap.size w w8) := Lib.hid (B5.out.trans (F58.out.mono B5.out.size))
  have M8 : Hid (Blk w8 w.heap.size 3 [.int .i64 m]) := Lib.hid (M5.out.below F58.out M5.out.lt)
  have X8 : Hid (Blk w8 gx 3 ((xs ++ tl).map (Value.int .i64) ++ rest)) := Lib.hid (X5.out.below F58.out X5.out.lt)
  have W8 : Hid (Own w8 w2.heap.size 3 .i64 (.slice Aw kw cw) (SF (befF m) xs)) := Lib.hid (W5.out.below F58.out)
  have O18 : Hid (Own w8 w3.heap.size 3 .i64 (.slice A1 k1 d1) (SF (befF m) xs)) := Lib.hid (O15.out.below F58.out)
  have O28 : Hid (Own w8 w4.heap.size 3 .i64 (.slice A2 k2 d2) (SF (befF m) xs)) := Lib.hid (O2.out.below F58.out)
  have L8 : Hid (w5.heap.size ≤ w8.heap.size) := Lib.hid F58.out.size
  clear F57 F8 F58 B5 M5 X5 W5 O15 O2
  go_wp2_with fail
  refine (HCP.out w8 (HR.out.below B8.out)).mono ?_
  rintro e w9 ⟨v9, rfl, ho, hb⟩
  obtain ⟨A9, c9, hv9, hc9, -⟩ := ho.slice
  subst hv9
  have O9 := Lib.hid ho
  have B9 : Hid (Below w.heap.size w w9) := Lib.hid (B8.out.trans (hb.mono B8.out.size))
  have M9 : Hid (Blk w9 w.heap.size 3 [.int .i64 m]) := Lib.hid (M8.out.below hb M8.out.lt)
  have X9 : Hid (Blk w9 gx 3 ((xs ++ tl).map (Value.int .i64) ++ rest)) := Lib.hid (X8.out.below hb X8.out.lt)
  have W9 : Hid (Own w9 w2.heap.size 3 .i64 (.slice Aw kw cw) (SF (befF m) xs)) := Lib.hid (W8.out.below hb)
  have O19 : Hid (Own w9 w3.heap.size 3 .i64 (.slice A1 k1 d1) (SF (befF m) xs)) := Lib.hid (O18.out.below hb)
  have O29 : Hid (Own w9 w4.heap.size 3 .i64 (.slice A2 k2 d2) (SF (befF m) xs)) := Lib.hid (O28.out.below hb)
  have L9 : Hid (w8.heap.size ≤ w9.heap.size) := Lib.hid hb.size
  clear B8 M8 X8 W8 O18 O28 ho hb hc9 HCP
  rw [← HN.out] at O9 ⊢
  have V9 : Hid (∀ g, (Value.slice A9 n c9).ownBlock = some g → w8.heap.size ≤ g ∧ g < w9.heap.size) := Lib.hid (fun g hg => O9.out.base_le hg)
  go_wp2_with fail
  go_loopw [14] (fun iv wr => ∃ i : Nat, iv = .int .i64 (i : Int) ∧ i ≤ n ∧ Hid (Blk wr gx 3 ((xup xs i ++ tl).map (Value.int .i64) ++ rest)) ∧ Hid (Own wr w8.heap.size 3 .i64 (.slice A9 n c9) (xup xs i)) ∧ Hid (Fr (fun k => k = gx ∨ (Value.slice A9 n c9).ownBlock = some k) w9 wr)) (fun iv _ => n - (intOf iv).toNat)
  case atStart => exact ⟨0, rfl, by omega, by rw [xup_zero]; exact X9, by rw [xup_zero]; exact O9, Lib.hid (Fr.refl _ _)⟩
  case round =>
    obtain ⟨i, rfl, hi, HXB, HOB, HFR⟩ := hrel
    by_cases hin : i < n
    · have hix : i < xs.length := by rw [← HN.out]; exact hin
      obtain ⟨y, hy⟩ : ∃ y, y = xs.getD i 0 := ⟨_, rfl⟩
      obtain ⟨go, off, hA9, hco⟩ := own_rd HOB.out i (by rw [xup_len]; exact hix)
      obtain ⟨go', c', y', hv, -, hfo⟩ := HOB.out.cells (k := i) (by rw [xup_len]; exact hix)
      rw [xup_at xs i hix, ← hy] at hco
      subst hA9
      injection hv with e2 e3 e4
      injection e2 with e2
      injection e2 with e2 e5 e6
      subst e2 e5
      rw [Nat.zero_add] at hco
      have cx1 : wr.cell? ⟨gx, i, none⟩ = some (.int .i64 y) := by
        obtain ⟨b, o, hb, hc⟩ := blk_pre HXB.out i (by rw [xup_len]; exact hix)
        injection hb with hb
        injection hb with h1 h2 h3
        subst h1 h2
        rw [xup_at xs i hix, ← hy, Nat.zero_add] at hc
        exact hc
      have fx1 : wr.frozen? ⟨gx, i, none⟩ = false := HXB.out.frozen i
      have n1 : ¬ go = gx := by have := V9.out go rfl; have := LG.out; have := L3.out; have := L4.out; have := L5.out; have := L8.out; omega
      have n2 : ¬ gx = go := fun e => n1 e.symm
      have HNE := Lib.hid n1
      have BX2 : Hid (Blk ((wr.setCell ⟨gx, i, none⟩ (.int .i64 (bits .xor .i64 y 5))).setCell ⟨go, i, none⟩ (.int .i64 (bits .xor .i64 y 5))) gx 3 ((xup xs (i + 1) ++ tl).map (Value.int .i64) ++ rest)) := Lib.hid (by
        have h1 := (Blk.set HXB.out i (.int .i64 (bits .xor .i64 y 5))).other (p := ⟨go, i, none⟩) n2 (.int .i64 (bits .xor .i64 y 5))
        rw [List.set_append_left _ _ (by simp [xup_len]; omega), ← List.map_set, List.set_append_left _ _ (by rw [xup_len]; exact hix)] at h1
        rw [← xup_set xs i hix, ← hy]
        exact h1)
      have OO2 : Hid (Own ((wr.setCell ⟨gx, i, none⟩ (.int .i64 (bits .xor .i64 y 5))).setCell ⟨go, i, none⟩ (.int .i64 (bits .xor .i64 y 5))) w8.heap.size 3 .i64 (.slice (some ⟨go, 0, none⟩) n c9) (xup xs (i + 1))) := Lib.hid (by
        have h0 : Own (wr.setCell ⟨gx, i, none⟩ (.int .i64 (bits .xor .i64 y 5))) w8.heap.size 3 .i64 (.slice (some ⟨go, 0, none⟩) n c9) (xup xs i) := HOB.out.fr ((Fr.refl (fun k => k = gx) wr).setCell (p := ⟨gx, i, none⟩) (.inl rfl) _) (fun g hg e => by cases hg; exact n1 e)
        have h1 := h0.setAt (k := i) (by rw [xup_len]; exact hix) (bits .xor .i64 y 5)
        rw [← xup_set xs i hix, ← hy]
        exact h1)
      have FR2 : Hid (Fr (fun k => k = gx ∨ (Value.slice (some ⟨go, 0, none⟩) n c9).ownBlock = some k) w9 ((wr.setCell ⟨gx, i, none⟩ (.int .i64 (bits .xor .i64 y 5))).setCell ⟨go, i, none⟩ (.int .i64 (bits .xor .i64 y 5)))) := Lib.hid ((HFR.out.setCell (p := ⟨gx, i, none⟩) (.inl (.inl rfl)) _).setCell (p := ⟨go, i, none⟩) (.inl (.inr rfl)) _)
      have m1 : IntKind.i64.wrap ((i : Int) + 1) = ((i + 1 : Nat) : Int) := by rw [IntKind.wrap_i64] <;> omega
      have q1 : (i : Int) < (cx : Int) := by have := CX.out; omega
      have q2 : (i : Int) < ((n + 3 : Nat) : Int) := by omega
      clear hy hix
      go_wp2_with fail
      go_roundw
      case rel => exact ⟨i + 1, by simp, by omega, BX2, OO2, FR2⟩
      case measure => simp [intOf]; omega
    · obtain rfl : i = n := by omega
      have e0 : xup xs i = xs.map xr := by rw [HN.out, xup_all]
      rw [e0] at HXB HOB
      clear e0
      have HSN : Hid (∀ g, g ≠ gx → g < w8.heap.size → ¬ (g = gx ∨ (Value.slice A9 i c9).ownBlock = some g)) := Lib.hid (fun g h1 h2 h => by
        rcases h with h | h
        · exact h1 h
        · have := V9.out g h; omega)
      have HLs : Hid (w.heap.size < gx ∧ gx < w2.heap.size ∧ w2.heap.size ≤ w3.heap.size ∧ w3.heap.size ≤ w4.heap.size ∧ w4.heap.size ≤ w5.heap.size ∧ w5.heap.size ≤ w8.heap.size ∧ w8.heap.size ≤ w9.heap.size ∧ w9.heap.size ≤ wr.heap.size) := Lib.hid ⟨LG.out.1, LG.out.2, L3.out, L4.out, L5.out, L8.out, L9.out, HFR.out.size⟩
      have BE : Hid (Below w.heap.size w wr) := Lib.hid (B9.out.trans (HFR.out.below (B := w.heap.size) B9.out.size (fun k hk => by
        rcases hk with hk | hk
        · rw [hk]; exact Nat.le_of_lt HLs.out.1
        · have := V9.out k hk; have := HLs.out; omega)))
      have ME : Hid (Blk wr w.heap.size 3 [.int .i64 m]) := Lib.hid (M9.out.fr HFR.out (HSN.out w.heap.size (by have := HLs.out; omega) (by have := HLs.out; omega)))
      have WE : Hid (Own wr w2.heap.size 3 .i64 (.slice Aw kw cw) (SF (befF m) xs)) := Lib.hid (W9.out.fr HFR.out (fun g hg => HSN.out g (by have := U0.out g hg; have := HLs.out; omega) (by have := U0.out g hg; have := HLs.out; omega)))
      have O1E : Hid (Own wr w3.heap.size 3 .i64 (.slice A1 k1 d1) (SF (befF m) xs)) := Lib.hid (O19.out.fr HFR.out (fun g hg => HSN.out g (by have := U1.out g hg; have := HLs.out; omega) (by have := U1.out g hg; have := HLs.out; omega)))
      have O2E : Hid (Own wr w4.heap.size 3 .i64 (.slice A2 k2 d2) (SF (befF m) xs)) := Lib.hid (O29.out.fr HFR.out (fun g hg => HSN.out g (by have := U2.out g hg; have := HLs.out; omega) (by have := U2.out g hg; have := HLs.out; omega)))
      have HNY : Hid (i = (xs.map xr).length) := Lib.hid (by rw [List.length_map]; exact HN.out)
      have HXY : Hid (∀ i, R64 ((xs.map xr).getD i 0)) := Lib.hid (r64_app HX.out xr (fun x _ => xr_r x))
      have hyl : (xs.map xr).length ≤ 17592186044000 := by rw [List.length_map]; omega
      have HZL : Hid ((SF (befF m) (xs.map xr)).length ≤ 17592186043904) := Lib.hid (by unfold SF; split <;> simp [sortF, sortG_len]; omega)
      have cME := ME.out.cell 0
      have cME' : wr.cell? ⟨w.heap.size, 0, none⟩ = some (.int .i64 m) := cME
      clear cME B9 M9 W9 O19 O29 HFR X9 O9 HX hi hin
      have hRr := fun W (h : Rd W .i64 A9 (xs.map xr)) => rsort_all A9 i c9 (xs.map xr) m W HNY.out h hyl HXY.out HM.out
      have HRr := Lib.hid hRr
      have hSs := fun W (h : Rd W .i64 (some ⟨gx, 0, none⟩) (xs.map xr)) hc => sort_all (some ⟨gx, 0, none⟩) i cx (xs.map xr) m w.heap.size W HNY.out h hyl HXY.out HM.out hc
      have HSs := Lib.hid hSs
      clear hRr hSs hyl HXY
      generalize xs.map xr = ys at *
      go_wp2_with fail
      refine (HRr.out wr (own_rd HOB.out)).mono ?_
      rintro e wa ⟨An, kn, cn, rfl, KN, ON, hb⟩
      have BA : Hid (Below w.heap.size w wa) := Lib.hid (BE.out.trans (hb.out.mono BE.out.size))
      have MA : Hid (Blk wa w.heap.size 3 [.int .i64 m]) := Lib.hid (ME.out.below hb.out ME.out.lt)
      have XA : Hid (Blk wa gx 3 ((ys ++ tl).map (Value.int .i64) ++ rest)) := Lib.hid (HXB.out.below hb.out HXB.out.lt)
      have OA : Hid (Own wa w8.heap.size 3 .i64 (.slice A9 i c9) ys) := Lib.hid (HOB.out.below hb.out)
      have WA : Hid (Own wa w2.heap.size 3 .i64 (.slice Aw kw cw) (SF (befF m) xs)) := Lib.hid (WE.out.below hb.out)
      have O1A : Hid (Own wa w3.heap.size 3 .i64 (.slice A1 k1 d1) (SF (befF m) xs)) := Lib.hid (O1E.out.below hb.out)
      have O2A : Hid (Own wa w4.heap.size 3 .i64 (.slice A2 k2 d2) (SF (befF m) xs)) := Lib.hid (O2E.out.below hb.out)
      have LA : Hid (wr.heap.size ≤ wa.heap.size) := Lib.hid hb.out.size
      clear cME' BE ME HXB HOB WE O1E O2E hb HRr
      go_wp2_with fail
      refine (HSs.out wa (blk_pre XA.out) (MA.out.cell 0)).mono ?_
      rintro e wb ⟨A3, k3, d3, rfl, K3, O3, hb⟩
      have BB : Hid (Below w.heap.size w wb) := Lib.hid (BA.out.trans (hb.out.mono BA.out.size))
      have XB : Hid (Blk wb gx 3 ((ys ++ tl).map (Value.int .i64) ++ rest)) := Lib.hid (XA.out.below hb.out XA.out.lt)
      have OB : Hid (Own wb w8.heap.size 3 .i64 (.slice A9 i c9) ys) := Lib.hid (OA.out.below hb.out)
      have WB : Hid (Own wb w2.heap.size 3 .i64 (.slice Aw kw cw) (SF (befF m) xs)) := Lib.hid (WA.out.below hb.out)
      have O1B : Hid (Own wb w3.heap.size 3 .i64 (.slice A1 k1 d1) (SF (befF m) xs)) := Lib.hid (O1A.out.below hb.out)
      have O2B : Hid (Own wb w4.heap.size 3 .i64 (.slice A2 k2 d2) (SF (befF m) xs)) := Lib.hid (O2A.out.below hb.out)
      have NB : Hid (Own wb wr.heap.size 3 .i64 (.slice An kn cn) (SF (befF m) ys)) := Lib.hid (ON.out.below hb.out)
      have LB : Hid (wa.heap.size ≤ wb.heap.size) := Lib.hid hb.out.size
      have U3 : Hid (∀ g, (Value.slice A3 k3 d3).ownBlock = some g → wa.heap.size ≤ g ∧ g < wb.heap.size) := Lib.hid (fun g hg => O3.out.base_le hg)
      clear BA MA XA OA WA O1A O2A ON hb HSs
      go_wp2_with fail
      refine (eqi_same A3 An k3 kn d3 cn _ wb K3.out KN.out (own_rd O3.out) (own_rd NB.out) (by have := HZL.out; omega)).mono ?_
      rintro e wc ⟨rfl, FC⟩
      go_wp2_with fail
      refine (eqi_same A1 Aw k1 kw d1 cw _ wc K1.out KW.out ((own_rd O1B.out).below FC.out) ((own_rd WB.out).below FC.out) (by have := HYL.out; omega)).mono ?_
      rintro e wd ⟨rfl, FD⟩
      have FD2 : Hid (Below wb.heap.size wb wd) := Lib.hid (FC.out.trans (FD.out.mono FC.out.size))
      have BD : Hid (Below w.heap.size w wd) := Lib.hid (BB.out.trans (FD2.out.mono BB.out.size))
      have XD : Hid (Blk wd gx 3 ((ys ++ tl).map (Value.int .i64) ++ rest)) := Lib.hid (XB.out.below FD2.out XB.out.lt)
      have OD : Hid (Own wd w8.heap.size 3 .i64 (.slice A9 i c9) ys) := Lib.hid (OB.out.below FD2.out)
      have O1D : Hid (Own wd w3.heap.size 3 .i64 (.slice A1 k1 d1) (SF (befF m) xs)) := Lib.hid (O1B.out.below FD2.out)
      have O2D : Hid (Own wd w4.heap.size 3 .i64 (.slice A2 k2 d2) (SF (befF m) xs)) := Lib.hid (O2B.out.below FD2.out)
      have O3D : Hid (Own wd wa.heap.size 3 .i64 (.slice A3 k3 d3) (SF (befF m) ys)) := Lib.hid (O3.out.below FD2.out)
      have LD : Hid (wb.heap.size ≤ wd.heap.size) := Lib.hid FD2.out.size
      clear FC FD FD2 BB XB OB WB O1B O2B O3 NB
      have hat : ∀ q v, tl[q]? = some v → wd.cell? ⟨gx, i + q, none⟩ = some (.int .i64 v) := fun q v hq => by
        rw [XD.out.cell, List.getElem?_append_left (by have := (List.getElem?_eq_some_iff.1 hq).1; rw [List.length_map, List.length_append, ← HNY.out]; omega), List.getElem?_map, List.getElem?_append_right (by rw [← HNY.out]; omega), ← HNY.out, show i + q - i = q from by omega, hq]
        rfl
      have t0 : wd.cell? ⟨gx, i, none⟩ = some (.int .i64 (-7)) := hat 0 _ rfl
      have t1 : wd.cell? ⟨gx, i + 1, none⟩ = some (.int .i64 (-8)) := hat 1 _ rfl
      have t2 : wd.cell? ⟨gx, i + 2, none⟩ = some (.int .i64 (-9)) := hat 2 _ rfl
      have m1 : IntKind.i64.wrap ((i : Int) + 1) = ((i + 1 : Nat) : Int) := by have := CX.out; unfold maxLen at this; rw [IntKind.wrap_i64] <;> omega
      have m2 : IntKind.i64.wrap ((i : Int) + 2) = ((i + 2 : Nat) : Int) := by have := CX.out; unfold maxLen at this; rw [IntKind.wrap_i64] <;> omega
      clear hat
      go_wp2_with fail
      have HAP : Hid (∀ g, Blks 3 (p3 (.slice A1 k1 d1) (.slice A2 k2 d2) (.slice A3 k3 d3)) g → (w3.heap.size ≤ g ∧ g < w5.heap.size) ∨ (wa.heap.size ≤ g ∧ g < wb.heap.size)) := Lib.hid (fun g ⟨j, hj, hg⟩ => by
        revert hg
        refine lt3 (P := fun j => (p3 (Value.slice A1 k1 d1) (.slice A2 k2 d2) (.slice A3 k3 d3) j).ownBlock = some g → _) ?_ ?_ ?_ j hj
        · intro hg; have := U1.out g hg; have := HLs.out; omega
        · intro hg; have := U2.out g hg; have := HLs.out; omega
        · intro hg; have := U3.out g hg; exact .inr this)
      refine (apart_any w3.heap.size wd.heap.size 3 3 (p3 (.slice A1 k1 d1) (.slice A2 k2 d2) (.slice A3 k3 d3)) (p3 k1 k2 k3) (p3 (SF (befF m) xs) (SF (befF m) xs) (SF (befF m) ys)) (wd.alloc (.cells #[.slice A1 k1 d1, .slice A2 k2 d2, .slice A3 k3 d3] 39)) (by omega)
        (lt3 K1.out.symm K2.out.symm K3.out.symm)
        (lt3 (O1D.out.alloc _) ((O2D.out.lower (by have := HLs.out; omega)).alloc _) ((O3D.out.lower (by have := HLs.out; have := LA.out; omega)).alloc _))
        (fun a b ha hb hab g h1 h2 => by
          have e1 : ∀ j, j < 3 → (p3 (Value.slice A1 k1 d1) (.slice A2 k2 d2) (.slice A3 k3 d3) j).ownBlock = some g → (j = 0 ∧ w3.heap.size ≤ g ∧ g < w4.heap.size) ∨ (j = 1 ∧ w4.heap.size ≤ g ∧ g < w5.heap.size) ∨ (j = 2 ∧ wa.heap.size ≤ g) := lt3 (fun hg => .inl ⟨rfl, U1.out g hg⟩) (fun hg => .inr (.inl ⟨rfl, U2.out g hg⟩)) (fun hg => .inr (.inr ⟨rfl, (U3.out g hg).1⟩))
          have := e1 a ha h1
          have := e1 b hb h2
          have := HLs.out
          have := LA.out
          omega)
        (fun j hj e => by
          have := HAP.out _ ⟨j, hj, e⟩
          have := HLs.out
          have := LA.out
          have := LB.out
          have := LD.out
          omega)
        (lt3 ((Blk.new wd 39 [.slice A1 k1 d1, .slice A2 k2 d2, .slice A3 k3 d3]).cell 0) ((Blk.new wd 39 [.slice A1 k1 d1, .slice A2 k2 d2, .slice A3 k3 d3]).cell 1) ((Blk.new wd 39 [.slice A1 k1 d1, .slice A2 k2 d2, .slice A3 k3 d3]).cell 2))
        (by have := HLs.out; have := LA.out; have := LB.out; have := LD.out; simp; omega)
        (lt3 (by show k1 + 71 ≤ _; rw [K1.out]; have := HYL.out; omega) (by show k2 + 71 ≤ _; rw [K2.out]; have := HYL.out; omega) (by show k3 + 71 ≤ _; rw [K3.out]; have := HZL.out; omega))).mono ?_
      rintro e we ⟨rfl, hfr⟩
      have BE2 : Hid (Below w.heap.size w we) := Lib.hid ((BD.out.alloc BD.out.size _).trans (hfr.below (B := w.heap.size) (by have := BD.out.size; simp; omega) (fun g hg => by have := HAP.out g hg; have := HLs.out; have := LA.out; omega)))
      have XE2 : Hid (Blk we gx 3 ((ys ++ tl).map (Value.int .i64) ++ rest)) := Lib.hid ((XD.out.alloc _).fr hfr (fun hg => by have := HAP.out gx hg; have := HLs.out; have := LA.out; omega))
      have OE2 : Hid (Own we w8.heap.size 3 .i64 (.slice A9 i c9) ys) := Lib.hid ((OD.out.alloc _).fr hfr (fun g hv hg => by have := HAP.out g hg; have := V9.out g hv; have := HLs.out; have := LA.out; omega))
      clear hfr BD XD OD O1D O2D O3D t0 t1 t2
      go_wp2_with fail
      refine (eqi_same (some ⟨gx, 0, none⟩) A9 i i cx c9 ys we HNY.out HNY.out (blk_pre XE2.out) (own_rd OE2.out) (by rw [← HNY.out]; have := HN.out; omega)).mono ?_
      rintro e wf ⟨rfl, FF⟩
      go_wp2_with fail
      refine (works_any wf).mono ?_
      rintro e wg ⟨rfl, FG⟩
      go_wp2_with fail
      go_ret
      have b1 := BE2.out.trans (FF.out.mono BE2.out.size)
      exact ⟨rfl, b1.trans (FG.out.mono b1.size)⟩
end Go.Proofs.Ytpglocgfdonmaaa

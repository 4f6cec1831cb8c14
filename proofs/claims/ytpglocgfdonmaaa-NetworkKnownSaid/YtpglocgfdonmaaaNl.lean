/-
  Walk: the law NetworkShifts.
-/
import Derived.Test.YtpglocgfdonmaaaNs
import Derived.Test.YtpglocgfdonmaaaApi
set_option linter.unusedVariables false
set_option linter.unusedSimpArgs false
namespace Go.Proofs.Ytpglocgfdonmaaa
open Go.RowKit Go.Shelf

theorem NS.sub {w : World} {Ba : Nat} {av : Value} {pre : List Int} {os os' : List Ob} {W : World} (h : NS w Ba av pre os W) (hs : ∀ o ∈ os', o ∈ os) : NS w Ba av pre os' W := ⟨h.bel, h.ba, h.bx, h.ask, fun o ho => h.ob o (hs o ho)⟩
theorem NS.made {w : World} {Ba : Nat} {av : Value} {pre : List Int} {os : List Ob} {W W' : World} (h : NS w Ba av pre os W) {v : Value} {xs : List Int} (ho : Own W' W.heap.size 3 .i64 v xs) (hb : Below W.heap.size W W') : NS w Ba av pre ((W.heap.size, v, xs) :: os) W' := (h.below hb).cons h.bel.size ho
theorem rd_app {w : World} {base n c : Nat} {A : Option Addr} {xs ys : List Int} (h : Own w base 3 .i64 (.slice A n c) (xs ++ ys)) : Rd w .i64 A xs := by
  have h1 := (own_rd h).take xs.length
  rwa [List.take_left'] at h1
  rfl
theorem SHF_r (xs : List Int) (hx : ∀ i, R64 (xs.getD i 0)) : ∀ i, R64 ((SHF xs).getD i 0) := fun i => by
  unfold SHF
  rw [List.getD_eq_getElem?_getD, List.getElem?_map]
  cases (SHL (xs.map evF))[i]? with
  | none => unfold R64; simp
  | some p => exact hx p
/-- The second list. -/
def flip (xs : List Int) : List Int := (List.range xs.length).map fun i => bits .xor .i64 (xs.getD i 0) ((i % 2 : Nat) : Int)
theorem flip_len (xs : List Int) : (flip xs).length = xs.length := by simp [flip]
theorem flip_at (xs : List Int) (i : Nat) (h : i < xs.length) : (flip xs).getD i 0 = bits .xor .i64 (xs.getD i 0) ((i % 2 : Nat) : Int) := by simp [flip, h]
theorem flip_r (xs : List Int) : ∀ i, R64 ((flip xs).getD i 0) := fun i => by
  unfold flip
  rw [List.getD_eq_getElem?_getD, List.getElem?_map]
  cases (List.range xs.length)[i]? with
  | none => unfold R64; simp
  | some p =>
    show R64 (IntKind.i64.wrap _)
    unfold R64
    rw [IntKind.wrap_i64]
    omega
theorem updd (xs : List Int) (i : Nat) (h : i < xs.length) : (upd i (flip xs) xs).set i (bits .xor .i64 (xs.getD i 0) ((i % 2 : Nat) : Int)) = upd (i + 1) (flip xs) xs := by
  rw [← flip_at xs i h]
  exact upd_set i (flip xs) xs (flip_len xs) h
theorem updt (xs ys : List Int) (i : Nat) (h : i < xs.length) : (upd i (flip xs) xs ++ ys).set i (bits .xor .i64 (xs.getD i 0) ((i % 2 : Nat) : Int)) = upd (i + 1) (flip xs) xs ++ ys := by
  rw [List.set_append_left _ _ (by rw [upd_length _ _ _ (flip_len xs)]; exact h), updd xs i h]
theorem upd_getD (xs : List Int) (i : Nat) (h : i < xs.length) : (upd i (flip xs) xs).getD i 0 = xs.getD i 0 := by
  rw [List.getD_eq_getElem?_getD, upd_get i (flip xs) xs (flip_len xs) h]; rfl
theorem upd_getT (xs ys : List Int) (i : Nat) (h : i < xs.length) : (upd i (flip xs) xs ++ ys).getD i 0 = xs.getD i 0 := by
  rw [List.getD_eq_getElem?_getD, List.getElem?_append_left (by rw [upd_length _ _ _ (flip_len xs)]; exact h), ← List.getD_eq_getElem?_getD, upd_getD xs i h]
/-- What is known of a row's own block. -/
def Iv (v : Value) (a b : Nat) : Prop := ∀ g, v.ownBlock = some g → a ≤ g ∧ g < b

set_option maxRecDepth 100000 in
set_option maxHeartbeats 16000000 in
theorem shifts_small (A : Option Addr) (n c : Nat) (xs : List Int) (w : World) (hn : n = xs.length) (hr : Rd w .i64 A xs) (hl : xs.length ≤ 17592186043904) (hx : ∀ i, R64 (xs.getD i 0)) (hbig : n ≤ 65536) :
    Calls Try.prog 9 #[.slice A n c] w fun e w' => e = .returned (.bool true) ∧ Below w.heap.size w w' := by
  have HN := Lib.hid hn
  have HR := Lib.hid hr
  have HX := Lib.hid hx
  have hbt : (xs.length + tl.length) * 8 ≤ 140737488355328 := by simp [tl]; omega
  have HCP : Hid (∀ W, Rd W .i64 A xs → Calls Try.prog 19 #[.slice A n c] W (Made 3 .i64 xs W)) := Lib.hid (fun W hr => by rw [hn]; exact copyi_any A c xs W hr (by omega))
  have hnl : n ≤ 17592186043904 := by omega
  have HSL : Hid ((SHF xs).length ≤ 17592186043904) := Lib.hid (Nat.le_trans (SHF_len_le xs) hl)
  have HSL2 : Hid ((SHF (flip xs)).length ≤ 17592186043904) := Lib.hid (Nat.le_trans (SHF_len_le _) (by rw [flip_len]; exact hl))
  have HFR := Lib.hid (flip_r xs)
  have HFN : Hid (n = (flip xs).length) := Lib.hid (by rw [flip_len]; exact hn)
  have HAK : Hid (asks n xs = xs) := Lib.hid (if_pos hbig)
  have hd1 : decide ((n : Int) ≤ 65536) = true := by simp; omega
  have HAL : Hid ((asks n xs).length ≤ 65536) := Lib.hid (by unfold asks; split <;> first | omega | simp)
  clear hn hr hx
  go_enter Try.func9, Try.ntmps9
  go_wp2_with fail
  refine (HCP.out w HR.out).mono ?_
  rintro e w1 ⟨v1, rfl, ho, hb⟩
  have O1 := Lib.hid ho
  have B1 := Lib.hid hb
  clear ho hb
  obtain ⟨A1, c1, hv1, -⟩ := O1.out.slice
  subst hv1
  have O1a : Hid (Own (w1.alloc (.cells #[.int .i64 (-7), .int .i64 (-8), .int .i64 (-9)] 3)) w.heap.size 3 .i64 (.slice A1 xs.length c1) xs) := Lib.hid (O1.out.alloc _)
  have T1 : Hid (Rd (w1.alloc (.cells #[.int .i64 (-7), .int .i64 (-8), .int .i64 (-9)] 3)) .i64 (some ⟨w1.heap.size, 0, none⟩) tl) := Lib.hid (rd_blk (Blk.new w1 3 (tl.map (Value.int .i64))))
  go_wp2_with (show wpList _ _ _ ({ dst := some 15, op := _, type := _, pos := _, after := _, guard := _ } :: _) _ _; refine wpList_pushes_any _ rfl _ _ 39 rfl w.heap.size 3 .i64 8 Try.underlying39 info3 _ xs rfl O1a.out (some ⟨w1.heap.size, 0, none⟩) 3 3 tl rfl rfl T1.out hbt (by decide) (by have := B1.out.size; simp; omega) ?_; intro vx w2 ho hf; have F2 := Lib.hid hf; obtain ⟨gx, cx, rest, rfl, hgx, bx, hcx1, hcx2⟩ := app_form HN.out ho; have OX2 := Lib.hid ho; have CX : Hid (n + 3 ≤ cx ∧ cx ≤ maxLen) := Lib.hid ⟨hcx1, hcx2⟩; clear ho hf hgx bx hcx1 hcx2)
  have B2 : Hid (Below w.heap.size w w2) := Lib.hid ((B1.out.alloc B1.out.size _).trans (F2.out.below (B := w.heap.size) (by have := B1.out.size; simp; omega) (fun k h => (O1.out.base_le h).1)))
  have e1 : (n : Int) ≤ (cx : Int) := by have := CX.out; omega
  have N3 : Hid (NS w w2.heap.size (.slice none 0 0) [] [(w.heap.size, .slice (some ⟨gx, 0, none⟩) (n + 3) cx, xs ++ tl)] (w2.alloc (.cells #[.slice none 0 0] 39))) := Lib.hid (NS.cons (os := []) ⟨B2.out.alloc B2.out.size _, B2.out.size, Blk.new w2 39 [.slice none 0 0], Own.nil _ _ _ _, fun o ho => by cases ho⟩ (Nat.le_refl _) (OX2.out.alloc _))
  have VX : Hid (Iv (.slice (some ⟨gx, 0, none⟩) (n + 3) cx) w.heap.size w2.heap.size) := Lib.hid (fun g hg => OX2.out.base_le hg)
  have L3 : Hid ((w2.alloc (.cells #[.slice none 0 0] 39)).heap.size = w2.heap.size + 1) := Lib.hid (by simp)
  clear O1 B1 O1a T1 hbt F2 OX2 B2
  generalize hBa : w2.heap.size = Ba at *
  clear hBa
  generalize w2.alloc (.cells #[.slice none 0 0] 39) = w3 at *
  refine (shifted_any A n c xs w3 HN.out (HR.out.below N3.out.bel) (by omega) HX.out).mono ?_
  rintro e w4 ⟨vw, rfl, ho, hb⟩
  have NW := Lib.hid (N3.out.made ho hb)
  have VW : Hid (Iv vw w3.heap.size w4.heap.size) := Lib.hid (fun g hg => ho.base_le hg)
  have L4 : Hid (w3.heap.size ≤ w4.heap.size) := Lib.hid hb.size
  obtain ⟨Aw, cw, hvw, -⟩ := ho.slice
  subst hvw
  clear ho hb N3
  have HS1 := Lib.hid (shift_ns w Ba none 0 0 [] _ w4 (some ⟨gx, 0, none⟩) n cx xs NW.out HN.out (rd_app (NW.out.get w.heap.size _ (xs ++ tl) (by repeat (first | exact List.mem_cons_self | refine List.mem_cons_of_mem _ ?_)))) (by omega) HX.out (by simp)
    (fun a ha => by cases ha; exact ⟨by have := VX.out gx rfl; show gx ≠ Ba; omega, fun h => by cases h⟩) (fun o ho g hg h => by cases h))
  go_wp2_with fail
  refine HS1.out.mono ?_
  rintro e w5 ⟨P1, k1, d1, Q1, m1, q1, h1, rfl, K1, M1, N5, L5, V1, VA1⟩
  clear HS1 NW
  have VA1' : Hid (Iv (.slice Q1 m1 q1) h1 w5.heap.size) := Lib.hid (fun g hg => by
    rcases VA1.out g hg with h | h
    · cases h
    · exact h)
  rw [List.nil_append, HAK.out] at M1 N5
  clear VA1
  have cA := N5.out.bx.cell 0
  simp only [List.getElem?_cons_zero] at cA
  rw [← HN.out] at M1
  obtain rfl : m1 = n := M1.out
  have HE := fun W (h : Below w5.heap.size w5 W) => eqi_same Q1 A m1 m1 q1 c xs W HN.out HN.out ((own_rd N5.out.ask).below h) (HR.out.below (N5.out.bel.trans (h.mono N5.out.bel.size))) (by omega)
  have HEh := Lib.hid (HE w5 (Below.refl _ _))
  clear HE
  go_wp2_with fail
  refine HEh.out.mono ?_
  rintro e w6 ⟨rfl, F6⟩
  clear HEh cA
  have N6 := Lib.hid (N5.out.below F6.out)
  have L6 : Hid (w5.heap.size ≤ w6.heap.size) := Lib.hid F6.out.size
  clear N5 F6
  have HS2 := Lib.hid (shift_ns w Ba Q1 m1 q1 xs _ w6 (some ⟨gx, 0, none⟩) m1 cx xs N6.out HN.out (rd_app (N6.out.get w.heap.size _ (xs ++ tl) (by repeat (first | exact List.mem_cons_self | refine List.mem_cons_of_mem _ ?_)))) (by omega) HX.out (by have := HAL.out; rw [HAK.out] at this; omega)
    (fun a ha => by cases ha; exact ⟨by have := VX.out gx rfl; show gx ≠ Ba; omega, fun h => by have h9 := VA1'.out _ h; dsimp only at h9; have := VX.out gx rfl; have := L3.out; have := L4.out; have := L5.out; omega⟩)
    (fun o ho g hg h => by
      have h0 := VA1'.out _ h
      have := L3.out
      have := L4.out
      have := L5.out
      simp only [List.mem_cons, List.not_mem_nil, or_false] at ho
      rcases ho with rfl | rfl | rfl
      · have := V1.out g hg; omega
      · have := VW.out g hg; omega
      · have := VX.out g hg; omega))
  go_wp2_with fail
  refine HS2.out.mono ?_
  rintro e w7 ⟨P2, k2, d2, Q2, m2, q2, h2, rfl, K2, M2, N7, L7, V2, VA2⟩
  clear HS2 N6
  have OW7 := Lib.hid (N7.out.get w3.heap.size _ (SHF xs) (by repeat (first | exact List.mem_cons_self | refine List.mem_cons_of_mem _ ?_)))
  have O17 := Lib.hid (N7.out.get w4.heap.size _ (SHF xs) (by repeat (first | exact List.mem_cons_self | refine List.mem_cons_of_mem _ ?_)))
  have O27 := Lib.hid (N7.out.get w6.heap.size _ (SHF xs) (by repeat (first | exact List.mem_cons_self | refine List.mem_cons_of_mem _ ?_)))
  have OX7 := Lib.hid (N7.out.get w.heap.size _ (xs ++ tl) (by repeat (first | exact List.mem_cons_self | refine List.mem_cons_of_mem _ ?_)))
  go_wp2_with fail
  refine (eqi_same P1 Aw k1 _ d1 cw _ w7 K1.out rfl (own_rd O17.out) (own_rd OW7.out) (by have := HSL.out; omega)).mono ?_
  rintro e w8 ⟨rfl, F8⟩
  go_wp2_with fail
  refine (eqi_same P2 Aw k2 _ d2 cw _ w8 K2.out rfl ((own_rd O27.out).below F8.out) ((own_rd OW7.out).below F8.out) (by have := HSL.out; omega)).mono ?_
  rintro e w9 ⟨rfl, F9⟩
  have F79 : Hid (Below w7.heap.size w7 w9) := Lib.hid (F8.out.trans (F9.out.mono F8.out.size))
  clear F8 F9
  go_wp2_with fail
  refine (eqi_same (some ⟨gx, 0, none⟩) A m1 m1 cx c xs w9 HN.out HN.out ((rd_app OX7.out).below F79.out) (HR.out.below (N7.out.bel.trans (F79.out.mono N7.out.bel.size))) (by omega)).mono ?_
  rintro e w10 ⟨rfl, F10⟩
  have N10 := Lib.hid (N7.out.below (F79.out.trans (F10.out.mono F79.out.size)))
  have L10 : Hid (w7.heap.size ≤ w10.heap.size) := Lib.hid (Nat.le_trans F79.out.size F10.out.size)
  clear OW7 O17 O27 OX7 F79 F10 N7
  go_wp2_with fail
  refine (HCP.out w10 (HR.out.below N10.out.bel)).mono ?_
  rintro e w11 ⟨v9, rfl, ho, hb⟩
  obtain ⟨A9, c9, hv9, hc9, -⟩ := ho.slice
  subst hv9
  rw [← HN.out] at ho ⊢
  have O11 := Lib.hid ho
  have V9 : Hid (Iv (.slice A9 m1 c9) w10.heap.size w11.heap.size) := Lib.hid (fun g hg => ho.base_le hg)
  have N11 := Lib.hid (N10.out.below hb)
  have L11 : Hid (w10.heap.size ≤ w11.heap.size) := Lib.hid hb.size
  have OX11 := Lib.hid (N11.out.get w.heap.size _ (xs ++ tl) (by repeat (first | exact List.mem_cons_self | refine List.mem_cons_of_mem _ ?_)))
  have N11s : Hid (NS w Ba (.slice Q2 m2 q2) (xs ++ asks m1 xs) [(w6.heap.size, .slice P2 k2 d2, SHF xs), (w4.heap.size, .slice P1 k1 d1, SHF xs), (w3.heap.size, .slice Aw (SHF xs).length cw, SHF xs)] w11) := Lib.hid (N11.out.sub (fun o ho => by
    simp only [List.mem_cons, List.not_mem_nil, or_false] at ho ⊢
    rcases ho with h | h | h
    · exact .inl h
    · exact .inr (.inl h)
    · exact .inr (.inr (.inl h))))
  clear ho hb hc9 HCP N10 N11
  go_wp2_with fail
  go_loopw [10] (fun iv wr => ∃ i : Nat, iv = .int .i64 (i : Int) ∧ i ≤ m1 ∧ Hid (Own wr w.heap.size 3 .i64 (.slice (some ⟨gx, 0, none⟩) (m1 + 3) cx) (upd i (flip xs) xs ++ tl)) ∧ Hid (Own wr w10.heap.size 3 .i64 (.slice A9 m1 c9) (upd i (flip xs) xs)) ∧ Hid (Fr (fun k => k = gx ∨ (Value.slice A9 m1 c9).ownBlock = some k) w11 wr)) (fun iv _ => m1 - (intOf iv).toNat)
  case atStart => exact ⟨0, rfl, by omega, by rw [upd_zero]; exact OX11, by rw [upd_zero]; exact O11, Lib.hid (Fr.refl _ _)⟩
  case round =>
    clear OX11 O11
    obtain ⟨i, rfl, hi, HXB, HOB, HFX⟩ := hrel
    by_cases hin : i < m1
    · have hix : i < xs.length := by rw [← HN.out]; exact hin
      obtain ⟨y, hy⟩ : ∃ y, y = xs.getD i 0 := ⟨_, rfl⟩
      have hul := upd_length i (flip xs) xs (flip_len xs)
      obtain ⟨go, c', y', hv, -, hfo⟩ := HOB.out.cells (k := i) (by rw [hul]; exact hix)
      injection hv with e2 e3 e4
      subst e2 e4
      have hco := rd_own HOB.out i (by rw [hul]; exact hix)
      rw [upd_getD xs i hix, ← hy] at hco
      have cx1 : wr.cell? ⟨gx, i, none⟩ = some (.int .i64 y) := by
        have h := rd_own HXB.out i (by rw [List.length_append, hul]; omega)
        rwa [upd_getT xs tl i hix, ← hy] at h
      obtain ⟨gx', cx', yx', hvx, -, fx1⟩ := HXB.out.cells (k := i) (by rw [List.length_append, hul]; omega)
      injection hvx with e5 e6 e7
      injection e5 with e5
      injection e5 with e5 _ _
      subst e5
      have HU1 := Lib.hid (updd xs i hix)
      have HU2 := Lib.hid (updt xs tl i hix)
      rw [← hy] at HU1 HU2
      have n1 : ¬ go = gx := by have := V9.out go rfl; have := VX.out gx rfl; have := L3.out; have := L4.out; have := L5.out; have := L6.out; have := L7.out; have := L10.out; omega
      have n2 : ¬ gx = go := fun e => n1 e.symm
      have hb2 : ((i % 2 : Nat) : Int) = (i : Int).tmod 2 := by rw [Int.tmod_eq_emod_of_nonneg (by omega)]; omega
      have hwt : IntKind.i64.wrap ((i : Int).tmod 2) = (i : Int).tmod 2 := by rw [IntKind.wrap_i64] <;> omega
      rw [hb2] at HU1 HU2
      clear hb2
      generalize hmo : (i : Int).tmod 2 = mo at *
      have BX2 : Hid (Own ((wr.setCell ⟨gx, i, none⟩ (.int .i64 (bits .xor .i64 y mo))).setCell ⟨go, i, none⟩ (.int .i64 (bits .xor .i64 y mo))) w.heap.size 3 .i64 (.slice (some ⟨gx, 0, none⟩) (m1 + 3) cx) (upd (i + 1) (flip xs) xs ++ tl)) := Lib.hid (by
        have h1 := HXB.out.setAt (k := i) (by rw [List.length_append, hul]; omega) (bits .xor .i64 y mo)
        rw [HU2.out] at h1
        exact h1.fr ((Fr.refl (fun k => k = go) _).setCell (p := ⟨go, i, none⟩) (.inl rfl) _) (fun g hg e => by cases hg; exact n2 e))
      have OO2 : Hid (Own ((wr.setCell ⟨gx, i, none⟩ (.int .i64 (bits .xor .i64 y mo))).setCell ⟨go, i, none⟩ (.int .i64 (bits .xor .i64 y mo))) w10.heap.size 3 .i64 (.slice (some ⟨go, 0, none⟩) m1 c9) (upd (i + 1) (flip xs) xs)) := Lib.hid (by
        have h0 := HOB.out.fr ((Fr.refl (fun k => k = gx) wr).setCell (p := ⟨gx, i, none⟩) (.inl rfl) (.int .i64 (bits .xor .i64 y mo))) (fun g hg e => by cases hg; exact n1 e)
        have h1 := h0.setAt (k := i) (by rw [hul]; exact hix) (bits .xor .i64 y mo)
        rw [HU1.out] at h1
        exact h1)
      have FR2 : Hid (Fr (fun k => k = gx ∨ (Value.slice (some ⟨go, 0, none⟩) m1 c9).ownBlock = some k) w11 ((wr.setCell ⟨gx, i, none⟩ (.int .i64 (bits .xor .i64 y mo))).setCell ⟨go, i, none⟩ (.int .i64 (bits .xor .i64 y mo)))) := Lib.hid ((HFX.out.setCell (p := ⟨gx, i, none⟩) (.inl (.inl rfl)) _).setCell (p := ⟨go, i, none⟩) (.inl (.inr rfl)) _)
      have m1' : IntKind.i64.wrap ((i : Int) + 1) = ((i + 1 : Nat) : Int) := by rw [IntKind.wrap_i64] <;> omega
      have q0 : (i : Int) < (m1 : Int) := by omega
      have q2 : (i : Int) < ((m1 + 3 : Nat) : Int) := by omega
      clear hy hix hul HXB HOB HFX
      go_wp2_with fail
      go_roundw
      case rel => exact ⟨i + 1, by simp, by omega, BX2, OO2, FR2⟩
      case measure => simp [intOf]; omega
    · obtain rfl : m1 = i := by omega
      have hge : decide ((m1 : Int) < (m1 : Int)) = false := by simp
      have e0 : upd m1 (flip xs) xs = flip xs := by rw [HN.out]; exact upd_all _ _ (flip_len xs)
      rw [e0] at HXB HOB
      clear e0 hin hi
      have HLs : Hid (gx < Ba ∧ w.heap.size ≤ gx ∧ w3.heap.size = Ba + 1 ∧ w3.heap.size ≤ w4.heap.size ∧ w4.heap.size ≤ w5.heap.size ∧ w5.heap.size ≤ w6.heap.size ∧ w6.heap.size ≤ w7.heap.size ∧ w7.heap.size ≤ w10.heap.size ∧ w10.heap.size ≤ w11.heap.size ∧ w4.heap.size ≤ h1 ∧ w6.heap.size ≤ h2) := Lib.hid ⟨(VX.out gx rfl).2, (VX.out gx rfl).1, L3.out, L4.out, L5.out.1, L6.out, L7.out.1, L10.out, L11.out, L5.out.2, L7.out.2⟩
      have HSN : Hid (∀ g, g ≠ gx → g < w10.heap.size → ¬ (g = gx ∨ (Value.slice A9 m1 c9).ownBlock = some g)) := Lib.hid (fun g h1 h2 h => by
        rcases h with h | h
        · exact h1 h
        · have := V9.out g h; omega)
      have NE := Lib.hid (((N11s.out.fr HFX.out (fun g hg => by
        have := HLs.out
        have := N11s.out.ba
        rcases hg with hg | hg
        · omega
        · have := V9.out g hg; omega) (HSN.out _ (by have := HLs.out; omega) (by have := HLs.out; omega)) (fun g hg => by
        have := HLs.out
        rcases VA2.out g hg with h | h
        · have := VA1'.out g h; exact HSN.out _ (by omega) (by omega)
        · exact HSN.out _ (by omega) (by omega)) (fun o ho g hg => by
        have := HLs.out
        simp only [List.mem_cons, List.not_mem_nil, or_false] at ho
        rcases ho with rfl | rfl | rfl
        · have := V2.out g hg; exact HSN.out _ (by omega) (by omega)
        · have := V1.out g hg; exact HSN.out _ (by omega) (by omega)
        · have := VW.out g hg; exact HSN.out _ (by omega) (by omega))).cons (Nat.le_trans N11s.out.bel.size (Nat.le_refl _) |> fun _ => by have := HLs.out; omega) HOB.out).cons (Nat.le_refl _) HXB.out)
      have LE : Hid (w11.heap.size ≤ wr.heap.size) := Lib.hid HFX.out.size
      clear HXB HOB HFX N11s HSN
      have HRx := Lib.hid (rd_app (NE.out.get w.heap.size _ (flip xs ++ tl) (by repeat (first | exact List.mem_cons_self | refine List.mem_cons_of_mem _ ?_))))
      have HS3 := Lib.hid (shift_ns w Ba Q2 m2 q2 (xs ++ asks m1 xs) _ wr (some ⟨gx, 0, none⟩) m1 cx (flip xs) NE.out HFN.out HRx.out (by omega) HFR.out (by have := HAL.out; rw [HAK.out] at this ⊢; first | (simp; done) | (simp; omega))
        (fun a ha => by cases ha; exact ⟨by have := HLs.out; show gx ≠ Ba; omega, fun h => by
          have := HLs.out
          rcases VA2.out _ h with h | h
          · have := VA1'.out _ h; dsimp only at this; omega
          · dsimp only at h; omega⟩)
        (fun o ho g hg h => by
          have := HLs.out
          have h0 : (h1 ≤ g ∧ g < w5.heap.size) ∨ (h2 ≤ g ∧ g < w7.heap.size) := by
            rcases VA2.out _ h with h | h
            · exact .inl (VA1'.out _ h)
            · exact .inr h
          simp only [List.mem_cons, List.not_mem_nil, or_false] at ho
          rcases ho with rfl | rfl | rfl | rfl | rfl
          · have := VX.out g hg; omega
          · have := V9.out g hg; omega
          · have := V2.out g hg; omega
          · have := V1.out g hg; omega
          · have := VW.out g hg; omega))
      go_wp2_with fail
      refine HS3.out.mono ?_
      rintro e wa ⟨P3, k3, d3, Q3, m3, q3, h3, rfl, K3, M3, NA, LA, V3, VA3⟩
      clear HS3 NE HRx
      have OOa := Lib.hid (NA.out.get w10.heap.size _ (flip xs) (by repeat (first | exact List.mem_cons_self | refine List.mem_cons_of_mem _ ?_)))
      have HSS := Lib.hid (shifted_any A9 m1 c9 (flip xs) wa HFN.out (own_rd OOa.out) (by rw [← HFN.out]; omega) HFR.out)
      go_wp2_with fail
      refine HSS.out.mono ?_
      rintro e wb ⟨vs, rfl, ho, hb⟩
      obtain ⟨As, cs, hvs, -⟩ := ho.slice
      subst hvs
      have OS := Lib.hid ho
      have NB := Lib.hid (NA.out.below hb)
      have LB : Hid (wa.heap.size ≤ wb.heap.size) := Lib.hid hb.size
      clear ho hb HSS NA OOa
      have O3b := Lib.hid (NB.out.get wr.heap.size _ (SHF (flip xs)) (by repeat (first | exact List.mem_cons_self | refine List.mem_cons_of_mem _ ?_)))
      go_wp2_with fail
      refine (eqi_same P3 As k3 _ d3 cs _ wb K3.out rfl (own_rd O3b.out) (own_rd OS.out) (by have := HSL2.out; omega)).mono ?_
      rintro e wc ⟨rfl, FC⟩
      have NC := Lib.hid (NB.out.below FC.out)
      have LC : Hid (wb.heap.size ≤ wc.heap.size) := Lib.hid FC.out.size
      clear NB FC OS O3b
      have O1c := Lib.hid (NC.out.get w4.heap.size _ (SHF xs) (by repeat (first | exact List.mem_cons_self | refine List.mem_cons_of_mem _ ?_)))
      have OWc := Lib.hid (NC.out.get w3.heap.size _ (SHF xs) (by repeat (first | exact List.mem_cons_self | refine List.mem_cons_of_mem _ ?_)))
      go_wp2_with fail
      refine (eqi_same P1 Aw k1 _ d1 cw _ wc K1.out rfl (own_rd O1c.out) (own_rd OWc.out) (by have := HSL.out; omega)).mono ?_
      rintro e wd ⟨rfl, FD⟩
      have ND := Lib.hid (NC.out.below FD.out)
      have LD : Hid (wc.heap.size ≤ wd.heap.size) := Lib.hid FD.out.size
      clear NC FD O1c OWc
      have OXd := Lib.hid (ND.out.get w.heap.size _ (flip xs ++ tl) (by repeat (first | exact List.mem_cons_self | refine List.mem_cons_of_mem _ ?_)))
      have hat : ∀ q v, tl[q]? = some v → wd.cell? ⟨gx, m1 + q, none⟩ = some (.int .i64 v) := fun q v hq => by
        have hq3 : q < tl.length := (List.getElem?_eq_some_iff.1 hq).1
        have h := rd_own OXd.out (m1 + q) (by rw [List.length_append, ← HFN.out]; omega)
        rw [List.getD_eq_getElem?_getD, List.getElem?_append_right (by rw [← HFN.out]; omega), ← HFN.out, show m1 + q - m1 = q from by omega, hq] at h
        exact h
      have t0 : wd.cell? ⟨gx, m1, none⟩ = some (.int .i64 (-7)) := hat 0 _ rfl
      have t1 : wd.cell? ⟨gx, m1 + 1, none⟩ = some (.int .i64 (-8)) := hat 1 _ rfl
      have t2 : wd.cell? ⟨gx, m1 + 2, none⟩ = some (.int .i64 (-9)) := hat 2 _ rfl
      have mm1 : IntKind.i64.wrap ((m1 : Int) + 1) = ((m1 + 1 : Nat) : Int) := by rw [IntKind.wrap_i64] <;> omega
      have mm2 : IntKind.i64.wrap ((m1 : Int) + 2) = ((m1 + 2 : Nat) : Int) := by rw [IntKind.wrap_i64] <;> omega
      clear hat
      go_wp2_with fail
      have O1d := Lib.hid (ND.out.get w4.heap.size _ (SHF xs) (by repeat (first | exact List.mem_cons_self | refine List.mem_cons_of_mem _ ?_)))
      have O2d := Lib.hid (ND.out.get w6.heap.size _ (SHF xs) (by repeat (first | exact List.mem_cons_self | refine List.mem_cons_of_mem _ ?_)))
      have O3d := Lib.hid (ND.out.get wr.heap.size _ (SHF (flip xs)) (by repeat (first | exact List.mem_cons_self | refine List.mem_cons_of_mem _ ?_)))
      have HWL : Hid (w.heap.size ≤ w4.heap.size) := Lib.hid (by have := HLs.out; omega)
      have HLt : Hid (w11.heap.size ≤ wr.heap.size ∧ wr.heap.size ≤ wa.heap.size ∧ wa.heap.size ≤ wb.heap.size ∧ wb.heap.size ≤ wc.heap.size ∧ wc.heap.size ≤ wd.heap.size) := Lib.hid ⟨LE.out, LA.out.1, LB.out, LC.out, LD.out⟩
      have HAP : Hid (∀ g, Blks 3 (p3 (.slice P1 k1 d1) (.slice P2 k2 d2) (.slice P3 k3 d3)) g → (w4.heap.size ≤ g ∧ g < w7.heap.size) ∨ (wr.heap.size ≤ g ∧ g < wa.heap.size)) := Lib.hid (fun g ⟨j, hj, hg⟩ => by
        revert hg
        refine lt3 (P := fun j => (p3 (Value.slice P1 k1 d1) (.slice P2 k2 d2) (.slice P3 k3 d3) j).ownBlock = some g → _) ?_ ?_ ?_ j hj
        · intro hg; have := V1.out g hg; have := HLs.out; omega
        · intro hg; have := V2.out g hg; have := HLs.out; omega
        · intro hg; have := V3.out g hg; omega)
      refine (apart_any w4.heap.size wd.heap.size 3 3 (p3 (.slice P1 k1 d1) (.slice P2 k2 d2) (.slice P3 k3 d3)) (p3 k1 k2 k3) (p3 (SHF xs) (SHF xs) (SHF (flip xs))) (wd.alloc (.cells #[.slice P1 k1 d1, .slice P2 k2 d2, .slice P3 k3 d3] 39)) (by omega)
        (lt3 K1.out.symm K2.out.symm K3.out.symm)
        (lt3 (O1d.out.alloc _) ((O2d.out.lower (by have := HLs.out; omega)).alloc _) ((O3d.out.lower (by have := HLs.out; have := HLt.out; omega)).alloc _))
        (fun a b ha hb hab g h1 h2 => by
          have e1 : ∀ j, j < 3 → (p3 (Value.slice P1 k1 d1) (.slice P2 k2 d2) (.slice P3 k3 d3) j).ownBlock = some g → (j = 0 ∧ w4.heap.size ≤ g ∧ g < w5.heap.size) ∨ (j = 1 ∧ w6.heap.size ≤ g ∧ g < w7.heap.size) ∨ (j = 2 ∧ wr.heap.size ≤ g) := lt3 (fun hg => .inl ⟨rfl, (V1.out g hg).1, (V1.out g hg).2.2⟩) (fun hg => .inr (.inl ⟨rfl, (V2.out g hg).1, (V2.out g hg).2.2⟩)) (fun hg => .inr (.inr ⟨rfl, (V3.out g hg).1⟩))
          have := e1 a ha h1
          have := e1 b hb h2
          have := HLs.out
          have := HLt.out
          omega)
        (fun j hj e => by
          have := HAP.out _ ⟨j, hj, e⟩
          have := HLs.out
          have := HLt.out
          omega)
        (lt3 ((Blk.new wd 39 [.slice P1 k1 d1, .slice P2 k2 d2, .slice P3 k3 d3]).cell 0) ((Blk.new wd 39 [.slice P1 k1 d1, .slice P2 k2 d2, .slice P3 k3 d3]).cell 1) ((Blk.new wd 39 [.slice P1 k1 d1, .slice P2 k2 d2, .slice P3 k3 d3]).cell 2))
        (by have := HLs.out; have := HLt.out; simp; omega)
        (lt3 (by show k1 + 71 ≤ _; rw [K1.out]; have := HSL.out; omega) (by show k2 + 71 ≤ _; rw [K2.out]; have := HSL.out; omega) (by show k3 + 71 ≤ _; rw [K3.out]; have := HSL2.out; omega))).mono ?_
      rintro e we ⟨rfl, hfr⟩
      have OOd := Lib.hid (ND.out.get w10.heap.size _ (flip xs) (by repeat (first | exact List.mem_cons_self | refine List.mem_cons_of_mem _ ?_)))
      have BE2 : Hid (Below w.heap.size w we) := Lib.hid ((ND.out.bel.alloc ND.out.bel.size _).trans (hfr.below (B := w.heap.size) (by have := ND.out.bel.size; simp; omega) (fun g hg => by have := HAP.out g hg; have := HLs.out; have := HLt.out; omega)))
      have XE2 := Lib.hid ((OXd.out.alloc (.cells #[.slice P1 k1 d1, .slice P2 k2 d2, .slice P3 k3 d3] 39)).fr hfr (fun g hv hg => by have := HAP.out g hg; have := VX.out g hv; have := HLs.out; have := HLt.out; omega))
      have OE2 := Lib.hid ((OOd.out.alloc (.cells #[.slice P1 k1 d1, .slice P2 k2 d2, .slice P3 k3 d3] 39)).fr hfr (fun g hv hg => by have := HAP.out g hg; have := V9.out g hv; have := HLs.out; have := HLt.out; omega))
      clear hfr ND OXd OOd O1d O2d O3d t0 t1 t2
      go_wp2_with fail
      refine (eqi_same (some ⟨gx, 0, none⟩) A9 m1 m1 cx c9 (flip xs) we HFN.out HFN.out (rd_app XE2.out) (own_rd OE2.out) (by rw [← HFN.out]; omega)).mono ?_
      rintro e wf ⟨rfl, FF⟩
      go_wp2_with fail
      refine (works_any wf).mono ?_
      rintro e wg ⟨rfl, FG⟩
      go_wp2_with fail
      go_ret
      have b1 := BE2.out.trans (FF.out.mono BE2.out.size)
      exact ⟨rfl, b1.trans (FG.out.mono b1.size)⟩
set_option maxRecDepth 100000 in
set_option maxHeartbeats 16000000 in
theorem shifts_big (A : Option Addr) (n c : Nat) (xs : List Int) (w : World) (hn : n = xs.length) (hr : Rd w .i64 A xs) (hl : xs.length ≤ 17592186043904) (hx : ∀ i, R64 (xs.getD i 0)) (hbig : 65536 < n) :
    Calls Try.prog 9 #[.slice A n c] w fun e w' => e = .returned (.bool true) ∧ Below w.heap.size w w' := by
  have HN := Lib.hid hn
  have HR := Lib.hid hr
  have HX := Lib.hid hx
  have hbt : (xs.length + tl.length) * 8 ≤ 140737488355328 := by simp [tl]; omega
  have HCP : Hid (∀ W, Rd W .i64 A xs → Calls Try.prog 19 #[.slice A n c] W (Made 3 .i64 xs W)) := Lib.hid (fun W hr => by rw [hn]; exact copyi_any A c xs W hr (by omega))
  have hnl : n ≤ 17592186043904 := by omega
  have HSL : Hid ((SHF xs).length ≤ 17592186043904) := Lib.hid (Nat.le_trans (SHF_len_le xs) hl)
  have HSL2 : Hid ((SHF (flip xs)).length ≤ 17592186043904) := Lib.hid (Nat.le_trans (SHF_len_le _) (by rw [flip_len]; exact hl))
  have HFR := Lib.hid (flip_r xs)
  have HFN : Hid (n = (flip xs).length) := Lib.hid (by rw [flip_len]; exact hn)
  have HAK : Hid (asks n xs = []) := Lib.hid (if_neg (by omega))
  have hd1 : decide ((n : Int) ≤ 65536) = false := by simp; omega
  have hd2 : decide ((65536 : Int) < (n : Int)) = true := by simp; omega
  have HAL : Hid ((asks n xs).length ≤ 65536) := Lib.hid (by unfold asks; split <;> first | omega | simp)
  clear hn hr hx
  go_enter Try.func9, Try.ntmps9
  go_wp2_with fail
  refine (HCP.out w HR.out).mono ?_
  rintro e w1 ⟨v1, rfl, ho, hb⟩
  have O1 := Lib.hid ho
  have B1 := Lib.hid hb
  clear ho hb
  obtain ⟨A1, c1, hv1, -⟩ := O1.out.slice
  subst hv1
  have O1a : Hid (Own (w1.alloc (.cells #[.int .i64 (-7), .int .i64 (-8), .int .i64 (-9)] 3)) w.heap.size 3 .i64 (.slice A1 xs.length c1) xs) := Lib.hid (O1.out.alloc _)
  have T1 : Hid (Rd (w1.alloc (.cells #[.int .i64 (-7), .int .i64 (-8), .int .i64 (-9)] 3)) .i64 (some ⟨w1.heap.size, 0, none⟩) tl) := Lib.hid (rd_blk (Blk.new w1 3 (tl.map (Value.int .i64))))
  go_wp2_with (show wpList _ _ _ ({ dst := some 15, op := _, type := _, pos := _, after := _, guard := _ } :: _) _ _; refine wpList_pushes_any _ rfl _ _ 39 rfl w.heap.size 3 .i64 8 Try.underlying39 info3 _ xs rfl O1a.out (some ⟨w1.heap.size, 0, none⟩) 3 3 tl rfl rfl T1.out hbt (by decide) (by have := B1.out.size; simp; omega) ?_; intro vx w2 ho hf; have F2 := Lib.hid hf; obtain ⟨gx, cx, rest, rfl, hgx, bx, hcx1, hcx2⟩ := app_form HN.out ho; have OX2 := Lib.hid ho; have CX : Hid (n + 3 ≤ cx ∧ cx ≤ maxLen) := Lib.hid ⟨hcx1, hcx2⟩; clear ho hf hgx bx hcx1 hcx2)
  have B2 : Hid (Below w.heap.size w w2) := Lib.hid ((B1.out.alloc B1.out.size _).trans (F2.out.below (B := w.heap.size) (by have := B1.out.size; simp; omega) (fun k h => (O1.out.base_le h).1)))
  have e1 : (n : Int) ≤ (cx : Int) := by have := CX.out; omega
  have N3 : Hid (NS w w2.heap.size (.slice none 0 0) [] [(w.heap.size, .slice (some ⟨gx, 0, none⟩) (n + 3) cx, xs ++ tl)] (w2.alloc (.cells #[.slice none 0 0] 39))) := Lib.hid (NS.cons (os := []) ⟨B2.out.alloc B2.out.size _, B2.out.size, Blk.new w2 39 [.slice none 0 0], Own.nil _ _ _ _, fun o ho => by cases ho⟩ (Nat.le_refl _) (OX2.out.alloc _))
  have VX : Hid (Iv (.slice (some ⟨gx, 0, none⟩) (n + 3) cx) w.heap.size w2.heap.size) := Lib.hid (fun g hg => OX2.out.base_le hg)
  have L3 : Hid ((w2.alloc (.cells #[.slice none 0 0] 39)).heap.size = w2.heap.size + 1) := Lib.hid (by simp)
  clear O1 B1 O1a T1 hbt F2 OX2 B2
  generalize hBa : w2.heap.size = Ba at *
  clear hBa
  generalize w2.alloc (.cells #[.slice none 0 0] 39) = w3 at *
  refine (shifted_any A n c xs w3 HN.out (HR.out.below N3.out.bel) (by omega) HX.out).mono ?_
  rintro e w4 ⟨vw, rfl, ho, hb⟩
  have NW := Lib.hid (N3.out.made ho hb)
  have VW : Hid (Iv vw w3.heap.size w4.heap.size) := Lib.hid (fun g hg => ho.base_le hg)
  have L4 : Hid (w3.heap.size ≤ w4.heap.size) := Lib.hid hb.size
  obtain ⟨Aw, cw, hvw, -⟩ := ho.slice
  subst hvw
  clear ho hb N3
  have HS1 := Lib.hid (shift_ns w Ba none 0 0 [] _ w4 (some ⟨gx, 0, none⟩) n cx xs NW.out HN.out (rd_app (NW.out.get w.heap.size _ (xs ++ tl) (by repeat (first | exact List.mem_cons_self | refine List.mem_cons_of_mem _ ?_)))) (by omega) HX.out (by simp)
    (fun a ha => by cases ha; exact ⟨by have := VX.out gx rfl; show gx ≠ Ba; omega, fun h => by cases h⟩) (fun o ho g hg h => by cases h))
  go_wp2_with fail
  refine HS1.out.mono ?_
  rintro e w5 ⟨P1, k1, d1, Q1, m1, q1, h1, rfl, K1, M1, N5, L5, V1, VA1⟩
  clear HS1 NW
  have VA1' : Hid (Iv (.slice Q1 m1 q1) h1 w5.heap.size) := Lib.hid (fun g hg => by
    rcases VA1.out g hg with h | h
    · cases h
    · exact h)
  rw [List.nil_append, HAK.out] at M1 N5
  clear VA1
  have cA := N5.out.bx.cell 0
  simp only [List.getElem?_cons_zero] at cA
  obtain rfl : m1 = 0 := M1.out
  have F6 : Hid (Below w5.heap.size w5 w5) := Lib.hid (Below.refl _ _)
  have N6 := Lib.hid (N5.out.below F6.out)
  have L6 : Hid (w5.heap.size ≤ w5.heap.size) := Lib.hid F6.out.size
  clear N5 F6
  have HS2 := Lib.hid (shift_ns w Ba Q1 0 q1 [] _ w5 (some ⟨gx, 0, none⟩) n cx xs N6.out HN.out (rd_app (N6.out.get w.heap.size _ (xs ++ tl) (by repeat (first | exact List.mem_cons_self | refine List.mem_cons_of_mem _ ?_)))) (by omega) HX.out (by have := HAL.out; rw [HAK.out] at this; omega)
    (fun a ha => by cases ha; exact ⟨by have := VX.out gx rfl; show gx ≠ Ba; omega, fun h => by have h9 := VA1'.out _ h; dsimp only at h9; have := VX.out gx rfl; have := L3.out; have := L4.out; have := L5.out; omega⟩)
    (fun o ho g hg h => by
      have h0 := VA1'.out _ h
      have := L3.out
      have := L4.out
      have := L5.out
      simp only [List.mem_cons, List.not_mem_nil, or_false] at ho
      rcases ho with rfl | rfl | rfl
      · have := V1.out g hg; omega
      · have := VW.out g hg; omega
      · have := VX.out g hg; omega))
  clear cA
  have cA := N6.out.bx.cell 0
  simp only [List.getElem?_cons_zero] at cA
  go_wp2_with fail
  refine HS2.out.mono ?_
  rintro e w7 ⟨P2, k2, d2, Q2, m2, q2, h2, rfl, K2, M2, N7, L7, V2, VA2⟩
  clear HS2 N6
  clear cA
  have OW7 := Lib.hid (N7.out.get w3.heap.size _ (SHF xs) (by repeat (first | exact List.mem_cons_self | refine List.mem_cons_of_mem _ ?_)))
  have O17 := Lib.hid (N7.out.get w4.heap.size _ (SHF xs) (by repeat (first | exact List.mem_cons_self | refine List.mem_cons_of_mem _ ?_)))
  have O27 := Lib.hid (N7.out.get w5.heap.size _ (SHF xs) (by repeat (first | exact List.mem_cons_self | refine List.mem_cons_of_mem _ ?_)))
  have OX7 := Lib.hid (N7.out.get w.heap.size _ (xs ++ tl) (by repeat (first | exact List.mem_cons_self | refine List.mem_cons_of_mem _ ?_)))
  go_wp2_with fail
  refine (eqi_same P1 Aw k1 _ d1 cw _ w7 K1.out rfl (own_rd O17.out) (own_rd OW7.out) (by have := HSL.out; omega)).mono ?_
  rintro e w8 ⟨rfl, F8⟩
  go_wp2_with fail
  refine (eqi_same P2 Aw k2 _ d2 cw _ w8 K2.out rfl ((own_rd O27.out).below F8.out) ((own_rd OW7.out).below F8.out) (by have := HSL.out; omega)).mono ?_
  rintro e w9 ⟨rfl, F9⟩
  have F79 : Hid (Below w7.heap.size w7 w9) := Lib.hid (F8.out.trans (F9.out.mono F8.out.size))
  clear F8 F9
  go_wp2_with fail
  refine (eqi_same (some ⟨gx, 0, none⟩) A n n cx c xs w9 HN.out HN.out ((rd_app OX7.out).below F79.out) (HR.out.below (N7.out.bel.trans (F79.out.mono N7.out.bel.size))) (by omega)).mono ?_
  rintro e w10 ⟨rfl, F10⟩
  have N10 := Lib.hid (N7.out.below (F79.out.trans (F10.out.mono F79.out.size)))
  have L10 : Hid (w7.heap.size ≤ w10.heap.size) := Lib.hid (Nat.le_trans F79.out.size F10.out.size)
  clear OW7 O17 O27 OX7 F79 F10 N7
  go_wp2_with fail
  refine (HCP.out w10 (HR.out.below N10.out.bel)).mono ?_
  rintro e w11 ⟨v9, rfl, ho, hb⟩
  obtain ⟨A9, c9, hv9, hc9, -⟩ := ho.slice
  subst hv9
  rw [← HN.out] at ho ⊢
  have O11 := Lib.hid ho
  have V9 : Hid (Iv (.slice A9 n c9) w10.heap.size w11.heap.size) := Lib.hid (fun g hg => ho.base_le hg)
  have N11 := Lib.hid (N10.out.below hb)
  have L11 : Hid (w10.heap.size ≤ w11.heap.size) := Lib.hid hb.size
  have OX11 := Lib.hid (N11.out.get w.heap.size _ (xs ++ tl) (by repeat (first | exact List.mem_cons_self | refine List.mem_cons_of_mem _ ?_)))
  have N11s : Hid (NS w Ba (.slice Q2 m2 q2) ([] ++ asks n xs) [(w5.heap.size, .slice P2 k2 d2, SHF xs), (w4.heap.size, .slice P1 k1 d1, SHF xs), (w3.heap.size, .slice Aw (SHF xs).length cw, SHF xs)] w11) := Lib.hid (N11.out.sub (fun o ho => by
    simp only [List.mem_cons, List.not_mem_nil, or_false] at ho ⊢
    rcases ho with h | h | h
    · exact .inl h
    · exact .inr (.inl h)
    · exact .inr (.inr (.inl h))))
  clear ho hb hc9 HCP N10 N11
  go_wp2_with fail
  go_loopw [10] (fun iv wr => ∃ i : Nat, iv = .int .i64 (i : Int) ∧ i ≤ n ∧ Hid (Own wr w.heap.size 3 .i64 (.slice (some ⟨gx, 0, none⟩) (n + 3) cx) (upd i (flip xs) xs ++ tl)) ∧ Hid (Own wr w10.heap.size 3 .i64 (.slice A9 n c9) (upd i (flip xs) xs)) ∧ Hid (Fr (fun k => k = gx ∨ (Value.slice A9 n c9).ownBlock = some k) w11 wr)) (fun iv _ => n - (intOf iv).toNat)
  case atStart => exact ⟨0, rfl, by omega, by rw [upd_zero]; exact OX11, by rw [upd_zero]; exact O11, Lib.hid (Fr.refl _ _)⟩
  case round =>
    clear OX11 O11
    obtain ⟨i, rfl, hi, HXB, HOB, HFX⟩ := hrel
    by_cases hin : i < n
    · have hix : i < xs.length := by rw [← HN.out]; exact hin
      obtain ⟨y, hy⟩ : ∃ y, y = xs.getD i 0 := ⟨_, rfl⟩
      have hul := upd_length i (flip xs) xs (flip_len xs)
      obtain ⟨go, c', y', hv, -, hfo⟩ := HOB.out.cells (k := i) (by rw [hul]; exact hix)
      injection hv with e2 e3 e4
      subst e2 e4
      have hco := rd_own HOB.out i (by rw [hul]; exact hix)
      rw [upd_getD xs i hix, ← hy] at hco
      have cx1 : wr.cell? ⟨gx, i, none⟩ = some (.int .i64 y) := by
        have h := rd_own HXB.out i (by rw [List.length_append, hul]; omega)
        rwa [upd_getT xs tl i hix, ← hy] at h
      obtain ⟨gx', cx', yx', hvx, -, fx1⟩ := HXB.out.cells (k := i) (by rw [List.length_append, hul]; omega)
      injection hvx with e5 e6 e7
      injection e5 with e5
      injection e5 with e5 _ _
      subst e5
      have HU1 := Lib.hid (updd xs i hix)
      have HU2 := Lib.hid (updt xs tl i hix)
      rw [← hy] at HU1 HU2
      have n1 : ¬ go = gx := by have := V9.out go rfl; have := VX.out gx rfl; have := L3.out; have := L4.out; have := L5.out; have := L6.out; have := L7.out; have := L10.out; omega
      have n2 : ¬ gx = go := fun e => n1 e.symm
      have hb2 : ((i % 2 : Nat) : Int) = (i : Int).tmod 2 := by rw [Int.tmod_eq_emod_of_nonneg (by omega)]; omega
      have hwt : IntKind.i64.wrap ((i : Int).tmod 2) = (i : Int).tmod 2 := by rw [IntKind.wrap_i64] <;> omega
      rw [hb2] at HU1 HU2
      clear hb2
      generalize hmo : (i : Int).tmod 2 = mo at *
      have BX2 : Hid (Own ((wr.setCell ⟨gx, i, none⟩ (.int .i64 (bits .xor .i64 y mo))).setCell ⟨go, i, none⟩ (.int .i64 (bits .xor .i64 y mo))) w.heap.size 3 .i64 (.slice (some ⟨gx, 0, none⟩) (n + 3) cx) (upd (i + 1) (flip xs) xs ++ tl)) := Lib.hid (by
        have h1 := HXB.out.setAt (k := i) (by rw [List.length_append, hul]; omega) (bits .xor .i64 y mo)
        rw [HU2.out] at h1
        exact h1.fr ((Fr.refl (fun k => k = go) _).setCell (p := ⟨go, i, none⟩) (.inl rfl) _) (fun g hg e => by cases hg; exact n2 e))
      have OO2 : Hid (Own ((wr.setCell ⟨gx, i, none⟩ (.int .i64 (bits .xor .i64 y mo))).setCell ⟨go, i, none⟩ (.int .i64 (bits .xor .i64 y mo))) w10.heap.size 3 .i64 (.slice (some ⟨go, 0, none⟩) n c9) (upd (i + 1) (flip xs) xs)) := Lib.hid (by
        have h0 := HOB.out.fr ((Fr.refl (fun k => k = gx) wr).setCell (p := ⟨gx, i, none⟩) (.inl rfl) (.int .i64 (bits .xor .i64 y mo))) (fun g hg e => by cases hg; exact n1 e)
        have h1 := h0.setAt (k := i) (by rw [hul]; exact hix) (bits .xor .i64 y mo)
        rw [HU1.out] at h1
        exact h1)
      have FR2 : Hid (Fr (fun k => k = gx ∨ (Value.slice (some ⟨go, 0, none⟩) n c9).ownBlock = some k) w11 ((wr.setCell ⟨gx, i, none⟩ (.int .i64 (bits .xor .i64 y mo))).setCell ⟨go, i, none⟩ (.int .i64 (bits .xor .i64 y mo)))) := Lib.hid ((HFX.out.setCell (p := ⟨gx, i, none⟩) (.inl (.inl rfl)) _).setCell (p := ⟨go, i, none⟩) (.inl (.inr rfl)) _)
      have m1' : IntKind.i64.wrap ((i : Int) + 1) = ((i + 1 : Nat) : Int) := by rw [IntKind.wrap_i64] <;> omega
      have q0 : (i : Int) < (n : Int) := by omega
      have q2 : (i : Int) < ((n + 3 : Nat) : Int) := by omega
      clear hy hix hul HXB HOB HFX
      go_wp2_with fail
      go_roundw
      case rel => exact ⟨i + 1, by simp, by omega, BX2, OO2, FR2⟩
      case measure => simp [intOf]; omega
    · obtain rfl : n = i := by omega
      have hge : decide ((n : Int) < (n : Int)) = false := by simp
      have e0 : upd n (flip xs) xs = flip xs := by rw [HN.out]; exact upd_all _ _ (flip_len xs)
      rw [e0] at HXB HOB
      clear e0 hin hi
      have HLs : Hid (gx < Ba ∧ w.heap.size ≤ gx ∧ w3.heap.size = Ba + 1 ∧ w3.heap.size ≤ w4.heap.size ∧ w4.heap.size ≤ w5.heap.size ∧ w5.heap.size ≤ w5.heap.size ∧ w5.heap.size ≤ w7.heap.size ∧ w7.heap.size ≤ w10.heap.size ∧ w10.heap.size ≤ w11.heap.size ∧ w4.heap.size ≤ h1 ∧ w5.heap.size ≤ h2) := Lib.hid ⟨(VX.out gx rfl).2, (VX.out gx rfl).1, L3.out, L4.out, L5.out.1, L6.out, L7.out.1, L10.out, L11.out, L5.out.2, L7.out.2⟩
      have HSN : Hid (∀ g, g ≠ gx → g < w10.heap.size → ¬ (g = gx ∨ (Value.slice A9 n c9).ownBlock = some g)) := Lib.hid (fun g h1 h2 h => by
        rcases h with h | h
        · exact h1 h
        · have := V9.out g h; omega)
      have NE := Lib.hid (((N11s.out.fr HFX.out (fun g hg => by
        have := HLs.out
        have := N11s.out.ba
        rcases hg with hg | hg
        · omega
        · have := V9.out g hg; omega) (HSN.out _ (by have := HLs.out; omega) (by have := HLs.out; omega)) (fun g hg => by
        have := HLs.out
        rcases VA2.out g hg with h | h
        · have := VA1'.out g h; exact HSN.out _ (by omega) (by omega)
        · exact HSN.out _ (by omega) (by omega)) (fun o ho g hg => by
        have := HLs.out
        simp only [List.mem_cons, List.not_mem_nil, or_false] at ho
        rcases ho with rfl | rfl | rfl
        · have := V2.out g hg; exact HSN.out _ (by omega) (by omega)
        · have := V1.out g hg; exact HSN.out _ (by omega) (by omega)
        · have := VW.out g hg; exact HSN.out _ (by omega) (by omega))).cons (Nat.le_trans N11s.out.bel.size (Nat.le_refl _) |> fun _ => by have := HLs.out; omega) HOB.out).cons (Nat.le_refl _) HXB.out)
      have LE : Hid (w11.heap.size ≤ wr.heap.size) := Lib.hid HFX.out.size
      clear HXB HOB HFX N11s HSN
      have HRx := Lib.hid (rd_app (NE.out.get w.heap.size _ (flip xs ++ tl) (by repeat (first | exact List.mem_cons_self | refine List.mem_cons_of_mem _ ?_))))
      have HS3 := Lib.hid (shift_ns w Ba Q2 m2 q2 ([] ++ asks n xs) _ wr (some ⟨gx, 0, none⟩) n cx (flip xs) NE.out HFN.out HRx.out (by omega) HFR.out (by have := HAL.out; rw [HAK.out] at this ⊢; first | (simp; done) | (simp; omega))
        (fun a ha => by cases ha; exact ⟨by have := HLs.out; show gx ≠ Ba; omega, fun h => by
          have := HLs.out
          rcases VA2.out _ h with h | h
          · have := VA1'.out _ h; dsimp only at this; omega
          · dsimp only at h; omega⟩)
        (fun o ho g hg h => by
          have := HLs.out
          have h0 : (h1 ≤ g ∧ g < w5.heap.size) ∨ (h2 ≤ g ∧ g < w7.heap.size) := by
            rcases VA2.out _ h with h | h
            · exact .inl (VA1'.out _ h)
            · exact .inr h
          simp only [List.mem_cons, List.not_mem_nil, or_false] at ho
          rcases ho with rfl | rfl | rfl | rfl | rfl
          · have := VX.out g hg; omega
          · have := V9.out g hg; omega
          · have := V2.out g hg; omega
          · have := V1.out g hg; omega
          · have := VW.out g hg; omega))
      go_wp2_with fail
      refine HS3.out.mono ?_
      rintro e wa ⟨P3, k3, d3, Q3, m3, q3, h3, rfl, K3, M3, NA, LA, V3, VA3⟩
      clear HS3 NE HRx
      have OOa := Lib.hid (NA.out.get w10.heap.size _ (flip xs) (by repeat (first | exact List.mem_cons_self | refine List.mem_cons_of_mem _ ?_)))
      have HSS := Lib.hid (shifted_any A9 n c9 (flip xs) wa HFN.out (own_rd OOa.out) (by rw [← HFN.out]; omega) HFR.out)
      go_wp2_with fail
      refine HSS.out.mono ?_
      rintro e wb ⟨vs, rfl, ho, hb⟩
      obtain ⟨As, cs, hvs, -⟩ := ho.slice
      subst hvs
      have OS := Lib.hid ho
      have NB := Lib.hid (NA.out.below hb)
      have LB : Hid (wa.heap.size ≤ wb.heap.size) := Lib.hid hb.size
      clear ho hb HSS NA OOa
      have O3b := Lib.hid (NB.out.get wr.heap.size _ (SHF (flip xs)) (by repeat (first | exact List.mem_cons_self | refine List.mem_cons_of_mem _ ?_)))
      go_wp2_with fail
      refine (eqi_same P3 As k3 _ d3 cs _ wb K3.out rfl (own_rd O3b.out) (own_rd OS.out) (by have := HSL2.out; omega)).mono ?_
      rintro e wc ⟨rfl, FC⟩
      have NC := Lib.hid (NB.out.below FC.out)
      have LC : Hid (wb.heap.size ≤ wc.heap.size) := Lib.hid FC.out.size
      clear NB FC OS O3b
      have O1c := Lib.hid (NC.out.get w4.heap.size _ (SHF xs) (by repeat (first | exact List.mem_cons_self | refine List.mem_cons_of_mem _ ?_)))
      have OWc := Lib.hid (NC.out.get w3.heap.size _ (SHF xs) (by repeat (first | exact List.mem_cons_self | refine List.mem_cons_of_mem _ ?_)))
      go_wp2_with fail
      refine (eqi_same P1 Aw k1 _ d1 cw _ wc K1.out rfl (own_rd O1c.out) (own_rd OWc.out) (by have := HSL.out; omega)).mono ?_
      rintro e wd ⟨rfl, FD⟩
      have ND := Lib.hid (NC.out.below FD.out)
      have LD : Hid (wc.heap.size ≤ wd.heap.size) := Lib.hid FD.out.size
      clear NC FD O1c OWc
      have OXd := Lib.hid (ND.out.get w.heap.size _ (flip xs ++ tl) (by repeat (first | exact List.mem_cons_self | refine List.mem_cons_of_mem _ ?_)))
      have hat : ∀ q v, tl[q]? = some v → wd.cell? ⟨gx, n + q, none⟩ = some (.int .i64 v) := fun q v hq => by
        have hq3 : q < tl.length := (List.getElem?_eq_some_iff.1 hq).1
        have h := rd_own OXd.out (n + q) (by rw [List.length_append, ← HFN.out]; omega)
        rw [List.getD_eq_getElem?_getD, List.getElem?_append_right (by rw [← HFN.out]; omega), ← HFN.out, show n + q - n = q from by omega, hq] at h
        exact h
      have t0 : wd.cell? ⟨gx, n, none⟩ = some (.int .i64 (-7)) := hat 0 _ rfl
      have t1 : wd.cell? ⟨gx, n + 1, none⟩ = some (.int .i64 (-8)) := hat 1 _ rfl
      have t2 : wd.cell? ⟨gx, n + 2, none⟩ = some (.int .i64 (-9)) := hat 2 _ rfl
      have mm1 : IntKind.i64.wrap ((n : Int) + 1) = ((n + 1 : Nat) : Int) := by rw [IntKind.wrap_i64] <;> omega
      have mm2 : IntKind.i64.wrap ((n : Int) + 2) = ((n + 2 : Nat) : Int) := by rw [IntKind.wrap_i64] <;> omega
      clear hat
      go_wp2_with fail
      have O1d := Lib.hid (ND.out.get w4.heap.size _ (SHF xs) (by repeat (first | exact List.mem_cons_self | refine List.mem_cons_of_mem _ ?_)))
      have O2d := Lib.hid (ND.out.get w5.heap.size _ (SHF xs) (by repeat (first | exact List.mem_cons_self | refine List.mem_cons_of_mem _ ?_)))
      have O3d := Lib.hid (ND.out.get wr.heap.size _ (SHF (flip xs)) (by repeat (first | exact List.mem_cons_self | refine List.mem_cons_of_mem _ ?_)))
      have HWL : Hid (w.heap.size ≤ w4.heap.size) := Lib.hid (by have := HLs.out; omega)
      have HLt : Hid (w11.heap.size ≤ wr.heap.size ∧ wr.heap.size ≤ wa.heap.size ∧ wa.heap.size ≤ wb.heap.size ∧ wb.heap.size ≤ wc.heap.size ∧ wc.heap.size ≤ wd.heap.size) := Lib.hid ⟨LE.out, LA.out.1, LB.out, LC.out, LD.out⟩
      have HAP : Hid (∀ g, Blks 3 (p3 (.slice P1 k1 d1) (.slice P2 k2 d2) (.slice P3 k3 d3)) g → (w4.heap.size ≤ g ∧ g < w7.heap.size) ∨ (wr.heap.size ≤ g ∧ g < wa.heap.size)) := Lib.hid (fun g ⟨j, hj, hg⟩ => by
        revert hg
        refine lt3 (P := fun j => (p3 (Value.slice P1 k1 d1) (.slice P2 k2 d2) (.slice P3 k3 d3) j).ownBlock = some g → _) ?_ ?_ ?_ j hj
        · intro hg; have := V1.out g hg; have := HLs.out; omega
        · intro hg; have := V2.out g hg; have := HLs.out; omega
        · intro hg; have := V3.out g hg; omega)
      refine (apart_any w4.heap.size wd.heap.size 3 3 (p3 (.slice P1 k1 d1) (.slice P2 k2 d2) (.slice P3 k3 d3)) (p3 k1 k2 k3) (p3 (SHF xs) (SHF xs) (SHF (flip xs))) (wd.alloc (.cells #[.slice P1 k1 d1, .slice P2 k2 d2, .slice P3 k3 d3] 39)) (by omega)
        (lt3 K1.out.symm K2.out.symm K3.out.symm)
        (lt3 (O1d.out.alloc _) ((O2d.out.lower (by have := HLs.out; omega)).alloc _) ((O3d.out.lower (by have := HLs.out; have := HLt.out; omega)).alloc _))
        (fun a b ha hb hab g h1 h2 => by
          have e1 : ∀ j, j < 3 → (p3 (Value.slice P1 k1 d1) (.slice P2 k2 d2) (.slice P3 k3 d3) j).ownBlock = some g → (j = 0 ∧ w4.heap.size ≤ g ∧ g < w5.heap.size) ∨ (j = 1 ∧ w5.heap.size ≤ g ∧ g < w7.heap.size) ∨ (j = 2 ∧ wr.heap.size ≤ g) := lt3 (fun hg => .inl ⟨rfl, (V1.out g hg).1, (V1.out g hg).2.2⟩) (fun hg => .inr (.inl ⟨rfl, (V2.out g hg).1, (V2.out g hg).2.2⟩)) (fun hg => .inr (.inr ⟨rfl, (V3.out g hg).1⟩))
          have := e1 a ha h1
          have := e1 b hb h2
          have := HLs.out
          have := HLt.out
          omega)
        (fun j hj e => by
          have := HAP.out _ ⟨j, hj, e⟩
          have := HLs.out
          have := HLt.out
          omega)
        (lt3 ((Blk.new wd 39 [.slice P1 k1 d1, .slice P2 k2 d2, .slice P3 k3 d3]).cell 0) ((Blk.new wd 39 [.slice P1 k1 d1, .slice P2 k2 d2, .slice P3 k3 d3]).cell 1) ((Blk.new wd 39 [.slice P1 k1 d1, .slice P2 k2 d2, .slice P3 k3 d3]).cell 2))
        (by have := HLs.out; have := HLt.out; simp; omega)
        (lt3 (by show k1 + 71 ≤ _; rw [K1.out]; have := HSL.out; omega) (by show k2 + 71 ≤ _; rw [K2.out]; have := HSL.out; omega) (by show k3 + 71 ≤ _; rw [K3.out]; have := HSL2.out; omega))).mono ?_
      rintro e we ⟨rfl, hfr⟩
      have OOd := Lib.hid (ND.out.get w10.heap.size _ (flip xs) (by repeat (first | exact List.mem_cons_self | refine List.mem_cons_of_mem _ ?_)))
      have BE2 : Hid (Below w.heap.size w we) := Lib.hid ((ND.out.bel.alloc ND.out.bel.size _).trans (hfr.below (B := w.heap.size) (by have := ND.out.bel.size; simp; omega) (fun g hg => by have := HAP.out g hg; have := HLs.out; have := HLt.out; omega)))
      have XE2 := Lib.hid ((OXd.out.alloc (.cells #[.slice P1 k1 d1, .slice P2 k2 d2, .slice P3 k3 d3] 39)).fr hfr (fun g hv hg => by have := HAP.out g hg; have := VX.out g hv; have := HLs.out; have := HLt.out; omega))
      have OE2 := Lib.hid ((OOd.out.alloc (.cells #[.slice P1 k1 d1, .slice P2 k2 d2, .slice P3 k3 d3] 39)).fr hfr (fun g hv hg => by have := HAP.out g hg; have := V9.out g hv; have := HLs.out; have := HLt.out; omega))
      clear hfr ND OXd OOd O1d O2d O3d t0 t1 t2
      go_wp2_with fail
      refine (eqi_same (some ⟨gx, 0, none⟩) A9 n n cx c9 (flip xs) we HFN.out HFN.out (rd_app XE2.out) (own_rd OE2.out) (by rw [← HFN.out]; omega)).mono ?_
      rintro e wf ⟨rfl, FF⟩
      go_wp2_with fail
      refine (works_any wf).mono ?_
      rintro e wg ⟨rfl, FG⟩
      go_wp2_with fail
      go_ret
      have b1 := BE2.out.trans (FF.out.mono BE2.out.size)
      exact ⟨rfl, b1.trans (FG.out.mono b1.size)⟩
theorem shifts_law (A : Option Addr) (n c : Nat) (xs : List Int) (w : World) (hn : n = xs.length) (hr : Rd w .i64 A xs) (hl : xs.length ≤ 17592186043904) (hx : ∀ i, R64 (xs.getD i 0)) :
    Calls Try.prog 9 #[.slice A n c] w fun e w' => e = .returned (.bool true) ∧ Below w.heap.size w w' := by
  rcases Nat.lt_or_ge 65536 n with h | h
  · exact shifts_big A n c xs w hn hr hl hx h
  · exact shifts_small A n c xs w hn hr hl hx h
end Go.Proofs.Ytpglocgfdonmaaa

/-
  Walks: the document's Little, Join, Two, nonce, KeyOf.
-/
import Derived.Test.YtcfbaildcocnhaaNc
set_option linter.unusedVariables false
set_option linter.unusedSimpArgs false
namespace Go.Proofs.Ytcfbaildcocnhaa
open Go.RowKit

set_option maxHeartbeats 2000000 in
theorem rlittle_any (X m : Nat) (w : World) (hX : X < 18446744073709551616) (hm : m ≤ 8) : Calls Try.prog 92 #[.int .u64 (X : Int), .int .i64 (m : Int)] w (Made 5 .u8 (leN X m) w) := by
  go_enter Try.func92, Try.ntmps92
  go_wp2_with fail
  go_loopw [5, 6] (fun v i wr => ∃ k : Nat, k ≤ m ∧ i = .int .i64 k ∧ Own wr w.heap.size 5 .u8 v (leN X k) ∧ Below w.heap.size w wr) (fun _ i _ => m - (intOf i).toNat)
  case atStart => exact ⟨0, Nat.zero_le _, rfl, Own.nil _ _ _ _, Below.refl _ _⟩
  case round =>
    obtain ⟨k, hk, rfl, hown, hb⟩ := hrel
    have HO := Lib.hid hown
    have HW := Lib.hid hb
    have hsz := hb.size
    clear hown hb
    by_cases hlt : k < m
    · have hc1 : ((leN X k).length + 1) * 1 ≤ 140737488355328 := by rw [leN_len]; omega
      have hk8 : k = 0 ∨ k = 1 ∨ k = 2 ∨ k = 3 ∨ k = 4 ∨ k = 5 ∨ k = 6 ∨ k = 7 := by omega
      have d1 : decide ((k : Int) < (m : Int)) = true := decide_eq_true (by omega)
      have d2 : decide (k < m) = true := decide_eq_true hlt
      have HLT := Lib.hid hlt
      clear hlt
      rcases hk8 with rfl | rfl | rfl | rfl | rfl | rfl | rfl | rfl
      · have d3 : decide ((0 : Int) < (m : Int)) = true := decide_eq_true (by have := HLT.out; omega)
        go_wp2_with (first | (at_builtin; refine wpList_push wr rfl _ _ 75 rfl w.heap.size 5 .u8 1 Try.underlying75 info5 _ rfl _ _ rfl rfl HO.out hc1 (by decide) hsz ?_; intro v' w1 hown1 hfr1))
        have hown2 : Own w1 w.heap.size 5 .u8 v' (leN X 1) := by rw [leN_succ X 0]; exact own_cast hown1 (by simp [byt]; first | omega | done)
        exact ⟨⟨1, by have := HLT.out; omega, rfl, hown2, HW.out.trans (hfr1.below hsz (fun g hg => (HO.out.base_le hg).1))⟩, by have := HLT.out; simp [intOf]; omega⟩
      · have d3 : decide ((1 : Int) < (m : Int)) = true := decide_eq_true (by have := HLT.out; omega)
        go_wp2_with (first | (at_builtin; refine wpList_push wr rfl _ _ 75 rfl w.heap.size 5 .u8 1 Try.underlying75 info5 _ rfl _ _ rfl rfl HO.out hc1 (by decide) hsz ?_; intro v' w1 hown1 hfr1))
        have hown2 : Own w1 w.heap.size 5 .u8 v' (leN X 2) := by rw [leN_succ X 1]; exact own_cast hown1 (by simp [byt]; first | omega | done)
        exact ⟨⟨2, by have := HLT.out; omega, rfl, hown2, HW.out.trans (hfr1.below hsz (fun g hg => (HO.out.base_le hg).1))⟩, by have := HLT.out; simp [intOf]; omega⟩
      · have d3 : decide ((2 : Int) < (m : Int)) = true := decide_eq_true (by have := HLT.out; omega)
        go_wp2_with (first | (at_builtin; refine wpList_push wr rfl _ _ 75 rfl w.heap.size 5 .u8 1 Try.underlying75 info5 _ rfl _ _ rfl rfl HO.out hc1 (by decide) hsz ?_; intro v' w1 hown1 hfr1))
        have hown2 : Own w1 w.heap.size 5 .u8 v' (leN X 3) := by rw [leN_succ X 2]; exact own_cast hown1 (by simp [byt]; first | omega | done)
        exact ⟨⟨3, by have := HLT.out; omega, rfl, hown2, HW.out.trans (hfr1.below hsz (fun g hg => (HO.out.base_le hg).1))⟩, by have := HLT.out; simp [intOf]; omega⟩
      · have d3 : decide ((3 : Int) < (m : Int)) = true := decide_eq_true (by have := HLT.out; omega)
        go_wp2_with (first | (at_builtin; refine wpList_push wr rfl _ _ 75 rfl w.heap.size 5 .u8 1 Try.underlying75 info5 _ rfl _ _ rfl rfl HO.out hc1 (by decide) hsz ?_; intro v' w1 hown1 hfr1))
        have hown2 : Own w1 w.heap.size 5 .u8 v' (leN X 4) := by rw [leN_succ X 3]; exact own_cast hown1 (by simp [byt]; first | omega | done)
        exact ⟨⟨4, by have := HLT.out; omega, rfl, hown2, HW.out.trans (hfr1.below hsz (fun g hg => (HO.out.base_le hg).1))⟩, by have := HLT.out; simp [intOf]; omega⟩
      · have d3 : decide ((4 : Int) < (m : Int)) = true := decide_eq_true (by have := HLT.out; omega)
        go_wp2_with (first | (at_builtin; refine wpList_push wr rfl _ _ 75 rfl w.heap.size 5 .u8 1 Try.underlying75 info5 _ rfl _ _ rfl rfl HO.out hc1 (by decide) hsz ?_; intro v' w1 hown1 hfr1))
        have hown2 : Own w1 w.heap.size 5 .u8 v' (leN X 5) := by rw [leN_succ X 4]; exact own_cast hown1 (by simp [byt]; first | omega | done)
        exact ⟨⟨5, by have := HLT.out; omega, rfl, hown2, HW.out.trans (hfr1.below hsz (fun g hg => (HO.out.base_le hg).1))⟩, by have := HLT.out; simp [intOf]; omega⟩
      · have d3 : decide ((5 : Int) < (m : Int)) = true := decide_eq_true (by have := HLT.out; omega)
        go_wp2_with (first | (at_builtin; refine wpList_push wr rfl _ _ 75 rfl w.heap.size 5 .u8 1 Try.underlying75 info5 _ rfl _ _ rfl rfl HO.out hc1 (by decide) hsz ?_; intro v' w1 hown1 hfr1))
        have hown2 : Own w1 w.heap.size 5 .u8 v' (leN X 6) := by rw [leN_succ X 5]; exact own_cast hown1 (by simp [byt]; first | omega | done)
        exact ⟨⟨6, by have := HLT.out; omega, rfl, hown2, HW.out.trans (hfr1.below hsz (fun g hg => (HO.out.base_le hg).1))⟩, by have := HLT.out; simp [intOf]; omega⟩
      · have d3 : decide ((6 : Int) < (m : Int)) = true := decide_eq_true (by have := HLT.out; omega)
        go_wp2_with (first | (at_builtin; refine wpList_push wr rfl _ _ 75 rfl w.heap.size 5 .u8 1 Try.underlying75 info5 _ rfl _ _ rfl rfl HO.out hc1 (by decide) hsz ?_; intro v' w1 hown1 hfr1))
        have hown2 : Own w1 w.heap.size 5 .u8 v' (leN X 7) := by rw [leN_succ X 6]; exact own_cast hown1 (by simp [byt]; first | omega | done)
        exact ⟨⟨7, by have := HLT.out; omega, rfl, hown2, HW.out.trans (hfr1.below hsz (fun g hg => (HO.out.base_le hg).1))⟩, by have := HLT.out; simp [intOf]; omega⟩
      · have d3 : decide ((7 : Int) < (m : Int)) = true := decide_eq_true (by have := HLT.out; omega)
        go_wp2_with (first | (at_builtin; refine wpList_push wr rfl _ _ 75 rfl w.heap.size 5 .u8 1 Try.underlying75 info5 _ rfl _ _ rfl rfl HO.out hc1 (by decide) hsz ?_; intro v' w1 hown1 hfr1))
        have hown2 : Own w1 w.heap.size 5 .u8 v' (leN X 8) := by rw [leN_succ X 7]; exact own_cast hown1 (by simp [byt]; first | omega | done)
        exact ⟨⟨8, by have := HLT.out; omega, rfl, hown2, HW.out.trans (hfr1.below hsz (fun g hg => (HO.out.base_le hg).1))⟩, by have := HLT.out; simp [intOf]; omega⟩
    · have HK : Hid (k = m) := Lib.hid (by omega)
      have hge : decide ((k : Int) < (m : Int)) = false := decide_eq_false (by omega)
      have hge2 : decide (k < m) = false := decide_eq_false hlt
      go_wp2_with fail
      go_ret
      have ho := HO.out
      rw [HK.out] at ho
      exact ⟨_, rfl, ho, HW.out⟩
def flat (ps : List (Value × List Int)) : List Int := ps.flatMap (·.2)
/-- Lists of bytes that lie in the cells of a block. -/
structure Parts (w : World) (G : Nat) (ps : List (Value × List Int)) : Prop where
  cell : ∀ j (h : j < ps.length), w.cell? ⟨G, j, none⟩ = some ps[j].1
  rd : ∀ j (h : j < ps.length), ∃ A c, ps[j].1 = .slice A ps[j].2.length c ∧ Rd w .u8 A ps[j].2
theorem Parts.below {w w' : World} {G : Nat} {ps : List (Value × List Int)} (h : Parts w G ps) (hb : Below w.heap.size w w') : Parts w' G ps :=
  ⟨fun j hj => (hb.cell (World.block_lt_of_cell? w _ (h.cell j hj))).trans (h.cell j hj), fun j hj => by obtain ⟨A, c, h1, h2⟩ := h.rd j hj; exact ⟨A, c, h1, h2.below hb⟩⟩
theorem Parts.at {w : World} {G : Nat} {ps : List (Value × List Int)} (h : Parts w G ps) (j : Nat) (hj : j < ps.length) : ∃ A c ys, w.cell? ⟨G, j, none⟩ = some (.slice A (ys : List Int).length c) ∧ Rd w .u8 A ys ∧ Hid (ps[j].2 = ys) := by
  obtain ⟨A, c, h1, h2⟩ := h.rd j hj
  exact ⟨A, c, _, by rw [h.cell j hj, h1], h2, Lib.hid rfl⟩
theorem flat_snoc (ps : List (Value × List Int)) (k : Nat) (h : k < ps.length) : flat (ps.take (k + 1)) = flat (ps.take k) ++ ps[k].2 := by
  unfold flat
  rw [List.take_add_one, List.getElem?_eq_getElem h, List.flatMap_append]
  simp only [Option.toList, List.flatMap_cons, List.flatMap_nil, List.append_nil]
theorem flat_len (ps : List (Value × List Int)) (k : Nat) (h : k < ps.length) : (flat (ps.take k)).length + ps[k].2.length ≤ (flat ps).length := by
  have h1 : flat ps = flat (ps.take (k + 1)) ++ flat (ps.drop (k + 1)) := by
    unfold flat; rw [← List.flatMap_append, List.take_append_drop]
  rw [h1, flat_snoc ps k h]; simp only [List.length_append]; omega

set_option maxHeartbeats 1600000 in
theorem join_any (G n cap : Nat) (ps : List (Value × List Int)) (w : World) (hn : n = ps.length) (hP : Parts w G ps) (hcap : ps.length ≤ 9223372036854775807) (hl : (flat ps).length ≤ 140737488355328) :
    Calls Try.prog 100 #[.slice (some ⟨G, 0, none⟩) n cap] w (Made 5 .u8 (flat ps) w) := by
  subst hn
  have HP := Lib.hid hP
  clear hP
  go_enter Try.func100, Try.ntmps100
  go_wp2_with fail
  go_loopw [3, 4] (fun v i wr => ∃ k : Nat, k ≤ ps.length ∧ i = .int .i64 k ∧ Own wr w.heap.size 5 .u8 v (flat (ps.take k)) ∧ Below w.heap.size w wr) (fun _ i _ => ps.length - (intOf i).toNat)
  case atStart => exact ⟨0, Nat.zero_le _, rfl, Own.nil _ _ _ _, Below.refl _ _⟩
  case round =>
    obtain ⟨k, hk, rfl, hown, hb⟩ := hrel
    have HO := Lib.hid hown
    have HW := Lib.hid hb
    clear hown hb
    by_cases hlt : k < ps.length
    · obtain ⟨A, c, ys, hcell0, hr, HYS⟩ := HP.out.at k hlt
      have hcell : wr.cell? ⟨G, k, none⟩ = some (.slice A ys.length c) := (HW.out.cell (World.block_lt_of_cell? w _ hcell0)).trans hcell0
      have HC0 := Lib.hid hcell0
      clear hcell0
      have HR := Lib.hid hr
      have HFL := Lib.hid (flat_len ps k hlt)
      have HFS := Lib.hid (flat_snoc ps k hlt)
      have hy63 : ys.length ≤ 9223372036854775807 := by have := HFL.out; rw [HYS.out] at this; omega
      clear hr
      go_wp2_with fail
      go_loopw [3, 5] (fun v j wx => ∃ q : Nat, q ≤ ys.length ∧ j = .int .i64 q ∧ Own wx w.heap.size 5 .u8 v (flat (ps.take k) ++ ys.take q) ∧ Below w.heap.size w wx ∧ wx.cell? ⟨G, k, none⟩ = some (.slice A ys.length c)) (fun _ j _ => ys.length - (intOf j).toNat)
      case atStart => exact ⟨0, Nat.zero_le _, rfl, by simpa using HO.out, HW.out, hcell⟩
      case round =>
        clear hcell
        obtain ⟨q, hq, rfl, hown, hb, hcell⟩ := hrel
        have HO2 := Lib.hid hown
        have HW2 := Lib.hid hb
        have hsz := hb.size
        clear hown hb
        by_cases hlq : q < ys.length
        · obtain ⟨b, off, y, rfl, hc, HY⟩ := (HR.out.below HW2.out).at q hlq
          have hc1 : ((flat (ps.take k) ++ ys.take q).length + 1) * 1 ≤ 140737488355328 := by
            have := HFL.out
            rw [HYS.out] at this
            simp; omega
          have HQ := Lib.hid (take_snocI ys q hlq)
          go_wp2_with (first | (at_builtin; refine wpList_push wr rfl _ _ 75 rfl w.heap.size 5 .u8 1 Try.underlying75 info5 _ rfl _ _ rfl rfl HO2.out hc1 (by decide) hsz ?_; intro v' w1 hown1 hfr1))
          rw [HY.out, List.append_assoc, ← HQ.out] at hown1
          have hb1 : Below w.heap.size w w1 := HW2.out.trans (hfr1.below hsz (fun g hg => (HO2.out.base_le hg).1))
          have hcell1 : w1.cell? ⟨G, k, none⟩ = some (.slice (some ⟨b, off, none⟩) ys.length c) := (hb1.cell (World.block_lt_of_cell? w _ HC0.out)).trans HC0.out
          clear hfr1 hcell
          go_wp2_with fail
          go_roundw
          case rel => exact ⟨q + 1, by omega, by go_num, hown1, hb1, hcell1⟩
          case measure => simp [intOf]; omega
        · have hge : decide ((q : Int) < (ys.length : Int)) = false := by simp; omega
          have HQ : Hid (q = ys.length) := Lib.hid (by omega)
          have O3 : Hid (Own wr w.heap.size 5 .u8 _ (flat (ps.take (k + 1)))) := Lib.hid (by
            have h := HO2.out
            rw [HQ.out, List.take_length] at h
            rw [HFS.out, HYS.out]; exact h)
          go_wp2_with fail
          go_roundw
          case rel => exact ⟨k + 1, by omega, by go_num, O3.out, HW2.out⟩
          case measure => simp [intOf]; omega
    · have HK : Hid (k = ps.length) := Lib.hid (by omega)
      have hge : decide ((k : Int) < (ps.length : Int)) = false := by simp; omega
      go_wp2_with fail
      go_ret
      have ho := HO.out
      rw [HK.out, List.take_length] at ho
      exact ⟨_, rfl, ho, HW.out⟩
theorem two_any (A B : Option Addr) (n m c d : Nat) (xs ys : List Int) (w : World) (hn : n = xs.length) (hm : m = ys.length) (hx : Rd w .u8 A xs) (hy : Rd w .u8 B ys) (hl : xs.length + ys.length ≤ 140737488355328) :
    Calls Try.prog 91 #[.slice A n c, .slice B m d] w (Made 5 .u8 (xs ++ ys) w) := by
  subst hn hm
  have hb : Below w.heap.size w (w.alloc (.cells #[.slice A xs.length c, .slice B ys.length d] 75)) := (Below.refl _ _).alloc (Nat.le_refl _) _
  have hB := Blk.new w 75 [.slice A xs.length c, .slice B ys.length d]
  have hP : Parts (w.alloc (.cells #[.slice A xs.length c, .slice B ys.length d] 75)) w.heap.size [(.slice A xs.length c, xs), (.slice B ys.length d, ys)] :=
    ⟨fun j hj => by
      have : j = 0 ∨ j = 1 := by simp at hj; omega
      rcases this with rfl | rfl
      · exact hB.cell 0
      · exact hB.cell 1,
     fun j hj => by
      have : j = 0 ∨ j = 1 := by simp at hj; omega
      rcases this with rfl | rfl
      · exact ⟨A, c, rfl, hx.below hb⟩
      · exact ⟨B, d, rfl, hy.below hb⟩⟩
  have hfl : flat [(.slice A xs.length c, xs), (.slice B ys.length d, ys)] = xs ++ ys := by simp [flat]
  have hj := join_any w.heap.size 2 2 [(.slice A xs.length c, xs), (.slice B ys.length d, ys)] _ rfl hP (by simp) (by rw [hfl]; simpa using hl)
  rw [hfl] at hj
  have HJ := Lib.hid hj
  have HB := Lib.hid hb
  clear hx hy hl hb hB hP hfl hj
  go_enter Try.func91, Try.ntmps91
  go_wp2_with fail
  refine HJ.out.mono ?_
  rintro e w' ⟨v, rfl, ho, bb⟩
  have HO := Lib.hid ho
  have HBB := Lib.hid bb
  clear ho bb
  go_wp2_with fail
  go_ret
  exact ⟨_, rfl, HO.out.lower HB.out.size, HB.out.trans (HBB.out.mono HB.out.size)⟩
set_option maxRecDepth 100000 in
set_option maxHeartbeats 4000000 in
theorem rnonce_any (n : Nat) (w : World) (hn : n < 18446744073709551616) : Calls Try.prog 79 #[.int .u64 (n : Int)] w fun e w' => e = .returned (.agg (AY .u8 (nonL n))) ∧ Below w.heap.size w w' := by
  have HP1 := Lib.hid (fun W => rlittle_any 4 4 W (by decide) (by decide))
  have HP2 := Lib.hid (fun W => rlittle_any n 8 W hn (by decide))
  clear hn
  go_enter Try.func79, Try.ntmps79
  go_upto_region 1 with fail
  generalize hG : w.heap.size = G
  generalize hW1 : w.alloc _ = w1
  have BG1 : Hid (Blk w1 G 121 ((List.replicate 12 0).map (Value.int .u8))) := Lib.hid (by rw [← hW1]; exact Blk.new_at _ 121 _ hG.symm)
  have F1 : Hid (Below w.heap.size w w1) := Lib.hid (by rw [← hW1]; exact (Below.refl _ w).alloc (Nat.le_refl _) _)
  have HGE := Lib.hid hG
  clear hG hW1
  go_wp2_with fail
  refine (HP1.out w1).mono ?_
  rintro e w2 ⟨v, rfl, ho, bb⟩
  obtain ⟨A1, c1, rfl, -, -, hr1, -⟩ := ho.slice
  rw [leN_len]
  have R1 := Lib.hid hr1
  have BG2 := Lib.hid (BG1.out.below bb BG1.out.lt)
  have F2 := Lib.hid (F1.out.trans (bb.mono F1.out.size))
  clear ho bb hr1 HP1 BG1 F1
  go_wp2_with fail
  refine (HP2.out w2).mono ?_
  rintro e w3 ⟨v, rfl, ho, bb⟩
  obtain ⟨A2, c2, rfl, -, -, hr2, -⟩ := ho.slice
  rw [leN_len]
  have R2 := Lib.hid hr2
  have R12 := Lib.hid (R1.out.below bb)
  have BG3 := Lib.hid (BG2.out.below bb BG2.out.lt)
  have F3 := Lib.hid (F2.out.trans (bb.mono F2.out.size))
  clear ho bb hr2 HP2 BG2 F2 R1
  go_wp2_with fail
  refine (two_any A1 A2 4 8 c1 c2 (leN 4 4) (leN n 8) w3 (leN_len _ _).symm (leN_len _ _).symm R12.out R2.out (by rw [leN_len, leN_len]; decide)).mono ?_
  rintro e w4 ⟨v, rfl, ho, bb⟩
  have ho2 : Own w4 w3.heap.size 5 .u8 v (nonL n) := ho
  obtain ⟨A, c, rfl, -, -, hr3, -⟩ := ho2.slice
  have LX : Hid ((nonL n).length = 12) := Lib.hid (nonL_len n)
  have RD4 := Lib.hid hr3
  have OW4 := Lib.hid ho2
  have BG4 := Lib.hid (BG3.out.below bb BG3.out.lt)
  have F4 := Lib.hid (F3.out.trans (bb.mono F3.out.size))
  rw [nonL_len]
  clear ho ho2 bb hr3 BG3 F3 R12 R2
  obtain ⟨XS, hXS⟩ : ∃ XS, XS = nonL n := ⟨_, rfl⟩
  have HXE := Lib.hid hXS
  rw [← hXS] at LX RD4 OW4
  clear hXS
  go_upto_region 3 with fail
  generalize hG2 : w4.heap.size = G2
  generalize hWl : w4.alloc _ = wl
  have BZ : Hid (Blk wl G2 121 ((List.replicate 12 0).map (Value.int .u8))) := Lib.hid (by rw [← hWl]; exact Blk.new_at _ 121 _ hG2.symm)
  have bb : Below w4.heap.size w4 wl := by rw [← hWl]; exact (Below.refl _ w4).alloc (Nat.le_refl _) _
  have BG := Lib.hid (BG4.out.below bb BG4.out.lt)
  have RDX := Lib.hid (RD4.out.below bb)
  have BW := Lib.hid (F4.out.trans (bb.mono F4.out.size))
  have HG2 : Hid (w.heap.size ≤ G ∧ G < G2) := Lib.hid (by have := BG4.out.lt; have := HGE.out; omega)
  have RNE : Hid (∀ a, A = some a → ¬ a.block = G2) := Lib.hid (fun a ha => by
    intro e
    have h := OW4.out
    rcases h.form with ⟨h1, h2⟩ | ⟨g, c', rest, h1, -⟩
    · have := LX.out; rw [h2] at this; simp at this
    · injection h1 with q1
      rw [q1] at ha
      injection ha with ha
      have hb := h.base_le (g := g) (by rw [q1]; rfl)
      rw [← ha] at e
      have e' : g = G2 := e
      omega)
  clear hG2 hWl bb BG4 RD4 F4
  go_wp2_with fail
  have LR : Hid ((List.replicate 12 (0 : Int)).length = 12) := Lib.hid (by simp)
  go_loopw [5] (fun iv wr => ∃ j : Nat, iv = .int .i64 j ∧ Hid (j ≤ 12) ∧ Hid (Blk wr (G2) 121 ((upd j XS (List.replicate 12 0)).map (Value.int .u8) ++ [])) ∧ Hid (Fr (fun b => b = G2) wl wr)) (fun iv _ => 12 - (intOf iv).toNat)
  case atStart => exact ⟨0, rfl, Lib.hid (Nat.zero_le _), Lib.hid (by rw [upd_zero, List.append_nil]; exact BZ.out), Lib.hid (Fr.refl _ _)⟩
  case round =>
    obtain ⟨j, rfl, HJ, BJ, FJ⟩ := hrel
    by_cases hlt : j < 12
    · have d1 : decide ((j : Int) < 12) = true := decide_eq_true (by omega)
      have d2 : decide (j < 12) = true := decide_eq_true hlt
      obtain ⟨b, off, y, hAe, hcs, HY⟩ := (RDX.out.fr FJ.out (fun a ha => RNE.out a ha)).at j (by rw [LX.out]; exact hlt)
      cases hAe
      have hc := blk_upd_cell (k := j) BJ.out (by rw [LX.out, LR.out]) (by rw [LR.out]; exact hlt)
      have hf : wr.frozen? ⟨G2, j, none⟩ = false := BJ.out.frozen j
      have hlj : Hid (j < 12) := Lib.hid hlt
      have m1 : IntKind.i64.wrap ((j : Int) + 1) = ((j + 1 : Nat) : Int) := by rw [IntKind.wrap_i64] <;> omega
      go_wp2_with fail
      go_roundw
      case rel => exact ⟨j + 1, by go_num, Lib.hid (by have := hlj.out; omega), Lib.hid (blk_upd_set BJ.out (by rw [LX.out, LR.out]) (by rw [LR.out]; exact hlj.out) HY.out), Lib.hid (FJ.out.setCell (p := ⟨G2, j, none⟩) (.inl rfl) _)⟩
      case measure => simp [intOf]; omega
    · have d1 : decide ((j : Int) < 12) = false := decide_eq_false (by omega)
      have d2 : decide (j < 12) = false := decide_eq_false hlt
      have BI : Hid (Blk wr G2 121 (XS.map (Value.int .u8))) := Lib.hid (by
        have h := BJ.out
        rw [show j = 12 from by have := HJ.out; omega, List.append_nil] at h
        have h2 := upd_all XS (List.replicate 12 (0 : Int)) (by rw [LX.out, LR.out])
        rw [LR.out] at h2
        rwa [h2] at h)
      have RG : Hid (Blk wr G 121 ((List.replicate 12 0).map (Value.int .u8))) := Lib.hid (BG.out.fr FJ.out (by have := HG2.out; omega))
      have I1 : Hid ((Try.prog.info? 121).map (·.size) = some (AY .u8 XS).size) := Lib.hid (by rw [info33, AY_size, LX.out])
      have Z2 : Hid ((((List.replicate 12 0).map (Value.int .u8)).toArray).size = (AY .u8 XS).size) := Lib.hid (by rw [AY_size, LX.out]; rfl)
      have KB : Hid (wr.heap[G2]? = some (.cells (AY .u8 XS) 121 (0, 0))) := Lib.hid (blk_AY BI.out)
      go_wp2_with (first
        | (show wpList _ _ _ ({ dst := some 20, op := _, type := _, pos := _, after := _, guard := _ } :: _) _ _; refine wpList_load_row rfl 121 _ rfl G2 rfl 121 (AY .u8 XS) (0, 0) _ KB.out Try.underlying121 rfl I1.out ?_)
        | (show wpList _ _ _ ({ dst := none, op := _, type := _, pos := _, after := _, guard := _ } :: _) _ _; refine wpList_store_row rfl 121 _ _ rfl G (AY .u8 XS) rfl rfl 121 _ RG.out I1.out Z2.out (AY_one _ _) ?_))
      rw [← HXE.out]
      refine bodyPost_ret (results_cell_row rfl _ _ G 121 (AY .u8 XS) (0, 0) _ rfl (setRow_heap _ _ _ _ _ _ RG.out) Try.underlying121 rfl I1.out) rfl ⟨rfl, ?_⟩
      exact below_setRow ((BW.out).trans (FJ.out.below (B := w.heap.size) BW.out.size (fun k hk => by rw [hk]; have := HG2.out; omega))) (by have := HG2.out; omega) _
set_option maxRecDepth 100000 in
set_option maxHeartbeats 4000000 in
theorem keyof_any (A : Option Addr) (c : Nat) (XS : List Int) (w : World) (hl : XS.length = 32) (hr : Rd w .u8 A XS) : Calls Try.prog 72 #[.slice A 32 c] w fun e w' => e = .returned (.agg (AY .u8 XS)) ∧ Below w.heap.size w w' := by
  have LX := Lib.hid hl
  have HR := Lib.hid hr
  clear hl hr
  go_enter Try.func72, Try.ntmps72
  go_upto_region 2 with fail
  generalize hG : w.heap.size = G
  generalize hW1 : (w.alloc _).alloc _ = wl
  have BG : Hid (Blk wl G 53 ((List.replicate 32 0).map (Value.int .u8))) := Lib.hid (by rw [← hW1]; exact (Blk.new_at w 53 _ hG.symm).alloc _)
  have BZ0 : Hid (Blk wl (G + 1) 53 ((List.replicate 32 0).map (Value.int .u8))) := Lib.hid (by rw [← hW1]; exact Blk.new_at _ 53 _ (by rw [← hG]; simp))
  have BW : Hid (Below w.heap.size w wl) := Lib.hid (by rw [← hW1]; exact ((Below.refl _ w).alloc (Nat.le_refl _) _).alloc (by simp) _)
  have HGE := Lib.hid hG
  have RDX := Lib.hid (HR.out.below BW.out)
  have RNE0 : Hid (∀ a, A = some a → ¬ a.block = G + 1) := Lib.hid (fun a ha => by
    intro e
    subst ha
    obtain ⟨b, off, y, hAe, hcs, -⟩ := HR.out.at 0 (by rw [LX.out]; decide)
    injection hAe with hAe
    have h1 := World.block_lt_of_cell? w _ hcs
    rw [hAe] at e
    have e' : b = G + 1 := e
    have h2 : b < w.heap.size := h1
    have := HGE.out
    omega)
  have HG2' : Hid (w.heap.size ≤ G ∧ G < G + 1) := Lib.hid (by have := HGE.out; omega)
  generalize hG2 : G + 1 = G2 at BZ0 RNE0 HG2' ⊢
  have BZ := BZ0
  have RNE := RNE0
  have HG2 := HG2'
  clear hG hW1 HR BZ0 RNE0 HG2' hG2
  go_wp2_with fail
  have LR : Hid ((List.replicate 32 (0 : Int)).length = 32) := Lib.hid (by simp)
  go_loopw [4] (fun iv wr => ∃ j : Nat, iv = .int .i64 j ∧ Hid (j ≤ 32) ∧ Hid (Blk wr (G2) 53 ((upd j XS (List.replicate 32 0)).map (Value.int .u8) ++ [])) ∧ Hid (Fr (fun b => b = G2) wl wr)) (fun iv _ => 32 - (intOf iv).toNat)
  case atStart => exact ⟨0, rfl, Lib.hid (Nat.zero_le _), Lib.hid (by rw [upd_zero, List.append_nil]; exact BZ.out), Lib.hid (Fr.refl _ _)⟩
  case round =>
    obtain ⟨j, rfl, HJ, BJ, FJ⟩ := hrel
    by_cases hlt : j < 32
    · have d1 : decide ((j : Int) < 32) = true := decide_eq_true (by omega)
      have d2 : decide (j < 32) = true := decide_eq_true hlt
      obtain ⟨b, off, y, hAe, hcs, HY⟩ := (RDX.out.fr FJ.out (fun a ha => RNE.out a ha)).at j (by rw [LX.out]; exact hlt)
      cases hAe
      have hc := blk_upd_cell (k := j) BJ.out (by rw [LX.out, LR.out]) (by rw [LR.out]; exact hlt)
      have hf : wr.frozen? ⟨G2, j, none⟩ = false := BJ.out.frozen j
      have hlj : Hid (j < 32) := Lib.hid hlt
      have m1 : IntKind.i64.wrap ((j : Int) + 1) = ((j + 1 : Nat) : Int) := by rw [IntKind.wrap_i64] <;> omega
      go_wp2_with fail
      go_roundw
      case rel => exact ⟨j + 1, by go_num, Lib.hid (by have := hlj.out; omega), Lib.hid (blk_upd_set BJ.out (by rw [LX.out, LR.out]) (by rw [LR.out]; exact hlj.out) HY.out), Lib.hid (FJ.out.setCell (p := ⟨G2, j, none⟩) (.inl rfl) _)⟩
      case measure => simp [intOf]; omega
    · have d1 : decide ((j : Int) < 32) = false := decide_eq_false (by omega)
      have d2 : decide (j < 32) = false := decide_eq_false hlt
      have BI : Hid (Blk wr G2 53 (XS.map (Value.int .u8))) := Lib.hid (by
        have h := BJ.out
        rw [show j = 32 from by have := HJ.out; omega, List.append_nil] at h
        have h2 := upd_all XS (List.replicate 32 (0 : Int)) (by rw [LX.out, LR.out])
        rw [LR.out] at h2
        rwa [h2] at h)
      have RG : Hid (Blk wr G 53 ((List.replicate 32 0).map (Value.int .u8))) := Lib.hid (BG.out.fr FJ.out (by have := HG2.out; omega))
      have I1 : Hid ((Try.prog.info? 53).map (·.size) = some (AY .u8 XS).size) := Lib.hid (by rw [info31, AY_size, LX.out])
      have Z2 : Hid ((((List.replicate 32 0).map (Value.int .u8)).toArray).size = (AY .u8 XS).size) := Lib.hid (by rw [AY_size, LX.out]; rfl)
      have KB : Hid (wr.heap[G2]? = some (.cells (AY .u8 XS) 53 (0, 0))) := Lib.hid (blk_AY BI.out)
      go_wp2_with (first
        | (show wpList _ _ _ ({ dst := some 21, op := _, type := _, pos := _, after := _, guard := _ } :: _) _ _; refine wpList_load_row rfl 53 _ rfl G2 rfl 53 (AY .u8 XS) (0, 0) _ KB.out Try.underlying53 rfl I1.out ?_)
        | (show wpList _ _ _ ({ dst := none, op := _, type := _, pos := _, after := _, guard := _ } :: _) _ _; refine wpList_store_row rfl 53 _ _ rfl G (AY .u8 XS) rfl rfl 53 _ RG.out I1.out Z2.out (AY_one _ _) ?_))
      refine bodyPost_ret (results_cell_row rfl _ _ G 53 (AY .u8 XS) (0, 0) _ rfl (setRow_heap _ _ _ _ _ _ RG.out) Try.underlying53 rfl I1.out) rfl ⟨rfl, ?_⟩
      exact below_setRow ((BW.out).trans (FJ.out.below (B := w.heap.size) BW.out.size (fun k hk => by rw [hk]; have := HG2.out; omega))) (by have := HG2.out; omega) _
end Go.Proofs.Ytcfbaildcocnhaa

/-
  Walks: the document's lower; record.ByGroup.
-/
import Derived.Test.YtedejkfhgpnhpaaBf
set_option linter.unusedVariables false
set_option linter.unusedSimpArgs false
namespace Go.Proofs.Ytedejkfhgpnhpaa
open Go.RowKit

theorem bef_tri : ∀ (xs ys : List Int), (bef xs ys = true ∧ bef ys xs = false ∧ xs ≠ ys) ∨ (bef xs ys = false ∧ bef ys xs = true ∧ xs ≠ ys) ∨ (bef xs ys = false ∧ bef ys xs = false ∧ xs = ys)
  | [], [] => by simp [bef]
  | [], _ :: _ => by simp [bef]
  | _ :: _, [] => by simp [bef]
  | x :: xs, y :: ys => by
    by_cases h : x = y
    · subst h
      rcases bef_tri xs ys with ⟨h1, h2, h3⟩ | ⟨h1, h2, h3⟩ | ⟨h1, h2, h3⟩
      · left; simp [bef, h1, h2, h3]
      · right; left; simp [bef, h1, h2, h3]
      · subst h3; right; right; simp [bef, h1]
    · have h' : ¬ y = x := fun e => h e.symm
      by_cases hl : x < y
      · left; simp [bef, h, h', hl]; omega
      · right; left; simp [bef, h, h', hl]; omega
def pkB (a b c : Bool) : Bool := if a then b else c
theorem pick_mk (a b c : Bool) (w : World) : Calls Try.prog 44 #[.int .u64 (mk a), .int .u64 (mk b), .int .u64 (mk c)] w fun e w' => e = .returned (.int .u64 (mk (pkB a b c))) ∧ w' = w := by
  refine (pick_any (mk a) (mk b) (mk c) w).mono ?_
  rintro e w' ⟨rfl, rfl⟩
  exact ⟨congrArg (fun z => Ending.returned (Value.int .u64 z)) (by cases a <;> cases b <;> cases c <;> decide), rfl⟩

set_option maxHeartbeats 800000 in
theorem lower_any (A B : Option Addr) (n c d : Nat) (xs ys : List Int) (w : World) (hn : n = xs.length) (hm : n = ys.length) (hx : Rd w .u8 A xs) (hy : Rd w .u8 B ys) (hl : xs.length ≤ 9223372036854775807) :
    Calls Try.prog 45 #[.slice A n c, .slice B n d] w fun e w' => ∃ q, e = .returned (.bool (bef xs ys)) ∧ w' = w.drewN q := by
  have HX := Lib.hid hx
  have HYY := Lib.hid hy
  have HN := Lib.hid hn
  have HM := Lib.hid hm
  have hn63 : n ≤ 9223372036854775807 := by omega
  clear hx hy hn hm
  go_enter Try.func45, Try.ntmps45
  go_wp2_with fail
  go_loopw [5] (fun i wr => ∃ k q : Nat, k ≤ n ∧ i = .int .i64 k ∧ Hid (bef xs ys = bef (xs.drop k) (ys.drop k)) ∧ wr = w.drewN q) (fun i _ => n - (intOf i).toNat)
  case atStart => exact ⟨0, 0, Nat.zero_le _, rfl, Lib.hid rfl, rfl⟩
  case round =>
    obtain ⟨k, q, hk, rfl, HT, rfl⟩ := hrel
    by_cases hlt : k < n
    · have hl1 : k < xs.length := by have := HN.out; omega
      have hl2 : k < ys.length := by have := HM.out; omega
      obtain ⟨b, off, x, rfl, hc, HXK⟩ := HX.out.at k hl1
      obtain ⟨b2, off2, y, rfl, hc2, HYK⟩ := HYY.out.at k hl2
      have HD := Lib.hid (bef_drop xs ys k hl1 hl2)
      clear hl1 hl2
      by_cases hxy : x = y
      · subst hxy
        have HZ : Hid (bef xs ys = bef (xs.drop (k + 1)) (ys.drop (k + 1))) := Lib.hid (by rw [HT.out, HD.out, if_pos (by rw [← HXK.out, ← HYK.out])])
        go_wp2_with fail
        go_quiet (fail)
        go_wp2_with fail
        go_roundw
        case rel => exact ⟨k + 1, _, by omega, by go_num, HZ, rfl⟩
        case measure => simp [intOf]; omega
      · have HZ : Hid (bef xs ys = decide (x < y)) := Lib.hid (by rw [HT.out, HD.out, ← HXK.out, ← HYK.out, if_neg hxy])
        have hd : (x != y) = true := by simpa using hxy
        clear hxy
        go_wp2_with fail
        go_quiet (fail)
        go_wp2_with fail
        try go_quiet (fail)
        try go_wp2_with fail
        go_ret
        simp only [World.drewN_drewN]
        exact ⟨_, congrArg (fun z => Ending.returned (Value.bool z)) HZ.out.symm, rfl⟩
    · have HE := Lib.hid (bef_end xs ys k (by have := HN.out; omega) (by have := HN.out; omega) (by have := HM.out; omega))
      have HK : Hid (decide (k < ys.length) = false) := Lib.hid (by have := HM.out; simp; omega)
      have hge : decide ((k : Int) < (n : Int)) = false := by simp; omega
      have HS : Hid (bef xs ys = false) := Lib.hid (by
        rw [HT.out, HE.out]
        have := HN.out; have := HM.out
        simp; omega)
      go_wp2_with fail
      go_ret
      exact ⟨_, congrArg (fun z => Ending.returned (Value.bool z)) HS.out.symm, rfl⟩

def bgR (xs : List Int) (n : Nat) (ys : List Int) (m : Nat) : Bool :=
  if isR xs n && isR ys m then (if lvR xs n != lvR ys m then lvR xs n else if lvR xs n then (if gcut xs = gcut ys then ixR xs n ys m else bef (gcut xs) (gcut ys)) else ixR xs n ys m) else false
/-- The same, as the program picks it. -/
theorem bgR_pick {xs ys : List Int} {n m : Nat} (h : (isR xs n && isR ys m) = true) :
    (if (lvR xs n != lvR ys m) = true then lvR xs n else if lvR xs n = true then (if (bef (gcut xs) (gcut ys) || bef (gcut ys) (gcut xs)) = true then bef (gcut xs) (gcut ys) else ixR xs n ys m) else ixR xs n ys m) = bgR xs n ys m := by
  unfold bgR
  rw [if_pos h]
  rcases bef_tri (gcut xs) (gcut ys) with ⟨h1, h2, h3⟩ | ⟨h1, h2, h3⟩ | ⟨h1, h2, h3⟩
  · rw [h1, h2, if_neg h3]; simp
  · rw [h1, h2, if_neg h3]; simp
  · rw [h1, h2, if_pos h3]; simp
theorem before_at {A B : Option Addr} {c d : Nat} {xs ys : List Int} {w : World} (v : Bool) (q : Nat) (hv : Hid (bef xs ys = v)) (hn : Hid (16 = xs.length)) (hm : Hid (16 = ys.length)) (hx : Hid (Rd w .u8 A xs)) (hy : Hid (Rd w .u8 B ys)) (hBx : Hid (B8 xs)) (hBy : Hid (B8 ys)) :
    Calls Try.prog 43 #[.slice A 16 c, .slice B 16 d] (w.drewN q) fun e w'' => e = .returned (.int .u64 (mk v)) ∧ ∃ k, w'' = w.drewN k := by
  have h := before_any A B c d xs ys (w.drewN q) (hx.out.draws q) (hy.out.draws q) (by rw [← hn.out]; decide) (by rw [← hm.out]; decide) hBx.out hBy.out
  rw [← hn.out, ← hm.out] at h
  refine h.mono ?_
  rintro e w' ⟨k, rfl, rfl⟩
  exact ⟨by rw [hv.out], q + k, by rw [World.drewN_drewN]⟩

theorem before_at2 {A B : Option Addr} {c d : Nat} {xs ys : List Int} {w : World} (v : Bool) (y x : Nat) (hv : Hid (bef xs ys = v)) (hn : Hid (16 = xs.length)) (hm : Hid (16 = ys.length)) (hx : Hid (Rd w .u8 A xs)) (hy : Hid (Rd w .u8 B ys)) (hBx : Hid (B8 xs)) (hBy : Hid (B8 ys)) :
    Calls Try.prog 43 #[.slice A 16 c, .slice B 16 d] (w.drewN (y + x)) fun e w'' => e = .returned (.int .u64 (mk v)) ∧ ∃ k, w'' = w.drewN (y + k) := by
  have h := before_any A B c d xs ys (w.drewN (y + x)) (hx.out.draws _) (hy.out.draws _) (by rw [← hn.out]; decide) (by rw [← hm.out]; decide) hBx.out hBy.out
  rw [← hn.out, ← hm.out] at h
  refine h.mono ?_
  rintro e w' ⟨k, rfl, rfl⟩
  exact ⟨by rw [hv.out], x + k, by rw [World.drewN_drewN, Nat.add_assoc]⟩
theorem grp_map (xs : List Int) : grp xs = (gcut xs).map (Value.int .u8) := rfl
theorem grp_one (xs : List Int) : (grp xs).toArray.all (·.oneCell') = true := by
  simp only [List.all_toArray, List.all_eq_true]
  intro v hv
  obtain ⟨z, _, rfl⟩ := List.mem_map.1 hv
  rfl
/-- Two boxes of sixteen bytes, laid; filled. -/
def box16 : Array Value := (List.replicate 16 (Value.int .u8 0)).toArray
def boxes (w : World) : World := (w.alloc (.cells box16 24)).alloc (.cells box16 24)
def filled (w : World) (xs ys : List Int) : World := ((boxes w).setRow w.heap.size (grp xs).toArray).setRow (w.heap.size + 1) (grp ys).toArray
theorem boxes_one (w : World) : (boxes w).heap[w.heap.size]? = some (.cells box16 24 (0, 0)) := (Blk.new w 24 (List.replicate 16 (Value.int .u8 0))).alloc _
theorem boxes_two (w : World) : (boxes w).heap[w.heap.size + 1]? = some (.cells box16 24 (0, 0)) := Blk.new_at (w.alloc (.cells box16 24)) 24 (List.replicate 16 (Value.int .u8 0)) (by simp)
theorem boxes_two' (w : World) (xs : List Int) : ((boxes w).setRow w.heap.size (grp xs).toArray).heap[w.heap.size + 1]? = some (.cells box16 24 (0, 0)) := (setRow_other _ _ _ _ (by omega)).trans (boxes_two w)
theorem filled_ok (w : World) (xs ys : List Int) : Rd (filled w xs ys) .u8 (some ⟨w.heap.size, 0, none⟩) (gcut xs) ∧ Rd (filled w xs ys) .u8 (some ⟨w.heap.size + 1, 0, none⟩) (gcut ys) ∧ Below w.heap.size w (filled w xs ys) := by
  have h1 : Blk (filled w xs ys) w.heap.size 24 (grp xs) := (setRow_other _ _ _ _ (by omega)).trans (setRow_heap _ _ _ _ _ _ (boxes_one w))
  have h2 : Blk (filled w xs ys) (w.heap.size + 1) 24 (grp ys) := setRow_heap _ _ _ _ _ _ (boxes_two' w xs)
  rw [grp_map] at h1 h2
  refine ⟨blk_rd0 h1, blk_rd0 h2, ?_⟩
  have hb : Below w.heap.size w (boxes w) := ((Below.refl _ w).alloc (Nat.le_refl _) _).alloc (by simp) _
  have s1 : Below w.heap.size (boxes w) ((boxes w).setRow w.heap.size (grp xs).toArray) := ⟨rfl, rfl, rfl, by simp [World.setRow], fun k hk => setRow_other _ _ k _ (by omega)⟩
  have s2 : Below w.heap.size ((boxes w).setRow w.heap.size (grp xs).toArray) (filled w xs ys) := ⟨rfl, rfl, rfl, by simp [filled, World.setRow], fun k hk => setRow_other _ _ k _ (by omega)⟩
  exact (hb.trans s1).trans s2

set_option maxRecDepth 100000 in
set_option maxHeartbeats 2000000 in
theorem byGroup_any (A B : Option Addr) (n c m d : Nat) (xs ys : List Int) (w : World) (hn : n = xs.length) (hm : m = ys.length) (hnc : n ≤ c) (hmd : m ≤ d) (hc63 : c ≤ 9223372036854775807) (hd63 : d ≤ 9223372036854775807) (hx : Rd w .u8 A xs) (hy : Rd w .u8 B ys) (hBx : B8 xs) (hBy : B8 ys) :
    Calls Try.prog 27 #[.slice A n c, .slice B m d] w fun e w' => e = .returned (.int .u64 (mk (bgR xs n ys m))) ∧ Below w.heap.size w w' := by
  have HX := Lib.hid hx
  have HY := Lib.hid hy
  have HN := Lib.hid hn
  have HM := Lib.hid hm
  have HBX := Lib.hid hBx
  have HBY := Lib.hid hBy
  clear hx hy hn hm hBx hBy
  cases hI : (isR xs n && isR ys m)
  · have HL : Hid (bgR xs n ys m = false) := Lib.hid (by unfold bgR; rw [hI]; rfl)
    have HI := Lib.hid hI
    clear hI
    go_enter Try.func27, Try.ntmps27
    go_wp2_with fail
    refine (is_any A n c xs w HN.out HX.out HBX.out).mono ?_
    rintro e w' ⟨rfl, q1, rfl⟩
    go_wp2_with fail
    refine (is_any B m d ys _ HM.out (HY.out.draws _) HBY.out).mono ?_
    rintro e w' ⟨rfl, q2, rfl⟩
    have ha : bits .and .u64 (mk (isR xs n)) (mk (isR ys m)) = 0 := by rw [mk_and, HI.out]; rfl
    go_wp2_with fail
    go_ret
    exact ⟨by rw [HL.out]; rfl, belowN (Below.refl _ _) _⟩
  · have hI2 := hI
    rw [Bool.and_eq_true] at hI2
    have h1 := isR_26 hI2.1
    have h2 := isR_26 hI2.2
    obtain ⟨b, off, hA, -⟩ := HX.out 0 (by have := HN.out; omega)
    obtain ⟨b2, off2, hB2, -⟩ := HY.out 0 (by have := HM.out; omega)
    subst hA hB2
    have HL := Lib.hid (bgR_pick hI)
    have HI := Lib.hid hI
    have HGX := Lib.hid (grp_len xs (by have := HN.out; omega))
    have HGY := Lib.hid (grp_len ys (by have := HM.out; omega))
    clear hI hI2
    go_enter Try.func27, Try.ntmps27
    go_wp2_with fail
    refine (is_any _ n c xs w HN.out HX.out HBX.out).mono ?_
    rintro e w' ⟨rfl, q1, rfl⟩
    go_wp2_with fail
    refine (is_any _ m d ys _ HM.out (HY.out.draws _) HBY.out).mono ?_
    rintro e w' ⟨rfl, q2, rfl⟩
    have ha : bits .and .u64 (mk (isR xs n)) (mk (isR ys m)) = 18446744073709551615 := by rw [mk_and, HI.out]; rfl
    go_wp2_with fail
    refine (live_any _ n c xs _ HN.out (HX.out.draws _) HBX.out).mono ?_
    rintro e w' ⟨rfl, q3, rfl⟩
    go_wp2_with fail
    refine (live_any _ m d ys _ HM.out (HY.out.draws _) HBY.out).mono ?_
    rintro e w' ⟨rfl, q4, rfl⟩
    go_wp2_with fail
    refine (group_any b off n c xs _ HN.out hnc h1 (HX.out.draws _) hc63).mono ?_
    rintro e w1 ⟨rfl, b1⟩
    have W1 : Hid (Below w.heap.size w w1) := Lib.hid ((belowN (Below.refl w.heap.size w) _).trans b1)
    have Y1 := Lib.hid (HY.out.below W1.out)
    clear b1
    go_wp2_with fail
    refine (group_any b2 off2 m d ys _ HM.out hmd h2 Y1.out hd63).mono ?_
    rintro e w2 ⟨rfl, b2'⟩
    have W2 := Lib.hid (W1.out.trans (b2'.mono W1.out.size))
    clear b2'
    have HS1 : Hid ((Try.prog.info? 24).map (·.size) = some (grp xs).toArray.size) := Lib.hid (by rw [List.size_toArray, HGX.out]; exact size24)
    have HS2 : Hid ((Try.prog.info? 24).map (·.size) = some (grp ys).toArray.size) := Lib.hid (by rw [List.size_toArray, HGY.out]; exact size24)
    have HO1 : Hid (box16.size = (grp xs).toArray.size) := Lib.hid (by rw [show (grp xs).toArray.size = 16 from by rw [List.size_toArray]; exact HGX.out]; rfl)
    have HO2 : Hid (box16.size = (grp ys).toArray.size) := Lib.hid (by rw [show (grp ys).toArray.size = 16 from by rw [List.size_toArray]; exact HGY.out]; rfl)
    have HB1 := Lib.hid (boxes_one w2)
    have HB2 := Lib.hid (boxes_two' w2 xs)
    obtain ⟨hfx, hfy, hfw⟩ := filled_ok w2 xs ys
    have HFX := Lib.hid hfx
    have HFY := Lib.hid hfy
    have HFW := Lib.hid (W2.out.trans (hfw.mono W2.out.size))
    have XB := Lib.hid (show B8 (gcut xs) from (HBX.out.drop 10).take 16)
    have YB := Lib.hid (show B8 (gcut ys) from (HBY.out.drop 10).take 16)
    have XL : Hid (16 = (gcut xs).length) := Lib.hid (gcut_len xs (by have := HN.out; omega)).symm
    have YL : Hid (16 = (gcut ys).length) := Lib.hid (gcut_len ys (by have := HM.out; omega)).symm
    obtain ⟨g1, G1⟩ : ∃ v, Hid (bef (gcut xs) (gcut ys) = v) := ⟨_, Lib.hid rfl⟩
    obtain ⟨g2, G2⟩ : ∃ v, Hid (bef (gcut ys) (gcut xs) = v) := ⟨_, Lib.hid rfl⟩
    obtain ⟨l1, L1⟩ : ∃ v, Hid (lvR xs n = v) := ⟨_, Lib.hid rfl⟩
    obtain ⟨l2, L2⟩ : ∃ v, Hid (lvR ys m = v) := ⟨_, Lib.hid rfl⟩
    obtain ⟨x1, I1⟩ : ∃ v, Hid (ixR xs n ys m = v) := ⟨_, Lib.hid rfl⟩
    rw [L1.out, L2.out]
    have hor := mk_or g1 g2
    have hxr := mk_xor l1 l2
    clear hfx hfy hfw
    go_wp2_with (first
      | (refine wpList_store_row rfl 24 _ _ rfl w2.heap.size (grp xs).toArray rfl rfl 24 box16 HB1.out HS1.out HO1.out (grp_one xs) ?_)
      | (refine wpList_store_row rfl 24 _ _ rfl (w2.heap.size + 1) (grp ys).toArray rfl rfl 24 box16 HB2.out HS2.out HO2.out (grp_one ys) ?_; change wpList _ _ _ _ _ (filled w2 xs ys); clear HB1 HB2; revert HFX HFY HFW; generalize filled w2 xs ys = w3; intro HFX HFY HFW))
    go_quiet (first | (go_at_call 43; exact before_at g1 _ G1 XL YL HFX HFY XB YB))
    go_wp2_with fail
    go_quiet (first | (go_at_call 43; exact before_at2 g2 _ _ G2 YL XL HFY HFX YB XB))
    go_wp2_with fail
    have HX3 := Lib.hid (HX.out.below HFW.out)
    have HY3 := Lib.hid (HY.out.below HFW.out)
    refine (byIndex_any _ _ n c m d xs ys _ HN.out HM.out hnc hmd hc63 hd63 (HX3.out.draws _) (HY3.out.draws _) HBX.out HBY.out).mono ?_
    rintro e w' ⟨rfl, q5, rfl⟩
    rw [I1.out]
    go_wp2_with fail
    refine (pick_mk _ _ _ _).mono ?_
    rintro e w' ⟨rfl, rfl⟩
    go_wp2_with fail
    refine (pick_mk _ _ _ _).mono ?_
    rintro e w' ⟨rfl, rfl⟩
    go_wp2_with fail
    refine (pick_mk _ _ _ _).mono ?_
    rintro e w' ⟨rfl, rfl⟩
    go_wp2_with fail
    all_goals (
      go_ret
      refine ⟨?_, by first | exact belowN HFW.out _ | exact belowN (belowN HFW.out _) _⟩
      rw [← HL.out, L1.out, L2.out, G1.out, G2.out, I1.out]
      clear HL L1 L2 G1 G2 I1 hor hxr ha HI
      cases g1 <;> cases g2 <;> cases l1 <;> cases l2 <;> cases x1 <;> first | rfl | contradiction | (exfalso; simp_all; done))
end Go.Proofs.Ytedejkfhgpnhpaa

/-
  Walks of the laws MaskTrades, MaskOrder.
-/
import Derived.Test.YtmmmmabfnnblfaaPl
set_option linter.unusedVariables false
set_option linter.unusedSimpArgs false
namespace Go.Proofs.Ytmmmmabfnnblfaa
open Go.RowKit

theorem own_block {w : World} {B T : Nat} {k : IntKind} {A : Option Addr} {n c : Nat} {xs : List Int} (h : Own w B T k (.slice A n c) xs) : ∀ g a, (Value.slice A n c).ownBlock = some g → A = some a → a.block = g := by
  intro g a hg ha
  subst ha
  rcases h.form with ⟨h1, _⟩ | ⟨g', c', r, h1, _⟩
  · cases h1
  · injection h1 with h1 _ _
    injection h1 with h1
    subst h1
    simpa [Value.ownBlock] using hg

/-- Two rows of the call's own, apart. -/
structure Two (w0 w : World) (v1 v2 : Value) (xs ys : List Int) : Prop where
  o1 : Own w w0.heap.size 5 .u8 v1 xs
  o2 : Own w w0.heap.size 5 .u8 v2 ys
  ne : ∀ g, v1.ownBlock = some g → v2.ownBlock ≠ some g
  bel : Below w0.heap.size w0 w
theorem Two.trade (M : Int) (hM : 0 ≤ M) {w0 w : World} {v1 v2 : Value} {xs ys : List Int} (h : Two w0 w v1 v2 xs ys) (hl : xs.length = ys.length) :
    Calls Try.prog 37 #[.int .u64 M, v1, v2] w fun e w' => e = .returned (.int .i64 0) ∧ Two w0 w' v1 v2 (List.zipWith (tr1 M) xs ys) (List.zipWith (tr2 M) xs ys) := by
  refine (trade_own M v1 v2 xs ys _ w h.o1 h.o2 h.ne hl (by omega)).mono ?_
  rintro e w' ⟨rfl, k1, k2, hf⟩
  refine ⟨rfl, k1, k2, h.ne, h.bel.trans (hf.below h.bel.size ?_)⟩
  rintro k (hk | hk)
  · exact (h.o1.base_le hk).1
  · exact (h.o2.base_le hk).1
theorem Two.trade' (M : Int) (hM : 0 ≤ M) {w0 w : World} {v1 v2 : Value} {xs ys : List Int} (h : Two w0 w v1 v2 xs ys) (hl : xs.length = ys.length) {l1 l2 : List Int} (ha : List.zipWith (tr1 M) xs ys = l1) (hb : List.zipWith (tr2 M) xs ys = l2) :
    Calls Try.prog 37 #[.int .u64 M, v1, v2] w fun e w' => e = .returned (.int .i64 0) ∧ Two w0 w' v1 v2 l1 l2 := by subst ha hb; exact h.trade M hM hl
theorem Two.copy (M : Int) {w0 w : World} {v1 v2 : Value} {xs ys : List Int} (h : Two w0 w v1 v2 xs ys) (hl : xs.length = ys.length) (bx : B8 xs) (yb : B8 ys) {l1 : List Int} (ha : List.zipWith (fun x y => ch8 M y x) xs ys = l1) :
    Calls Try.prog 34 #[.int .u64 M, v1, v2] w fun e w' => e = .returned (.int .i64 0) ∧ Two w0 w' v1 v2 l1 ys := by
  subst ha
  have h0 := h.o2
  obtain ⟨A, c, rfl, _, _, hr, _⟩ := h.o2.slice
  refine (copy_own M v1 A c xs ys _ w h.o1 hr (fun g a hg ha e => ?_) hl (fun i _ => bx.bytes i) (fun i _ => yb.bytes i)).mono ?_
  · have := own_block h0
    subst ha
    exact h.ne g hg (by simp [Value.ownBlock, e])
  · rintro e w' ⟨rfl, k1, hf⟩
    refine ⟨rfl, k1, h.o2.fr hf (fun g hg hk => h.ne g hk hg), h.ne, h.bel.trans (hf.below h.bel.size ?_)⟩
    intro k hk
    exact (h.o1.base_le hk).1
theorem Two.drewN {w0 w : World} {v1 v2 : Value} {xs ys : List Int} (h : Two w0 w v1 v2 xs ys) (n : Nat) : Two w0 (w.drewN n) v1 v2 xs ys := ⟨h.o1, h.o2, h.ne, belowN h.bel n⟩
theorem rsame_own {w : World} {B T c : Nat} {v : Value} {A : Option Addr} {zs ys : List Int} (h : Own w B T .u8 v zs) (hy : Rd w .u8 A ys) (hm : ys.length ≤ 140737488351232) :
    Calls Try.prog 39 #[v, .slice A ys.length c] w fun e w' => ∃ n, e = .returned (.bool (decide (zs = ys))) ∧ w' = w.drewN n := by
  have := h.len
  unfold maxLen at this
  obtain ⟨A1, c1, rfl, _, _, hr, _⟩ := h.slice
  exact rsame_any A1 A c1 c zs ys w hr hy (by omega) (by omega)
theorem same_own {w : World} {B B2 T T2 : Nat} {v v2 : Value} {zs ys : List Int} (h : Own w B T .u8 v zs) (hy : Own w B2 T2 .u8 v2 ys) (bx : B8 zs) (yb : B8 ys) :
    Calls Try.prog 40 #[v, v2] w fun e w' => ∃ n, e = .returned (.int .u64 (mk (decide (zs = ys)))) ∧ w' = w.drewN n := by
  have := h.len
  have := hy.len
  unfold maxLen at *
  obtain ⟨A1, c1, rfl, _, _, hr, _⟩ := h.slice
  obtain ⟨A2, c2, rfl, _, _, hr2, _⟩ := hy.slice
  exact same_any A1 A2 c1 c2 zs ys w hr hr2 (by omega) (by omega) bx.bytes yb.bytes

set_option maxHeartbeats 1000000 in
theorem trades_walk (M : Nat) (A B : Option Addr) (c d : Nat) (xs ys : List Int) (w : World) (hM : M < 18446744073709551616) (hx : Rd w .u8 A xs) (hy : Rd w .u8 B ys) (bx : B8 xs) (yb : B8 ys) (lx : xs.length ≤ 140737488351232) (ly : ys.length ≤ 140737488351232) :
    Calls Try.prog 7 #[.int .u64 M, .slice A xs.length c, .slice B ys.length d] w fun e w' => e = .returned (.bool true) ∧ Below w.heap.size w w' := by
  have HX := Lib.hid hx
  have HYY := Lib.hid hy
  have BX := Lib.hid bx
  have BY := Lib.hid yb
  clear hx hy bx yb
  by_cases hl : xs.length = ys.length
  · have hb : (xs.length == ys.length) = true := beq_iff_eq.2 hl
    have hbi : ((xs.length : Int) != (ys.length : Int)) = false := by rw [hl]; simp
    have HL := Lib.hid hl
    clear hl
    go_enter Try.func7, Try.ntmps7
    go_wp2_with fail
    refine (twin_any A c xs w HX.out (by omega)).mono ?_
    rintro e w1 ⟨v1, rfl, o1, b1⟩
    have O1 := Lib.hid o1
    have B1 := Lib.hid b1
    clear o1 b1
    go_wp2_with fail
    refine (twin_any B d ys w1 (HYY.out.below B1.out) (by omega)).mono ?_
    rintro e w2 ⟨v2, rfl, o2, b2⟩
    have T2 : Hid (Two w w2 v1 v2 xs ys) := Lib.hid ⟨O1.out.below b2, o2.lower B1.out.size, fun g h1 h2 => by
      have := (O1.out.base_le h1).2; have := (o2.base_le h2).1; omega, B1.out.trans (b2.mono B1.out.size)⟩
    clear o2 b2 O1 B1
    go_wp2_with fail
    refine (T2.out.trade M (by omega) HL.out).mono ?_
    rintro e w3 ⟨rfl, t3⟩
    have T3 := Lib.hid t3
    clear t3 T2
    go_wp2_with fail
    refine (T3.out.trade' M (by omega) (by simp [HL.out]) (zz _ _ _ xs ys HL.out BX.out BY.out (fun x y hx hy => tr_back1 hx hy M)) (zz2 _ _ _ xs ys HL.out BX.out BY.out (fun x y hx hy => tr_back2 hx hy M))).mono ?_
    rintro e w4 ⟨rfl, t4⟩
    have T4 := Lib.hid t4
    clear t4 T3
    go_wp2_with fail
    refine (rsame_own T4.out.o1 (HX.out.below T4.out.bel) lx).mono ?_
    rintro e w5 ⟨n5, rfl, rfl⟩
    rw [show decide (xs = xs) = true from by simp]
    go_wp2_with fail
    refine (rsame_own (T4.out.drewN _).o2 (HYY.out.below (T4.out.drewN _).bel) ly).mono ?_
    rintro e w6 ⟨n6, rfl, rfl⟩
    rw [show decide (ys = ys) = true from by simp]
    go_wp2_with fail
    refine ((T4.out.drewN _).trade' 18446744073709551615 (by omega) HL.out (z2 _ xs ys HL.out BX.out BY.out (fun x y hx hy => tr1_all hx hy)) (z1 _ xs ys HL.out BX.out BY.out (fun x y hx hy => tr2_all hx hy))).mono ?_
    rintro e w7 ⟨rfl, t7⟩
    have T7 := Lib.hid t7
    clear t7 T4
    go_wp2_with fail
    refine (rsame_own T7.out.o1 (HYY.out.below T7.out.bel) ly).mono ?_
    rintro e w8 ⟨n8, rfl, rfl⟩
    rw [show decide (ys = ys) = true from by simp]
    go_wp2_with fail
    refine (rsame_own (T7.out.drewN _).o2 (HX.out.below (T7.out.drewN _).bel) lx).mono ?_
    rintro e w9 ⟨n9, rfl, rfl⟩
    rw [show decide (xs = xs) = true from by simp]
    go_wp2_with fail
    refine ((T7.out.drewN _).trade' 0 (by omega) HL.out.symm (z1 _ ys xs HL.out.symm BY.out BX.out (fun x y hx hy => tr1_none hx hy)) (z2 _ ys xs HL.out.symm BY.out BX.out (fun x y hx hy => tr2_none hx hy))).mono ?_
    rintro e w10 ⟨rfl, t10⟩
    have T10 := Lib.hid t10
    clear t10 T7
    go_wp2_with fail
    refine (rsame_own T10.out.o1 (HYY.out.below T10.out.bel) ly).mono ?_
    rintro e w11 ⟨n11, rfl, rfl⟩
    rw [show decide (ys = ys) = true from by simp]
    go_wp2_with fail
    refine (rsame_own (T10.out.drewN _).o2 (HX.out.below (T10.out.drewN _).bel) lx).mono ?_
    rintro e w12 ⟨n12, rfl, rfl⟩
    rw [show decide (xs = xs) = true from by simp]
    go_wp2_with fail
    refine ((T10.out.drewN _).copy 0 HL.out.symm BY.out BX.out (z1 _ ys xs HL.out.symm BY.out BX.out (fun x y hx hy => ch8_none hx hy))).mono ?_
    rintro e w13 ⟨rfl, t13⟩
    have T13 := Lib.hid t13
    clear t13 T10
    go_wp2_with fail
    refine (rsame_own T13.out.o1 (HYY.out.below T13.out.bel) ly).mono ?_
    rintro e w14 ⟨n14, rfl, rfl⟩
    rw [show decide (ys = ys) = true from by simp]
    go_wp2_with fail
    refine ((T13.out.drewN _).copy 18446744073709551615 HL.out.symm BY.out BX.out (z2 _ ys xs HL.out.symm BY.out BX.out (fun x y hx hy => ch8_all hx hy))).mono ?_
    rintro e w15 ⟨rfl, t15⟩
    have T15 := Lib.hid t15
    clear t15 T13
    go_wp2_with fail
    refine (rsame_own T15.out.o1 (HX.out.below T15.out.bel) lx).mono ?_
    rintro e w16 ⟨n16, rfl, rfl⟩
    rw [show decide (xs = xs) = true from by simp]
    go_wp2_with fail
    refine (same_own (T15.out.drewN _).o1 (T15.out.drewN _).o2 BX.out BX.out).mono ?_
    rintro e w17 ⟨n17, rfl, rfl⟩
    rw [show mk (decide (xs = xs)) = 18446744073709551615 from by simp [mk]]
    go_wp2_with fail
    refine (works_any _).mono ?_
    rintro e w18 ⟨rfl, hb18⟩
    go_wp2_with fail
    go_ret
    exact ⟨rfl, (T15.out.drewN _).bel.trans (hb18.mono (T15.out.drewN _).bel.size)⟩
  · have hb : (xs.length == ys.length) = false := beq_eq_false_iff_ne.2 hl
    have hbi : ((xs.length : Int) != (ys.length : Int)) = true := by simp; omega
    have HL := Lib.hid hl
    clear hl
    go_enter Try.func7, Try.ntmps7
    go_wp2_with fail
    refine (twin_any A c xs w HX.out (by omega)).mono ?_
    rintro e w1 ⟨v1, rfl, o1, b1⟩
    have O1 := Lib.hid o1
    have B1 := Lib.hid b1
    clear o1 b1
    go_wp2_with fail
    refine (twin_any B d ys w1 (HYY.out.below B1.out) (by omega)).mono ?_
    rintro e w2 ⟨v2, rfl, o2, b2⟩
    have B2 := Lib.hid (B1.out.trans (b2.mono B1.out.size))
    obtain ⟨A1, c1, rfl, _⟩ := O1.out.slice
    obtain ⟨A2, c2, rfl, _⟩ := o2.slice
    clear o2 b2 O1 B1
    go_wp2_with fail
    refine (trade_long M A1 A2 xs.length ys.length c1 c2 w2 HL.out).mono ?_
    rintro e w3 ⟨rfl, rfl⟩
    go_wp2_with fail
    refine (works_any _).mono ?_
    rintro e w18 ⟨rfl, hb18⟩
    go_wp2_with fail
    go_ret
    exact ⟨rfl, B2.out.trans (hb18.mono B2.out.size)⟩
end Go.Proofs.Ytmmmmabfnnblfaa

/-
  Walks of Trade and Copy: what is written into rows of one's own.
-/
import Derived.Test.YtmmmmabfnnblfaaTw
import Derived.Test.YtmmmmabfnnblfaaMw
set_option linter.unusedVariables false
namespace Go.Proofs.Ytmmmmabfnnblfaa
open Go.RowKit

/-- The first k of the new, the others of the old. -/
def upd (k : Nat) (new old : List Int) : List Int := new.take k ++ old.drop k
theorem upd_zero (new old : List Int) : upd 0 new old = old := by simp [upd]
theorem upd_all (new old : List Int) (h : new.length = old.length) : upd old.length new old = new := by
  unfold upd; rw [List.drop_length, ← h, List.take_length]; simp
theorem upd_length (k : Nat) (new old : List Int) (h : new.length = old.length) : (upd k new old).length = old.length := by simp [upd]; omega
theorem upd_get (k : Nat) (new old : List Int) (h : new.length = old.length) (hk : k < old.length) : (upd k new old)[k]? = some (old.getD k 0) := by
  unfold upd
  rw [List.getElem?_append_right (by simp; omega)]
  have : k - (new.take k).length = 0 := by simp; omega
  rw [this]
  simp [List.getD, hk]
theorem upd_set (k : Nat) (new old : List Int) (h : new.length = old.length) (hk : k < old.length) : (upd k new old).set k (new.getD k 0) = upd (k + 1) new old := by
  unfold upd
  have hl : (new.take k).length = k := by simp; omega
  rw [List.set_append_right _ _ (by omega), hl, Nat.sub_self, take_snocI new k (by omega)]
  rw [List.drop_eq_getElem_cons hk, List.set_cons_zero, List.append_assoc, List.singleton_append]

theorem blk_upd_cell {w : World} {g : Nat} {k : Nat} {new old : List Int} {r : List Value} (h : Blk w g 5 ((upd k new old).map (Value.int .u8) ++ r)) (hl : new.length = old.length) (hk : k < old.length) :
    w.cell? ⟨g, k, none⟩ = some (.int .u8 (old.getD k 0)) := by
  rw [h.cell, List.getElem?_append_left (by simp [upd_length k new old hl]; exact hk), List.getElem?_map, upd_get k new old hl hk]; rfl
theorem blk_upd_set {w : World} {g : Nat} {k : Nat} {new old : List Int} {r : List Value} (h : Blk w g 5 ((upd k new old).map (Value.int .u8) ++ r)) (hl : new.length = old.length) (hk : k < old.length) {y : Int} (hy : y = new.getD k 0) :
    Blk (w.setCell ⟨g, k, none⟩ (.int .u8 y)) g 5 ((upd (k + 1) new old).map (Value.int .u8) ++ r) := by
  have h1 := h.set k (.int .u8 y)
  subst hy
  rw [List.set_append_left _ _ (by simp [upd_length k new old hl]; exact hk), ← List.map_set, upd_set k new old hl hk] at h1
  exact h1

/-- A byte traded: the first, the second. -/
def tr1 (m x y : Int) : Int := bits .xor .u8 x (bits .and .u8 (m % 256) (bits .xor .u8 x y))
def tr2 (m x y : Int) : Int := bits .xor .u8 y (bits .and .u8 (m % 256) (bits .xor .u8 x y))
theorem zipWith_getD (f : Int → Int → Int) (xs ys : List Int) (k : Nat) (h : k < xs.length) (h2 : k < ys.length) : (List.zipWith f xs ys).getD k 0 = f (xs.getD k 0) (ys.getD k 0) := by
  simp [List.getD, List.getElem?_zipWith, h, h2]

set_option maxHeartbeats 1000000 in
theorem trade_blk (m : Int) (g1 g2 c1 c2 : Nat) (xs ys : List Int) (r1 r2 : List Value) (w : World) (h1 : Blk w g1 5 (xs.map (Value.int .u8) ++ r1)) (h2 : Blk w g2 5 (ys.map (Value.int .u8) ++ r2))
    (hne : g1 ≠ g2) (hl : xs.length = ys.length) (hx : xs.length ≤ 9223372036854775807) (hm0 : 0 ≤ m) :
    Calls Try.prog 37 #[.int .u64 m, .slice (some ⟨g1, 0, none⟩) xs.length c1, .slice (some ⟨g2, 0, none⟩) ys.length c2] w fun e w' =>
      e = .returned (.int .i64 0) ∧ Blk w' g1 5 ((List.zipWith (tr1 m) xs ys).map (Value.int .u8) ++ r1) ∧ Blk w' g2 5 ((List.zipWith (tr2 m) xs ys).map (Value.int .u8) ++ r2) ∧ Fr (fun k => k = g1 ∨ k = g2) w w' := by
  have hb : (xs.length == ys.length) = true := beq_iff_eq.2 hl
  have HL := Lib.hid hl
  have H1 := Lib.hid h1
  have H2 := Lib.hid h2
  have HL1 : Hid ((List.zipWith (tr1 m) xs ys).length = xs.length) := Lib.hid (by simp [hl])
  have HL2 : Hid ((List.zipWith (tr2 m) xs ys).length = ys.length) := Lib.hid (by simp [hl])
  have hy : ys.length ≤ 9223372036854775807 := by omega
  clear hl h1 h2
  go_enter Try.func37, Try.ntmps37
  go_wp2
  go_loopw [16] (fun i wr => ∃ k : Nat, k ≤ xs.length ∧ i = .int .i64 k ∧ Hid (Blk wr g1 5 ((upd k (List.zipWith (tr1 m) xs ys) xs).map (Value.int .u8) ++ r1)) ∧ Hid (Blk wr g2 5 ((upd k (List.zipWith (tr2 m) xs ys) ys).map (Value.int .u8) ++ r2)) ∧ Hid (Fr (fun k => k = g1 ∨ k = g2) w wr)) (fun i _ => xs.length - (intOf i).toNat)
  case atStart => exact ⟨0, Nat.zero_le _, rfl, Lib.hid (by rw [upd_zero]; exact H1.out), Lib.hid (by rw [upd_zero]; exact H2.out), Lib.hid (Fr.refl _ _)⟩
  case round =>
    clear hb H1 H2
    obtain ⟨k, hk, rfl, hb1, hb2, hfr⟩ := hrel
    by_cases hlt : k < xs.length
    · have hlt2 : k < ys.length := by have := HL.out; omega
      have hc1 := blk_upd_cell hb1.out HL1.out hlt
      have hc2 := blk_upd_cell hb2.out HL2.out hlt2
      have hf1 := hb1.out.frozen k
      have hf2 := hb2.out.frozen k
      obtain ⟨x, HXX⟩ : ∃ x, Hid (x = xs.getD k 0) := ⟨_, Lib.hid rfl⟩
      obtain ⟨y, HYY⟩ : ∃ x, Hid (x = ys.getD k 0) := ⟨_, Lib.hid rfl⟩
      rw [← HXX.out] at hc1
      rw [← HYY.out] at hc2
      have hne' : ¬ g2 = g1 := fun e => hne e.symm
      go_wp2
      go_quiet (fail)
      go_wp2
      go_roundw
      case rel =>
        refine ⟨k + 1, by omega, by go_num, Lib.hid ?_, Lib.hid ?_, Lib.hid ?_⟩
        · refine Blk.other (p := ⟨g2, k, none⟩) ?_ hne _
          exact blk_upd_set (hb1.out.drewN _) HL1.out hlt (by rw [zipWith_getD _ _ _ _ hlt hlt2, ← HXX.out, ← HYY.out]; rfl)
        · refine blk_upd_set (Blk.other (p := ⟨g1, k, none⟩) (hb2.out.drewN _) hne' _) HL2.out hlt2 (by rw [zipWith_getD _ _ _ _ hlt hlt2, ← HXX.out, ← HYY.out]; rfl)
        · exact ((hfr.out.drewN _).setCell (p := ⟨g1, k, none⟩) (.inl (.inl rfl)) _).setCell (p := ⟨g2, k, none⟩) (.inl (.inr rfl)) _
      case measure => simp [intOf]; omega
    · obtain rfl : k = xs.length := by omega
      go_wp2
      go_ret
      have e1 := hb1.out
      have e2 := hb2.out
      rw [upd_all _ _ HL1.out] at e1
      rw [HL.out, upd_all _ _ HL2.out] at e2
      exact ⟨rfl, e1, e2, hfr.out⟩

/-- Trade of rows of unlike lengths. -/
theorem trade_long (m : Int) (A B : Option Addr) (n1 n2 c1 c2 : Nat) (w : World) (hl : ¬ n1 = n2) :
    Calls Try.prog 37 #[.int .u64 m, .slice A n1 c1, .slice B n2 c2] w fun e w' => e = .returned (.int .i64 4) ∧ w = w' := by
  have hb : (n1 == n2) = false := beq_eq_false_iff_ne.2 hl
  clear hl
  go_enter Try.func37, Try.ntmps37
  go_wp2
  go_ret
  exact ⟨rfl, rfl⟩

theorem trade_none (m : Int) (A B : Option Addr) (c1 c2 : Nat) (w : World) :
    Calls Try.prog 37 #[.int .u64 m, .slice A 0 c1, .slice B 0 c2] w fun e w' => e = .returned (.int .i64 0) ∧ w = w' := by
  go_enter Try.func37, Try.ntmps37
  go_wp2
  go_loop [16] (fun i => i = .int .i64 0) (fun _ => 0)
  case atStart => rfl
  case round =>
    subst hrel
    go_wp2
    go_ret
    exact ⟨rfl, rfl⟩

/-- Trade of rows of the call's own. -/
theorem trade_own (m : Int) (v1 v2 : Value) (xs ys : List Int) (B : Nat) (w : World) (h1 : Own w B 5 .u8 v1 xs) (h2 : Own w B 5 .u8 v2 ys) (hne : ∀ g, v1.ownBlock = some g → v2.ownBlock ≠ some g) (hl : xs.length = ys.length) (hm0 : 0 ≤ m) :
    Calls Try.prog 37 #[.int .u64 m, v1, v2] w fun e w' => e = .returned (.int .i64 0) ∧ Own w' B 5 .u8 v1 (List.zipWith (tr1 m) xs ys) ∧ Own w' B 5 .u8 v2 (List.zipWith (tr2 m) xs ys) ∧ Fr (fun k => v1.ownBlock = some k ∨ v2.ownBlock = some k) w w' := by
  rcases h1.form with ⟨rfl, rfl⟩ | ⟨g1, c1, r1, rfl, hb1, hB1, hc1, hm1⟩
  · have hy : ys = [] := List.eq_nil_of_length_eq_zero (by simpa using hl.symm)
    subst hy
    obtain ⟨A, c, rfl, _⟩ := h2.slice
    refine (trade_none m none A 0 c w).mono ?_
    rintro e w' ⟨rfl, rfl⟩
    exact ⟨rfl, h1, h2, Fr.refl _ _⟩
  · rcases h2.form with ⟨rfl, rfl⟩ | ⟨g2, c2, r2, rfl, hb2, hB2, hc2, hm2⟩
    · have hx : xs = [] := List.eq_nil_of_length_eq_zero (by simpa using hl)
      subst hx
      refine (trade_none m _ none c1 0 w).mono ?_
      rintro e w' ⟨rfl, rfl⟩
      exact ⟨rfl, h1, h2, Fr.refl _ _⟩
    · have hg : g1 ≠ g2 := fun e => hne g1 rfl (by rw [e]; rfl)
      refine (trade_blk m g1 g2 c1 c2 xs ys r1 r2 w hB1 hB2 hg hl (by unfold maxLen at hm1; omega) hm0).mono ?_
      rintro e w' ⟨rfl, k1, k2, hf⟩
      have l1 : (List.zipWith (tr1 m) xs ys).length = xs.length := by simp [hl]
      have l2 : (List.zipWith (tr2 m) xs ys).length = ys.length := by simp [hl]
      have o1 := Own.mk (c := c1) hb1 k1 (by rw [l1]; exact hc1) hm1
      have o2 := Own.mk (c := c2) hb2 k2 (by rw [l2]; exact hc2) hm2
      rw [l1] at o1
      rw [l2] at o2
      refine ⟨rfl, o1, o2, hf.mono ?_⟩
      rintro k (rfl | rfl)
      · exact .inl rfl
      · exact .inr rfl
end Go.Proofs.Ytmmmmabfnnblfaa

/-
  Walks: Same, Before (the program's and the document's), the document's Copy and Trade.
-/
import Derived.Test.YtmmmmabfnnblfaaWk
set_option linter.unusedVariables false
set_option linter.unusedSimpArgs false
namespace Go.Proofs.Ytmmmmabfnnblfaa
open Go.RowKit

theorem mk_and (a b : Bool) : bits .and .u64 (mk a) (mk b) = mk (a && b) := by cases a <;> cases b <;> decide
theorem mk_or (a b : Bool) : bits .or .u64 (mk a) (mk b) = mk (a || b) := by cases a <;> cases b <;> decide
theorem mk_xor (a b : Bool) : bits .xor .u64 (mk a) (mk b) = mk (a != b) := by cases a <;> cases b <;> decide
theorem mk_andNot (a b : Bool) : bits .andNot .u64 (mk a) (mk b) = mk (a && !b) := by cases a <;> cases b <;> decide

/-- Bytes. -/
def Bytes (xs : List Int) : Prop := ∀ i, 0 ≤ xs.getD i 0 ∧ xs.getD i 0 ≤ 255

set_option maxHeartbeats 400000 in
theorem same_any (A B : Option Addr) (c d : Nat) (xs ys : List Int) (w : World) (hx : Rd w .u8 A xs) (hy : Rd w .u8 B ys) (hl : xs.length ≤ 9223372036854775807) (hm : ys.length ≤ 9223372036854775807) (bx : Bytes xs) (yb : Bytes ys) :
    Calls Try.prog 40 #[.slice A xs.length c, .slice B ys.length d] w fun e w' => ∃ n, e = .returned (.int .u64 (mk (decide (xs = ys)))) ∧ w' = w.drewN n := by
  have HX := Lib.hid hx
  have HYY := Lib.hid hy
  have BX := Lib.hid bx
  have BY := Lib.hid yb
  clear hx hy bx yb
  by_cases hlen : xs.length = ys.length
  · have hb : (xs.length == ys.length) = true := beq_iff_eq.2 hlen
    have hbi : ((xs.length : Int) != (ys.length : Int)) = false := by rw [hlen]; simp
    have HL := Lib.hid hlen
    clear hlen
    go_enter Try.func40, Try.ntmps40
    go_wp2
    go_loopw [5, 14] (fun dd i wr => ∃ k n q : Nat, k ≤ xs.length ∧ i = .int .i64 k ∧ dd = .int .u64 q ∧ q < 256 ∧ Hid (q = 0 ↔ xs.take k = ys.take k) ∧ wr = w.drewN n) (fun _ i _ => xs.length - (intOf i).toNat)
    case atStart => exact ⟨0, 0, 0, Nat.zero_le _, rfl, rfl, by omega, Lib.hid (by simp), rfl⟩
    case round =>
      clear hb hbi
      obtain ⟨k, n, q, hk, rfl, rfl, hq, HT, rfl⟩ := hrel
      by_cases hlt : k < xs.length
      · have hlt2 : k < ys.length := by have := HL.out; omega
        obtain ⟨b, off, x, rfl, hc, HXK⟩ := HX.out.at k hlt
        obtain ⟨b2, off2, y, rfl, hc2, HYK⟩ := HYY.out.at k hlt2
        have px := BX.out k
        have py := BY.out k
        rw [← HXK.out] at px
        rw [← HYK.out] at py
        obtain ⟨X, rfl⟩ := Int.eq_ofNat_of_zero_le px.1
        obtain ⟨Y, rfl⟩ := Int.eq_ofNat_of_zero_le py.1
        have lx : X < 256 := by omega
        have ly : Y < 256 := by omega
        have hz : X ^^^ Y < 256 := Nat.xor_lt_two_pow (n := 8) lx ly
        have hxor : bits .xor .u8 (X : Int) (Y : Int) = ((X ^^^ Y : Nat) : Int) := u8_xor_nat X Y lx ly
        have hor : bits .or .u64 (q : Int) ((X ^^^ Y : Nat) : Int) = ((q ||| (X ^^^ Y) : Nat) : Int) := u64_or_nat q (X ^^^ Y) (by omega) (by omega)
        have HN : Hid (q ||| (X ^^^ Y) = 0 ↔ xs.take (k + 1) = ys.take (k + 1)) := by
          refine Lib.hid ?_
          rw [take_snocI xs k hlt, take_snocI ys k hlt2, ← HXK.out, ← HYK.out, Nat.or_eq_zero_iff, HT.out]
          constructor
          · rintro ⟨h1, h2⟩
            have : X = Y := by
              have h3 : X ^^^ Y ^^^ Y = 0 ^^^ Y := by rw [h2]
              simpa [Nat.xor_assoc] using h3
            rw [h1, this]
          · intro h
            have h1 := List.append_inj h (by simp; omega)
            refine ⟨h1.1, ?_⟩
            have h2 : (X : Int) = Y := by simpa using h1.2
            have h3 : X = Y := by omega
            rw [h3]; simp
        have hlo : q ||| (X ^^^ Y) < 256 := Nat.or_lt_two_pow (n := 8) hq hz
        generalize X ^^^ Y = z at *
        generalize hzz : q ||| z = zz at *
        have HZZ := Lib.hid hzz
        clear hzz px py
        go_wp2
        try go_quiet (fail)
        try go_wp2
        go_roundw
        case rel => exact ⟨k + 1, _, zz, by omega, by go_num, rfl, hlo, HN, rfl⟩
        case measure => simp [intOf]; omega
      · have HK : Hid (k = xs.length) := Lib.hid (by omega)
        have hge : decide ((k : Int) < (xs.length : Int)) = false := by simp; omega
        go_wp2_with fail
        refine (zero_any q _ (by omega) (by omega)).mono ?_
        rintro e w' ⟨rfl, rfl⟩
        go_wp2_with fail
        go_ret
        refine ⟨_, ?_, rfl⟩
        have h := HT.out
        rw [HK.out, List.take_length, List.take_of_length_le (by have := HL.out; omega)] at h
        have h2 : decide (q = 0) = decide (xs = ys) := by
          rw [decide_eq_decide, ← h]
        exact congrArg (fun z => Ending.returned (Value.int _ (mk z))) h2
  · have hb : (xs.length == ys.length) = false := beq_eq_false_iff_ne.2 hlen
    have HN : Hid (¬ xs = ys) := Lib.hid (fun e => hlen (by rw [e]))
    clear hlen
    go_enter Try.func40, Try.ntmps40
    go_wp2
    go_ret
    exact ⟨0, by simp [HN.out, mk], rfl⟩

/-! ### Before -/
def bef : List Int → List Int → Bool
  | [], [] => false
  | [], _ :: _ => true
  | _ :: _, [] => false
  | x :: xs, y :: ys => if x = y then bef xs ys else decide (x < y)
theorem bef_drop (xs ys : List Int) (k : Nat) (h1 : k < xs.length) (h2 : k < ys.length) :
    bef (xs.drop k) (ys.drop k) = if xs.getD k 0 = ys.getD k 0 then bef (xs.drop (k + 1)) (ys.drop (k + 1)) else decide (xs.getD k 0 < ys.getD k 0) := by
  rw [List.drop_eq_getElem_cons h1, List.drop_eq_getElem_cons h2, bef]
  simp [List.getD, h1, h2]
theorem bef_end (xs ys : List Int) (k : Nat) (h : ¬ (k < xs.length ∧ k < ys.length)) (h1 : k ≤ xs.length) (h2 : k ≤ ys.length) : bef (xs.drop k) (ys.drop k) = decide (xs.length < ys.length) := by
  by_cases hx : k < xs.length
  · have hy : k = ys.length := by omega
    subst hy
    rw [List.drop_length, List.drop_eq_getElem_cons hx, bef]
    simp; omega
  · have hxe : k = xs.length := by omega
    subst hxe
    rw [List.drop_length]
    by_cases hy : xs.length < ys.length
    · rw [List.drop_eq_getElem_cons hy, bef]; simp [hy]
    · have : ys.drop xs.length = [] := List.drop_of_length_le (by omega)
      rw [this, bef]; simp; omega

set_option maxHeartbeats 800000 in
theorem rbefore_any (A B : Option Addr) (c d : Nat) (xs ys : List Int) (w : World) (hx : Rd w .u8 A xs) (hy : Rd w .u8 B ys) (hl : xs.length ≤ 9223372036854775807) (hm : ys.length ≤ 9223372036854775807) :
    Calls Try.prog 49 #[.slice A xs.length c, .slice B ys.length d] w fun e w' => ∃ n, e = .returned (.bool (bef xs ys)) ∧ w' = w.drewN n := by
  have HX := Lib.hid hx
  have HYY := Lib.hid hy
  clear hx hy
  go_enter Try.func49, Try.ntmps49
  go_wp2_with fail
  go_loopw [5] (fun i wr => ∃ k n : Nat, k ≤ xs.length ∧ k ≤ ys.length ∧ i = .int .i64 k ∧ Hid (bef xs ys = bef (xs.drop k) (ys.drop k)) ∧ wr = w.drewN n) (fun i _ => xs.length - (intOf i).toNat)
  case atStart => exact ⟨0, 0, Nat.zero_le _, Nat.zero_le _, rfl, Lib.hid rfl, rfl⟩
  case round =>
    obtain ⟨k, n, hk, hk2, rfl, HT, rfl⟩ := hrel
    by_cases hlt : k < xs.length
    · by_cases hlt2 : k < ys.length
      · obtain ⟨b, off, x, rfl, hc, HXK⟩ := HX.out.at k hlt
        obtain ⟨b2, off2, y, rfl, hc2, HYK⟩ := HYY.out.at k hlt2
        have HD := Lib.hid (bef_drop xs ys k hlt hlt2)
        by_cases hxy : x = y
        · subst hxy
          have HZ : Hid (bef xs ys = bef (xs.drop (k + 1)) (ys.drop (k + 1))) := Lib.hid (by rw [HT.out, HD.out, if_pos (by rw [← HXK.out, ← HYK.out])])
          go_wp2_with fail
          go_quiet (fail)
          go_wp2_with fail
          go_roundw
          case rel => exact ⟨k + 1, _, by omega, by omega, by go_num, HZ, rfl⟩
          case measure => simp [intOf]; omega
        · have HZ : Hid (bef xs ys = decide (x < y)) := Lib.hid (by rw [HT.out, HD.out, ← HXK.out, ← HYK.out, if_neg hxy])
          have hd : (x != y) = true := by simpa using hxy
          clear hxy
          go_wp2_with fail
          go_quiet (fail)
          go_wp2_with fail
          try go_quiet (fail)
          try go_wp2_with fail
          go_ret
          simp only [World.drewN_drewN]
          exact ⟨_, congrArg (fun z => Ending.returned (Value.bool z)) HZ.out.symm, rfl⟩
      · have HE := Lib.hid (bef_end xs ys k (by omega) hk hk2)
        have hge : decide ((k : Int) < (ys.length : Int)) = false := by simp; omega
        go_wp2_with fail
        go_ret
        exact ⟨_, congrArg (fun z => Ending.returned (Value.bool z)) (by rw [HT.out, HE.out]), rfl⟩
    · have HE := Lib.hid (bef_end xs ys k (by omega) hk hk2)
      have hge : decide ((k : Int) < (xs.length : Int)) = false := by simp; omega
      go_wp2_with fail
      go_ret
      exact ⟨_, congrArg (fun z => Ending.returned (Value.bool z)) (by rw [HT.out, HE.out]), rfl⟩

attribute [local go_sem] mk_and mk_or

/-- What the two words of Before's loop say after k steps. -/
def BefAt (xs ys : List Int) (k : Nat) (o f : Bool) : Prop :=
  (o = true → f = false ∧ bef xs ys = bef (xs.drop k) (ys.drop k)) ∧ (o = false → f = bef xs ys)
theorem BefAt.start (xs ys : List Int) : BefAt xs ys 0 true false := ⟨fun _ => ⟨rfl, rfl⟩, fun h => by cases h⟩
theorem BefAt.step {xs ys : List Int} {k : Nat} {o f : Bool} (h : BefAt xs ys k o f) (h1 : k < xs.length) (h2 : k < ys.length) {x y : Int} (hx : x = xs.getD k 0) (hy : y = ys.getD k 0) :
    BefAt xs ys (k + 1) (o && decide (x = y)) (f || (o && decide (x < y))) := by
  have hd := bef_drop xs ys k h1 h2
  rw [← hx, ← hy] at hd
  cases o
  · exact ⟨fun h => by simp at h, fun _ => by simpa using h.2 rfl⟩
  · obtain ⟨hf, hb⟩ := h.1 rfl
    subst hf
    by_cases hxy : x = y
    · subst hxy
      exact ⟨fun _ => ⟨by simp, by rw [hb, hd, if_pos rfl]⟩, fun h => by simp at h⟩
    · refine ⟨fun h => by simp [hxy] at h, fun _ => ?_⟩
      rw [hb, hd, if_neg hxy]; simp
theorem BefAt.done {xs ys : List Int} {k : Nat} {o f : Bool} (h : BefAt xs ys k o f) (h1 : ¬ (k < xs.length ∧ k < ys.length)) (h2 : k ≤ xs.length) (h3 : k ≤ ys.length) :
    (f || (o && decide (xs.length < ys.length))) = bef xs ys := by
  cases o
  · simpa using h.2 rfl
  · obtain ⟨hf, hb⟩ := h.1 rfl
    rw [hb, hf, bef_end xs ys k h1 h2 h3]; simp
theorem nat_int_lt (a b : Nat) : decide ((a : Int) < (b : Int)) = decide (a < b) := by simp
set_option maxHeartbeats 1000000 in
theorem before_any (A B : Option Addr) (c d : Nat) (xs ys : List Int) (w : World) (hx : Rd w .u8 A xs) (hy : Rd w .u8 B ys) (hl : xs.length ≤ 9223372036854775807) (hm : ys.length ≤ 9223372036854775807) (bx : Bytes xs) (yb : Bytes ys) :
    Calls Try.prog 48 #[.slice A xs.length c, .slice B ys.length d] w fun e w' => ∃ n, e = .returned (.int .u64 (mk (bef xs ys))) ∧ w' = w.drewN n := by
  have HX := Lib.hid hx
  have HYY := Lib.hid hy
  have BX := Lib.hid bx
  have BY := Lib.hid yb
  clear hx hy bx yb
  by_cases hh : ys.length < xs.length
  · go_enter Try.func48, Try.ntmps48
    go_wp2_with fail
    go_loopw [6, 7, 17] (fun o f i wr => ∃ (k n : Nat) (b1 b2 : Bool), k ≤ ys.length ∧ i = .int .i64 k ∧ o = .int .u64 (mk b1) ∧ f = .int .u64 (mk b2) ∧ Hid (BefAt xs ys k b1 b2) ∧ wr = w.drewN n) (fun _ _ i _ => ys.length - (intOf i).toNat)
    case atStart => exact ⟨0, 0, true, false, Nat.zero_le _, rfl, rfl, rfl, Lib.hid (BefAt.start xs ys), rfl⟩
    case round =>
      obtain ⟨k, n, b1, b2, hk, rfl, rfl, rfl, HT, rfl⟩ := hrel
      by_cases hlt : k < ys.length
      · have hlt1 : k < xs.length := by omega
        obtain ⟨b, off, x, rfl, hc, HXK⟩ := HX.out.at k hlt1
        obtain ⟨b2, off2, y, rfl, hc2, HYK⟩ := HYY.out.at k hlt
        have px := BX.out k
        have py := BY.out k
        rw [← HXK.out] at px
        rw [← HYK.out] at py
        obtain ⟨px0, px1⟩ := px
        obtain ⟨py0, py1⟩ := py
        have HZ := Lib.hid (HT.out.step hlt1 hlt HXK.out HYK.out)
        go_wp2_with fail
        go_region_with (fail)
        all_goals
          go_wp2_with fail
          refine (less_any x y _ px0 (by omega) py0 (by omega)).mono ?_
          rintro e w' ⟨rfl, rfl⟩
          go_wp2_with fail
          refine (equal_any x y _ px0 (by omega) py0 (by omega)).mono ?_
          rintro e w' ⟨rfl, rfl⟩
          go_wp2_with fail
          go_roundw
          case rel => exact ⟨k + 1, _, _, _, by omega, by go_num, rfl, rfl, HZ, rfl⟩
          case measure => simp [intOf]; omega
      · have HK : Hid (k = ys.length) := Lib.hid (by omega)
        have hge : decide ((k : Int) < (ys.length : Int)) = false := by simp; omega
        have HF := Lib.hid (HT.out.done (by omega) (by omega) hk)
        have hnn := nat_int_lt xs.length ys.length
        go_wp2_with fail
        refine (less_any (xs.length : Int) (ys.length : Int) _ (by omega) (by omega) (by omega) (by omega)).mono ?_
        rintro e w' ⟨rfl, rfl⟩
        go_wp2_with fail
        go_ret
        exact ⟨_, congrArg (fun z => Ending.returned (Value.int _ (mk z))) HF.out, rfl⟩
  · go_enter Try.func48, Try.ntmps48
    go_wp2_with fail
    go_loopw [6, 7, 17] (fun o f i wr => ∃ (k n : Nat) (b1 b2 : Bool), k ≤ xs.length ∧ i = .int .i64 k ∧ o = .int .u64 (mk b1) ∧ f = .int .u64 (mk b2) ∧ Hid (BefAt xs ys k b1 b2) ∧ wr = w.drewN n) (fun _ _ i _ => xs.length - (intOf i).toNat)
    case atStart => exact ⟨0, 0, true, false, Nat.zero_le _, rfl, rfl, rfl, Lib.hid (BefAt.start xs ys), rfl⟩
    case round =>
      obtain ⟨k, n, b1, b2, hk, rfl, rfl, rfl, HT, rfl⟩ := hrel
      by_cases hlt1 : k < xs.length
      · have hlt : k < ys.length := by omega
        obtain ⟨b, off, x, rfl, hc, HXK⟩ := HX.out.at k hlt1
        obtain ⟨b2, off2, y, rfl, hc2, HYK⟩ := HYY.out.at k hlt
        have px := BX.out k
        have py := BY.out k
        rw [← HXK.out] at px
        rw [← HYK.out] at py
        obtain ⟨px0, px1⟩ := px
        obtain ⟨py0, py1⟩ := py
        have HZ := Lib.hid (HT.out.step hlt1 hlt HXK.out HYK.out)
        go_wp2_with fail
        go_region_with (fail)
        all_goals
          go_wp2_with fail
          refine (less_any x y _ px0 (by omega) py0 (by omega)).mono ?_
          rintro e w' ⟨rfl, rfl⟩
          go_wp2_with fail
          refine (equal_any x y _ px0 (by omega) py0 (by omega)).mono ?_
          rintro e w' ⟨rfl, rfl⟩
          go_wp2_with fail
          go_roundw
          case rel => exact ⟨k + 1, _, _, _, by omega, by go_num, rfl, rfl, HZ, rfl⟩
          case measure => simp [intOf]; omega
      · have HK : Hid (k = xs.length) := Lib.hid (by omega)
        have hge : decide ((k : Int) < (xs.length : Int)) = false := by simp; omega
        have HF := Lib.hid (HT.out.done (by omega) hk (by omega))
        have hnn := nat_int_lt xs.length ys.length
        go_wp2_with fail
        refine (less_any (xs.length : Int) (ys.length : Int) _ (by omega) (by omega) (by omega) (by omega)).mono ?_
        rintro e w' ⟨rfl, rfl⟩
        go_wp2_with fail
        go_ret
        exact ⟨_, congrArg (fun z => Ending.returned (Value.int _ (mk z))) HF.out, rfl⟩
end Go.Proofs.Ytmmmmabfnnblfaa

/-
  Walks: the document's Copy and Trade.
-/
import Derived.Test.YtmmmmabfnnblfaaLi
import Derived.Deep.RegionLaw
set_option linter.unusedVariables false
set_option linter.unusedSimpArgs false
namespace Go.Proofs.Ytmmmmabfnnblfaa
open Go.RowKit

/-- append(v, x) at a step of a region that draws. -/
theorem step_push {P : Program} (w : World) {W : World} {ops : Array Oper} {o : Oper} {a : Act} {K : Act → World → Prop} {Q : Exit → Act → World → Prop} {E : Prop} (hgd : o.guard = none) (s x : Operand) (t : TypeId)
    (ho : o.op = Op.call { callee := Callee.builtin Builtin.append, args := #[s, x], argTypes := #[t, t] })
    (base : Nat) (e : TypeId) (k : IntKind) (bytes : Nat) (ht : P.underlying t = some (.slice e)) (hinfo : (P.info? e).map (fun i => (i.zero, i.size, i.bytes)) = some (some (.int k 0), 1, bytes))
    (y : Int) (hW : W = w.alloc (.cells #[.int k y] e)) (v : Value) (xs : List Int) (hs : a.eval s = v) (hx : a.eval x = .slice (some ⟨w.heap.size, 0, none⟩) 1 1) (hown : Own w base e k v xs)
    (hbytes : (xs.length + 1) * bytes ≤ 140737488355328) (hb0 : 0 < bytes) (hbase : base ≤ w.heap.size)
    (h : ∀ v' w', Own w' base e k v' (xs ++ [y]) → Fr (fun g => v.ownBlock = some g) w w' → K (a.put o.dst v') w') :
    if Region.wanted o (yielded ops a.tmps) = true then Oper.wp P o a W K Q else E := by
  have hw : Region.wanted o (yielded ops a.tmps) = true := by simp [Region.wanted, hgd]
  rw [if_pos hw]
  subst hW
  obtain ⟨i0, hi, hz0, hz1, hz2⟩ := info_parts hinfo
  have hlen : xs.length + 1 ≤ 140737488355328 := Nat.le_trans (Nat.le_mul_of_pos_right _ hb0) hbytes
  refine wp_append_own (w.alloc (.cells #[.int k y] e)) s x t ho base e i0 (.int k 0) 1 bytes ht hi hz0 hz1 hz2 rfl (by decide) v xs.length (xs.map (Value.int k)) hs (hown.alloc _) ⟨w.heap.size, 0, none⟩ 1 1 [.int k y] hx rfl
    (fun j u hu => ?_) (fun u hu => by simp at hu; subst hu; rfl) (by unfold maxLen; omega) hbytes (by simp; omega) (fun v' w' hown' hgrow _ => h v' w' ?_ ?_)
  · cases j with
    | zero =>
      have hn := Blk.new w e [.int k y]
      have := hn.cell 0
      simp at hu
      subst hu
      rw [show (⟨w.heap.size, 0, none⟩ : Addr).add 0 = ⟨w.heap.size, 0, none⟩ from rfl]
      exact this
    | succ j => simp at hu
  · unfold Own; simpa using hown'
  · exact ((Fr.refl _ w).alloc _).grown hgrow (fun g hg => .inl hg)

def cpl (M : Int) (xs ys : List Int) : List Int := List.zipWith (fun x y => ch8 M y x) xs ys
theorem cpl_len (M : Int) (xs ys : List Int) (h : xs.length = ys.length) : (cpl M xs ys).length = xs.length := by simp [cpl, h]
theorem cpl_snoc (M : Nat) (xs ys : List Int) (k : Nat) (h1 : k < xs.length) (h2 : k < ys.length) {X Y : Nat} (hX : (X : Int) = xs.getD k 0) (hY : (Y : Int) = ys.getD k 0) (lM : M < 18446744073709551616) (lX : X < 256) (lY : Y < 256) :
    (cpl M xs ys).take (k + 1) = (cpl M xs ys).take k ++ [IntKind.u8.wrap ((pkN M Y X : Nat) : Int)] := by
  have hw : IntKind.u8.wrap ((pkN M Y X : Nat) : Int) = ((pkN M Y X : Nat) : Int) % 256 := by simp [IntKind.wrap, IntKind.bits, IntKind.signed]
  rw [hw]
  rw [take_snocI _ _ (by simp [cpl]; omega)]
  unfold cpl
  rw [zipWith_getD _ _ _ _ h1 h2, ← hX, ← hY]
  unfold ch8
  rw [pk_nat _ _ _ lM (by omega) (by omega)]

set_option maxHeartbeats 1000000 in
theorem rcopy_any (M : Nat) (A B : Option Addr) (c d : Nat) (xs ys : List Int) (w : World) (hM : M < 18446744073709551616) (hx : Rd w .u8 A xs) (hy : Rd w .u8 B ys) (bx : B8 xs) (yb : B8 ys) (lx : xs.length ≤ 140737488351232) (hl : xs.length = ys.length) :
    Calls Try.prog 33 #[.int .u64 M, .slice A xs.length c, .slice B ys.length d] w fun e w' => ∃ v, e = .returned (.tuple #[v, .int .i64 0]) ∧ Own w' w.heap.size 5 .u8 v (cpl M xs ys) ∧ Below w.heap.size w w' := by
  have HX := Lib.hid hx
  have HYY := Lib.hid hy
  have BX := Lib.hid bx
  have BY := Lib.hid yb
  have hb : (xs.length == ys.length) = true := beq_iff_eq.2 hl
  have hbi : ((xs.length : Int) != (ys.length : Int)) = false := by rw [hl]; simp
  have HL := Lib.hid hl
  clear hx hy bx yb hl
  go_enter Try.func33, Try.ntmps33
  go_wp2_with fail
  go_loopw [8, 9] (fun v i wr => ∃ k : Nat, k ≤ xs.length ∧ i = .int .i64 k ∧ Own wr w.heap.size 5 .u8 v ((cpl M xs ys).take k) ∧ Below w.heap.size w wr) (fun _ i _ => xs.length - (intOf i).toNat)
  case atStart => exact ⟨0, Nat.zero_le _, rfl, Own.nil _ _ _ _, Below.refl _ _⟩
  case round =>
    clear hb hbi
    obtain ⟨k, hk, rfl, hown, hb⟩ := hrel
    have HO := Lib.hid hown
    have HB := Lib.hid hb
    have hsz := hb.size
    clear hown hb
    by_cases hlt : k < xs.length
    · have hlt2 : k < ys.length := by have := HL.out; omega
      obtain ⟨b, off, x, rfl, hc, HXK⟩ := (HX.out.below HB.out).at k hlt
      obtain ⟨b2, off2, y, rfl, hc2, HYK⟩ := (HYY.out.below HB.out).at k hlt2
      have px := BX.out.bytes k
      have py := BY.out.bytes k
      rw [← HXK.out] at px
      rw [← HYK.out] at py
      obtain ⟨X, rfl, lX⟩ := B8.nat px
      obtain ⟨Y, rfl, lY⟩ := B8.nat py
      have HS := Lib.hid (cpl_snoc M xs ys k hlt hlt2 HXK.out HYK.out hM lX lY)
      clear px py
      have hwX : IntKind.u64.wrap (X : Int) = (X : Int) := by simp [IntKind.wrap, IntKind.bits, IntKind.signed]; omega
      have hwY : IntKind.u64.wrap (Y : Int) = (Y : Int) := by simp [IntKind.wrap, IntKind.bits, IntKind.signed]; omega
      have lX2 : X < 18446744073709551616 := by omega
      have lY2 : Y < 18446744073709551616 := by omega
      have hc1 : (((cpl M xs ys).take k).length + 1) * 1 ≤ 140737488355328 := by
        have := cpl_len M xs ys HL.out
        simp; omega
      go_wp2_with fail
      go_region_law (first | (refine step_push wr.drew rfl _ _ 47 rfl w.heap.size 5 .u8 1 Try.underlying47 info5 _ rfl _ _ rfl rfl HO.out hc1 (by decide) hsz ?_; intro v' w1 hown1 hfr1) | (go_simp; go_at_call 12; refine (rpick_any M Y X _ hM lY2 lX2).mono ?_; rintro e w' ⟨rfl, rfl⟩))
      all_goals
        rw [← HS.out] at hown1
        have hb1 : Below w.heap.size w w1 := HB.out.drew.trans (hfr1.below hsz (fun g hg => (HO.out.base_le hg).1))
        clear hfr1
        have HB1 := Lib.hid hb1
        have HO1 := Lib.hid hown1
        clear hb1 hown1
        go_wp2_with fail
        go_roundw
        case rel => exact ⟨k + 1, by omega, by go_num, HO1.out, HB1.out⟩
        case measure => simp [intOf]; omega
    · have hge : decide ((k : Int) < (xs.length : Int)) = false := by simp; omega
      have HK : Hid (k = xs.length) := Lib.hid (by omega)
      go_wp2_with fail
      go_ret2
      have ho := HO.out
      rw [HK.out, List.take_of_length_le (by have := cpl_len M xs ys HL.out; omega)] at ho
      exact ⟨_, rfl, ho, HB.out⟩

theorem rcopy_long (M : Int) (A B : Option Addr) (n1 n2 c1 c2 : Nat) (w : World) (hl : ¬ n1 = n2) :
    Calls Try.prog 33 #[.int .u64 M, .slice A n1 c1, .slice B n2 c2] w fun e w' => e = .returned (.tuple #[.slice none 0 0, .int .i64 4]) ∧ w = w' := by
  have hb : (n1 == n2) = false := beq_eq_false_iff_ne.2 hl
  have hbi : ((n1 : Int) != (n2 : Int)) = true := by simp; omega
  clear hl
  go_enter Try.func33, Try.ntmps33
  go_wp2_with fail
  go_ret2
  exact ⟨rfl, rfl⟩

theorem rtrade_any (M : Nat) (A B : Option Addr) (c d : Nat) (xs ys : List Int) (w : World) (hM : M < 18446744073709551616) (hx : Rd w .u8 A xs) (hy : Rd w .u8 B ys) (bx : B8 xs) (yb : B8 ys) (lx : xs.length ≤ 140737488351232) (hl : xs.length = ys.length) :
    Calls Try.prog 36 #[.int .u64 M, .slice A xs.length c, .slice B ys.length d] w fun e w' => ∃ v1 v2, e = .returned (.tuple #[v1, v2, .int .i64 0]) ∧ Own w' w.heap.size 5 .u8 v1 (cpl M xs ys) ∧ Own w' w.heap.size 5 .u8 v2 (cpl M ys xs) ∧ Below w.heap.size w w' := by
  have HX := Lib.hid hx
  have HYY := Lib.hid hy
  have BX := Lib.hid bx
  have BY := Lib.hid yb
  have HL := Lib.hid hl
  clear hx hy bx yb hl
  go_enter Try.func36, Try.ntmps36
  go_wp2_with fail
  refine (rcopy_any M A B c d xs ys w hM HX.out HYY.out BX.out BY.out lx HL.out).mono ?_
  rintro e w1 ⟨v1, rfl, o1, b1⟩
  have O1 := Lib.hid o1
  have B1 := Lib.hid b1
  clear o1 b1
  go_wp2_with fail
  refine (rcopy_any M B A d c ys xs w1 hM (HYY.out.below B1.out) (HX.out.below B1.out) BY.out BX.out (by rw [← HL.out]; exact lx) HL.out.symm).mono ?_
  rintro e w2 ⟨v2, rfl, o2, b2⟩
  have O2 := Lib.hid (o2.lower B1.out.size)
  have P1 := Lib.hid (O1.out.below b2)
  have B2 := Lib.hid (B1.out.trans (b2.mono B1.out.size))
  clear o2 b2 O1 B1
  go_wp2_with fail
  refine bodyPost_ret (v := .tuple #[v1, v2, .int .i64 0]) (by simp [results, Try.results36, go_sem]) rfl ⟨_, _, rfl, P1.out, O2.out, B2.out⟩
theorem rtrade_long (M : Int) (A B : Option Addr) (n1 n2 c1 c2 : Nat) (w : World) (hl : ¬ n1 = n2) :
    Calls Try.prog 36 #[.int .u64 M, .slice A n1 c1, .slice B n2 c2] w fun e w' => e = .returned (.tuple #[.slice none 0 0, .slice none 0 0, .int .i64 4]) ∧ w = w' := by
  have HL := Lib.hid hl
  clear hl
  go_enter Try.func36, Try.ntmps36
  go_wp2_with fail
  refine (rcopy_long M A B n1 n2 c1 c2 w HL.out).mono ?_
  rintro e w' ⟨rfl, rfl⟩
  go_wp2_with fail
  refine (rcopy_long M B A n2 n1 c2 c1 w (fun e => HL.out e.symm)).mono ?_
  rintro e w' ⟨rfl, rfl⟩
  go_wp2_with fail
  refine bodyPost_ret (v := .tuple #[.slice none 0 0, .slice none 0 0, .int .i64 4]) (by simp [results, Try.results36, go_sem]) rfl ⟨rfl, rfl⟩
end Go.Proofs.Ytmmmmabfnnblfaa

/-
  Walk: the law OctetDigits.
-/
import Derived.Test.YtcibhaoilcohbaaHq
set_option linter.unusedVariables false
set_option linter.unusedSimpArgs false
namespace Go.Proofs.Ytcibhaoilcohbaa
open Go.RowKit

theorem b8_app {xs ys : List Int} (hx : B8 xs) (hy : B8 ys) : B8 (xs ++ ys) := fun i => by
  by_cases h : i < xs.length
  · rw [show (xs ++ ys).getD i 0 = xs.getD i 0 from by simp [List.getD, List.getElem?_append_left h]]; exact hx i
  · rw [show (xs ++ ys).getD i 0 = ys.getD (i - xs.length) 0 from by simp [List.getD, List.getElem?_append_right (Nat.le_of_not_lt h)]]; exact hy _
set_option maxRecDepth 100000 in
set_option maxHeartbeats 8000000 in
theorem digits_any (A : Option Addr) (n c : Nat) (xs : List Int) (B : Option Addr) (m d : Nat) (ys : List Int) (s : ByteArray) (w : World) (hn : n = xs.length) (hm : m = ys.length) (hx : Rd w .u8 A xs) (hy : Rd w .u8 B ys) (hBx : B8 xs) (hBy : B8 ys) (hl : xs.length ≤ 2000000) (hl2 : ys.length ≤ 2000000) (hs : s.size ≤ 2000000) :
    Calls Try.prog 8 #[.slice A n c, .slice B m d, .string s] w fun e w' => e = .returned (.bool true) ∧ Below w.heap.size w w' := by
  have HX := Lib.hid hx
  have HY := Lib.hid hy
  have HN := Lib.hid hn
  have HM := Lib.hid hm
  have HBX := Lib.hid hBx
  have HBY := Lib.hid hBy
  have HS := Lib.hid hs
  have hn2 : n ≤ 2000000 := by omega
  have hm2 : m ≤ 2000000 := by omega
  have SX : Hid ((strOfNums (hexL xs)).size = 2 * n) := Lib.hid (by rw [hex_size, hn])
  have UX := Lib.hid (hex_uL hBx)
  have EX := Lib.hid (hex_uE hBx)
  clear hx hy hn hm hBx hBy hs
  go_enter Try.func8, Try.ntmps8
  go_wp2_with fail
  refine (awake_any w).mono ?_
  rintro e w1 ⟨rfl, b1⟩
  have W1 := Lib.hid b1
  clear b1
  go_wp2_with fail
  refine (hex_any A n c xs w1 HN.out (HX.out.below W1.out) HBX.out (by omega)).mono ?_
  rintro e w2 ⟨rfl, b2⟩
  have W2 := Lib.hid (W1.out.trans (b2.mono W1.out.size))
  clear b2 W1
  obtain ⟨H, hH⟩ : ∃ H, H = strOfNums (hexL xs) := ⟨_, rfl⟩
  rw [← hH] at SX UX EX ⊢
  have HH := Lib.hid hH
  clear hH
  go_wp2_with fail
  refine (unhex_any H w2 (by have := SX.out; omega)).mono ?_
  rintro e w3 ⟨va, rfl, oa, b3⟩
  rw [UX.out] at oa
  rw [EX.out]
  obtain ⟨Aa, ca, rfl, -, -, -, -⟩ := oa.slice
  have RA := Lib.hid (own_rd oa)
  have W3 := Lib.hid (W2.out.trans (b3.mono W2.out.size))
  have hsz : (H.size : Int) = 2 * (n : Int) := by have := SX.out; omega
  clear oa b3 W2
  rw [← HN.out]
  go_wp2_with fail
  refine (same_any Aa A n n ca c xs xs w3 HN.out HN.out RA.out (HX.out.below W3.out) (by have := HN.out; omega) (by have := HN.out; omega)).mono ?_
  rintro e w' ⟨q1, rfl, rfl⟩
  rw [show decide (xs = xs) = true from by simp]
  have W4 := Lib.hid (belowN W3.out q1)
  generalize w3.drewN q1 = w4 at W4
  clear W3 RA
  go_wp2_with fail
  refine (copied_any A n c xs w4 HN.out (HX.out.below W4.out) (by have := HN.out; omega)).mono ?_
  rintro e w5 ⟨vk, rfl, ok, b5⟩
  have OK := Lib.hid ok
  have W5 := Lib.hid (W4.out.trans (b5.mono W4.out.size))
  have RY5 := Lib.hid (HY.out.below W5.out)
  have hbs := b5.size
  have hby : (xs.length + ys.length) * 1 ≤ 140737488355328 := by have := HN.out; have := HM.out; omega
  have S4 := Lib.hid W4.out.size
  clear ok b5
  go_wp2_with (refine wpList_pushes_any w5 rfl _ _ 22 rfl w4.heap.size 5 .u8 1 Try.underlying22 info5 vk _ rfl OK.out B m d ys rfl HM.out RY5.out hby (by decide) hbs ?_; intro v6 w6 hown6 hfr6)
  obtain ⟨A6, c6, rfl, -, -, -, -⟩ := hown6.slice
  have R6 := Lib.hid (own_rd hown6)
  have W6 := Lib.hid (W5.out.trans (hfr6.below W5.out.size (fun k hk => Nat.le_trans S4.out (OK.out.base_le hk).1)))
  have HL6 : Hid (n + m = (xs ++ ys).length) := Lib.hid (by rw [List.length_append, ← HN.out, ← HM.out])
  have HB6 : Hid (B8 (xs ++ ys)) := Lib.hid (b8_app HBX.out HBY.out)
  clear hown6 hfr6 OK W5 RY5 W4 S4 hbs
  rw [← HL6.out]
  refine (hex_any A6 (n + m) c6 (xs ++ ys) w6 HL6.out R6.out HB6.out (by rw [← HL6.out]; omega)).mono ?_
  rintro e w7 ⟨rfl, b7⟩
  have W7 := Lib.hid (W6.out.trans (b7.mono W6.out.size))
  clear b7 W6 R6
  go_wp2_with fail
  refine (hex_any B m d ys w7 HM.out (HY.out.below W7.out) HBY.out (by have := HM.out; omega)).mono ?_
  rintro e w8 ⟨rfl, b8⟩
  have W8 := Lib.hid (W7.out.trans (b8.mono W7.out.size))
  clear b8 W7
  rw [hexL_append, str_append, ← HH.out]
  have hsum : H.size + (strOfNums (hexL ys)).size ≤ 9223372036854775807 := by have := SX.out; have := HM.out; rw [hex_size]; omega
  go_wp2_with fail
  refine (unhex_any s w8 (by have := HS.out; omega)).mono ?_
  rintro e w9 ⟨vm, rfl, om, b9⟩
  obtain ⟨Am, cm, rfl, -, -, -, -⟩ := om.slice
  have RM := Lib.hid (own_rd om)
  have W9 := Lib.hid (W8.out.trans (b9.mono W8.out.size))
  clear om b9 W8
  cases hg : hgood s
  · have e1 : uE s = 22 := by unfold uE; rw [hg]; rfl
    have e2 : uL s = [] := by unfold uL; rw [hg]; rfl
    rw [e1, e2]
    clear e1 e2 hg
    go_wp2_with fail
    go_ret
    exact ⟨rfl, W9.out⟩
  · have e1 : uE s = 0 := by unfold uE; rw [hg]; rfl
    have e3 := Lib.hid (unhex_hex hg)
    rw [e1]
    clear e1 hg
    go_wp2_with fail
    refine (hex_any Am _ cm (uL s) w9 rfl RM.out (uL_b8 s) (by have := uL_len s; have := HS.out; omega)).mono ?_
    rintro e wa ⟨rfl, ba⟩
    have WA := Lib.hid (W9.out.trans (ba.mono W9.out.size))
    clear ba W9
    rw [e3.out]
    go_wp2_with fail
    go_ret
    exact ⟨rfl, WA.out⟩
end Go.Proofs.Ytcibhaoilcohbaa

/-
  Walks: readers and writers that are not there; OctetNil.
-/
import Derived.Test.YtcibhaoilcohbaaAw
set_option linter.unusedVariables false
set_option linter.unusedSimpArgs false
namespace Go.Proofs.Ytcibhaoilcohbaa
open Go.RowKit

theorem width16u_any (w : World) : Calls Try.prog 103 #[] w fun e w' => e = .returned (.int .i64 2) ∧ w = w' := by
  go_enter Try.func103, Try.ntmps103
  go_wp2_with fail
  go_loop [1, 2] (fun a n => (a = .int .u16 65535 ∧ n = .int .i64 0) ∨ (a = .int .u16 255 ∧ n = .int .i64 1) ∨ (a = .int .u16 0 ∧ n = .int .i64 2)) (fun a n => 2 - (intOf n).toNat)
  case atStart => exact .inl ⟨rfl, rfl⟩
  case round =>
    rcases hrel with ⟨rfl, rfl⟩ | ⟨rfl, rfl⟩ | ⟨rfl, rfl⟩
    · go_wp2_with fail
      go_round
      case rel => exact .inr (.inl ⟨rfl, rfl⟩)
      case measure => simp [intOf]
    · go_wp2_with fail
      go_round
      case rel => exact .inr (.inr (⟨rfl, rfl⟩))
      case measure => simp [intOf]
    · go_wp2_with fail
      go_ret
      exact ⟨rfl, rfl⟩

set_option maxHeartbeats 2000000 in
theorem pl16u_any (A : Option Addr) (c n : Nat) (xs : List Int) (X : Nat) (w : World) (hn : n = xs.length) (hr : Rd w .u8 A xs) (hl : xs.length ≤ 140737488355000) (hX : X < 65536) :
    Calls Try.prog 88 #[.slice A n c, .int .u16 X] w (Made 5 .u8 (xs ++ leN X 2) w) := by
  subst hn
  have HR := Lib.hid hr
  clear hr
  have hm1 : 1 * (xs.length + 2) ≤ 281474976710656 := by omega
  have hm2 : xs.length + 2 ≤ 9223372036854775807 := by omega
  have hCe : (xs.length : Int) + 2 = ((xs.length + 2 : Nat) : Int) := by omega
  have hnm : xs.length ≤ xs.length + 2 := by omega
  have hda : xs.length ≤ (List.replicate (xs.length + 2) (0 : Int)).length := by simp
  have HCE := Lib.hid hCe
  clear hCe
  go_enter Try.func88, Try.ntmps88
  go_wp2_with fail
  refine (width16u_any w).mono ?_
  rintro e w' ⟨rfl, rfl⟩
  go_wp2_with (first
    | (refine wpList_make_room w rfl _ _ 22 rfl 5 .u8 1 Try.underlying22 info5 .i64 .i64 xs.length (xs.length + 2) _ _ rfl rfl rfl HCE.out hnm hm1 hm2 ?_; intro w1 hb0 hfr0; have B0 := Lib.hid hb0; have F0 := Lib.hid hfr0; have R0 := Lib.hid (HR.out.below (hfr0.below (Nat.le_refl _) (fun k h => h.elim))); clear hb0 hfr0)
    | (refine wpList_copy_rd w1 rfl _ _ 22 22 rfl 5 Try.underlying22 size5' w.heap.size xs.length (xs.length + 2) A xs.length c rfl rfl .u8 5 (List.replicate (xs.length + 2) (0 : Int)) xs [] (by rw [List.append_nil]; exact B0.out) R0.out rfl (Nat.le_refl _) hda ?_; intro w2 hb2 hf2))
  have O2 : Hid (Own w2 w.heap.size 5 .u8 (.slice (some ⟨w.heap.size, 0, none⟩) xs.length (xs.length + 2)) xs) := Lib.hid (Own.mk (rest := (List.replicate 2 (0 : Int)).map (Value.int .u8)) (Nat.le_refl _) (by
    have : (List.replicate (xs.length + 2) (0 : Int)).drop xs.length = List.replicate 2 0 := by simp
    rw [this, List.append_nil, List.map_append] at hb2; exact hb2) (by simp) (by unfold maxLen; omega))
  have W2 : Hid (Below w.heap.size w w2) := Lib.hid (((F0.out.below (Nat.le_refl _) (fun k h => h.elim)).trans (hf2.below F0.out.size (fun k h => by omega))))
  clear hb2 hf2 hm1 hm2 hda
  go_wp2_with fail
  go_loopw [6, 20] (fun v i wr => ∃ k : Nat, k ≤ 2 ∧ i = .int .i64 k ∧ Own wr w.heap.size 5 .u8 v (xs ++ leN X k) ∧ Below w.heap.size w wr) (fun _ i _ => 2 - (intOf i).toNat)
  case atStart => exact ⟨0, Nat.zero_le _, rfl, by simpa [leN, beN] using O2.out, W2.out⟩
  case round =>
    obtain ⟨k, hk, rfl, hown, hb⟩ := hrel
    have HO := Lib.hid hown
    have HW := Lib.hid hb
    have hsz := hb.size
    clear hown hb
    by_cases hlt : k < 2
    · have hc1 : ((xs ++ leN X k).length + 1) * 1 ≤ 140737488355328 := by rw [List.length_append, leN_len]; omega
      have hk4 : k = 0 ∨ k = 1 := by omega
      rcases hk4 with rfl | rfl
      · go_wp2_with (first | (at_builtin; refine wpList_push wr rfl _ _ 22 rfl w.heap.size 5 .u8 1 Try.underlying22 info5 _ rfl _ _ rfl rfl HO.out hc1 (by decide) hsz ?_; intro v' w1 hown1 hfr1))
        have hown2 : Own w1 w.heap.size 5 .u8 v' (xs ++ leN X 1) := by rw [leN_succ X 0, ← List.append_assoc]; exact own_cast hown1 (by simp [byt]; first | omega | done)
        exact ⟨⟨1, by omega, rfl, hown2, HW.out.trans (hfr1.below hsz (fun g hg => (HO.out.base_le hg).1))⟩, by simp [intOf]⟩
      · go_wp2_with (first | (at_builtin; refine wpList_push wr rfl _ _ 22 rfl w.heap.size 5 .u8 1 Try.underlying22 info5 _ rfl _ _ rfl rfl HO.out hc1 (by decide) hsz ?_; intro v' w1 hown1 hfr1))
        have hown2 : Own w1 w.heap.size 5 .u8 v' (xs ++ leN X 2) := by rw [leN_succ X 1, ← List.append_assoc]; exact own_cast hown1 (by simp [byt]; first | omega | done)
        exact ⟨⟨2, by omega, rfl, hown2, HW.out.trans (hfr1.below hsz (fun g hg => (HO.out.base_le hg).1))⟩, by simp [intOf]⟩
    · have HK : Hid (k = 2) := Lib.hid (by omega)
      have hge : decide ((k : Int) < 2) = false := by simp; omega
      go_wp2_with fail
      go_ret
      have ho := HO.out
      rw [HK.out] at ho
      exact ⟨_, rfl, ho, HW.out⟩

theorem low16u_nil (w : World) : Calls Try.prog 90 #[.slice none 0 0] w fun e w' => e = .returned (.int .u16 0) ∧ w' = w := by
  go_enter Try.func90, Try.ntmps90
  go_wp2_with fail
  go_loop [3, 8] (fun v i => v = .int .u16 0 ∧ i = .int .i64 0) (fun _ _ => 0)
  case atStart => exact ⟨rfl, rfl⟩
  case round =>
    obtain ⟨rfl, rfl⟩ := hrel
    go_wp2_with fail
    go_ret
    exact ⟨rfl, rfl⟩
theorem low8_nil (w : World) : Calls Try.prog 89 #[.slice none 0 0] w fun e w' => e = .returned (.int .u8 0) ∧ w' = w := low8_any none 0 0 [] w rfl (Rd.nil _ _ _) (fun i => by simp) (by decide)
theorem low32_nil (w : World) : Calls Try.prog 91 #[.slice none 0 0] w fun e w' => e = .returned (.int .u32 0) ∧ w' = w := low32_any none 0 0 [] w rfl (Rd.nil _ _ _) (fun i => by simp) (by decide)
theorem low64_nil (w : World) : Calls Try.prog 92 #[.slice none 0 0] w fun e w' => e = .returned (.int .u64 0) ∧ w' = w := low64_any none 0 0 [] w rfl (Rd.nil _ _ _) (fun i => by simp) (by decide)

theorem wbytes_nil (v : Value) (w : World) : Calls Try.prog 45 #[.pointer none, v] w fun e w' => (∃ u, e = .returned u) ∧ w' = w := by
  go_enter Try.func45, Try.ntmps45
  go_wp2_with fail
  first | go_end0 | refine bodyPost_ret (results_none rfl _ _ _) rfl ?_
  exact ⟨⟨_, rfl⟩, rfl⟩
theorem wdone_nil (w : World) : Calls Try.prog 46 #[.pointer none] w fun e w' => e = .returned (.tuple #[.slice none 0 0, .int .i64 1]) ∧ w' = w := by
  go_enter Try.func46, Try.ntmps46
  go_wp2_with fail
  go_ret2
  exact ⟨rfl, rfl⟩
theorem wleft_nil (w : World) : Calls Try.prog 42 #[.pointer none] w fun e w' => e = .returned (.int .i64 0) ∧ w' = w := by
  go_enter Try.func42, Try.ntmps42
  go_wp2_with fail
  go_ret
  exact ⟨rfl, rfl⟩
theorem take_nil (n : Nat) (w : World) : Calls Try.prog 87 #[.pointer none, .int .i64 n] w fun e w' => e = .returned (.slice none 0 0) ∧ w' = w := by
  go_enter Try.func87, Try.ntmps87
  go_wp2_with fail
  go_ret
  exact ⟨rfl, rfl⟩
theorem rleft_nil (w : World) : Calls Try.prog 37 #[.pointer none] w fun e w' => e = .returned (.int .i64 0) ∧ w' = w := by
  go_enter Try.func37, Try.ntmps37
  go_wp2_with fail
  go_ret
  exact ⟨rfl, rfl⟩
theorem rerr_nil (w : World) : Calls Try.prog 56 #[.pointer none] w fun e w' => e = .returned (.int .i64 1) ∧ w' = w := by
  go_enter Try.func56, Try.ntmps56
  go_wp2_with fail
  go_ret
  exact ⟨rfl, rfl⟩
theorem rend_nil (w : World) : Calls Try.prog 35 #[.pointer none] w fun e w' => e = .returned (.int .i64 1) ∧ w' = w := by
  go_enter Try.func35, Try.ntmps35
  go_wp2_with fail
  refine (rerr_nil w).mono ?_
  rintro e w' ⟨rfl, rfl⟩
  go_wp2_with fail
  go_ret
  exact ⟨rfl, rfl⟩
theorem rbytes_nil (w : World) : Calls Try.prog 47 #[.pointer none, .int .i64 1] w fun e w' => ∃ A c, e = .returned (.slice A 0 c) ∧ Below w.heap.size w w' := by
  have O0 := Lib.hid (Own.nil w w.heap.size 5 .u8)
  have hbt : (([] : List Int).length + ([] : List Int).length) * 1 ≤ 140737488355328 := by decide
  go_enter Try.func47, Try.ntmps47
  go_wp2_with fail
  refine (take_nil 1 w).mono ?_
  rintro e w' ⟨rfl, rfl⟩
  go_wp2_with (refine wpList_pushes_any w' rfl _ _ 22 rfl w'.heap.size 5 .u8 1 Try.underlying22 info5 _ [] rfl O0.out none 0 0 [] rfl rfl (Rd.nil _ _ _) hbt (by decide) (Nat.le_refl _) ?_; intro v' w1 hown1 hfr1)
  obtain ⟨A, c, h1, _⟩ := hown1.slice
  have HV := Lib.hid h1
  have W1 := Lib.hid (hfr1.below (Nat.le_refl _) (fun k h => by cases h))
  clear hown1 hfr1 h1
  go_ret
  exact ⟨A, c, congrArg Ending.returned HV.out, W1.out⟩
theorem ru8_nil (w : World) : Calls Try.prog 52 #[.pointer none] w fun e w' => e = .returned (.int .u8 0) ∧ w' = w := by
  go_enter Try.func52, Try.ntmps52
  go_wp2_with fail
  refine (take_nil 1 w).mono ?_
  rintro e w' ⟨rfl, rfl⟩
  go_wp2_with fail
  refine (low8_nil w').mono ?_
  rintro e w2 ⟨rfl, rfl⟩
  go_wp2_with fail
  go_ret
  exact ⟨rfl, rfl⟩
theorem ru16_nil (w : World) : Calls Try.prog 53 #[.pointer none] w fun e w' => e = .returned (.int .u16 0) ∧ w' = w := by
  go_enter Try.func53, Try.ntmps53
  go_wp2_with fail
  refine (take_nil 2 w).mono ?_
  rintro e w' ⟨rfl, rfl⟩
  go_wp2_with fail
  refine (low16u_nil w').mono ?_
  rintro e w2 ⟨rfl, rfl⟩
  go_wp2_with fail
  go_ret
  exact ⟨rfl, rfl⟩
theorem ru32_nil (w : World) : Calls Try.prog 54 #[.pointer none] w fun e w' => e = .returned (.int .u32 0) ∧ w' = w := by
  go_enter Try.func54, Try.ntmps54
  go_wp2_with fail
  refine (take_nil 4 w).mono ?_
  rintro e w' ⟨rfl, rfl⟩
  go_wp2_with fail
  refine (low32_nil w').mono ?_
  rintro e w2 ⟨rfl, rfl⟩
  go_wp2_with fail
  go_ret
  exact ⟨rfl, rfl⟩
theorem ru64_nil (w : World) : Calls Try.prog 55 #[.pointer none] w fun e w' => e = .returned (.int .u64 0) ∧ w' = w := by
  go_enter Try.func55, Try.ntmps55
  go_wp2_with fail
  refine (take_nil 8 w).mono ?_
  rintro e w' ⟨rfl, rfl⟩
  go_wp2_with fail
  refine (low64_nil w').mono ?_
  rintro e w2 ⟨rfl, rfl⟩
  go_wp2_with fail
  go_ret
  exact ⟨rfl, rfl⟩
theorem wu8_nil (w : World) : Calls Try.prog 48 #[.pointer none, .int .u8 1] w fun e w' => (∃ u, e = .returned u) ∧ Below w.heap.size w w' := by
  go_enter Try.func48, Try.ntmps48
  go_wp2_with fail
  refine (pl8_any none 0 0 [] 1 w rfl (Rd.nil _ _ _) (by decide) (by decide)).mono ?_
  rintro e w1 ⟨v1, rfl, o1, b1⟩
  have W1 := Lib.hid b1
  clear o1 b1
  go_wp2_with fail
  refine (wbytes_nil v1 w1).mono ?_
  rintro e w2 ⟨⟨u, rfl⟩, rfl⟩
  go_wp2_with fail
  first | go_end0 | refine bodyPost_ret (results_none rfl _ _ _) rfl ?_
  exact ⟨⟨_, rfl⟩, W1.out⟩
theorem wu16_nil (w : World) : Calls Try.prog 49 #[.pointer none, .int .u16 1] w fun e w' => (∃ u, e = .returned u) ∧ Below w.heap.size w w' := by
  go_enter Try.func49, Try.ntmps49
  go_wp2_with fail
  refine (pl16u_any none 0 0 [] 1 w rfl (Rd.nil _ _ _) (by decide) (by decide)).mono ?_
  rintro e w1 ⟨v1, rfl, o1, b1⟩
  have W1 := Lib.hid b1
  clear o1 b1
  go_wp2_with fail
  refine (wbytes_nil v1 w1).mono ?_
  rintro e w2 ⟨⟨u, rfl⟩, rfl⟩
  go_wp2_with fail
  first | go_end0 | refine bodyPost_ret (results_none rfl _ _ _) rfl ?_
  exact ⟨⟨_, rfl⟩, W1.out⟩
theorem wu32_nil (w : World) : Calls Try.prog 50 #[.pointer none, .int .u32 1] w fun e w' => (∃ u, e = .returned u) ∧ Below w.heap.size w w' := by
  go_enter Try.func50, Try.ntmps50
  go_wp2_with fail
  refine (pl32_any none 0 0 [] 1 w rfl (Rd.nil _ _ _) (by decide) (by decide)).mono ?_
  rintro e w1 ⟨v1, rfl, o1, b1⟩
  have W1 := Lib.hid b1
  clear o1 b1
  go_wp2_with fail
  refine (wbytes_nil v1 w1).mono ?_
  rintro e w2 ⟨⟨u, rfl⟩, rfl⟩
  go_wp2_with fail
  first | go_end0 | refine bodyPost_ret (results_none rfl _ _ _) rfl ?_
  exact ⟨⟨_, rfl⟩, W1.out⟩
theorem wu64_nil (w : World) : Calls Try.prog 51 #[.pointer none, .int .u64 1] w fun e w' => (∃ u, e = .returned u) ∧ Below w.heap.size w w' := by
  go_enter Try.func51, Try.ntmps51
  go_wp2_with fail
  refine (pl64_any none 0 0 [] 1 w rfl (Rd.nil _ _ _) (by decide) (by decide)).mono ?_
  rintro e w1 ⟨v1, rfl, o1, b1⟩
  have W1 := Lib.hid b1
  clear o1 b1
  go_wp2_with fail
  refine (wbytes_nil v1 w1).mono ?_
  rintro e w2 ⟨⟨u, rfl⟩, rfl⟩
  go_wp2_with fail
  first | go_end0 | refine bodyPost_ret (results_none rfl _ _ _) rfl ?_
  exact ⟨⟨_, rfl⟩, W1.out⟩

set_option maxRecDepth 100000 in
set_option maxHeartbeats 1000000 in
theorem nil_any (w : World) : Calls Try.prog 12 #[] w fun e w' => e = .returned (.bool true) ∧ Below w.heap.size w w' := by
  go_enter Try.func12, Try.ntmps12
  go_wp2_with fail
  refine (wu8_nil w).mono ?_
  rintro e w1 ⟨⟨u1, rfl⟩, b1⟩
  have W1 := Lib.hid b1
  clear b1
  go_wp2_with fail
  refine (wu16_nil w1).mono ?_
  rintro e w2 ⟨⟨u2, rfl⟩, b2⟩
  have W2 := Lib.hid (W1.out.trans (b2.mono W1.out.size))
  clear b2
  go_wp2_with fail
  refine (wu32_nil w2).mono ?_
  rintro e w3 ⟨⟨u3, rfl⟩, b3⟩
  have W3 := Lib.hid (W2.out.trans (b3.mono W2.out.size))
  clear b3
  go_wp2_with fail
  refine (wu64_nil w3).mono ?_
  rintro e w4 ⟨⟨u4, rfl⟩, b4⟩
  have W4 := Lib.hid (W3.out.trans (b4.mono W3.out.size))
  clear b4
  have W5 := Lib.hid (W4.out.alloc W4.out.size (.cells #[.int .u8 1] 5))
  go_wp2_with fail
  refine (wbytes_nil _ _).mono ?_
  rintro e w5 ⟨⟨u5, rfl⟩, rfl⟩
  go_wp2_with fail
  refine (wdone_nil _).mono ?_
  rintro e w6 ⟨rfl, rfl⟩
  go_wp2_with fail
  refine (ru8_nil _).mono ?_
  rintro e w7 ⟨rfl, rfl⟩
  go_wp2_with fail
  refine (ru16_nil _).mono ?_
  rintro e w8 ⟨rfl, rfl⟩
  go_wp2_with fail
  refine (ru32_nil _).mono ?_
  rintro e w9 ⟨rfl, rfl⟩
  go_wp2_with fail
  refine (ru64_nil _).mono ?_
  rintro e w10 ⟨rfl, rfl⟩
  go_wp2_with fail
  refine (rbytes_nil _).mono ?_
  rintro e w11 ⟨A, c, rfl, b11⟩
  have W11 := Lib.hid (W5.out.trans (b11.mono W5.out.size))
  clear b11
  go_wp2_with fail
  refine (rleft_nil w11).mono ?_
  rintro e w12 ⟨rfl, rfl⟩
  go_wp2_with fail
  refine (awake_any _).mono ?_
  rintro e w13 ⟨rfl, b13⟩
  have W13 := Lib.hid (W11.out.trans (b13.mono W11.out.size))
  clear b13
  go_wp2_with fail
  refine (rerr_nil w13).mono ?_
  rintro e w14 ⟨rfl, rfl⟩
  go_wp2_with fail
  refine (rend_nil _).mono ?_
  rintro e w15 ⟨rfl, rfl⟩
  go_wp2_with fail
  refine (wleft_nil _).mono ?_
  rintro e w16 ⟨rfl, rfl⟩
  go_wp2_with fail
  go_ret
  exact ⟨rfl, W13.out⟩
theorem octetNil_open {p : Prop} (W : World) (base : Nat) (_hsz : p) :
    Calls Try.prog 12 #[] W fun e w' => e = .returned (.bool true) ∧ Below W.heap.size W w' := nil_any W
end Go.Proofs.Ytcibhaoilcohbaa

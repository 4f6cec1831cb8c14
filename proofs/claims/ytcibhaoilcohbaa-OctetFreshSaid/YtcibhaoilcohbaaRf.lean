/-
  Walks: the document's Bytes, turned, PutLittle, PutBig; the law's cut, putLittle, putBig.
-/
import Derived.Test.YtcibhaoilcohbaaPt
set_option linter.unusedVariables false
set_option linter.unusedSimpArgs false
namespace Go.Proofs.Ytcibhaoilcohbaa
open Go.RowKit

set_option maxHeartbeats 800000 in
theorem bytes_any (X n : Nat) (w : World) (hX : X < 18446744073709551616) (hn : n ≤ 1000000) : Calls Try.prog 68 #[.int .u64 X, .int .i64 n] w (Made 5 .u8 (leN X n) w) := by
  go_enter Try.func68, Try.ntmps68
  go_wp2_with fail
  go_loopw [0, 5, 6] (fun v o i wr => ∃ k Y : Nat, k ≤ n ∧ i = .int .i64 k ∧ v = .int .u64 Y ∧ Hid (Y = X / 256 ^ k) ∧ Hid (Own wr w.heap.size 5 .u8 o (leN X k)) ∧ Hid (Below w.heap.size w wr)) (fun _ _ i _ => n - (intOf i).toNat)
  case atStart => exact ⟨0, X, Nat.zero_le _, rfl, rfl, Lib.hid (by simp), Lib.hid (by simpa [leN] using Own.nil _ _ _ _), Lib.hid (Below.refl _ _)⟩
  case round =>
    obtain ⟨k, Y, hk, rfl, rfl, HY, HO, HW⟩ := hrel
    have hsz := HW.out.size
    by_cases hlt : k < n
    · have hc1 : ((leN X k).length + 1) * 1 ≤ 140737488355328 := by rw [leN_len]; omega
      have hY : Y < 18446744073709551616 := by rw [HY.out]; exact Nat.lt_of_le_of_lt (Nat.div_le_self _ _) hX
      have ht : Int.tmod (Y : Int) 256 = (Y : Int) % 256 := Int.tmod_eq_emod_of_nonneg (by omega)
      have hq : Int.tdiv (Y : Int) 256 = (Y : Int) / 256 := Int.tdiv_eq_ediv_of_nonneg (by omega)
      go_wp2_with (first | (at_builtin; refine wpList_push wr rfl _ _ 22 rfl w.heap.size 5 .u8 1 Try.underlying22 info5 _ rfl _ _ rfl rfl HO.out hc1 (by decide) hsz ?_; intro v' w1 hown1 hfr1))
      have hown2 : Hid (Own w1 w.heap.size 5 .u8 v' (leN X (k + 1))) := Lib.hid (by rw [leN_succ]; exact own_cast hown1 (by unfold byt; rw [← HY.out]; simp [IntKind.wrap, IntKind.bits, IntKind.signed]))
      have HW1 := Lib.hid (HW.out.trans (hfr1.below hsz (fun g hg => (HO.out.base_le hg).1)))
      clear hown1 hfr1
      go_wp2_with fail
      go_roundw
      case rel => exact ⟨k + 1, Y / 256, by omega, by go_num, by simp [IntKind.wrap, IntKind.bits, IntKind.signed], Lib.hid (by rw [HY.out, Nat.pow_succ, Nat.div_div_eq_div_mul]), hown2, HW1⟩
      case measure => simp [intOf]; omega
    · have HK : Hid (k = n) := Lib.hid (by omega)
      have hge : decide ((k : Int) < (n : Int)) = false := by simp; omega
      go_wp2_with fail
      go_ret
      have ho := HO.out
      rw [HK.out] at ho
      exact ⟨_, rfl, ho, HW.out⟩

theorem rev_snoc (xs : List Int) (k : Nat) (h : k < xs.length) : xs.reverse.take (k + 1) = xs.reverse.take k ++ [xs.getD (xs.length - 1 - k) 0] := by
  rw [take_snocI _ _ (by simpa using h)]
  congr 2
  simp [List.getD, List.getElem?_reverse h]

set_option maxHeartbeats 800000 in
theorem turned_any (A : Option Addr) (n c : Nat) (xs : List Int) (w : World) (hn : n = xs.length) (hr : Rd w .u8 A xs) (hl : xs.length ≤ 140737488355000) : Calls Try.prog 69 #[.slice A n c] w (Made 5 .u8 xs.reverse w) := by
  have HR := Lib.hid hr
  have HN := Lib.hid hn
  have hn63 : n ≤ 140737488355000 := by omega
  clear hr hn
  have hw0 : IntKind.i64.wrap ((n : Int) - 1) = (n : Int) - 1 := by simp [IntKind.wrap, IntKind.bits, IntKind.signed]; omega
  go_enter Try.func69, Try.ntmps69
  go_wp2_with fail
  go_loopw [3, 4] (fun o i wr => ∃ (k : Nat) (z : Int), k ≤ n ∧ i = .int .i64 z ∧ z = (n : Int) - 1 - k ∧ Hid (Own wr w.heap.size 5 .u8 o (xs.reverse.take k)) ∧ Hid (Below w.heap.size w wr)) (fun _ i _ => ((intOf i) + 1).toNat)
  case atStart => exact ⟨0, _, Nat.zero_le _, rfl, by omega, Lib.hid (Own.nil _ _ _ _), Lib.hid (Below.refl _ _)⟩
  case round =>
    clear hw0
    obtain ⟨k, z, hk, rfl, hz, HO, HW⟩ := hrel
    have hsz := HW.out.size
    by_cases hlt : k < n
    · obtain ⟨m, hm⟩ : ∃ m : Nat, z = (m : Int) := ⟨z.toNat, by omega⟩
      subst hm
      have hmk : Hid (m = xs.length - 1 - k) := Lib.hid (by have := HN.out; omega)
      have hmn : m < n := by omega
      have hc1 : ((xs.reverse.take k).length + 1) * 1 ≤ 140737488355328 := by simp; omega
      obtain ⟨b, off, y, rfl, hc, HY⟩ := (HR.out.below HW.out).at m (by have := HN.out; omega)
      have hw1 : IntKind.i64.wrap ((m : Int) - 1) = (m : Int) - 1 := by simp [IntKind.wrap, IntKind.bits, IntKind.signed]; omega
      have HQ := Lib.hid (rev_snoc xs k (by have := HN.out; omega))
      have HZ := Lib.hid hz
      clear hz
      go_wp2_with (first | (at_builtin; refine wpList_push wr rfl _ _ 22 rfl w.heap.size 5 .u8 1 Try.underlying22 info5 _ rfl _ _ rfl rfl HO.out hc1 (by decide) hsz ?_; intro v' w1 hown1 hfr1))
      have hown2 : Hid (Own w1 w.heap.size 5 .u8 v' (xs.reverse.take (k + 1))) := Lib.hid (by rw [HQ.out, ← hmk.out, ← HY.out]; exact hown1)
      have HW1 := Lib.hid (HW.out.trans (hfr1.below hsz (fun g hg => (HO.out.base_le hg).1)))
      clear hown1 hfr1
      go_wp2_with fail
      go_roundw
      case rel => exact ⟨k + 1, (m : Int) - 1, by omega, rfl, by have := HZ.out; omega, hown2, HW1⟩
      case measure => simp [intOf]
    · have HK : Hid (k = n) := Lib.hid (by omega)
      have hz2 : z = -1 := by omega
      subst hz2
      go_wp2_with fail
      go_ret
      have ho := HO.out
      rw [HK.out, HN.out, List.take_of_length_le (by simp)] at ho
      exact ⟨_, rfl, ho, HW.out⟩

set_option maxRecDepth 20000 in
set_option maxHeartbeats 800000 in
theorem rpl_any (A : Option Addr) (n c : Nat) (xs : List Int) (X s : Nat) (w : World) (hn : n = xs.length) (hr : Rd w .u8 A xs) (hl : xs.length ≤ 140737488353000) (hX : X < 18446744073709551616) (hs : s ≤ 1000) :
    Calls Try.prog 17 #[.slice A n c, .int .u64 X, .int .i64 s] w (Made 5 .u8 (xs ++ leN X s) w) := by
  have HR := Lib.hid hr
  have HN := Lib.hid hn
  have O0 := Lib.hid (Own.nil w w.heap.size 5 .u8)
  have hbt : (([] : List Int).length + xs.length) * 1 ≤ 140737488355328 := by simp; omega
  clear hr hn
  go_enter Try.func17, Try.ntmps17
  go_wp2_with (refine wpList_pushes_any w rfl _ _ 22 rfl w.heap.size 5 .u8 1 Try.underlying22 info5 _ [] rfl O0.out A n c xs rfl HN.out HR.out hbt (by decide) (Nat.le_refl _) ?_; intro v' w1 hown1 hfr1)
  have O1 : Hid (Own w1 w.heap.size 5 .u8 v' xs) := Lib.hid (by simpa using hown1)
  have W1 := Lib.hid (hfr1.below (Nat.le_refl _) (fun k h => by cases h))
  clear hown1 hfr1 hbt
  go_wp2_with fail
  refine (bytes_any X s w1 hX (by omega)).mono ?_
  rintro e w2 ⟨v2, rfl, o2, b2⟩
  have O12 := Lib.hid (O1.out.below b2)
  have W2 := Lib.hid (W1.out.trans (b2.mono W1.out.size))
  obtain ⟨B, d, rfl, -, -, rd2, -⟩ := o2.slice
  have R2 := Lib.hid rd2
  have L2 : Hid (s = (leN X s).length) := Lib.hid (leN_len X s).symm
  rw [leN_len]
  clear o2 b2 rd2 O1
  have hsz := W2.out.size
  have hby : (xs.length + (leN X s).length) * 1 ≤ 140737488355328 := by rw [leN_len]; omega
  go_wp2_with (refine wpList_pushes_any w2 rfl _ _ 22 rfl w.heap.size 5 .u8 1 Try.underlying22 info5 _ xs rfl O12.out B s d (leN X s) rfl L2.out R2.out hby (by decide) hsz ?_; intro v4 w4 hown4 hfr4)
  go_ret
  exact ⟨_, rfl, hown4, W2.out.trans (hfr4.below hsz (fun g hg => (O12.out.base_le hg).1))⟩

set_option maxRecDepth 20000 in
set_option maxHeartbeats 800000 in
theorem rpb_any (A : Option Addr) (n c : Nat) (xs : List Int) (X s : Nat) (w : World) (hn : n = xs.length) (hr : Rd w .u8 A xs) (hl : xs.length ≤ 140737488353000) (hX : X < 18446744073709551616) (hs : s ≤ 1000) :
    Calls Try.prog 19 #[.slice A n c, .int .u64 X, .int .i64 s] w (Made 5 .u8 (xs ++ (leN X s).reverse) w) := by
  have HR := Lib.hid hr
  have HN := Lib.hid hn
  have O0 := Lib.hid (Own.nil w w.heap.size 5 .u8)
  have hbt : (([] : List Int).length + xs.length) * 1 ≤ 140737488355328 := by simp; omega
  clear hr hn
  go_enter Try.func19, Try.ntmps19
  go_wp2_with (refine wpList_pushes_any w rfl _ _ 22 rfl w.heap.size 5 .u8 1 Try.underlying22 info5 _ [] rfl O0.out A n c xs rfl HN.out HR.out hbt (by decide) (Nat.le_refl _) ?_; intro v' w1 hown1 hfr1)
  have O1 : Hid (Own w1 w.heap.size 5 .u8 v' xs) := Lib.hid (by simpa using hown1)
  have W1 := Lib.hid (hfr1.below (Nat.le_refl _) (fun k h => by cases h))
  clear hown1 hfr1 hbt
  go_wp2_with fail
  refine (bytes_any X s w1 hX (by omega)).mono ?_
  rintro e w2 ⟨v2, rfl, o2, b2⟩
  have O12 := Lib.hid (O1.out.below b2)
  have W2 := Lib.hid (W1.out.trans (b2.mono W1.out.size))
  obtain ⟨B, d, rfl, -, -, rd2, -⟩ := o2.slice
  have R2 := Lib.hid rd2
  have L2 : Hid (s = (leN X s).length) := Lib.hid (leN_len X s).symm
  rw [leN_len]
  clear o2 b2 rd2 O1
  go_wp2_with fail
  refine (turned_any B s d (leN X s) w2 L2.out R2.out (by rw [leN_len]; omega)).mono ?_
  rintro e w3 ⟨v3, rfl, o3, b3⟩
  have O13 := Lib.hid (O12.out.below b3)
  have W3 := Lib.hid (W2.out.trans (b3.mono W2.out.size))
  obtain ⟨B3, d3, rfl, -, -, rd3, -⟩ := o3.slice
  have R3 := Lib.hid rd3
  have L3 : Hid (s = (leN X s).reverse.length) := Lib.hid (by simp [leN_len])
  rw [List.length_reverse, leN_len]
  have hsz := W3.out.size
  have hby : (xs.length + (leN X s).reverse.length) * 1 ≤ 140737488355328 := by rw [List.length_reverse, leN_len]; omega
  clear o3 b3 rd3
  go_wp2_with (refine wpList_pushes_any w3 rfl _ _ 22 rfl w.heap.size 5 .u8 1 Try.underlying22 info5 _ xs rfl O13.out B3 s d3 (leN X s).reverse rfl L3.out R3.out hby (by decide) hsz ?_; intro v4 w4 hown4 hfr4)
  go_ret
  exact ⟨_, rfl, hown4, W3.out.trans (hfr4.below hsz (fun g hg => (O13.out.base_le hg).1))⟩

/-- A width. -/
def Wd (s : Nat) : Prop := s = 1 ∨ s = 2 ∨ s = 4 ∨ s = 8
theorem Wd.le {s : Nat} (h : Wd s) : s ≤ 8 := by rcases h with rfl | rfl | rfl | rfl <;> decide
theorem Wd.pow {s : Nat} (h : Wd s) (X : Nat) : X % 256 ^ s < 18446744073709551616 := by
  rcases h with rfl | rfl | rfl | rfl <;> omega

theorem cut_any (X s : Nat) (w : World) (hX : X < 18446744073709551616) (hs : Wd s) : Calls Try.prog 18 #[.int .u64 X, .int .i64 s] w fun e w' => e = .returned (.int .u64 (X % 256 ^ s : Nat)) ∧ w' = w := by
  have hm : ∀ m : Nat, 0 < m → Int.tmod (X : Int) (m : Int) = ((X % m : Nat) : Int) := fun m _ => by
    rw [Int.tmod_eq_emod_of_nonneg (by omega)]; omega
  have h1 : Int.tmod (X : Int) 256 = ((X % 256 : Nat) : Int) := hm 256 (by decide)
  have h2 : Int.tmod (X : Int) 65536 = ((X % 65536 : Nat) : Int) := hm 65536 (by decide)
  have h4 : Int.tmod (X : Int) 4294967296 = ((X % 4294967296 : Nat) : Int) := hm 4294967296 (by decide)
  have h8 : X % 18446744073709551616 = X := Nat.mod_eq_of_lt hX
  clear hm
  rcases hs with rfl | rfl | rfl | rfl
  all_goals (
    go_enter Try.func18, Try.ntmps18
    go_wp2_with fail
    go_ret
    first | exact ⟨rfl, rfl⟩ | (refine ⟨?_, rfl⟩; simp [h8]; done) | (refine ⟨?_, rfl⟩; simp [h8, IntKind.wrap, IntKind.bits, IntKind.signed]; done))

theorem puL_any (A : Option Addr) (n c : Nat) (xs : List Int) (X s : Nat) (w : World) (hn : n = xs.length) (hr : Rd w .u8 A xs) (hl : xs.length ≤ 140737488355000) (hX : X < 18446744073709551616) (hs : Wd s) :
    Calls Try.prog 15 #[.slice A n c, .int .u64 X, .int .i64 s] w (Made 5 .u8 (xs ++ leN (X % 256 ^ s) s) w) := by
  have HR := Lib.hid hr
  have HN := Lib.hid hn
  have h8 : X % 256 ^ 8 = X := Nat.mod_eq_of_lt hX
  clear hn hr
  rcases hs with rfl | rfl | rfl | rfl
  · obtain ⟨Y, hY⟩ : ∃ Y, Y = X % 256 ^ 1 := ⟨_, rfl⟩
    have hw : IntKind.u8.wrap (X : Int) = (Y : Int) := by rw [hY]; simp [IntKind.wrap, IntKind.bits, IntKind.signed]
    have hYB : Y < 256 := by rw [hY]; exact Nat.mod_lt _ (by decide)
    rw [← hY]
    clear hY
    go_enter Try.func15, Try.ntmps15
    go_wp2_with fail
    refine (pl8_any A c n xs Y w HN.out HR.out hl hYB).mono ?_
    rintro e w1 ⟨v1, rfl, o1, b1⟩
    have O1 := Lib.hid o1
    have W1 := Lib.hid b1
    clear o1 b1
    go_wp2_with fail
    go_ret
    exact ⟨_, rfl, O1.out, W1.out⟩
  · obtain ⟨Y, hY⟩ : ∃ Y, Y = X % 256 ^ 2 := ⟨_, rfl⟩
    have hw : IntKind.u16.wrap (X : Int) = (Y : Int) := by rw [hY]; simp [IntKind.wrap, IntKind.bits, IntKind.signed]
    have hYB : Y < 65536 := by rw [hY]; exact Nat.mod_lt _ (by decide)
    rw [← hY]
    clear hY
    go_enter Try.func15, Try.ntmps15
    go_wp2_with fail
    refine (pl16_any A c n xs Y w HN.out HR.out hl hYB).mono ?_
    rintro e w1 ⟨v1, rfl, o1, b1⟩
    have O1 := Lib.hid o1
    have W1 := Lib.hid b1
    clear o1 b1
    go_wp2_with fail
    go_ret
    exact ⟨_, rfl, O1.out, W1.out⟩
  · obtain ⟨Y, hY⟩ : ∃ Y, Y = X % 256 ^ 4 := ⟨_, rfl⟩
    have hw : IntKind.u32.wrap (X : Int) = (Y : Int) := by rw [hY]; simp [IntKind.wrap, IntKind.bits, IntKind.signed]
    have hYB : Y < 4294967296 := by rw [hY]; exact Nat.mod_lt _ (by decide)
    rw [← hY]
    clear hY
    go_enter Try.func15, Try.ntmps15
    go_wp2_with fail
    refine (pl32_any A c n xs Y w HN.out HR.out hl hYB).mono ?_
    rintro e w1 ⟨v1, rfl, o1, b1⟩
    have O1 := Lib.hid o1
    have W1 := Lib.hid b1
    clear o1 b1
    go_wp2_with fail
    go_ret
    exact ⟨_, rfl, O1.out, W1.out⟩
  · go_enter Try.func15, Try.ntmps15
    go_wp2_with fail
    try rw [h8]
    refine (pl64_any A c n xs X w HN.out HR.out hl hX).mono ?_
    rintro e w1 ⟨v1, rfl, o1, b1⟩
    have O1 := Lib.hid o1
    have W1 := Lib.hid b1
    clear o1 b1
    go_wp2_with fail
    go_ret
    exact ⟨_, rfl, by rw [h8]; exact O1.out, W1.out⟩

theorem puB_any (A : Option Addr) (n c : Nat) (xs : List Int) (X s : Nat) (w : World) (hn : n = xs.length) (hr : Rd w .u8 A xs) (hl : xs.length ≤ 140737488355000) (hX : X < 18446744073709551616) (hs : Wd s) :
    Calls Try.prog 16 #[.slice A n c, .int .u64 X, .int .i64 s] w (Made 5 .u8 (xs ++ beN (X % 256 ^ s) s s) w) := by
  have HR := Lib.hid hr
  have HN := Lib.hid hn
  have h8 : X % 256 ^ 8 = X := Nat.mod_eq_of_lt hX
  clear hn hr
  rcases hs with rfl | rfl | rfl | rfl
  · obtain ⟨Y, hY⟩ : ∃ Y, Y = X % 256 ^ 1 := ⟨_, rfl⟩
    have hw : IntKind.u8.wrap (X : Int) = (Y : Int) := by rw [hY]; simp [IntKind.wrap, IntKind.bits, IntKind.signed]
    have hYB : Y < 256 := by rw [hY]; exact Nat.mod_lt _ (by decide)
    rw [← hY]
    clear hY
    go_enter Try.func16, Try.ntmps16
    go_wp2_with fail
    refine (pb8_any A c n xs Y w HN.out HR.out hl hYB).mono ?_
    rintro e w1 ⟨v1, rfl, o1, b1⟩
    have O1 := Lib.hid o1
    have W1 := Lib.hid b1
    clear o1 b1
    go_wp2_with fail
    go_ret
    exact ⟨_, rfl, O1.out, W1.out⟩
  · obtain ⟨Y, hY⟩ : ∃ Y, Y = X % 256 ^ 2 := ⟨_, rfl⟩
    have hw : IntKind.u16.wrap (X : Int) = (Y : Int) := by rw [hY]; simp [IntKind.wrap, IntKind.bits, IntKind.signed]
    have hYB : Y < 65536 := by rw [hY]; exact Nat.mod_lt _ (by decide)
    rw [← hY]
    clear hY
    go_enter Try.func16, Try.ntmps16
    go_wp2_with fail
    refine (pb16_any A c n xs Y w HN.out HR.out hl hYB).mono ?_
    rintro e w1 ⟨v1, rfl, o1, b1⟩
    have O1 := Lib.hid o1
    have W1 := Lib.hid b1
    clear o1 b1
    go_wp2_with fail
    go_ret
    exact ⟨_, rfl, O1.out, W1.out⟩
  · obtain ⟨Y, hY⟩ : ∃ Y, Y = X % 256 ^ 4 := ⟨_, rfl⟩
    have hw : IntKind.u32.wrap (X : Int) = (Y : Int) := by rw [hY]; simp [IntKind.wrap, IntKind.bits, IntKind.signed]
    have hYB : Y < 4294967296 := by rw [hY]; exact Nat.mod_lt _ (by decide)
    rw [← hY]
    clear hY
    go_enter Try.func16, Try.ntmps16
    go_wp2_with fail
    refine (pb32_any A c n xs Y w HN.out HR.out hl hYB).mono ?_
    rintro e w1 ⟨v1, rfl, o1, b1⟩
    have O1 := Lib.hid o1
    have W1 := Lib.hid b1
    clear o1 b1
    go_wp2_with fail
    go_ret
    exact ⟨_, rfl, O1.out, W1.out⟩
  · go_enter Try.func16, Try.ntmps16
    go_wp2_with fail
    try rw [h8]
    refine (pb64_any A c n xs X w HN.out HR.out hl hX).mono ?_
    rintro e w1 ⟨v1, rfl, o1, b1⟩
    have O1 := Lib.hid o1
    have W1 := Lib.hid b1
    clear o1 b1
    go_wp2_with fail
    go_ret
    exact ⟨_, rfl, by rw [h8]; exact O1.out, W1.out⟩
end Go.Proofs.Ytcibhaoilcohbaa

/-
  Walks: width, PutLittle, PutBig at each width.
-/
import Derived.Test.YtcibhaoilcohbaaHm
set_option linter.unusedVariables false
set_option linter.unusedSimpArgs false
namespace Go.Proofs.Ytcibhaoilcohbaa
open Go.RowKit

/-- The k-th byte of a number. -/
def byt (X : Nat) (k : Nat) : Int := ((X / 256 ^ k % 256 : Nat) : Int)
/-- The first k bytes; from the s-th down, k of them. -/
def leN (X k : Nat) : List Int := (List.range k).map (byt X)
def beN (X s k : Nat) : List Int := (List.range k).map (fun j => byt X (s - 1 - j))
theorem leN_len (X k : Nat) : (leN X k).length = k := by simp [leN]
theorem leN_succ (X k : Nat) : leN X (k + 1) = leN X k ++ [byt X k] := by simp [leN, List.range_succ]
theorem beN_len (X s k : Nat) : (beN X s k).length = k := by simp [beN]
theorem beN_succ (X s k : Nat) : beN X s (k + 1) = beN X s k ++ [byt X (s - 1 - k)] := by simp [beN, List.range_succ]
theorem own_cast {w : World} {base T : Nat} {k : IntKind} {v : Value} {xs : List Int} {y z : Int} (h : Own w base T k v (xs ++ [y])) (e : y = z) : Own w base T k v (xs ++ [z]) := e ▸ h

theorem width8_any (w : World) : Calls Try.prog 93 #[] w fun e w' => e = .returned (.int .i64 1) ∧ w = w' := by
  go_enter Try.func93, Try.ntmps93
  go_wp2_with fail
  go_loop [1, 2] (fun a n => (a = .int .u8 255 ∧ n = .int .i64 0) ∨ (a = .int .u8 0 ∧ n = .int .i64 1)) (fun a n => 1 - (intOf n).toNat)
  case atStart => exact .inl ⟨rfl, rfl⟩
  case round =>
    rcases hrel with ⟨rfl, rfl⟩ | ⟨rfl, rfl⟩
    · go_wp2_with fail
      go_round
      case rel => exact .inr (⟨rfl, rfl⟩)
      case measure => simp [intOf]
    · go_wp2_with fail
      go_ret
      exact ⟨rfl, rfl⟩

theorem width16_any (w : World) : Calls Try.prog 94 #[] w fun e w' => e = .returned (.int .i64 2) ∧ w = w' := by
  go_enter Try.func94, Try.ntmps94
  go_wp2_with fail
  go_loop [1, 2] (fun a n => (a = .int .u16 65535 ∧ n = .int .i64 0) ∨ (a = .int .u16 255 ∧ n = .int .i64 1) ∨ (a = .int .u16 0 ∧ n = .int .i64 2)) (fun a n => 2 - (intOf n).toNat)
  case atStart => exact .inl ⟨rfl, rfl⟩
  case round =>
    rcases hrel with ⟨rfl, rfl⟩ | ⟨rfl, rfl⟩ | ⟨rfl, rfl⟩
    · go_wp2_with fail
      go_round
      case rel => exact .inr (.inl ⟨rfl, rfl⟩)
      case measure => simp [intOf]
    · go_wp2_with fail
      go_round
      case rel => exact .inr (.inr (⟨rfl, rfl⟩))
      case measure => simp [intOf]
    · go_wp2_with fail
      go_ret
      exact ⟨rfl, rfl⟩

theorem width32_any (w : World) : Calls Try.prog 95 #[] w fun e w' => e = .returned (.int .i64 4) ∧ w = w' := by
  go_enter Try.func95, Try.ntmps95
  go_wp2_with fail
  go_loop [1, 2] (fun a n => (a = .int .u32 4294967295 ∧ n = .int .i64 0) ∨ (a = .int .u32 16777215 ∧ n = .int .i64 1) ∨ (a = .int .u32 65535 ∧ n = .int .i64 2) ∨ (a = .int .u32 255 ∧ n = .int .i64 3) ∨ (a = .int .u32 0 ∧ n = .int .i64 4)) (fun a n => 4 - (intOf n).toNat)
  case atStart => exact .inl ⟨rfl, rfl⟩
  case round =>
    rcases hrel with ⟨rfl, rfl⟩ | ⟨rfl, rfl⟩ | ⟨rfl, rfl⟩ | ⟨rfl, rfl⟩ | ⟨rfl, rfl⟩
    · go_wp2_with fail
      go_round
      case rel => exact .inr (.inl ⟨rfl, rfl⟩)
      case measure => simp [intOf]
    · go_wp2_with fail
      go_round
      case rel => exact .inr (.inr (.inl ⟨rfl, rfl⟩))
      case measure => simp [intOf]
    · go_wp2_with fail
      go_round
      case rel => exact .inr (.inr (.inr (.inl ⟨rfl, rfl⟩)))
      case measure => simp [intOf]
    · go_wp2_with fail
      go_round
      case rel => exact .inr (.inr (.inr (.inr (⟨rfl, rfl⟩))))
      case measure => simp [intOf]
    · go_wp2_with fail
      go_ret
      exact ⟨rfl, rfl⟩

theorem width64_any (w : World) : Calls Try.prog 96 #[] w fun e w' => e = .returned (.int .i64 8) ∧ w = w' := by
  go_enter Try.func96, Try.ntmps96
  go_wp2_with fail
  go_loop [1, 2] (fun a n => (a = .int .u64 18446744073709551615 ∧ n = .int .i64 0) ∨ (a = .int .u64 72057594037927935 ∧ n = .int .i64 1) ∨ (a = .int .u64 281474976710655 ∧ n = .int .i64 2) ∨ (a = .int .u64 1099511627775 ∧ n = .int .i64 3) ∨ (a = .int .u64 4294967295 ∧ n = .int .i64 4) ∨ (a = .int .u64 16777215 ∧ n = .int .i64 5) ∨ (a = .int .u64 65535 ∧ n = .int .i64 6) ∨ (a = .int .u64 255 ∧ n = .int .i64 7) ∨ (a = .int .u64 0 ∧ n = .int .i64 8)) (fun a n => 8 - (intOf n).toNat)
  case atStart => exact .inl ⟨rfl, rfl⟩
  case round =>
    rcases hrel with ⟨rfl, rfl⟩ | ⟨rfl, rfl⟩ | ⟨rfl, rfl⟩ | ⟨rfl, rfl⟩ | ⟨rfl, rfl⟩ | ⟨rfl, rfl⟩ | ⟨rfl, rfl⟩ | ⟨rfl, rfl⟩ | ⟨rfl, rfl⟩
    · go_wp2_with fail
      go_round
      case rel => exact .inr (.inl ⟨rfl, rfl⟩)
      case measure => simp [intOf]
    · go_wp2_with fail
      go_round
      case rel => exact .inr (.inr (.inl ⟨rfl, rfl⟩))
      case measure => simp [intOf]
    · go_wp2_with fail
      go_round
      case rel => exact .inr (.inr (.inr (.inl ⟨rfl, rfl⟩)))
      case measure => simp [intOf]
    · go_wp2_with fail
      go_round
      case rel => exact .inr (.inr (.inr (.inr (.inl ⟨rfl, rfl⟩))))
      case measure => simp [intOf]
    · go_wp2_with fail
      go_round
      case rel => exact .inr (.inr (.inr (.inr (.inr (.inl ⟨rfl, rfl⟩)))))
      case measure => simp [intOf]
    · go_wp2_with fail
      go_round
      case rel => exact .inr (.inr (.inr (.inr (.inr (.inr (.inl ⟨rfl, rfl⟩))))))
      case measure => simp [intOf]
    · go_wp2_with fail
      go_round
      case rel => exact .inr (.inr (.inr (.inr (.inr (.inr (.inr (.inl ⟨rfl, rfl⟩)))))))
      case measure => simp [intOf]
    · go_wp2_with fail
      go_round
      case rel => exact .inr (.inr (.inr (.inr (.inr (.inr (.inr (.inr (⟨rfl, rfl⟩))))))))
      case measure => simp [intOf]
    · go_wp2_with fail
      go_ret
      exact ⟨rfl, rfl⟩

set_option maxHeartbeats 2000000 in
theorem pl8_any (A : Option Addr) (c n : Nat) (xs : List Int) (X : Nat) (w : World) (hn : n = xs.length) (hr : Rd w .u8 A xs) (hl : xs.length ≤ 140737488355000) (hX : X < 256) :
    Calls Try.prog 60 #[.slice A n c, .int .u8 X] w (Made 5 .u8 (xs ++ leN X 1) w) := by
  subst hn
  have HR := Lib.hid hr
  clear hr
  have hm1 : 1 * (xs.length + 1) ≤ 281474976710656 := by omega
  have hm2 : xs.length + 1 ≤ 9223372036854775807 := by omega
  have hCe : (xs.length : Int) + 1 = ((xs.length + 1 : Nat) : Int) := by omega
  have hnm : xs.length ≤ xs.length + 1 := by omega
  have hda : xs.length ≤ (List.replicate (xs.length + 1) (0 : Int)).length := by simp
  have HCE := Lib.hid hCe
  clear hCe
  go_enter Try.func60, Try.ntmps60
  go_wp2_with fail
  refine (width8_any w).mono ?_
  rintro e w' ⟨rfl, rfl⟩
  go_wp2_with (first
    | (refine wpList_make_room w rfl _ _ 22 rfl 5 .u8 1 Try.underlying22 info5 .i64 .i64 xs.length (xs.length + 1) _ _ rfl rfl rfl HCE.out hnm hm1 hm2 ?_; intro w1 hb0 hfr0; have B0 := Lib.hid hb0; have F0 := Lib.hid hfr0; have R0 := Lib.hid (HR.out.below (hfr0.below (Nat.le_refl _) (fun k h => h.elim))); clear hb0 hfr0)
    | (refine wpList_copy_rd w1 rfl _ _ 22 22 rfl 5 Try.underlying22 size5' w.heap.size xs.length (xs.length + 1) A xs.length c rfl rfl .u8 5 (List.replicate (xs.length + 1) (0 : Int)) xs [] (by rw [List.append_nil]; exact B0.out) R0.out rfl (Nat.le_refl _) hda ?_; intro w2 hb2 hf2))
  have O2 : Hid (Own w2 w.heap.size 5 .u8 (.slice (some ⟨w.heap.size, 0, none⟩) xs.length (xs.length + 1)) xs) := Lib.hid (Own.mk (rest := (List.replicate 1 (0 : Int)).map (Value.int .u8)) (Nat.le_refl _) (by
    have : (List.replicate (xs.length + 1) (0 : Int)).drop xs.length = List.replicate 1 0 := by simp
    rw [this, List.append_nil, List.map_append] at hb2; exact hb2) (by simp) (by unfold maxLen; omega))
  have W2 : Hid (Below w.heap.size w w2) := Lib.hid (((F0.out.below (Nat.le_refl _) (fun k h => h.elim)).trans (hf2.below F0.out.size (fun k h => by omega))))
  clear hb2 hf2 hm1 hm2 hda
  go_wp2_with fail
  go_loopw [6, 20] (fun v i wr => ∃ k : Nat, k ≤ 1 ∧ i = .int .i64 k ∧ Own wr w.heap.size 5 .u8 v (xs ++ leN X k) ∧ Below w.heap.size w wr) (fun _ i _ => 1 - (intOf i).toNat)
  case atStart => exact ⟨0, Nat.zero_le _, rfl, by simpa [leN, beN] using O2.out, W2.out⟩
  case round =>
    obtain ⟨k, hk, rfl, hown, hb⟩ := hrel
    have HO := Lib.hid hown
    have HW := Lib.hid hb
    have hsz := hb.size
    clear hown hb
    by_cases hlt : k < 1
    · have hc1 : ((xs ++ leN X k).length + 1) * 1 ≤ 140737488355328 := by rw [List.length_append, leN_len]; omega
      have hk4 : k = 0 := by omega
      subst hk4
      go_wp2_with (first | (at_builtin; refine wpList_push wr rfl _ _ 22 rfl w.heap.size 5 .u8 1 Try.underlying22 info5 _ rfl _ _ rfl rfl HO.out hc1 (by decide) hsz ?_; intro v' w1 hown1 hfr1))
      have hown2 : Own w1 w.heap.size 5 .u8 v' (xs ++ leN X 1) := by rw [leN_succ X 0, ← List.append_assoc]; exact own_cast hown1 (by simp [byt]; first | omega | done)
      exact ⟨⟨1, by omega, rfl, hown2, HW.out.trans (hfr1.below hsz (fun g hg => (HO.out.base_le hg).1))⟩, by simp [intOf]⟩
    · have HK : Hid (k = 1) := Lib.hid (by omega)
      have hge : decide ((k : Int) < 1) = false := by simp; omega
      go_wp2_with fail
      go_ret
      have ho := HO.out
      rw [HK.out] at ho
      exact ⟨_, rfl, ho, HW.out⟩

set_option maxHeartbeats 2000000 in
theorem pb8_any (A : Option Addr) (c n : Nat) (xs : List Int) (X : Nat) (w : World) (hn : n = xs.length) (hr : Rd w .u8 A xs) (hl : xs.length ≤ 140737488355000) (hX : X < 256) :
    Calls Try.prog 64 #[.slice A n c, .int .u8 X] w (Made 5 .u8 (xs ++ beN X 1 1) w) := by
  subst hn
  have HR := Lib.hid hr
  clear hr
  have hm1 : 1 * (xs.length + 1) ≤ 281474976710656 := by omega
  have hm2 : xs.length + 1 ≤ 9223372036854775807 := by omega
  have hCe : (xs.length : Int) + 1 = ((xs.length + 1 : Nat) : Int) := by omega
  have hnm : xs.length ≤ xs.length + 1 := by omega
  have hda : xs.length ≤ (List.replicate (xs.length + 1) (0 : Int)).length := by simp
  have HCE := Lib.hid hCe
  clear hCe
  go_enter Try.func64, Try.ntmps64
  go_wp2_with fail
  refine (width8_any w).mono ?_
  rintro e w' ⟨rfl, rfl⟩
  go_wp2_with (first
    | (refine wpList_make_room w rfl _ _ 22 rfl 5 .u8 1 Try.underlying22 info5 .i64 .i64 xs.length (xs.length + 1) _ _ rfl rfl rfl HCE.out hnm hm1 hm2 ?_; intro w1 hb0 hfr0; have B0 := Lib.hid hb0; have F0 := Lib.hid hfr0; have R0 := Lib.hid (HR.out.below (hfr0.below (Nat.le_refl _) (fun k h => h.elim))); clear hb0 hfr0)
    | (refine wpList_copy_rd w1 rfl _ _ 22 22 rfl 5 Try.underlying22 size5' w.heap.size xs.length (xs.length + 1) A xs.length c rfl rfl .u8 5 (List.replicate (xs.length + 1) (0 : Int)) xs [] (by rw [List.append_nil]; exact B0.out) R0.out rfl (Nat.le_refl _) hda ?_; intro w2 hb2 hf2))
  have O2 : Hid (Own w2 w.heap.size 5 .u8 (.slice (some ⟨w.heap.size, 0, none⟩) xs.length (xs.length + 1)) xs) := Lib.hid (Own.mk (rest := (List.replicate 1 (0 : Int)).map (Value.int .u8)) (Nat.le_refl _) (by
    have : (List.replicate (xs.length + 1) (0 : Int)).drop xs.length = List.replicate 1 0 := by simp
    rw [this, List.append_nil, List.map_append] at hb2; exact hb2) (by simp) (by unfold maxLen; omega))
  have W2 : Hid (Below w.heap.size w w2) := Lib.hid (((F0.out.below (Nat.le_refl _) (fun k h => h.elim)).trans (hf2.below F0.out.size (fun k h => by omega))))
  clear hb2 hf2 hm1 hm2 hda
  go_wp2_with fail
  go_loopw [6, 20] (fun v i wr => ∃ k : Nat, k ≤ 1 ∧ i = .int .i64 k ∧ Own wr w.heap.size 5 .u8 v (xs ++ beN X 1 k) ∧ Below w.heap.size w wr) (fun _ i _ => 1 - (intOf i).toNat)
  case atStart => exact ⟨0, Nat.zero_le _, rfl, by simpa [leN, beN] using O2.out, W2.out⟩
  case round =>
    obtain ⟨k, hk, rfl, hown, hb⟩ := hrel
    have HO := Lib.hid hown
    have HW := Lib.hid hb
    have hsz := hb.size
    clear hown hb
    by_cases hlt : k < 1
    · have hc1 : ((xs ++ beN X 1 k).length + 1) * 1 ≤ 140737488355328 := by rw [List.length_append, beN_len]; omega
      have hk4 : k = 0 := by omega
      subst hk4
      go_wp2_with (first | (at_builtin; refine wpList_push wr rfl _ _ 22 rfl w.heap.size 5 .u8 1 Try.underlying22 info5 _ rfl _ _ rfl rfl HO.out hc1 (by decide) hsz ?_; intro v' w1 hown1 hfr1))
      have hown2 : Own w1 w.heap.size 5 .u8 v' (xs ++ beN X 1 1) := by rw [beN_succ X 1 0, ← List.append_assoc]; exact own_cast hown1 (by simp [byt]; first | omega | done)
      exact ⟨⟨1, by omega, rfl, hown2, HW.out.trans (hfr1.below hsz (fun g hg => (HO.out.base_le hg).1))⟩, by simp [intOf]⟩
    · have HK : Hid (k = 1) := Lib.hid (by omega)
      have hge : decide ((k : Int) < 1) = false := by simp; omega
      go_wp2_with fail
      go_ret
      have ho := HO.out
      rw [HK.out] at ho
      exact ⟨_, rfl, ho, HW.out⟩

set_option maxHeartbeats 2000000 in
theorem pl16_any (A : Option Addr) (c n : Nat) (xs : List Int) (X : Nat) (w : World) (hn : n = xs.length) (hr : Rd w .u8 A xs) (hl : xs.length ≤ 140737488355000) (hX : X < 65536) :
    Calls Try.prog 61 #[.slice A n c, .int .u16 X] w (Made 5 .u8 (xs ++ leN X 2) w) := by
  subst hn
  have HR := Lib.hid hr
  clear hr
  have hm1 : 1 * (xs.length + 2) ≤ 281474976710656 := by omega
  have hm2 : xs.length + 2 ≤ 9223372036854775807 := by omega
  have hCe : (xs.length : Int) + 2 = ((xs.length + 2 : Nat) : Int) := by omega
  have hnm : xs.length ≤ xs.length + 2 := by omega
  have hda : xs.length ≤ (List.replicate (xs.length + 2) (0 : Int)).length := by simp
  have HCE := Lib.hid hCe
  clear hCe
  go_enter Try.func61, Try.ntmps61
  go_wp2_with fail
  refine (width16_any w).mono ?_
  rintro e w' ⟨rfl, rfl⟩
  go_wp2_with (first
    | (refine wpList_make_room w rfl _ _ 22 rfl 5 .u8 1 Try.underlying22 info5 .i64 .i64 xs.length (xs.length + 2) _ _ rfl rfl rfl HCE.out hnm hm1 hm2 ?_; intro w1 hb0 hfr0; have B0 := Lib.hid hb0; have F0 := Lib.hid hfr0; have R0 := Lib.hid (HR.out.below (hfr0.below (Nat.le_refl _) (fun k h => h.elim))); clear hb0 hfr0)
    | (refine wpList_copy_rd w1 rfl _ _ 22 22 rfl 5 Try.underlying22 size5' w.heap.size xs.length (xs.length + 2) A xs.length c rfl rfl .u8 5 (List.replicate (xs.length + 2) (0 : Int)) xs [] (by rw [List.append_nil]; exact B0.out) R0.out rfl (Nat.le_refl _) hda ?_; intro w2 hb2 hf2))
  have O2 : Hid (Own w2 w.heap.size 5 .u8 (.slice (some ⟨w.heap.size, 0, none⟩) xs.length (xs.length + 2)) xs) := Lib.hid (Own.mk (rest := (List.replicate 2 (0 : Int)).map (Value.int .u8)) (Nat.le_refl _) (by
    have : (List.replicate (xs.length + 2) (0 : Int)).drop xs.length = List.replicate 2 0 := by simp
    rw [this, List.append_nil, List.map_append] at hb2; exact hb2) (by simp) (by unfold maxLen; omega))
  have W2 : Hid (Below w.heap.size w w2) := Lib.hid (((F0.out.below (Nat.le_refl _) (fun k h => h.elim)).trans (hf2.below F0.out.size (fun k h => by omega))))
  clear hb2 hf2 hm1 hm2 hda
  go_wp2_with fail
  go_loopw [6, 20] (fun v i wr => ∃ k : Nat, k ≤ 2 ∧ i = .int .i64 k ∧ Own wr w.heap.size 5 .u8 v (xs ++ leN X k) ∧ Below w.heap.size w wr) (fun _ i _ => 2 - (intOf i).toNat)
  case atStart => exact ⟨0, Nat.zero_le _, rfl, by simpa [leN, beN] using O2.out, W2.out⟩
  case round =>
    obtain ⟨k, hk, rfl, hown, hb⟩ := hrel
    have HO := Lib.hid hown
    have HW := Lib.hid hb
    have hsz := hb.size
    clear hown hb
    by_cases hlt : k < 2
    · have hc1 : ((xs ++ leN X k).length + 1) * 1 ≤ 140737488355328 := by rw [List.length_append, leN_len]; omega
      have hk4 : k = 0 ∨ k = 1 := by omega
      rcases hk4 with rfl | rfl
      · go_wp2_with (first | (at_builtin; refine wpList_push wr rfl _ _ 22 rfl w.heap.size 5 .u8 1 Try.underlying22 info5 _ rfl _ _ rfl rfl HO.out hc1 (by decide) hsz ?_; intro v' w1 hown1 hfr1))
        have hown2 : Own w1 w.heap.size 5 .u8 v' (xs ++ leN X 1) := by rw [leN_succ X 0, ← List.append_assoc]; exact own_cast hown1 (by simp [byt]; first | omega | done)
        exact ⟨⟨1, by omega, rfl, hown2, HW.out.trans (hfr1.below hsz (fun g hg => (HO.out.base_le hg).1))⟩, by simp [intOf]⟩
      · go_wp2_with (first | (at_builtin; refine wpList_push wr rfl _ _ 22 rfl w.heap.size 5 .u8 1 Try.underlying22 info5 _ rfl _ _ rfl rfl HO.out hc1 (by decide) hsz ?_; intro v' w1 hown1 hfr1))
        have hown2 : Own w1 w.heap.size 5 .u8 v' (xs ++ leN X 2) := by rw [leN_succ X 1, ← List.append_assoc]; exact own_cast hown1 (by simp [byt]; first | omega | done)
        exact ⟨⟨2, by omega, rfl, hown2, HW.out.trans (hfr1.below hsz (fun g hg => (HO.out.base_le hg).1))⟩, by simp [intOf]⟩
    · have HK : Hid (k = 2) := Lib.hid (by omega)
      have hge : decide ((k : Int) < 2) = false := by simp; omega
      go_wp2_with fail
      go_ret
      have ho := HO.out
      rw [HK.out] at ho
      exact ⟨_, rfl, ho, HW.out⟩

set_option maxHeartbeats 2000000 in
theorem pb16_any (A : Option Addr) (c n : Nat) (xs : List Int) (X : Nat) (w : World) (hn : n = xs.length) (hr : Rd w .u8 A xs) (hl : xs.length ≤ 140737488355000) (hX : X < 65536) :
    Calls Try.prog 65 #[.slice A n c, .int .u16 X] w (Made 5 .u8 (xs ++ beN X 2 2) w) := by
  subst hn
  have HR := Lib.hid hr
  clear hr
  have hm1 : 1 * (xs.length + 2) ≤ 281474976710656 := by omega
  have hm2 : xs.length + 2 ≤ 9223372036854775807 := by omega
  have hCe : (xs.length : Int) + 2 = ((xs.length + 2 : Nat) : Int) := by omega
  have hnm : xs.length ≤ xs.length + 2 := by omega
  have hda : xs.length ≤ (List.replicate (xs.length + 2) (0 : Int)).length := by simp
  have HCE := Lib.hid hCe
  clear hCe
  go_enter Try.func65, Try.ntmps65
  go_wp2_with fail
  refine (width16_any w).mono ?_
  rintro e w' ⟨rfl, rfl⟩
  go_wp2_with (first
    | (refine wpList_make_room w rfl _ _ 22 rfl 5 .u8 1 Try.underlying22 info5 .i64 .i64 xs.length (xs.length + 2) _ _ rfl rfl rfl HCE.out hnm hm1 hm2 ?_; intro w1 hb0 hfr0; have B0 := Lib.hid hb0; have F0 := Lib.hid hfr0; have R0 := Lib.hid (HR.out.below (hfr0.below (Nat.le_refl _) (fun k h => h.elim))); clear hb0 hfr0)
    | (refine wpList_copy_rd w1 rfl _ _ 22 22 rfl 5 Try.underlying22 size5' w.heap.size xs.length (xs.length + 2) A xs.length c rfl rfl .u8 5 (List.replicate (xs.length + 2) (0 : Int)) xs [] (by rw [List.append_nil]; exact B0.out) R0.out rfl (Nat.le_refl _) hda ?_; intro w2 hb2 hf2))
  have O2 : Hid (Own w2 w.heap.size 5 .u8 (.slice (some ⟨w.heap.size, 0, none⟩) xs.length (xs.length + 2)) xs) := Lib.hid (Own.mk (rest := (List.replicate 2 (0 : Int)).map (Value.int .u8)) (Nat.le_refl _) (by
    have : (List.replicate (xs.length + 2) (0 : Int)).drop xs.length = List.replicate 2 0 := by simp
    rw [this, List.append_nil, List.map_append] at hb2; exact hb2) (by simp) (by unfold maxLen; omega))
  have W2 : Hid (Below w.heap.size w w2) := Lib.hid (((F0.out.below (Nat.le_refl _) (fun k h => h.elim)).trans (hf2.below F0.out.size (fun k h => by omega))))
  clear hb2 hf2 hm1 hm2 hda
  go_wp2_with fail
  go_loopw [6, 20] (fun v i wr => ∃ k : Nat, k ≤ 2 ∧ i = .int .i64 k ∧ Own wr w.heap.size 5 .u8 v (xs ++ beN X 2 k) ∧ Below w.heap.size w wr) (fun _ i _ => 2 - (intOf i).toNat)
  case atStart => exact ⟨0, Nat.zero_le _, rfl, by simpa [leN, beN] using O2.out, W2.out⟩
  case round =>
    obtain ⟨k, hk, rfl, hown, hb⟩ := hrel
    have HO := Lib.hid hown
    have HW := Lib.hid hb
    have hsz := hb.size
    clear hown hb
    by_cases hlt : k < 2
    · have hc1 : ((xs ++ beN X 2 k).length + 1) * 1 ≤ 140737488355328 := by rw [List.length_append, beN_len]; omega
      have hk4 : k = 0 ∨ k = 1 := by omega
      rcases hk4 with rfl | rfl
      · go_wp2_with (first | (at_builtin; refine wpList_push wr rfl _ _ 22 rfl w.heap.size 5 .u8 1 Try.underlying22 info5 _ rfl _ _ rfl rfl HO.out hc1 (by decide) hsz ?_; intro v' w1 hown1 hfr1))
        have hown2 : Own w1 w.heap.size 5 .u8 v' (xs ++ beN X 2 1) := by rw [beN_succ X 2 0, ← List.append_assoc]; exact own_cast hown1 (by simp [byt]; first | omega | done)
        exact ⟨⟨1, by omega, rfl, hown2, HW.out.trans (hfr1.below hsz (fun g hg => (HO.out.base_le hg).1))⟩, by simp [intOf]⟩
      · go_wp2_with (first | (at_builtin; refine wpList_push wr rfl _ _ 22 rfl w.heap.size 5 .u8 1 Try.underlying22 info5 _ rfl _ _ rfl rfl HO.out hc1 (by decide) hsz ?_; intro v' w1 hown1 hfr1))
        have hown2 : Own w1 w.heap.size 5 .u8 v' (xs ++ beN X 2 2) := by rw [beN_succ X 2 1, ← List.append_assoc]; exact own_cast hown1 (by simp [byt]; first | omega | done)
        exact ⟨⟨2, by omega, rfl, hown2, HW.out.trans (hfr1.below hsz (fun g hg => (HO.out.base_le hg).1))⟩, by simp [intOf]⟩
    · have HK : Hid (k = 2) := Lib.hid (by omega)
      have hge : decide ((k : Int) < 2) = false := by simp; omega
      go_wp2_with fail
      go_ret
      have ho := HO.out
      rw [HK.out] at ho
      exact ⟨_, rfl, ho, HW.out⟩

set_option maxHeartbeats 2000000 in
theorem pl32_any (A : Option Addr) (c n : Nat) (xs : List Int) (X : Nat) (w : World) (hn : n = xs.length) (hr : Rd w .u8 A xs) (hl : xs.length ≤ 140737488355000) (hX : X < 4294967296) :
    Calls Try.prog 62 #[.slice A n c, .int .u32 X] w (Made 5 .u8 (xs ++ leN X 4) w) := by
  subst hn
  have HR := Lib.hid hr
  clear hr
  have hm1 : 1 * (xs.length + 4) ≤ 281474976710656 := by omega
  have hm2 : xs.length + 4 ≤ 9223372036854775807 := by omega
  have hCe : (xs.length : Int) + 4 = ((xs.length + 4 : Nat) : Int) := by omega
  have hnm : xs.length ≤ xs.length + 4 := by omega
  have hda : xs.length ≤ (List.replicate (xs.length + 4) (0 : Int)).length := by simp
  have HCE := Lib.hid hCe
  clear hCe
  go_enter Try.func62, Try.ntmps62
  go_wp2_with fail
  refine (width32_any w).mono ?_
  rintro e w' ⟨rfl, rfl⟩
  go_wp2_with (first
    | (refine wpList_make_room w rfl _ _ 22 rfl 5 .u8 1 Try.underlying22 info5 .i64 .i64 xs.length (xs.length + 4) _ _ rfl rfl rfl HCE.out hnm hm1 hm2 ?_; intro w1 hb0 hfr0; have B0 := Lib.hid hb0; have F0 := Lib.hid hfr0; have R0 := Lib.hid (HR.out.below (hfr0.below (Nat.le_refl _) (fun k h => h.elim))); clear hb0 hfr0)
    | (refine wpList_copy_rd w1 rfl _ _ 22 22 rfl 5 Try.underlying22 size5' w.heap.size xs.length (xs.length + 4) A xs.length c rfl rfl .u8 5 (List.replicate (xs.length + 4) (0 : Int)) xs [] (by rw [List.append_nil]; exact B0.out) R0.out rfl (Nat.le_refl _) hda ?_; intro w2 hb2 hf2))
  have O2 : Hid (Own w2 w.heap.size 5 .u8 (.slice (some ⟨w.heap.size, 0, none⟩) xs.length (xs.length + 4)) xs) := Lib.hid (Own.mk (rest := (List.replicate 4 (0 : Int)).map (Value.int .u8)) (Nat.le_refl _) (by
    have : (List.replicate (xs.length + 4) (0 : Int)).drop xs.length = List.replicate 4 0 := by simp
    rw [this, List.append_nil, List.map_append] at hb2; exact hb2) (by simp) (by unfold maxLen; omega))
  have W2 : Hid (Below w.heap.size w w2) := Lib.hid (((F0.out.below (Nat.le_refl _) (fun k h => h.elim)).trans (hf2.below F0.out.size (fun k h => by omega))))
  clear hb2 hf2 hm1 hm2 hda
  go_wp2_with fail
  go_loopw [6, 20] (fun v i wr => ∃ k : Nat, k ≤ 4 ∧ i = .int .i64 k ∧ Own wr w.heap.size 5 .u8 v (xs ++ leN X k) ∧ Below w.heap.size w wr) (fun _ i _ => 4 - (intOf i).toNat)
  case atStart => exact ⟨0, Nat.zero_le _, rfl, by simpa [leN, beN] using O2.out, W2.out⟩
  case round =>
    obtain ⟨k, hk, rfl, hown, hb⟩ := hrel
    have HO := Lib.hid hown
    have HW := Lib.hid hb
    have hsz := hb.size
    clear hown hb
    by_cases hlt : k < 4
    · have hc1 : ((xs ++ leN X k).length + 1) * 1 ≤ 140737488355328 := by rw [List.length_append, leN_len]; omega
      have hk4 : k = 0 ∨ k = 1 ∨ k = 2 ∨ k = 3 := by omega
      rcases hk4 with rfl | rfl | rfl | rfl
      · go_wp2_with (first | (at_builtin; refine wpList_push wr rfl _ _ 22 rfl w.heap.size 5 .u8 1 Try.underlying22 info5 _ rfl _ _ rfl rfl HO.out hc1 (by decide) hsz ?_; intro v' w1 hown1 hfr1))
        have hown2 : Own w1 w.heap.size 5 .u8 v' (xs ++ leN X 1) := by rw [leN_succ X 0, ← List.append_assoc]; exact own_cast hown1 (by simp [byt]; first | omega | done)
        exact ⟨⟨1, by omega, rfl, hown2, HW.out.trans (hfr1.below hsz (fun g hg => (HO.out.base_le hg).1))⟩, by simp [intOf]⟩
      · go_wp2_with (first | (at_builtin; refine wpList_push wr rfl _ _ 22 rfl w.heap.size 5 .u8 1 Try.underlying22 info5 _ rfl _ _ rfl rfl HO.out hc1 (by decide) hsz ?_; intro v' w1 hown1 hfr1))
        have hown2 : Own w1 w.heap.size 5 .u8 v' (xs ++ leN X 2) := by rw [leN_succ X 1, ← List.append_assoc]; exact own_cast hown1 (by simp [byt]; first | omega | done)
        exact ⟨⟨2, by omega, rfl, hown2, HW.out.trans (hfr1.below hsz (fun g hg => (HO.out.base_le hg).1))⟩, by simp [intOf]⟩
      · go_wp2_with (first | (at_builtin; refine wpList_push wr rfl _ _ 22 rfl w.heap.size 5 .u8 1 Try.underlying22 info5 _ rfl _ _ rfl rfl HO.out hc1 (by decide) hsz ?_; intro v' w1 hown1 hfr1))
        have hown2 : Own w1 w.heap.size 5 .u8 v' (xs ++ leN X 3) := by rw [leN_succ X 2, ← List.append_assoc]; exact own_cast hown1 (by simp [byt]; first | omega | done)
        exact ⟨⟨3, by omega, rfl, hown2, HW.out.trans (hfr1.below hsz (fun g hg => (HO.out.base_le hg).1))⟩, by simp [intOf]⟩
      · go_wp2_with (first | (at_builtin; refine wpList_push wr rfl _ _ 22 rfl w.heap.size 5 .u8 1 Try.underlying22 info5 _ rfl _ _ rfl rfl HO.out hc1 (by decide) hsz ?_; intro v' w1 hown1 hfr1))
        have hown2 : Own w1 w.heap.size 5 .u8 v' (xs ++ leN X 4) := by rw [leN_succ X 3, ← List.append_assoc]; exact own_cast hown1 (by simp [byt]; first | omega | done)
        exact ⟨⟨4, by omega, rfl, hown2, HW.out.trans (hfr1.below hsz (fun g hg => (HO.out.base_le hg).1))⟩, by simp [intOf]⟩
    · have HK : Hid (k = 4) := Lib.hid (by omega)
      have hge : decide ((k : Int) < 4) = false := by simp; omega
      go_wp2_with fail
      go_ret
      have ho := HO.out
      rw [HK.out] at ho
      exact ⟨_, rfl, ho, HW.out⟩

set_option maxHeartbeats 2000000 in
theorem pb32_any (A : Option Addr) (c n : Nat) (xs : List Int) (X : Nat) (w : World) (hn : n = xs.length) (hr : Rd w .u8 A xs) (hl : xs.length ≤ 140737488355000) (hX : X < 4294967296) :
    Calls Try.prog 66 #[.slice A n c, .int .u32 X] w (Made 5 .u8 (xs ++ beN X 4 4) w) := by
  subst hn
  have HR := Lib.hid hr
  clear hr
  have hm1 : 1 * (xs.length + 4) ≤ 281474976710656 := by omega
  have hm2 : xs.length + 4 ≤ 9223372036854775807 := by omega
  have hCe : (xs.length : Int) + 4 = ((xs.length + 4 : Nat) : Int) := by omega
  have hnm : xs.length ≤ xs.length + 4 := by omega
  have hda : xs.length ≤ (List.replicate (xs.length + 4) (0 : Int)).length := by simp
  have HCE := Lib.hid hCe
  clear hCe
  go_enter Try.func66, Try.ntmps66
  go_wp2_with fail
  refine (width32_any w).mono ?_
  rintro e w' ⟨rfl, rfl⟩
  go_wp2_with (first
    | (refine wpList_make_room w rfl _ _ 22 rfl 5 .u8 1 Try.underlying22 info5 .i64 .i64 xs.length (xs.length + 4) _ _ rfl rfl rfl HCE.out hnm hm1 hm2 ?_; intro w1 hb0 hfr0; have B0 := Lib.hid hb0; have F0 := Lib.hid hfr0; have R0 := Lib.hid (HR.out.below (hfr0.below (Nat.le_refl _) (fun k h => h.elim))); clear hb0 hfr0)
    | (refine wpList_copy_rd w1 rfl _ _ 22 22 rfl 5 Try.underlying22 size5' w.heap.size xs.length (xs.length + 4) A xs.length c rfl rfl .u8 5 (List.replicate (xs.length + 4) (0 : Int)) xs [] (by rw [List.append_nil]; exact B0.out) R0.out rfl (Nat.le_refl _) hda ?_; intro w2 hb2 hf2))
  have O2 : Hid (Own w2 w.heap.size 5 .u8 (.slice (some ⟨w.heap.size, 0, none⟩) xs.length (xs.length + 4)) xs) := Lib.hid (Own.mk (rest := (List.replicate 4 (0 : Int)).map (Value.int .u8)) (Nat.le_refl _) (by
    have : (List.replicate (xs.length + 4) (0 : Int)).drop xs.length = List.replicate 4 0 := by simp
    rw [this, List.append_nil, List.map_append] at hb2; exact hb2) (by simp) (by unfold maxLen; omega))
  have W2 : Hid (Below w.heap.size w w2) := Lib.hid (((F0.out.below (Nat.le_refl _) (fun k h => h.elim)).trans (hf2.below F0.out.size (fun k h => by omega))))
  clear hb2 hf2 hm1 hm2 hda
  go_wp2_with fail
  go_loopw [6, 20] (fun v i wr => ∃ k : Nat, k ≤ 4 ∧ i = .int .i64 k ∧ Own wr w.heap.size 5 .u8 v (xs ++ beN X 4 k) ∧ Below w.heap.size w wr) (fun _ i _ => 4 - (intOf i).toNat)
  case atStart => exact ⟨0, Nat.zero_le _, rfl, by simpa [leN, beN] using O2.out, W2.out⟩
  case round =>
    obtain ⟨k, hk, rfl, hown, hb⟩ := hrel
    have HO := Lib.hid hown
    have HW := Lib.hid hb
    have hsz := hb.size
    clear hown hb
    by_cases hlt : k < 4
    · have hc1 : ((xs ++ beN X 4 k).length + 1) * 1 ≤ 140737488355328 := by rw [List.length_append, beN_len]; omega
      have hk4 : k = 0 ∨ k = 1 ∨ k = 2 ∨ k = 3 := by omega
      rcases hk4 with rfl | rfl | rfl | rfl
      · go_wp2_with (first | (at_builtin; refine wpList_push wr rfl _ _ 22 rfl w.heap.size 5 .u8 1 Try.underlying22 info5 _ rfl _ _ rfl rfl HO.out hc1 (by decide) hsz ?_; intro v' w1 hown1 hfr1))
        have hown2 : Own w1 w.heap.size 5 .u8 v' (xs ++ beN X 4 1) := by rw [beN_succ X 4 0, ← List.append_assoc]; exact own_cast hown1 (by simp [byt]; first | omega | done)
        exact ⟨⟨1, by omega, rfl, hown2, HW.out.trans (hfr1.below hsz (fun g hg => (HO.out.base_le hg).1))⟩, by simp [intOf]⟩
      · go_wp2_with (first | (at_builtin; refine wpList_push wr rfl _ _ 22 rfl w.heap.size 5 .u8 1 Try.underlying22 info5 _ rfl _ _ rfl rfl HO.out hc1 (by decide) hsz ?_; intro v' w1 hown1 hfr1))
        have hown2 : Own w1 w.heap.size 5 .u8 v' (xs ++ beN X 4 2) := by rw [beN_succ X 4 1, ← List.append_assoc]; exact own_cast hown1 (by simp [byt]; first | omega | done)
        exact ⟨⟨2, by omega, rfl, hown2, HW.out.trans (hfr1.below hsz (fun g hg => (HO.out.base_le hg).1))⟩, by simp [intOf]⟩
      · go_wp2_with (first | (at_builtin; refine wpList_push wr rfl _ _ 22 rfl w.heap.size 5 .u8 1 Try.underlying22 info5 _ rfl _ _ rfl rfl HO.out hc1 (by decide) hsz ?_; intro v' w1 hown1 hfr1))
        have hown2 : Own w1 w.heap.size 5 .u8 v' (xs ++ beN X 4 3) := by rw [beN_succ X 4 2, ← List.append_assoc]; exact own_cast hown1 (by simp [byt]; first | omega | done)
        exact ⟨⟨3, by omega, rfl, hown2, HW.out.trans (hfr1.below hsz (fun g hg => (HO.out.base_le hg).1))⟩, by simp [intOf]⟩
      · go_wp2_with (first | (at_builtin; refine wpList_push wr rfl _ _ 22 rfl w.heap.size 5 .u8 1 Try.underlying22 info5 _ rfl _ _ rfl rfl HO.out hc1 (by decide) hsz ?_; intro v' w1 hown1 hfr1))
        have hown2 : Own w1 w.heap.size 5 .u8 v' (xs ++ beN X 4 4) := by rw [beN_succ X 4 3, ← List.append_assoc]; exact own_cast hown1 (by simp [byt]; first | omega | done)
        exact ⟨⟨4, by omega, rfl, hown2, HW.out.trans (hfr1.below hsz (fun g hg => (HO.out.base_le hg).1))⟩, by simp [intOf]⟩
    · have HK : Hid (k = 4) := Lib.hid (by omega)
      have hge : decide ((k : Int) < 4) = false := by simp; omega
      go_wp2_with fail
      go_ret
      have ho := HO.out
      rw [HK.out] at ho
      exact ⟨_, rfl, ho, HW.out⟩

set_option maxHeartbeats 2000000 in
theorem pl64_any (A : Option Addr) (c n : Nat) (xs : List Int) (X : Nat) (w : World) (hn : n = xs.length) (hr : Rd w .u8 A xs) (hl : xs.length ≤ 140737488355000) (hX : X < 18446744073709551616) :
    Calls Try.prog 63 #[.slice A n c, .int .u64 X] w (Made 5 .u8 (xs ++ leN X 8) w) := by
  subst hn
  have HR := Lib.hid hr
  clear hr
  have hm1 : 1 * (xs.length + 8) ≤ 281474976710656 := by omega
  have hm2 : xs.length + 8 ≤ 9223372036854775807 := by omega
  have hCe : (xs.length : Int) + 8 = ((xs.length + 8 : Nat) : Int) := by omega
  have hnm : xs.length ≤ xs.length + 8 := by omega
  have hda : xs.length ≤ (List.replicate (xs.length + 8) (0 : Int)).length := by simp
  have HCE := Lib.hid hCe
  clear hCe
  go_enter Try.func63, Try.ntmps63
  go_wp2_with fail
  refine (width64_any w).mono ?_
  rintro e w' ⟨rfl, rfl⟩
  go_wp2_with (first
    | (refine wpList_make_room w rfl _ _ 22 rfl 5 .u8 1 Try.underlying22 info5 .i64 .i64 xs.length (xs.length + 8) _ _ rfl rfl rfl HCE.out hnm hm1 hm2 ?_; intro w1 hb0 hfr0; have B0 := Lib.hid hb0; have F0 := Lib.hid hfr0; have R0 := Lib.hid (HR.out.below (hfr0.below (Nat.le_refl _) (fun k h => h.elim))); clear hb0 hfr0)
    | (refine wpList_copy_rd w1 rfl _ _ 22 22 rfl 5 Try.underlying22 size5' w.heap.size xs.length (xs.length + 8) A xs.length c rfl rfl .u8 5 (List.replicate (xs.length + 8) (0 : Int)) xs [] (by rw [List.append_nil]; exact B0.out) R0.out rfl (Nat.le_refl _) hda ?_; intro w2 hb2 hf2))
  have O2 : Hid (Own w2 w.heap.size 5 .u8 (.slice (some ⟨w.heap.size, 0, none⟩) xs.length (xs.length + 8)) xs) := Lib.hid (Own.mk (rest := (List.replicate 8 (0 : Int)).map (Value.int .u8)) (Nat.le_refl _) (by
    have : (List.replicate (xs.length + 8) (0 : Int)).drop xs.length = List.replicate 8 0 := by simp
    rw [this, List.append_nil, List.map_append] at hb2; exact hb2) (by simp) (by unfold maxLen; omega))
  have W2 : Hid (Below w.heap.size w w2) := Lib.hid (((F0.out.below (Nat.le_refl _) (fun k h => h.elim)).trans (hf2.below F0.out.size (fun k h => by omega))))
  clear hb2 hf2 hm1 hm2 hda
  go_wp2_with fail
  go_loopw [6, 20] (fun v i wr => ∃ k : Nat, k ≤ 8 ∧ i = .int .i64 k ∧ Own wr w.heap.size 5 .u8 v (xs ++ leN X k) ∧ Below w.heap.size w wr) (fun _ i _ => 8 - (intOf i).toNat)
  case atStart => exact ⟨0, Nat.zero_le _, rfl, by simpa [leN, beN] using O2.out, W2.out⟩
  case round =>
    obtain ⟨k, hk, rfl, hown, hb⟩ := hrel
    have HO := Lib.hid hown
    have HW := Lib.hid hb
    have hsz := hb.size
    clear hown hb
    by_cases hlt : k < 8
    · have hc1 : ((xs ++ leN X k).length + 1) * 1 ≤ 140737488355328 := by rw [List.length_append, leN_len]; omega
      have hk4 : k = 0 ∨ k = 1 ∨ k = 2 ∨ k = 3 ∨ k = 4 ∨ k = 5 ∨ k = 6 ∨ k = 7 := by omega
      rcases hk4 with rfl | rfl | rfl | rfl | rfl | rfl | rfl | rfl
      · go_wp2_with (first | (at_builtin; refine wpList_push wr rfl _ _ 22 rfl w.heap.size 5 .u8 1 Try.underlying22 info5 _ rfl _ _ rfl rfl HO.out hc1 (by decide) hsz ?_; intro v' w1 hown1 hfr1))
        have hown2 : Own w1 w.heap.size 5 .u8 v' (xs ++ leN X 1) := by rw [leN_succ X 0, ← List.append_assoc]; exact own_cast hown1 (by simp [byt]; first | omega | done)
        exact ⟨⟨1, by omega, rfl, hown2, HW.out.trans (hfr1.below hsz (fun g hg => (HO.out.base_le hg).1))⟩, by simp [intOf]⟩
      · go_wp2_with (first | (at_builtin; refine wpList_push wr rfl _ _ 22 rfl w.heap.size 5 .u8 1 Try.underlying22 info5 _ rfl _ _ rfl rfl HO.out hc1 (by decide) hsz ?_; intro v' w1 hown1 hfr1))
        have hown2 : Own w1 w.heap.size 5 .u8 v' (xs ++ leN X 2) := by rw [leN_succ X 1, ← List.append_assoc]; exact own_cast hown1 (by simp [byt]; first | omega | done)
        exact ⟨⟨2, by omega, rfl, hown2, HW.out.trans (hfr1.below hsz (fun g hg => (HO.out.base_le hg).1))⟩, by simp [intOf]⟩
      · go_wp2_with (first | (at_builtin; refine wpList_push wr rfl _ _ 22 rfl w.heap.size 5 .u8 1 Try.underlying22 info5 _ rfl _ _ rfl rfl HO.out hc1 (by decide) hsz ?_; intro v' w1 hown1 hfr1))
        have hown2 : Own w1 w.heap.size 5 .u8 v' (xs ++ leN X 3) := by rw [leN_succ X 2, ← List.append_assoc]; exact own_cast hown1 (by simp [byt]; first | omega | done)
        exact ⟨⟨3, by omega, rfl, hown2, HW.out.trans (hfr1.below hsz (fun g hg => (HO.out.base_le hg).1))⟩, by simp [intOf]⟩
      · go_wp2_with (first | (at_builtin; refine wpList_push wr rfl _ _ 22 rfl w.heap.size 5 .u8 1 Try.underlying22 info5 _ rfl _ _ rfl rfl HO.out hc1 (by decide) hsz ?_; intro v' w1 hown1 hfr1))
        have hown2 : Own w1 w.heap.size 5 .u8 v' (xs ++ leN X 4) := by rw [leN_succ X 3, ← List.append_assoc]; exact own_cast hown1 (by simp [byt]; first | omega | done)
        exact ⟨⟨4, by omega, rfl, hown2, HW.out.trans (hfr1.below hsz (fun g hg => (HO.out.base_le hg).1))⟩, by simp [intOf]⟩
      · go_wp2_with (first | (at_builtin; refine wpList_push wr rfl _ _ 22 rfl w.heap.size 5 .u8 1 Try.underlying22 info5 _ rfl _ _ rfl rfl HO.out hc1 (by decide) hsz ?_; intro v' w1 hown1 hfr1))
        have hown2 : Own w1 w.heap.size 5 .u8 v' (xs ++ leN X 5) := by rw [leN_succ X 4, ← List.append_assoc]; exact own_cast hown1 (by simp [byt]; first | omega | done)
        exact ⟨⟨5, by omega, rfl, hown2, HW.out.trans (hfr1.below hsz (fun g hg => (HO.out.base_le hg).1))⟩, by simp [intOf]⟩
      · go_wp2_with (first | (at_builtin; refine wpList_push wr rfl _ _ 22 rfl w.heap.size 5 .u8 1 Try.underlying22 info5 _ rfl _ _ rfl rfl HO.out hc1 (by decide) hsz ?_; intro v' w1 hown1 hfr1))
        have hown2 : Own w1 w.heap.size 5 .u8 v' (xs ++ leN X 6) := by rw [leN_succ X 5, ← List.append_assoc]; exact own_cast hown1 (by simp [byt]; first | omega | done)
        exact ⟨⟨6, by omega, rfl, hown2, HW.out.trans (hfr1.below hsz (fun g hg => (HO.out.base_le hg).1))⟩, by simp [intOf]⟩
      · go_wp2_with (first | (at_builtin; refine wpList_push wr rfl _ _ 22 rfl w.heap.size 5 .u8 1 Try.underlying22 info5 _ rfl _ _ rfl rfl HO.out hc1 (by decide) hsz ?_; intro v' w1 hown1 hfr1))
        have hown2 : Own w1 w.heap.size 5 .u8 v' (xs ++ leN X 7) := by rw [leN_succ X 6, ← List.append_assoc]; exact own_cast hown1 (by simp [byt]; first | omega | done)
        exact ⟨⟨7, by omega, rfl, hown2, HW.out.trans (hfr1.below hsz (fun g hg => (HO.out.base_le hg).1))⟩, by simp [intOf]⟩
      · go_wp2_with (first | (at_builtin; refine wpList_push wr rfl _ _ 22 rfl w.heap.size 5 .u8 1 Try.underlying22 info5 _ rfl _ _ rfl rfl HO.out hc1 (by decide) hsz ?_; intro v' w1 hown1 hfr1))
        have hown2 : Own w1 w.heap.size 5 .u8 v' (xs ++ leN X 8) := by rw [leN_succ X 7, ← List.append_assoc]; exact own_cast hown1 (by simp [byt]; first | omega | done)
        exact ⟨⟨8, by omega, rfl, hown2, HW.out.trans (hfr1.below hsz (fun g hg => (HO.out.base_le hg).1))⟩, by simp [intOf]⟩
    · have HK : Hid (k = 8) := Lib.hid (by omega)
      have hge : decide ((k : Int) < 8) = false := by simp; omega
      go_wp2_with fail
      go_ret
      have ho := HO.out
      rw [HK.out] at ho
      exact ⟨_, rfl, ho, HW.out⟩

set_option maxHeartbeats 2000000 in
theorem pb64_any (A : Option Addr) (c n : Nat) (xs : List Int) (X : Nat) (w : World) (hn : n = xs.length) (hr : Rd w .u8 A xs) (hl : xs.length ≤ 140737488355000) (hX : X < 18446744073709551616) :
    Calls Try.prog 67 #[.slice A n c, .int .u64 X] w (Made 5 .u8 (xs ++ beN X 8 8) w) := by
  subst hn
  have HR := Lib.hid hr
  clear hr
  have hm1 : 1 * (xs.length + 8) ≤ 281474976710656 := by omega
  have hm2 : xs.length + 8 ≤ 9223372036854775807 := by omega
  have hCe : (xs.length : Int) + 8 = ((xs.length + 8 : Nat) : Int) := by omega
  have hnm : xs.length ≤ xs.length + 8 := by omega
  have hda : xs.length ≤ (List.replicate (xs.length + 8) (0 : Int)).length := by simp
  have HCE := Lib.hid hCe
  clear hCe
  go_enter Try.func67, Try.ntmps67
  go_wp2_with fail
  refine (width64_any w).mono ?_
  rintro e w' ⟨rfl, rfl⟩
  go_wp2_with (first
    | (refine wpList_make_room w rfl _ _ 22 rfl 5 .u8 1 Try.underlying22 info5 .i64 .i64 xs.length (xs.length + 8) _ _ rfl rfl rfl HCE.out hnm hm1 hm2 ?_; intro w1 hb0 hfr0; have B0 := Lib.hid hb0; have F0 := Lib.hid hfr0; have R0 := Lib.hid (HR.out.below (hfr0.below (Nat.le_refl _) (fun k h => h.elim))); clear hb0 hfr0)
    | (refine wpList_copy_rd w1 rfl _ _ 22 22 rfl 5 Try.underlying22 size5' w.heap.size xs.length (xs.length + 8) A xs.length c rfl rfl .u8 5 (List.replicate (xs.length + 8) (0 : Int)) xs [] (by rw [List.append_nil]; exact B0.out) R0.out rfl (Nat.le_refl _) hda ?_; intro w2 hb2 hf2))
  have O2 : Hid (Own w2 w.heap.size 5 .u8 (.slice (some ⟨w.heap.size, 0, none⟩) xs.length (xs.length + 8)) xs) := Lib.hid (Own.mk (rest := (List.replicate 8 (0 : Int)).map (Value.int .u8)) (Nat.le_refl _) (by
    have : (List.replicate (xs.length + 8) (0 : Int)).drop xs.length = List.replicate 8 0 := by simp
    rw [this, List.append_nil, List.map_append] at hb2; exact hb2) (by simp) (by unfold maxLen; omega))
  have W2 : Hid (Below w.heap.size w w2) := Lib.hid (((F0.out.below (Nat.le_refl _) (fun k h => h.elim)).trans (hf2.below F0.out.size (fun k h => by omega))))
  clear hb2 hf2 hm1 hm2 hda
  go_wp2_with fail
  go_loopw [6, 20] (fun v i wr => ∃ k : Nat, k ≤ 8 ∧ i = .int .i64 k ∧ Own wr w.heap.size 5 .u8 v (xs ++ beN X 8 k) ∧ Below w.heap.size w wr) (fun _ i _ => 8 - (intOf i).toNat)
  case atStart => exact ⟨0, Nat.zero_le _, rfl, by simpa [leN, beN] using O2.out, W2.out⟩
  case round =>
    obtain ⟨k, hk, rfl, hown, hb⟩ := hrel
    have HO := Lib.hid hown
    have HW := Lib.hid hb
    have hsz := hb.size
    clear hown hb
    by_cases hlt : k < 8
    · have hc1 : ((xs ++ beN X 8 k).length + 1) * 1 ≤ 140737488355328 := by rw [List.length_append, beN_len]; omega
      have hk4 : k = 0 ∨ k = 1 ∨ k = 2 ∨ k = 3 ∨ k = 4 ∨ k = 5 ∨ k = 6 ∨ k = 7 := by omega
      rcases hk4 with rfl | rfl | rfl | rfl | rfl | rfl | rfl | rfl
      · go_wp2_with (first | (at_builtin; refine wpList_push wr rfl _ _ 22 rfl w.heap.size 5 .u8 1 Try.underlying22 info5 _ rfl _ _ rfl rfl HO.out hc1 (by decide) hsz ?_; intro v' w1 hown1 hfr1))
        have hown2 : Own w1 w.heap.size 5 .u8 v' (xs ++ beN X 8 1) := by rw [beN_succ X 8 0, ← List.append_assoc]; exact own_cast hown1 (by simp [byt]; first | omega | done)
        exact ⟨⟨1, by omega, rfl, hown2, HW.out.trans (hfr1.below hsz (fun g hg => (HO.out.base_le hg).1))⟩, by simp [intOf]⟩
      · go_wp2_with (first | (at_builtin; refine wpList_push wr rfl _ _ 22 rfl w.heap.size 5 .u8 1 Try.underlying22 info5 _ rfl _ _ rfl rfl HO.out hc1 (by decide) hsz ?_; intro v' w1 hown1 hfr1))
        have hown2 : Own w1 w.heap.size 5 .u8 v' (xs ++ beN X 8 2) := by rw [beN_succ X 8 1, ← List.append_assoc]; exact own_cast hown1 (by simp [byt]; first | omega | done)
        exact ⟨⟨2, by omega, rfl, hown2, HW.out.trans (hfr1.below hsz (fun g hg => (HO.out.base_le hg).1))⟩, by simp [intOf]⟩
      · go_wp2_with (first | (at_builtin; refine wpList_push wr rfl _ _ 22 rfl w.heap.size 5 .u8 1 Try.underlying22 info5 _ rfl _ _ rfl rfl HO.out hc1 (by decide) hsz ?_; intro v' w1 hown1 hfr1))
        have hown2 : Own w1 w.heap.size 5 .u8 v' (xs ++ beN X 8 3) := by rw [beN_succ X 8 2, ← List.append_assoc]; exact own_cast hown1 (by simp [byt]; first | omega | done)
        exact ⟨⟨3, by omega, rfl, hown2, HW.out.trans (hfr1.below hsz (fun g hg => (HO.out.base_le hg).1))⟩, by simp [intOf]⟩
      · go_wp2_with (first | (at_builtin; refine wpList_push wr rfl _ _ 22 rfl w.heap.size 5 .u8 1 Try.underlying22 info5 _ rfl _ _ rfl rfl HO.out hc1 (by decide) hsz ?_; intro v' w1 hown1 hfr1))
        have hown2 : Own w1 w.heap.size 5 .u8 v' (xs ++ beN X 8 4) := by rw [beN_succ X 8 3, ← List.append_assoc]; exact own_cast hown1 (by simp [byt]; first | omega | done)
        exact ⟨⟨4, by omega, rfl, hown2, HW.out.trans (hfr1.below hsz (fun g hg => (HO.out.base_le hg).1))⟩, by simp [intOf]⟩
      · go_wp2_with (first | (at_builtin; refine wpList_push wr rfl _ _ 22 rfl w.heap.size 5 .u8 1 Try.underlying22 info5 _ rfl _ _ rfl rfl HO.out hc1 (by decide) hsz ?_; intro v' w1 hown1 hfr1))
        have hown2 : Own w1 w.heap.size 5 .u8 v' (xs ++ beN X 8 5) := by rw [beN_succ X 8 4, ← List.append_assoc]; exact own_cast hown1 (by simp [byt]; first | omega | done)
        exact ⟨⟨5, by omega, rfl, hown2, HW.out.trans (hfr1.below hsz (fun g hg => (HO.out.base_le hg).1))⟩, by simp [intOf]⟩
      · go_wp2_with (first | (at_builtin; refine wpList_push wr rfl _ _ 22 rfl w.heap.size 5 .u8 1 Try.underlying22 info5 _ rfl _ _ rfl rfl HO.out hc1 (by decide) hsz ?_; intro v' w1 hown1 hfr1))
        have hown2 : Own w1 w.heap.size 5 .u8 v' (xs ++ beN X 8 6) := by rw [beN_succ X 8 5, ← List.append_assoc]; exact own_cast hown1 (by simp [byt]; first | omega | done)
        exact ⟨⟨6, by omega, rfl, hown2, HW.out.trans (hfr1.below hsz (fun g hg => (HO.out.base_le hg).1))⟩, by simp [intOf]⟩
      · go_wp2_with (first | (at_builtin; refine wpList_push wr rfl _ _ 22 rfl w.heap.size 5 .u8 1 Try.underlying22 info5 _ rfl _ _ rfl rfl HO.out hc1 (by decide) hsz ?_; intro v' w1 hown1 hfr1))
        have hown2 : Own w1 w.heap.size 5 .u8 v' (xs ++ beN X 8 7) := by rw [beN_succ X 8 6, ← List.append_assoc]; exact own_cast hown1 (by simp [byt]; first | omega | done)
        exact ⟨⟨7, by omega, rfl, hown2, HW.out.trans (hfr1.below hsz (fun g hg => (HO.out.base_le hg).1))⟩, by simp [intOf]⟩
      · go_wp2_with (first | (at_builtin; refine wpList_push wr rfl _ _ 22 rfl w.heap.size 5 .u8 1 Try.underlying22 info5 _ rfl _ _ rfl rfl HO.out hc1 (by decide) hsz ?_; intro v' w1 hown1 hfr1))
        have hown2 : Own w1 w.heap.size 5 .u8 v' (xs ++ beN X 8 8) := by rw [beN_succ X 8 7, ← List.append_assoc]; exact own_cast hown1 (by simp [byt]; first | omega | done)
        exact ⟨⟨8, by omega, rfl, hown2, HW.out.trans (hfr1.below hsz (fun g hg => (HO.out.base_le hg).1))⟩, by simp [intOf]⟩
    · have HK : Hid (k = 8) := Lib.hid (by omega)
      have hge : decide ((k : Int) < 8) = false := by simp; omega
      go_wp2_with fail
      go_ret
      have ho := HO.out
      rw [HK.out] at ho
      exact ⟨_, rfl, ho, HW.out⟩

end Go.Proofs.Ytcibhaoilcohbaa

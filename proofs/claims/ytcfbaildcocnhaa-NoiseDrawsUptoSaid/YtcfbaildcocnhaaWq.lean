/-
  Walks: a uint64 and its bytes: width, PutLittle, low, fits, Little.
-/
import Derived.Test.YtcfbaildcocnhaaWo
set_option linter.unusedVariables false
set_option linter.unusedSimpArgs false
namespace Go.Proofs.Ytcfbaildcocnhaa
open Go.RowKit

theorem width64_any (w : World) : Calls Try.prog 81 #[] w fun e w' => e = .returned (.int .i64 8) ∧ w = w' := by
  go_enter Try.func81, Try.ntmps81
  go_wp2_with fail
  go_loop [1, 2] (fun a n => (a = .int .u64 18446744073709551615 ∧ n = .int .i64 0) ∨ (a = .int .u64 72057594037927935 ∧ n = .int .i64 1) ∨ (a = .int .u64 281474976710655 ∧ n = .int .i64 2) ∨ (a = .int .u64 1099511627775 ∧ n = .int .i64 3) ∨ (a = .int .u64 4294967295 ∧ n = .int .i64 4) ∨ (a = .int .u64 16777215 ∧ n = .int .i64 5) ∨ (a = .int .u64 65535 ∧ n = .int .i64 6) ∨ (a = .int .u64 255 ∧ n = .int .i64 7) ∨ (a = .int .u64 0 ∧ n = .int .i64 8)) (fun a n => 8 - (intOf n).toNat)
  case atStart => exact .inl ⟨rfl, rfl⟩
  case round =>
    rcases hrel with ⟨rfl, rfl⟩ | ⟨rfl, rfl⟩ | ⟨rfl, rfl⟩ | ⟨rfl, rfl⟩ | ⟨rfl, rfl⟩ | ⟨rfl, rfl⟩ | ⟨rfl, rfl⟩ | ⟨rfl, rfl⟩ | ⟨rfl, rfl⟩
    · go_wp2_with fail
      go_round
      case rel => exact .inr (.inl ⟨rfl, rfl⟩)
      case measure => simp [intOf]
    · go_wp2_with fail
      go_round
      case rel => exact .inr (.inr (.inl ⟨rfl, rfl⟩))
      case measure => simp [intOf]
    · go_wp2_with fail
      go_round
      case rel => exact .inr (.inr (.inr (.inl ⟨rfl, rfl⟩)))
      case measure => simp [intOf]
    · go_wp2_with fail
      go_round
      case rel => exact .inr (.inr (.inr (.inr (.inl ⟨rfl, rfl⟩))))
      case measure => simp [intOf]
    · go_wp2_with fail
      go_round
      case rel => exact .inr (.inr (.inr (.inr (.inr (.inl ⟨rfl, rfl⟩)))))
      case measure => simp [intOf]
    · go_wp2_with fail
      go_round
      case rel => exact .inr (.inr (.inr (.inr (.inr (.inr (.inl ⟨rfl, rfl⟩))))))
      case measure => simp [intOf]
    · go_wp2_with fail
      go_round
      case rel => exact .inr (.inr (.inr (.inr (.inr (.inr (.inr (.inl ⟨rfl, rfl⟩)))))))
      case measure => simp [intOf]
    · go_wp2_with fail
      go_round
      case rel => exact .inr (.inr (.inr (.inr (.inr (.inr (.inr (.inr (⟨rfl, rfl⟩))))))))
      case measure => simp [intOf]
    · go_wp2_with fail
      go_ret
      exact ⟨rfl, rfl⟩
set_option maxHeartbeats 2000000 in
theorem pl64_any (A : Option Addr) (c n : Nat) (xs : List Int) (X : Nat) (w : World) (hn : n = xs.length) (hr : Rd w .u8 A xs) (hl : xs.length ≤ 140737488355000) (hX : X < 18446744073709551616) :
    Calls Try.prog 85 #[.slice A n c, .int .u64 X] w (Made 5 .u8 (xs ++ leN X 8) w) := by
  subst hn
  have HR := Lib.hid hr
  clear hr
  have hm1 : 1 * (xs.length + 8) ≤ 281474976710656 := by omega
  have hm2 : xs.length + 8 ≤ 9223372036854775807 := by omega
  have hCe : (xs.length : Int) + 8 = ((xs.length + 8 : Nat) : Int) := by omega
  have hnm : xs.length ≤ xs.length + 8 := by omega
  have hda : xs.length ≤ (List.replicate (xs.length + 8) (0 : Int)).length := by simp
  have HCE := Lib.hid hCe
  clear hCe
  go_enter Try.func85, Try.ntmps85
  go_wp2_with fail
  refine (width64_any w).mono ?_
  rintro e w' ⟨rfl, rfl⟩
  go_wp2_with (first
    | (refine wpList_make_room w rfl _ _ 75 rfl 5 .u8 1 Try.underlying75 info5 .i64 .i64 xs.length (xs.length + 8) _ _ rfl rfl rfl HCE.out hnm hm1 hm2 ?_; intro w1 hb0 hfr0; have B0 := Lib.hid hb0; have F0 := Lib.hid hfr0; have R0 := Lib.hid (HR.out.below (hfr0.below (Nat.le_refl _) (fun k h => h.elim))); clear hb0 hfr0)
    | (refine wpList_copy_rd w1 rfl _ _ 75 75 rfl 5 Try.underlying75 size5' w.heap.size xs.length (xs.length + 8) A xs.length c rfl rfl .u8 5 (List.replicate (xs.length + 8) (0 : Int)) xs [] (by rw [List.append_nil]; exact B0.out) R0.out rfl (Nat.le_refl _) hda ?_; intro w2 hb2 hf2))
  have O2 : Hid (Own w2 w.heap.size 5 .u8 (.slice (some ⟨w.heap.size, 0, none⟩) xs.length (xs.length + 8)) xs) := Lib.hid (Own.mk (rest := (List.replicate 8 (0 : Int)).map (Value.int .u8)) (Nat.le_refl _) (by
    have : (List.replicate (xs.length + 8) (0 : Int)).drop xs.length = List.replicate 8 0 := by simp
    rw [this, List.append_nil, List.map_append] at hb2; exact hb2) (by simp) (by unfold maxLen; omega))
  have W2 : Hid (Below w.heap.size w w2) := Lib.hid (((F0.out.below (Nat.le_refl _) (fun k h => h.elim)).trans (hf2.below F0.out.size (fun k h => by omega))))
  clear hb2 hf2 hm1 hm2 hda
  go_wp2_with fail
  go_loopw [6, 20] (fun v i wr => ∃ k : Nat, k ≤ 8 ∧ i = .int .i64 k ∧ Own wr w.heap.size 5 .u8 v (xs ++ leN X k) ∧ Below w.heap.size w wr) (fun _ i _ => 8 - (intOf i).toNat)
  case atStart => exact ⟨0, Nat.zero_le _, rfl, by simpa [leN] using O2.out, W2.out⟩
  case round =>
    obtain ⟨k, hk, rfl, hown, hb⟩ := hrel
    have HO := Lib.hid hown
    have HW := Lib.hid hb
    have hsz := hb.size
    clear hown hb
    by_cases hlt : k < 8
    · have hc1 : ((xs ++ leN X k).length + 1) * 1 ≤ 140737488355328 := by rw [List.length_append, leN_len]; omega
      have hk4 : k = 0 ∨ k = 1 ∨ k = 2 ∨ k = 3 ∨ k = 4 ∨ k = 5 ∨ k = 6 ∨ k = 7 := by omega
      rcases hk4 with rfl | rfl | rfl | rfl | rfl | rfl | rfl | rfl
      · go_wp2_with (first | (at_builtin; refine wpList_push wr rfl _ _ 75 rfl w.heap.size 5 .u8 1 Try.underlying75 info5 _ rfl _ _ rfl rfl HO.out hc1 (by decide) hsz ?_; intro v' w1 hown1 hfr1))
        have hown2 : Own w1 w.heap.size 5 .u8 v' (xs ++ leN X 1) := by rw [leN_succ X 0, ← List.append_assoc]; exact own_cast hown1 (by simp [byt]; first | omega | done)
        exact ⟨⟨1, by omega, rfl, hown2, HW.out.trans (hfr1.below hsz (fun g hg => (HO.out.base_le hg).1))⟩, by simp [intOf]⟩
      · go_wp2_with (first | (at_builtin; refine wpList_push wr rfl _ _ 75 rfl w.heap.size 5 .u8 1 Try.underlying75 info5 _ rfl _ _ rfl rfl HO.out hc1 (by decide) hsz ?_; intro v' w1 hown1 hfr1))
        have hown2 : Own w1 w.heap.size 5 .u8 v' (xs ++ leN X 2) := by rw [leN_succ X 1, ← List.append_assoc]; exact own_cast hown1 (by simp [byt]; first | omega | done)
        exact ⟨⟨2, by omega, rfl, hown2, HW.out.trans (hfr1.below hsz (fun g hg => (HO.out.base_le hg).1))⟩, by simp [intOf]⟩
      · go_wp2_with (first | (at_builtin; refine wpList_push wr rfl _ _ 75 rfl w.heap.size 5 .u8 1 Try.underlying75 info5 _ rfl _ _ rfl rfl HO.out hc1 (by decide) hsz ?_; intro v' w1 hown1 hfr1))
        have hown2 : Own w1 w.heap.size 5 .u8 v' (xs ++ leN X 3) := by rw [leN_succ X 2, ← List.append_assoc]; exact own_cast hown1 (by simp [byt]; first | omega | done)
        exact ⟨⟨3, by omega, rfl, hown2, HW.out.trans (hfr1.below hsz (fun g hg => (HO.out.base_le hg).1))⟩, by simp [intOf]⟩
      · go_wp2_with (first | (at_builtin; refine wpList_push wr rfl _ _ 75 rfl w.heap.size 5 .u8 1 Try.underlying75 info5 _ rfl _ _ rfl rfl HO.out hc1 (by decide) hsz ?_; intro v' w1 hown1 hfr1))
        have hown2 : Own w1 w.heap.size 5 .u8 v' (xs ++ leN X 4) := by rw [leN_succ X 3, ← List.append_assoc]; exact own_cast hown1 (by simp [byt]; first | omega | done)
        exact ⟨⟨4, by omega, rfl, hown2, HW.out.trans (hfr1.below hsz (fun g hg => (HO.out.base_le hg).1))⟩, by simp [intOf]⟩
      · go_wp2_with (first | (at_builtin; refine wpList_push wr rfl _ _ 75 rfl w.heap.size 5 .u8 1 Try.underlying75 info5 _ rfl _ _ rfl rfl HO.out hc1 (by decide) hsz ?_; intro v' w1 hown1 hfr1))
        have hown2 : Own w1 w.heap.size 5 .u8 v' (xs ++ leN X 5) := by rw [leN_succ X 4, ← List.append_assoc]; exact own_cast hown1 (by simp [byt]; first | omega | done)
        exact ⟨⟨5, by omega, rfl, hown2, HW.out.trans (hfr1.below hsz (fun g hg => (HO.out.base_le hg).1))⟩, by simp [intOf]⟩
      · go_wp2_with (first | (at_builtin; refine wpList_push wr rfl _ _ 75 rfl w.heap.size 5 .u8 1 Try.underlying75 info5 _ rfl _ _ rfl rfl HO.out hc1 (by decide) hsz ?_; intro v' w1 hown1 hfr1))
        have hown2 : Own w1 w.heap.size 5 .u8 v' (xs ++ leN X 6) := by rw [leN_succ X 5, ← List.append_assoc]; exact own_cast hown1 (by simp [byt]; first | omega | done)
        exact ⟨⟨6, by omega, rfl, hown2, HW.out.trans (hfr1.below hsz (fun g hg => (HO.out.base_le hg).1))⟩, by simp [intOf]⟩
      · go_wp2_with (first | (at_builtin; refine wpList_push wr rfl _ _ 75 rfl w.heap.size 5 .u8 1 Try.underlying75 info5 _ rfl _ _ rfl rfl HO.out hc1 (by decide) hsz ?_; intro v' w1 hown1 hfr1))
        have hown2 : Own w1 w.heap.size 5 .u8 v' (xs ++ leN X 7) := by rw [leN_succ X 6, ← List.append_assoc]; exact own_cast hown1 (by simp [byt]; first | omega | done)
        exact ⟨⟨7, by omega, rfl, hown2, HW.out.trans (hfr1.below hsz (fun g hg => (HO.out.base_le hg).1))⟩, by simp [intOf]⟩
      · go_wp2_with (first | (at_builtin; refine wpList_push wr rfl _ _ 75 rfl w.heap.size 5 .u8 1 Try.underlying75 info5 _ rfl _ _ rfl rfl HO.out hc1 (by decide) hsz ?_; intro v' w1 hown1 hfr1))
        have hown2 : Own w1 w.heap.size 5 .u8 v' (xs ++ leN X 8) := by rw [leN_succ X 7, ← List.append_assoc]; exact own_cast hown1 (by simp [byt]; first | omega | done)
        exact ⟨⟨8, by omega, rfl, hown2, HW.out.trans (hfr1.below hsz (fun g hg => (HO.out.base_le hg).1))⟩, by simp [intOf]⟩
    · have HK : Hid (k = 8) := Lib.hid (by omega)
      have hge : decide ((k : Int) < 8) = false := by simp; omega
      go_wp2_with fail
      go_ret
      have ho := HO.out
      rw [HK.out] at ho
      exact ⟨_, rfl, ho, HW.out⟩
set_option maxHeartbeats 2000000 in
theorem low64_any (A : Option Addr) (n c : Nat) (xs : List Int) (w : World) (hn : n = xs.length) (hr : Rd w .u8 A xs) (hB : B8 xs) (hs : n ≤ 8) :
    Calls Try.prog 75 #[.slice A n c] w fun e w' => e = .returned (.int .u64 (leV xs n : Nat)) ∧ w' = w := by
  have HR := Lib.hid hr
  have HN := Lib.hid hn
  have HB := Lib.hid hB
  clear hr hn hB
  go_enter Try.func75, Try.ntmps75
  go_wp2_with fail
  go_loop [3, 8] (fun v i => ∃ k V : Nat, k ≤ n ∧ i = .int .i64 k ∧ v = .int .u64 V ∧ Hid (V = leV xs k)) (fun _ i => n - (intOf i).toNat)
  case atStart => exact ⟨0, 0, Nat.zero_le _, rfl, rfl, Lib.hid rfl⟩
  case round =>
    obtain ⟨k, V, hk, rfl, rfl, HV⟩ := hrel
    by_cases hlt : k < n
    · obtain ⟨b, off, y, rfl, hc, HY⟩ := HR.out.at k (by have := HN.out; omega)
      obtain ⟨Y, hY⟩ : ∃ Y : Nat, y = (Y : Int) := ⟨y.toNat, by have := HB.out k; have := HY.out; omega⟩
      have hY8 : Y < 256 := by have := HB.out k; have := HY.out; omega
      subst hY
      have hVC : V < 256 ^ k := by rw [HV.out]; exact leV_lt HB.out k
      have hk4 : k = 0 ∨ k = 1 ∨ k = 2 ∨ k = 3 ∨ k = 4 ∨ k = 5 ∨ k = 6 ∨ k = 7 := by omega
      rcases hk4 with rfl | rfl | rfl | rfl | rfl | rfl | rfl | rfl
      · rw [Nat.add_zero] at hc
        go_wp2_with fail
        go_round
        case rel => exact ⟨1, V + Y * 1, by omega, rfl, congrArg (Value.int .u64) (by have h := u64_or_nat V Y (by omega) (by omega); have hv : V = 0 := (by omega); subst hv; rw [Nat.zero_or] at h; rw [Nat.zero_add, Nat.mul_one]; exact h), Lib.hid (lev_next HV.out HY.out (by decide))⟩
        case measure => simp [intOf]; omega
      · go_wp2_with fail
        go_round
        case rel => exact ⟨2, V + Y * 256, by omega, rfl, congrArg (Value.int .u64) (by have h := u64_or_nat V (Y * 256) (by omega) (by omega); rw [Nat.or_comm, nat_join 8 (Y * 256) V (by omega) (by omega)] at h; rw [show ((Y : Int) * 256) = ((Y * 256 : Nat) : Int) from by omega, h]; omega), Lib.hid (lev_next HV.out HY.out (by decide))⟩
        case measure => simp [intOf]; omega
      · go_wp2_with fail
        go_round
        case rel => exact ⟨3, V + Y * 65536, by omega, rfl, congrArg (Value.int .u64) (by have h := u64_or_nat V (Y * 65536) (by omega) (by omega); rw [Nat.or_comm, nat_join 16 (Y * 65536) V (by omega) (by omega)] at h; rw [show ((Y : Int) * 65536) = ((Y * 65536 : Nat) : Int) from by omega, h]; omega), Lib.hid (lev_next HV.out HY.out (by decide))⟩
        case measure => simp [intOf]; omega
      · go_wp2_with fail
        go_round
        case rel => exact ⟨4, V + Y * 16777216, by omega, rfl, congrArg (Value.int .u64) (by have h := u64_or_nat V (Y * 16777216) (by omega) (by omega); rw [Nat.or_comm, nat_join 24 (Y * 16777216) V (by omega) (by omega)] at h; rw [show ((Y : Int) * 16777216) = ((Y * 16777216 : Nat) : Int) from by omega, h]; omega), Lib.hid (lev_next HV.out HY.out (by decide))⟩
        case measure => simp [intOf]; omega
      · go_wp2_with fail
        go_round
        case rel => exact ⟨5, V + Y * 4294967296, by omega, rfl, congrArg (Value.int .u64) (by have h := u64_or_nat V (Y * 4294967296) (by omega) (by omega); rw [Nat.or_comm, nat_join 32 (Y * 4294967296) V (by omega) (by omega)] at h; rw [show ((Y : Int) * 4294967296) = ((Y * 4294967296 : Nat) : Int) from by omega, h]; omega), Lib.hid (lev_next HV.out HY.out (by decide))⟩
        case measure => simp [intOf]; omega
      · go_wp2_with fail
        go_round
        case rel => exact ⟨6, V + Y * 1099511627776, by omega, rfl, congrArg (Value.int .u64) (by have h := u64_or_nat V (Y * 1099511627776) (by omega) (by omega); rw [Nat.or_comm, nat_join 40 (Y * 1099511627776) V (by omega) (by omega)] at h; rw [show ((Y : Int) * 1099511627776) = ((Y * 1099511627776 : Nat) : Int) from by omega, h]; omega), Lib.hid (lev_next HV.out HY.out (by decide))⟩
        case measure => simp [intOf]; omega
      · go_wp2_with fail
        go_round
        case rel => exact ⟨7, V + Y * 281474976710656, by omega, rfl, congrArg (Value.int .u64) (by have h := u64_or_nat V (Y * 281474976710656) (by omega) (by omega); rw [Nat.or_comm, nat_join 48 (Y * 281474976710656) V (by omega) (by omega)] at h; rw [show ((Y : Int) * 281474976710656) = ((Y * 281474976710656 : Nat) : Int) from by omega, h]; omega), Lib.hid (lev_next HV.out HY.out (by decide))⟩
        case measure => simp [intOf]; omega
      · go_wp2_with fail
        go_round
        case rel => exact ⟨8, V + Y * 72057594037927936, by omega, rfl, congrArg (Value.int .u64) (by have h := u64_or_nat V (Y * 72057594037927936) (by omega) (by omega); rw [Nat.or_comm, nat_join 56 (Y * 72057594037927936) V (by omega) (by omega)] at h; rw [show ((Y : Int) * 72057594037927936) = ((Y * 72057594037927936 : Nat) : Int) from by omega, h]; omega), Lib.hid (lev_next HV.out HY.out (by decide))⟩
        case measure => simp [intOf]; omega
    · have HK : Hid (k = n) := Lib.hid (by omega)
      have hge : decide ((k : Int) < (n : Int)) = false := by simp; omega
      go_wp2_with fail
      go_ret
      exact ⟨by rw [HV.out, HK.out]; first | done | rfl, rfl⟩
theorem fits64_any (A : Option Addr) (n c : Nat) (w : World) : Calls Try.prog 74 #[.slice A n c] w fun e w' => e = .returned (.int .i64 (errR n 8)) ∧ w' = w := by
  go_enter Try.func74, Try.ntmps74
  go_wp2_with fail
  refine (width64_any w).mono ?_
  rintro e w' ⟨rfl, rfl⟩
  by_cases h1 : n < 8
  · have h2 : decide ((n : Int) < 8) = true := by simp; omega
    go_wp2_with fail
    go_ret
    exact ⟨by simp [errR, h1], rfl⟩
  · have h2 : decide ((n : Int) < 8) = false := by simp; omega
    by_cases h3 : 8 < n
    · have h4 : decide (8 < (n : Int)) = true := by simp; omega
      go_wp2_with fail
      go_ret
      exact ⟨by simp [errR, h1, h3], rfl⟩
    · have h4 : decide (8 < (n : Int)) = false := by simp; omega
      go_wp2_with fail
      go_ret
      exact ⟨by simp [errR, h1, h3], rfl⟩
theorem little64_any (A : Option Addr) (n c : Nat) (xs : List Int) (w : World) (hn : n = xs.length) (hr : Rd w .u8 A xs) (hB : B8 xs) :
    Calls Try.prog 62 #[.slice A n c] w fun e w' => e = .returned (.tuple #[.int .u64 (litR xs n 8 : Nat), .int .i64 (errR n 8)]) ∧ w' = w := by
  have HR := Lib.hid hr
  have HN := Lib.hid hn
  have HB := Lib.hid hB
  clear hr hn hB
  go_enter Try.func62, Try.ntmps62
  go_wp2_with fail
  refine (fits64_any A n c w).mono ?_
  rintro e w' ⟨rfl, rfl⟩
  by_cases h1 : n < 8
  · have he : errR n 8 = 20 := by simp [errR, h1]
    have hv : litR xs n 8 = 0 := by unfold litR; rw [if_neg (by omega)]
    have HVV := Lib.hid hv
    have HEE := Lib.hid he
    rw [he]
    clear he hv
    go_wp2_with fail
    go_ret2
    exact ⟨by rw [HVV.out, HEE.out]; first | done | rfl, rfl⟩
  · by_cases h3 : 8 < n
    · have he : errR n 8 = 21 := by simp [errR, h1, h3]
      have hv : litR xs n 8 = 0 := by unfold litR; rw [if_neg (by omega)]
      have HVV := Lib.hid hv
      have HEE := Lib.hid he
      rw [he]
      clear he hv
      go_wp2_with fail
      go_ret2
      exact ⟨by rw [HVV.out, HEE.out]; first | done | rfl, rfl⟩
    · have he : errR n 8 = 0 := by simp [errR, h1, h3]
      have hv : litR xs n 8 = leV xs n := by unfold litR; rw [if_pos (by omega)]
      have HVV := Lib.hid hv
      have HEE := Lib.hid he
      rw [he]
      clear he hv
      go_wp2_with fail
      refine (low64_any A n c xs w' HN.out HR.out HB.out (by omega)).mono ?_
      rintro e w2 ⟨rfl, rfl⟩
      go_wp2_with fail
      go_ret2
      exact ⟨by rw [HVV.out, HEE.out]; first | done | rfl, rfl⟩
end Go.Proofs.Ytcfbaildcocnhaa

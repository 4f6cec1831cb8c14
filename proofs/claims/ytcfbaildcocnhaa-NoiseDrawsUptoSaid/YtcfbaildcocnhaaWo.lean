/-
  Walks: words and their bytes: width, fits, low, Little, PutLittle of a uint32; the document's Little, Num, Bytes.
-/
import Derived.Test.YtcfbaildcocnhaaHb
import Derived.Laws.BitsAllLaws
set_option linter.unusedVariables false
set_option linter.unusedSimpArgs false
namespace Go.Proofs.Ytcfbaildcocnhaa
open Go.RowKit

/-- The k-th byte of a number. -/
def byt (X : Nat) (k : Nat) : Int := ((X / 256 ^ k % 256 : Nat) : Int)
/-- The first k bytes; from the s-th down, k of them. -/
def leN (X k : Nat) : List Int := (List.range k).map (byt X)
theorem leN_len (X k : Nat) : (leN X k).length = k := by simp [leN]
theorem leN_succ (X k : Nat) : leN X (k + 1) = leN X k ++ [byt X k] := by simp [leN, List.range_succ]
theorem own_cast {w : World} {base T : Nat} {k : IntKind} {v : Value} {xs : List Int} {y z : Int} (h : Own w base T k v (xs ++ [y])) (e : y = z) : Own w base T k v (xs ++ [z]) := e ▸ h
theorem width32_any (w : World) : Calls Try.prog 96 #[] w fun e w' => e = .returned (.int .i64 4) ∧ w = w' := by
  go_enter Try.func96, Try.ntmps96
  go_wp2_with fail
  go_loop [1, 2] (fun a n => (a = .int .u32 4294967295 ∧ n = .int .i64 0) ∨ (a = .int .u32 16777215 ∧ n = .int .i64 1) ∨ (a = .int .u32 65535 ∧ n = .int .i64 2) ∨ (a = .int .u32 255 ∧ n = .int .i64 3) ∨ (a = .int .u32 0 ∧ n = .int .i64 4)) (fun a n => 4 - (intOf n).toNat)
  case atStart => exact .inl ⟨rfl, rfl⟩
  case round =>
    rcases hrel with ⟨rfl, rfl⟩ | ⟨rfl, rfl⟩ | ⟨rfl, rfl⟩ | ⟨rfl, rfl⟩ | ⟨rfl, rfl⟩
    · go_wp2_with fail
      go_round
      case rel => exact .inr (.inl ⟨rfl, rfl⟩)
      case measure => simp [intOf]
    · go_wp2_with fail
      go_round
      case rel => exact .inr (.inr (.inl ⟨rfl, rfl⟩))
      case measure => simp [intOf]
    · go_wp2_with fail
      go_round
      case rel => exact .inr (.inr (.inr (.inl ⟨rfl, rfl⟩)))
      case measure => simp [intOf]
    · go_wp2_with fail
      go_round
      case rel => exact .inr (.inr (.inr (.inr (⟨rfl, rfl⟩))))
      case measure => simp [intOf]
    · go_wp2_with fail
      go_ret
      exact ⟨rfl, rfl⟩
set_option maxHeartbeats 2000000 in
theorem pl32_any (A : Option Addr) (c n : Nat) (xs : List Int) (X : Nat) (w : World) (hn : n = xs.length) (hr : Rd w .u8 A xs) (hl : xs.length ≤ 140737488355000) (hX : X < 4294967296) :
    Calls Try.prog 84 #[.slice A n c, .int .u32 X] w (Made 5 .u8 (xs ++ leN X 4) w) := by
  subst hn
  have HR := Lib.hid hr
  clear hr
  have hm1 : 1 * (xs.length + 4) ≤ 281474976710656 := by omega
  have hm2 : xs.length + 4 ≤ 9223372036854775807 := by omega
  have hCe : (xs.length : Int) + 4 = ((xs.length + 4 : Nat) : Int) := by omega
  have hnm : xs.length ≤ xs.length + 4 := by omega
  have hda : xs.length ≤ (List.replicate (xs.length + 4) (0 : Int)).length := by simp
  have HCE := Lib.hid hCe
  clear hCe
  go_enter Try.func84, Try.ntmps84
  go_wp2_with fail
  refine (width32_any w).mono ?_
  rintro e w' ⟨rfl, rfl⟩
  go_wp2_with (first
    | (refine wpList_make_room w rfl _ _ 75 rfl 5 .u8 1 Try.underlying75 info5 .i64 .i64 xs.length (xs.length + 4) _ _ rfl rfl rfl HCE.out hnm hm1 hm2 ?_; intro w1 hb0 hfr0; have B0 := Lib.hid hb0; have F0 := Lib.hid hfr0; have R0 := Lib.hid (HR.out.below (hfr0.below (Nat.le_refl _) (fun k h => h.elim))); clear hb0 hfr0)
    | (refine wpList_copy_rd w1 rfl _ _ 75 75 rfl 5 Try.underlying75 size5' w.heap.size xs.length (xs.length + 4) A xs.length c rfl rfl .u8 5 (List.replicate (xs.length + 4) (0 : Int)) xs [] (by rw [List.append_nil]; exact B0.out) R0.out rfl (Nat.le_refl _) hda ?_; intro w2 hb2 hf2))
  have O2 : Hid (Own w2 w.heap.size 5 .u8 (.slice (some ⟨w.heap.size, 0, none⟩) xs.length (xs.length + 4)) xs) := Lib.hid (Own.mk (rest := (List.replicate 4 (0 : Int)).map (Value.int .u8)) (Nat.le_refl _) (by
    have : (List.replicate (xs.length + 4) (0 : Int)).drop xs.length = List.replicate 4 0 := by simp
    rw [this, List.append_nil, List.map_append] at hb2; exact hb2) (by simp) (by unfold maxLen; omega))
  have W2 : Hid (Below w.heap.size w w2) := Lib.hid (((F0.out.below (Nat.le_refl _) (fun k h => h.elim)).trans (hf2.below F0.out.size (fun k h => by omega))))
  clear hb2 hf2 hm1 hm2 hda
  go_wp2_with fail
  go_loopw [6, 20] (fun v i wr => ∃ k : Nat, k ≤ 4 ∧ i = .int .i64 k ∧ Own wr w.heap.size 5 .u8 v (xs ++ leN X k) ∧ Below w.heap.size w wr) (fun _ i _ => 4 - (intOf i).toNat)
  case atStart => exact ⟨0, Nat.zero_le _, rfl, by simpa [leN] using O2.out, W2.out⟩
  case round =>
    obtain ⟨k, hk, rfl, hown, hb⟩ := hrel
    have HO := Lib.hid hown
    have HW := Lib.hid hb
    have hsz := hb.size
    clear hown hb
    by_cases hlt : k < 4
    · have hc1 : ((xs ++ leN X k).length + 1) * 1 ≤ 140737488355328 := by rw [List.length_append, leN_len]; omega
      have hk4 : k = 0 ∨ k = 1 ∨ k = 2 ∨ k = 3 := by omega
      rcases hk4 with rfl | rfl | rfl | rfl
      · go_wp2_with (first | (at_builtin; refine wpList_push wr rfl _ _ 75 rfl w.heap.size 5 .u8 1 Try.underlying75 info5 _ rfl _ _ rfl rfl HO.out hc1 (by decide) hsz ?_; intro v' w1 hown1 hfr1))
        have hown2 : Own w1 w.heap.size 5 .u8 v' (xs ++ leN X 1) := by rw [leN_succ X 0, ← List.append_assoc]; exact own_cast hown1 (by simp [byt]; first | omega | done)
        exact ⟨⟨1, by omega, rfl, hown2, HW.out.trans (hfr1.below hsz (fun g hg => (HO.out.base_le hg).1))⟩, by simp [intOf]⟩
      · go_wp2_with (first | (at_builtin; refine wpList_push wr rfl _ _ 75 rfl w.heap.size 5 .u8 1 Try.underlying75 info5 _ rfl _ _ rfl rfl HO.out hc1 (by decide) hsz ?_; intro v' w1 hown1 hfr1))
        have hown2 : Own w1 w.heap.size 5 .u8 v' (xs ++ leN X 2) := by rw [leN_succ X 1, ← List.append_assoc]; exact own_cast hown1 (by simp [byt]; first | omega | done)
        exact ⟨⟨2, by omega, rfl, hown2, HW.out.trans (hfr1.below hsz (fun g hg => (HO.out.base_le hg).1))⟩, by simp [intOf]⟩
      · go_wp2_with (first | (at_builtin; refine wpList_push wr rfl _ _ 75 rfl w.heap.size 5 .u8 1 Try.underlying75 info5 _ rfl _ _ rfl rfl HO.out hc1 (by decide) hsz ?_; intro v' w1 hown1 hfr1))
        have hown2 : Own w1 w.heap.size 5 .u8 v' (xs ++ leN X 3) := by rw [leN_succ X 2, ← List.append_assoc]; exact own_cast hown1 (by simp [byt]; first | omega | done)
        exact ⟨⟨3, by omega, rfl, hown2, HW.out.trans (hfr1.below hsz (fun g hg => (HO.out.base_le hg).1))⟩, by simp [intOf]⟩
      · go_wp2_with (first | (at_builtin; refine wpList_push wr rfl _ _ 75 rfl w.heap.size 5 .u8 1 Try.underlying75 info5 _ rfl _ _ rfl rfl HO.out hc1 (by decide) hsz ?_; intro v' w1 hown1 hfr1))
        have hown2 : Own w1 w.heap.size 5 .u8 v' (xs ++ leN X 4) := by rw [leN_succ X 3, ← List.append_assoc]; exact own_cast hown1 (by simp [byt]; first | omega | done)
        exact ⟨⟨4, by omega, rfl, hown2, HW.out.trans (hfr1.below hsz (fun g hg => (HO.out.base_le hg).1))⟩, by simp [intOf]⟩
    · have HK : Hid (k = 4) := Lib.hid (by omega)
      have hge : decide ((k : Int) < 4) = false := by simp; omega
      go_wp2_with fail
      go_ret
      have ho := HO.out
      rw [HK.out] at ho
      exact ⟨_, rfl, ho, HW.out⟩
/-- The number whose bytes these are, the first k; the same from the highest of s bytes on. -/
def leV (xs : List Int) : Nat → Nat
  | 0 => 0
  | k + 1 => leV xs k + (xs.getD k 0).toNat * 256 ^ k
def B8 (xs : List Int) : Prop := ∀ i, 0 ≤ xs.getD i 0 ∧ xs.getD i 0 ≤ 255
theorem leV_lt {xs : List Int} (h : B8 xs) (k : Nat) : leV xs k < 256 ^ k := by
  induction k with
  | zero => simp [leV]
  | succ k ih =>
    have h1 := h k
    have h2 : (xs.getD k 0).toNat ≤ 255 := by omega
    have h3 : (xs.getD k 0).toNat * 256 ^ k ≤ 255 * 256 ^ k := Nat.mul_le_mul_right _ h2
    have h4 : 256 ^ (k + 1) = 256 * 256 ^ k := by rw [Nat.pow_succ, Nat.mul_comm]
    have e : leV xs (k + 1) = leV xs k + (xs.getD k 0).toNat * 256 ^ k := rfl
    rw [e, h4]; omega
theorem lev_next {xs : List Int} {k V Y C : Nat} (h : V = leV xs k) (hy : (Y : Int) = xs.getD k 0) (hC : C = 256 ^ k) : V + Y * C = leV xs (k + 1) := by
  have e : (xs.getD k 0).toNat = Y := by rw [← hy]; rfl
  show V + Y * C = leV xs k + (xs.getD k 0).toNat * 256 ^ k
  rw [h, e, hC]
def litR (xs : List Int) (n s : Nat) : Nat := if n = s then leV xs n else 0
def errR (n s : Nat) : Int := if n < s then 20 else if s < n then 21 else 0
set_option maxHeartbeats 2000000 in
theorem low32_any (A : Option Addr) (n c : Nat) (xs : List Int) (w : World) (hn : n = xs.length) (hr : Rd w .u8 A xs) (hB : B8 xs) (hs : n ≤ 4) :
    Calls Try.prog 107 #[.slice A n c] w fun e w' => e = .returned (.int .u32 (leV xs n : Nat)) ∧ w' = w := by
  have HR := Lib.hid hr
  have HN := Lib.hid hn
  have HB := Lib.hid hB
  clear hr hn hB
  go_enter Try.func107, Try.ntmps107
  go_wp2_with fail
  go_loop [3, 8] (fun v i => ∃ k V : Nat, k ≤ n ∧ i = .int .i64 k ∧ v = .int .u32 V ∧ Hid (V = leV xs k)) (fun _ i => n - (intOf i).toNat)
  case atStart => exact ⟨0, 0, Nat.zero_le _, rfl, rfl, Lib.hid rfl⟩
  case round =>
    obtain ⟨k, V, hk, rfl, rfl, HV⟩ := hrel
    by_cases hlt : k < n
    · obtain ⟨b, off, y, rfl, hc, HY⟩ := HR.out.at k (by have := HN.out; omega)
      obtain ⟨Y, hY⟩ : ∃ Y : Nat, y = (Y : Int) := ⟨y.toNat, by have := HB.out k; have := HY.out; omega⟩
      have hY8 : Y < 256 := by have := HB.out k; have := HY.out; omega
      subst hY
      have hVC : V < 256 ^ k := by rw [HV.out]; exact leV_lt HB.out k
      have hk4 : k = 0 ∨ k = 1 ∨ k = 2 ∨ k = 3 := by omega
      rcases hk4 with rfl | rfl | rfl | rfl
      · rw [Nat.add_zero] at hc
        go_wp2_with fail
        go_round
        case rel => exact ⟨1, V + Y * 1, by omega, rfl, congrArg (Value.int .u32) (by have h := u32_or_nat V Y (by omega) (by omega); have hv : V = 0 := (by omega); subst hv; rw [Nat.zero_or] at h; rw [Nat.zero_add, Nat.mul_one]; exact h), Lib.hid (lev_next HV.out HY.out (by decide))⟩
        case measure => simp [intOf]; omega
      · go_wp2_with fail
        go_round
        case rel => exact ⟨2, V + Y * 256, by omega, rfl, congrArg (Value.int .u32) (by have h := u32_or_nat V (Y * 256) (by omega) (by omega); rw [Nat.or_comm, nat_join 8 (Y * 256) V (by omega) (by omega)] at h; rw [show ((Y : Int) * 256) = ((Y * 256 : Nat) : Int) from by omega, h]; omega), Lib.hid (lev_next HV.out HY.out (by decide))⟩
        case measure => simp [intOf]; omega
      · go_wp2_with fail
        go_round
        case rel => exact ⟨3, V + Y * 65536, by omega, rfl, congrArg (Value.int .u32) (by have h := u32_or_nat V (Y * 65536) (by omega) (by omega); rw [Nat.or_comm, nat_join 16 (Y * 65536) V (by omega) (by omega)] at h; rw [show ((Y : Int) * 65536) = ((Y * 65536 : Nat) : Int) from by omega, h]; omega), Lib.hid (lev_next HV.out HY.out (by decide))⟩
        case measure => simp [intOf]; omega
      · go_wp2_with fail
        go_round
        case rel => exact ⟨4, V + Y * 16777216, by omega, rfl, congrArg (Value.int .u32) (by have h := u32_or_nat V (Y * 16777216) (by omega) (by omega); rw [Nat.or_comm, nat_join 24 (Y * 16777216) V (by omega) (by omega)] at h; rw [show ((Y : Int) * 16777216) = ((Y * 16777216 : Nat) : Int) from by omega, h]; omega), Lib.hid (lev_next HV.out HY.out (by decide))⟩
        case measure => simp [intOf]; omega
    · have HK : Hid (k = n) := Lib.hid (by omega)
      have hge : decide ((k : Int) < (n : Int)) = false := by simp; omega
      go_wp2_with fail
      go_ret
      exact ⟨by rw [HV.out, HK.out]; first | done | rfl, rfl⟩
theorem fits32_any (A : Option Addr) (n c : Nat) (w : World) : Calls Try.prog 106 #[.slice A n c] w fun e w' => e = .returned (.int .i64 (errR n 4)) ∧ w' = w := by
  go_enter Try.func106, Try.ntmps106
  go_wp2_with fail
  refine (width32_any w).mono ?_
  rintro e w' ⟨rfl, rfl⟩
  by_cases h1 : n < 4
  · have h2 : decide ((n : Int) < 4) = true := by simp; omega
    go_wp2_with fail
    go_ret
    exact ⟨by simp [errR, h1], rfl⟩
  · have h2 : decide ((n : Int) < 4) = false := by simp; omega
    by_cases h3 : 4 < n
    · have h4 : decide (4 < (n : Int)) = true := by simp; omega
      go_wp2_with fail
      go_ret
      exact ⟨by simp [errR, h1, h3], rfl⟩
    · have h4 : decide (4 < (n : Int)) = false := by simp; omega
      go_wp2_with fail
      go_ret
      exact ⟨by simp [errR, h1, h3], rfl⟩
theorem little32_any (A : Option Addr) (n c : Nat) (xs : List Int) (w : World) (hn : n = xs.length) (hr : Rd w .u8 A xs) (hB : B8 xs) :
    Calls Try.prog 103 #[.slice A n c] w fun e w' => e = .returned (.tuple #[.int .u32 (litR xs n 4 : Nat), .int .i64 (errR n 4)]) ∧ w' = w := by
  have HR := Lib.hid hr
  have HN := Lib.hid hn
  have HB := Lib.hid hB
  clear hr hn hB
  go_enter Try.func103, Try.ntmps103
  go_wp2_with fail
  refine (fits32_any A n c w).mono ?_
  rintro e w' ⟨rfl, rfl⟩
  by_cases h1 : n < 4
  · have he : errR n 4 = 20 := by simp [errR, h1]
    have hv : litR xs n 4 = 0 := by unfold litR; rw [if_neg (by omega)]
    have HVV := Lib.hid hv
    have HEE := Lib.hid he
    rw [he]
    clear he hv
    go_wp2_with fail
    go_ret2
    exact ⟨by rw [HVV.out, HEE.out]; first | done | rfl, rfl⟩
  · by_cases h3 : 4 < n
    · have he : errR n 4 = 21 := by simp [errR, h1, h3]
      have hv : litR xs n 4 = 0 := by unfold litR; rw [if_neg (by omega)]
      have HVV := Lib.hid hv
      have HEE := Lib.hid he
      rw [he]
      clear he hv
      go_wp2_with fail
      go_ret2
      exact ⟨by rw [HVV.out, HEE.out]; first | done | rfl, rfl⟩
    · have he : errR n 4 = 0 := by simp [errR, h1, h3]
      have hv : litR xs n 4 = leV xs n := by unfold litR; rw [if_pos (by omega)]
      have HVV := Lib.hid hv
      have HEE := Lib.hid he
      rw [he]
      clear he hv
      go_wp2_with fail
      refine (low32_any A n c xs w' HN.out HR.out HB.out (by omega)).mono ?_
      rintro e w2 ⟨rfl, rfl⟩
      go_wp2_with fail
      go_ret2
      exact ⟨by rw [HVV.out, HEE.out]; first | done | rfl, rfl⟩
theorem leV_cons (xs : List Int) (j : Nat) : leV xs (j + 1) = (xs.getD 0 0).toNat + 256 * leV (xs.drop 1) j := by
  induction j with
  | zero => simp [leV]
  | succ j ih =>
    have e1 : leV xs (j + 2) = leV xs (j + 1) + (xs.getD (j + 1) 0).toNat * 256 ^ (j + 1) := rfl
    have e2 : leV (xs.drop 1) (j + 1) = leV (xs.drop 1) j + ((xs.drop 1).getD j 0).toNat * 256 ^ j := rfl
    have e3 : (xs.drop 1).getD j 0 = xs.getD (j + 1) 0 := by simp [List.getD, Nat.add_comm]
    rw [e1, ih, e2, e3, Nat.mul_add, Nat.pow_succ]
    have : (xs.getD (j + 1) 0).toNat * (256 ^ j * 256) = 256 * ((xs.getD (j + 1) 0).toNat * 256 ^ j) := by
      rw [Nat.mul_comm (256 ^ j) 256, Nat.mul_left_comm]
    omega
theorem B8.drop {xs : List Int} (h : B8 xs) (k : Nat) : B8 (xs.drop k) := fun i => by
  have e : (xs.drop k).getD i 0 = xs.getD (k + i) 0 := by simp [List.getD]
  rw [e]; exact h _
theorem pow_le8 {j : Nat} (h : j ≤ 7) : 256 ^ j ≤ 256 ^ 7 := Nat.pow_le_pow_right (by decide) h
theorem litR_lt {xs : List Int} (h : B8 xs) (n s : Nat) : litR xs n s < 256 ^ s := by
  unfold litR
  split
  · next e => rw [e]; exact leV_lt h s
  · exact Nat.pow_pos (by decide)
set_option maxHeartbeats 1000000 in
theorem rlit_any (A : Option Addr) (n c s : Nat) (xs : List Int) (w : World) (hn : n = xs.length) (hr : Rd w .u8 A xs) (hB : B8 xs) (hs : s ≤ 8) (hs1 : 1 ≤ s) :
    Calls Try.prog 108 #[.slice A n c, .int .i64 s] w fun e w' => e = .returned (.tuple #[.int .u64 (litR xs n s : Nat), .int .i64 (errR n s)]) ∧ w' = w := by
  have HR := Lib.hid hr
  have HN := Lib.hid hn
  have HB := Lib.hid hB
  clear hr hn hB
  by_cases h1 : n < s
  · have he : errR n s = 20 := by simp [errR, h1]
    have hv : litR xs n s = 0 := by unfold litR; rw [if_neg (by omega)]
    have HVV := Lib.hid hv
    have HEE := Lib.hid he
    clear he hv
    have h2 : decide ((n : Int) < (s : Int)) = true := by simp; omega
    go_enter Try.func108, Try.ntmps108
    go_wp2_with fail
    go_ret2
    exact ⟨by rw [HVV.out, HEE.out]; first | done | rfl, rfl⟩
  · have h2 : decide ((n : Int) < (s : Int)) = false := by simp; omega
    by_cases h3 : s < n
    · have he : errR n s = 21 := by simp [errR, h1, h3]
      have hv : litR xs n s = 0 := by unfold litR; rw [if_neg (by omega)]
      have HVV := Lib.hid hv
      have HEE := Lib.hid he
      clear he hv
      have h4 : decide ((s : Int) < (n : Int)) = true := by simp; omega
      go_enter Try.func108, Try.ntmps108
      go_wp2_with fail
      go_ret2
      exact ⟨by rw [HVV.out, HEE.out]; first | done | rfl, rfl⟩
    · have h4 : decide ((s : Int) < (n : Int)) = false := by simp; omega
      obtain rfl : n = s := by omega
      have he : errR n n = 0 := by simp [errR]
      have hv : litR xs n n = leV xs n := by unfold litR; rw [if_pos rfl]
      have HVV := Lib.hid hv
      have HEE := Lib.hid he
      have hw0 : IntKind.i64.wrap ((n : Int) - 1) = (n : Int) - 1 := by simp [IntKind.wrap, IntKind.bits, IntKind.signed]; omega
      clear he hv
      go_enter Try.func108, Try.ntmps108
      go_wp2_with fail
      go_loop [6, 7] (fun v i => ∃ (j V : Nat) (z : Int), j ≤ n ∧ i = .int .i64 z ∧ z = (n : Int) - 1 - j ∧ v = .int .u64 V ∧ Hid (V = leV (xs.drop (n - j)) j)) (fun _ i => ((intOf i) + 1).toNat)
      case atStart => exact ⟨0, 0, _, Nat.zero_le _, rfl, by omega, rfl, Lib.hid rfl⟩
      case round =>
        clear hw0 h1 h2 h3 h4
        obtain ⟨j, V, z, hj, rfl, hz, rfl, HV⟩ := hrel
        by_cases hlt : j < n
        · obtain ⟨m, hm⟩ : ∃ m : Nat, z = (m : Int) := ⟨z.toNat, by omega⟩
          subst hm
          have hmj : Hid (m + 1 = n - j ∧ m = n - (j + 1)) := Lib.hid (by omega)
          have hmn : m < n := by omega
          obtain ⟨b, off, y, rfl, hc, HY⟩ := HR.out.at m (by have := HN.out; omega)
          obtain ⟨Y, hY⟩ : ∃ Y : Nat, y = (Y : Int) := ⟨y.toNat, by have := HB.out m; have := HY.out; omega⟩
          have hY8 : Y < 256 := by have := HB.out m; have := HY.out; omega
          subst hY
          have hVC : V < 256 ^ j := by rw [HV.out]; exact leV_lt (HB.out.drop _) j
          have hV7 : V < 72057594037927936 := Nat.lt_of_lt_of_le hVC (pow_le8 (by omega))
          have hwA : IntKind.u64.wrap ((V : Int) * 256) = ((V * 256 : Nat) : Int) := by simp [IntKind.wrap, IntKind.bits, IntKind.signed]; omega
          have hwB : IntKind.u64.wrap (((V * 256 : Nat) : Int) + (Y : Int)) = ((V * 256 + Y : Nat) : Int) := by simp [IntKind.wrap, IntKind.bits, IntKind.signed]; omega
          have hwY : IntKind.u64.wrap (Y : Int) = (Y : Int) := by simp [IntKind.wrap, IntKind.bits, IntKind.signed]; omega
          have hw1 : IntKind.i64.wrap ((m : Int) - 1) = (m : Int) - 1 := by simp [IntKind.wrap, IntKind.bits, IntKind.signed]; omega
          have HNX : Hid (V * 256 + Y = leV (xs.drop (n - (j + 1))) (j + 1)) := Lib.hid (by
            have e1 : xs.getD m 0 = (xs.drop m).getD 0 0 := by simp [List.getD]
            have e2 : ((xs.drop m).getD 0 0).toNat = Y := by rw [← e1, ← HY.out]; rfl
            rw [← hmj.out.2, leV_cons, e2, List.drop_drop, hmj.out.1, ← HV.out]; omega)
          have HZ := Lib.hid hz
          clear hz hVC
          go_wp2_with fail
          go_round
          case rel => exact ⟨j + 1, V * 256 + Y, (m : Int) - 1, by omega, rfl, by have := HZ.out; omega, by first | rfl | (congr 1; omega), HNX⟩
          case measure => simp [intOf]
        · have HK : Hid (j = n) := Lib.hid (by omega)
          have hz2 : z = -1 := by omega
          subst hz2
          go_wp2_with fail
          go_ret2
          exact ⟨by rw [HVV.out, HEE.out, HV.out, HK.out, Nat.sub_self, List.drop_zero]; first | done | rfl, rfl⟩
set_option maxHeartbeats 800000 in
theorem bytes_any (X n : Nat) (w : World) (hX : X < 18446744073709551616) (hn : n ≤ 1000000) : Calls Try.prog 89 #[.int .u64 X, .int .i64 n] w (Made 5 .u8 (leN X n) w) := by
  go_enter Try.func89, Try.ntmps89
  go_wp2_with fail
  go_loopw [0, 5, 6] (fun v o i wr => ∃ k Y : Nat, k ≤ n ∧ i = .int .i64 k ∧ v = .int .u64 Y ∧ Hid (Y = X / 256 ^ k) ∧ Hid (Own wr w.heap.size 5 .u8 o (leN X k)) ∧ Hid (Below w.heap.size w wr)) (fun _ _ i _ => n - (intOf i).toNat)
  case atStart => exact ⟨0, X, Nat.zero_le _, rfl, rfl, Lib.hid (by simp), Lib.hid (by simpa [leN] using Own.nil _ _ _ _), Lib.hid (Below.refl _ _)⟩
  case round =>
    obtain ⟨k, Y, hk, rfl, rfl, HY, HO, HW⟩ := hrel
    have hsz := HW.out.size
    by_cases hlt : k < n
    · have hc1 : ((leN X k).length + 1) * 1 ≤ 140737488355328 := by rw [leN_len]; omega
      have hY : Y < 18446744073709551616 := by rw [HY.out]; exact Nat.lt_of_le_of_lt (Nat.div_le_self _ _) hX
      have ht : Int.tmod (Y : Int) 256 = (Y : Int) % 256 := Int.tmod_eq_emod_of_nonneg (by omega)
      have hq : Int.tdiv (Y : Int) 256 = (Y : Int) / 256 := Int.tdiv_eq_ediv_of_nonneg (by omega)
      go_wp2_with (first | (at_builtin; refine wpList_push wr rfl _ _ 75 rfl w.heap.size 5 .u8 1 Try.underlying75 info5 _ rfl _ _ rfl rfl HO.out hc1 (by decide) hsz ?_; intro v' w1 hown1 hfr1))
      have hown2 : Hid (Own w1 w.heap.size 5 .u8 v' (leN X (k + 1))) := Lib.hid (by rw [leN_succ]; exact own_cast hown1 (by unfold byt; rw [← HY.out]; simp [IntKind.wrap, IntKind.bits, IntKind.signed]))
      have HW1 := Lib.hid (HW.out.trans (hfr1.below hsz (fun g hg => (HO.out.base_le hg).1)))
      clear hown1 hfr1
      go_wp2_with fail
      go_roundw
      case rel => exact ⟨k + 1, Y / 256, by omega, by go_num, by simp [IntKind.wrap, IntKind.bits, IntKind.signed], Lib.hid (by rw [HY.out, Nat.pow_succ, Nat.div_div_eq_div_mul]), hown2, HW1⟩
      case measure => simp [intOf]; omega
    · have HK : Hid (k = n) := Lib.hid (by omega)
      have hge : decide ((k : Int) < (n : Int)) = false := by simp; omega
      go_wp2_with fail
      go_ret
      have ho := HO.out
      rw [HK.out] at ho
      exact ⟨_, rfl, ho, HW.out⟩

theorem word_any (A : Option Addr) (n c : Nat) (xs : List Int) (w : World) (hn : n = xs.length) (h4 : n = 4) (hr : Rd w .u8 A xs) (hB : B8 xs) :
    Calls Try.prog 94 #[.slice A n c] w fun e w' => e = .returned (.int .u32 (leV xs 4 : Nat)) ∧ w' = w := by
  have HR := Lib.hid hr
  have HB := Lib.hid hB
  have HN := Lib.hid hn
  have H4 := Lib.hid h4
  have HL : Hid (litR xs n 4 = leV xs 4) := Lib.hid (by unfold litR; rw [if_pos h4, h4])
  have HE : Hid (errR n 4 = 0) := Lib.hid (by rw [h4]; rfl)
  clear hr hB hn h4
  go_enter Try.func94, Try.ntmps94
  go_wp2_with fail
  refine (little32_any A n c xs w HN.out HR.out HB.out).mono ?_
  rintro e w' ⟨rfl, rfl⟩
  rw [HL.out, HE.out]
  go_wp2_with fail
  go_ret
  exact ⟨rfl, rfl⟩

theorem num_any (A : Option Addr) (n c : Nat) (xs : List Int) (w : World) (hn : n = xs.length) (h4 : n = 4) (hr : Rd w .u8 A xs) (hB : B8 xs) :
    Calls Try.prog 105 #[.slice A n c] w fun e w' => e = .returned (.int .u64 (leV xs 4 : Nat)) ∧ w' = w := by
  have HR := Lib.hid hr
  have HB := Lib.hid hB
  have HN := Lib.hid hn
  have HL : Hid (litR xs n n = leV xs 4) := Lib.hid (by unfold litR; rw [if_pos rfl, h4])
  have HE : Hid (errR n n = 0) := Lib.hid (by simp [errR])
  have H8 : Hid (n ≤ 8 ∧ 1 ≤ n) := Lib.hid (by omega)
  clear hr hB hn h4
  go_enter Try.func105, Try.ntmps105
  go_wp2_with fail
  refine (rlit_any A n c n xs w HN.out HR.out HB.out H8.out.1 H8.out.2).mono ?_
  rintro e w' ⟨rfl, rfl⟩
  rw [HL.out, HE.out]
  go_wp2_with fail
  go_ret
  exact ⟨rfl, rfl⟩
end Go.Proofs.Ytcfbaildcocnhaa

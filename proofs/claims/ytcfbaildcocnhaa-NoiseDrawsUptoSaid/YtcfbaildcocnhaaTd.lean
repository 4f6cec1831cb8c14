/-
  Walks: told: what is told are the row's next bytes.
-/
import Derived.Test.YtcfbaildcocnhaaKy
import Derived.Test.YtcfbaildcocnhaaPo
set_option linter.unusedVariables false
set_option linter.unusedSimpArgs false
namespace Go.Proofs.Ytcfbaildcocnhaa
open Go.RowKit

theorem leV_congr {xs ys : List Int} : ∀ k, (∀ i, i < k → xs.getD i 0 = ys.getD i 0) → leV xs k = leV ys k
  | 0, _ => rfl
  | k + 1, h => by
    unfold leV
    rw [leV_congr k (fun i hi => h i (by omega)), h k (by omega)]
theorem numN_row (ks : List Int) (p M : Nat) (h : 8 ≤ M) : leV (rowL ks p M) 8 = numN ks p := by
  unfold numN
  exact leV_congr 8 fun i hi => by rw [rowL_at ks p M i (by omega), rowL_at ks p 8 i hi]
/-- A unit's float is below 1. -/
theorem unit_one (m : Nat) (h : m < 9007199254740992) : (FloatKind.f64.format.order (uW m) 4607182418800017408 == some .gt || FloatKind.f64.format.order (uW m) 4607182418800017408 == some .eq) = false := by
  have r1 : Ieee.double.read 4607182418800017408 = .number false 4503599627370496 (-52) := by decide
  unfold uW
  by_cases hm : m = 0
  · rw [if_pos hm]; decide
  · rw [if_neg hm]
    have hl := log2_52 h
    have hk := (kept_range (by omega : 0 < m) h)
    have hrd := read_W m (-53) (by omega) h (by omega) (by omega)
    rw [order_nn hrd r1 (fun h => by cases h) (fun h => by cases h)]
    have e1 : (-53 + (m.log2 : Int) - 52 - min (-53 + (m.log2 : Int) - 52) (-52)).toNat = 0 := by omega
    have e2 : (-52 - min (-53 + (m.log2 : Int) - 52) (-52)).toNat = 53 - m.log2 := by omega
    rw [e1, e2, Nat.pow_zero, Nat.mul_one]
    have e3 : 9007199254740992 ≤ 4503599627370496 * 2 ^ (53 - m.log2) := by
      have : 2 ^ 1 ≤ 2 ^ (53 - m.log2) := Nat.pow_le_pow_right (by omega) (by omega)
      omega
    have h2 : compare ((m * 2 ^ (52 - m.log2) : Nat) : Int) ((4503599627370496 * 2 ^ (53 - m.log2) : Nat) : Int) = .lt := by
      rw [Int.compare_eq_lt]; omega
    rw [h2]; rfl
/-- A unit's float, brought back. -/
theorem unit_back (m : Nat) (h : m < 9007199254740992) : floatBits .mul .f64 (uW m) 4845873199050653696 = some (floatOfInt .f64 (m : Int)) := by
  have r1 : Ieee.double.read 4845873199050653696 = .number false 4503599627370496 1 := by decide
  rw [float_nat, mul_def, r1]
  unfold uW
  by_cases hm : m = 0
  · subst hm; decide
  · rw [if_neg hm]
    have hl := log2_52 h
    have hrd := read_W m (-53) (by omega) h (by omega) (by omega)
    rw [hrd]
    show some (Ieee.double.nearest false (m * 2 ^ (52 - m.log2) * 4503599627370496) (-53 + m.log2 - 52 + 1)) = _
    have e1 : (4503599627370496 : Nat) = 2 ^ 52 := by decide
    rw [e1, Nat.mul_assoc, ← Nat.pow_add, near_W m (52 - m.log2 + 52) _ (by omega) h (by omega) (by omega), near_W0 m 0 (by omega) h (by omega) (by omega)]
    congr 2
    omega
theorem nn_floatOf (m : Nat) (h : m < 9007199254740992) : nn (floatOfInt .f64 (m : Int)) := by
  rcases Nat.eq_zero_or_pos m with rfl | hm
  · exact ⟨false, 0, -1074, by decide, fun h => by cases h⟩
  · rw [float_nat, near_W0 m 0 hm h (by have := log2_52 h; omega) (by have := log2_52 h; omega)]
    have hl := log2_52 h
    exact ⟨_, _, _, read_W m 0 hm h (by omega) (by omega), fun h => by cases h⟩
theorem belP_pow (ks : List Int) (i p : Nat) (hi : i < 64) : ∀ f, belP ks (2 ^ i) f p = p := by
  have hz : ovr (2 ^ i) = 0 := by
    unfold ovr
    have e : (18446744073709551616 : Nat) = 2 ^ i * 2 ^ (64 - i) := by
      rw [← Nat.pow_add, show i + (64 - i) = 64 from by omega]
    rw [e]
    have : 2 ^ i * 2 ^ (64 - i) - 2 ^ i = 2 ^ i * (2 ^ (64 - i) - 1) := by rw [Nat.mul_sub, Nat.mul_one]
    rw [this, Nat.mul_mod_right]
  intro f
  cases f with
  | zero => rfl
  | succ f =>
    rw [belP_step, hz, if_neg]
    have := numN_lt ks p
    omega
/-- What told answers: how many bytes were told; the row is so much further. -/
def ToldP (S : Nat) (ks : List Int) (p : Nat) (w : World) (e : Ending) (w' : World) : Prop := ∃ q : Nat, e = .returned (.int .i64 (q : Int)) ∧ q ≤ 40 ∧ Src w' S ks (p + q) ∧ Fr (fun b => b = S) w w'
set_option maxRecDepth 100000 in
set_option maxHeartbeats 4000000 in
theorem told_next (S : Nat) (ks : List Int) (p M c : Nat) (A : Option Addr) (u n m : Int) (x : Nat) (o : Int) (w : World) (hs : Src w S ks p) (hk : ks.length = 32) (bk : B8 ks) (hr : Rd w .u8 A (rowL ks p M)) (hA : ∀ a, A = some a → ¬ a.block = S) (hM : 40 ≤ M) (hc : M ≤ c) (hM2 : M ≤ 1048576) :
    Calls Try.prog 36 #[.pointer (some ⟨S, 0, none⟩), .agg #[.int .i64 1, .int .u64 u, .int .i64 n, .int .i64 m, .float .f64 x, .int .i64 o], .slice A M c] w (ToldP S ks p w) := by
  have HK := Lib.hid hk
  have BK := Lib.hid bk
  have HAA := Lib.hid hA
  have HMC := Lib.hid (And.intro hM (And.intro hc hM2))
  have F1 := Lib.hid ((Below.refl w.heap.size w).alloc (Nat.le_refl _) (.cells #[.int .i64 1, .int .u64 u, .int .i64 n, .int .i64 m, .float .f64 x, .int .i64 o] 64))
  have X1 : Hid (Blk (w.alloc (.cells #[.int .i64 1, .int .u64 u, .int .i64 n, .int .i64 m, .float .f64 x, .int .i64 o] 64)) w.heap.size 64 [.int .i64 1, .int .u64 u, .int .i64 n, .int .i64 m, .float .f64 x, .int .i64 o]) := Lib.hid (Blk.new w 64 _)
  have S1 := Lib.hid (hs.below F1.out)
  have R1 := Lib.hid (hr.below F1.out)
  clear hs hk bk hr hA hM hc hM2
  go_enter Try.func36, Try.ntmps36
  go_upto_region 1 with fail
  have F1' : Hid (Fr (fun b => b = S) w (w.alloc (.cells #[.int .i64 1, .int .u64 u, .int .i64 n, .int .i64 m, .float .f64 x, .int .i64 o] 64))) := Lib.hid (Fr.of_below F1.out _)
  generalize (w.alloc (.cells #[.int .i64 1, .int .u64 u, .int .i64 n, .int .i64 m, .float .f64 x, .int .i64 o] 64)) = w1 at *
  generalize w.heap.size = X at *
  clear F1
  have x0 : w1.cell? ⟨X, 0, none⟩ = some (.int .i64 1) := X1.out.cell 0
  have x2 : w1.cell? ⟨X, 2, none⟩ = some (.int .i64 n) := X1.out.cell 2
  go_wp2_with fail
  refine (next_any S ks p w1 S1.out HK.out BK.out).mono ?_
  rintro e w2 ⟨rfl, hs, hf⟩
  have R2 := Lib.hid (R1.out.fr hf (fun a ha e => HAA.out a ha e))
  have F2 := Lib.hid (F1'.out.trans hf)
  have S2 := Lib.hid hs
  clear hs hf x0 x2
  go_wp2_with fail
  have hcc := number_any A M c (rowL ks p M) w2 (rowL_len _ _ _).symm R2.out (rowL_B8 _ _ _) (by have := HMC.out; omega)
  rw [numN_row ks p M (by have := HMC.out; omega)] at hcc
  refine hcc.mono ?_
  rintro e w3 ⟨rfl, hw⟩
  obtain rfl : w2 = w3 := hw.symm
  clear hcc
  generalize numN ks p = N at *
  go_wp2_with fail
  go_ret
  exact ⟨8, rfl, by omega, S2.out, F2.out⟩
set_option maxRecDepth 100000 in
set_option maxHeartbeats 4000000 in
theorem told_unit (S : Nat) (ks : List Int) (p M c : Nat) (A : Option Addr) (u n m : Int) (x : Nat) (o : Int) (w : World) (hs : Src w S ks p) (hk : ks.length = 32) (bk : B8 ks) (hr : Rd w .u8 A (rowL ks p M)) (hA : ∀ a, A = some a → ¬ a.block = S) (hM : 40 ≤ M) (hc : M ≤ c) (hM2 : M ≤ 1048576) :
    Calls Try.prog 36 #[.pointer (some ⟨S, 0, none⟩), .agg #[.int .i64 3, .int .u64 u, .int .i64 n, .int .i64 m, .float .f64 x, .int .i64 o], .slice A M c] w (ToldP S ks p w) := by
  have HK := Lib.hid hk
  have BK := Lib.hid bk
  have HAA := Lib.hid hA
  have HMC := Lib.hid (And.intro hM (And.intro hc hM2))
  have F1 := Lib.hid ((Below.refl w.heap.size w).alloc (Nat.le_refl _) (.cells #[.int .i64 3, .int .u64 u, .int .i64 n, .int .i64 m, .float .f64 x, .int .i64 o] 64))
  have X1 : Hid (Blk (w.alloc (.cells #[.int .i64 3, .int .u64 u, .int .i64 n, .int .i64 m, .float .f64 x, .int .i64 o] 64)) w.heap.size 64 [.int .i64 3, .int .u64 u, .int .i64 n, .int .i64 m, .float .f64 x, .int .i64 o]) := Lib.hid (Blk.new w 64 _)
  have S1 := Lib.hid (hs.below F1.out)
  have R1 := Lib.hid (hr.below F1.out)
  clear hs hk bk hr hA hM hc hM2
  go_enter Try.func36, Try.ntmps36
  go_upto_region 1 with fail
  have F1' : Hid (Fr (fun b => b = S) w (w.alloc (.cells #[.int .i64 3, .int .u64 u, .int .i64 n, .int .i64 m, .float .f64 x, .int .i64 o] 64))) := Lib.hid (Fr.of_below F1.out _)
  generalize (w.alloc (.cells #[.int .i64 3, .int .u64 u, .int .i64 n, .int .i64 m, .float .f64 x, .int .i64 o] 64)) = w1 at *
  generalize w.heap.size = X at *
  clear F1
  have x0 : w1.cell? ⟨X, 0, none⟩ = some (.int .i64 3) := X1.out.cell 0
  have x2 : w1.cell? ⟨X, 2, none⟩ = some (.int .i64 n) := X1.out.cell 2
  go_wp2_with fail
  refine (funit_any S ks p w1 S1.out HK.out BK.out).mono ?_
  rintro e w2 ⟨rfl, hs, hf⟩
  have R2 := Lib.hid (R1.out.fr hf (fun a ha e => HAA.out a ha e))
  have F2 := Lib.hid (F1'.out.trans hf)
  have S2 := Lib.hid hs
  have hnl := numN_lt ks p
  obtain ⟨N, hN⟩ : ∃ N, N = numN ks p := ⟨_, rfl⟩
  have HNE := Lib.hid hN
  rw [← hN] at hnl ⊢
  clear hN
  obtain ⟨z, hz⟩ : ∃ z, z = N / 2048 := ⟨_, rfl⟩
  have hzl : z < 9007199254740992 := by omega
  have HZE := Lib.hid hz
  rw [← hz]
  have h0 : (FloatKind.f64.format.order (uW z) 0 == some .lt) = false := lt_zero z hzl
  have h1 := unit_one z hzl
  have hm := unit_back z hzl
  have hnn := nn_floatOf z hzl
  obtain ⟨U, hU⟩ : ∃ U, U = uW z := ⟨_, rfl⟩
  rw [← hU] at h0 h1 hm ⊢
  obtain ⟨fz, hfz⟩ : ∃ fz, fz = floatOfInt .f64 (z : Int) := ⟨_, rfl⟩
  have hfz2 : floatOfInt .f64 (z : Int) = fz := hfz.symm
  rw [hfz2] at hm hnn
  have heq := same_eq hnn
  have hrun := fun w => run_float_arith (P := Try.prog) (w := w) .mul 22 .f64 U 4845873199050653696 fz hm
  have hdiv : (N : Int).tdiv 2048 = (z : Int) := by rw [hz]; rfl
  have hdiv2 : (N : Int) / 2048 = (z : Int) := by omega
  have hwz : IntKind.u64.wrap (z : Int) = (z : Int) := by rw [IntKind.wrap_u64] <;> omega
  clear hs hf hU hz hfz hm hnn x0 x2
  go_wp2_with fail
  have hcc := number_any A M c (rowL ks p M) w2 (rowL_len _ _ _).symm R2.out (rowL_B8 _ _ _) (by have := HMC.out; omega)
  rw [numN_row ks p M (by have := HMC.out; omega), ← HNE.out] at hcc
  refine hcc.mono ?_
  rintro e w3 ⟨rfl, hw⟩
  obtain rfl : w2 = w3 := hw.symm
  clear hcc
  go_wp2_with fail
  go_ret
  exact ⟨8, rfl, by omega, S2.out, F2.out⟩
set_option maxRecDepth 100000 in
set_option maxHeartbeats 4000000 in
theorem told_key (S : Nat) (ks : List Int) (p M c : Nat) (A : Option Addr) (u n m : Int) (x : Nat) (o : Int) (w : World) (hs : Src w S ks p) (hk : ks.length = 32) (bk : B8 ks) (hr : Rd w .u8 A (rowL ks p M)) (hA : ∀ a, A = some a → ¬ a.block = S) (hM : 40 ≤ M) (hc : M ≤ c) (hM2 : M ≤ 1048576) :
    Calls Try.prog 36 #[.pointer (some ⟨S, 0, none⟩), .agg #[.int .i64 4, .int .u64 u, .int .i64 n, .int .i64 m, .float .f64 x, .int .i64 o], .slice A M c] w (ToldP S ks p w) := by
  have HK := Lib.hid hk
  have BK := Lib.hid bk
  have HAA := Lib.hid hA
  have HMC := Lib.hid (And.intro hM (And.intro hc hM2))
  have F1 := Lib.hid ((Below.refl w.heap.size w).alloc (Nat.le_refl _) (.cells #[.int .i64 4, .int .u64 u, .int .i64 n, .int .i64 m, .float .f64 x, .int .i64 o] 64))
  have X1 : Hid (Blk (w.alloc (.cells #[.int .i64 4, .int .u64 u, .int .i64 n, .int .i64 m, .float .f64 x, .int .i64 o] 64)) w.heap.size 64 [.int .i64 4, .int .u64 u, .int .i64 n, .int .i64 m, .float .f64 x, .int .i64 o]) := Lib.hid (Blk.new w 64 _)
  have S1 := Lib.hid (hs.below F1.out)
  have R1 := Lib.hid (hr.below F1.out)
  clear hs hk bk hr hA hM hc hM2
  go_enter Try.func36, Try.ntmps36
  go_upto_region 1 with fail
  have F1' : Hid (Fr (fun b => b = S) w (w.alloc (.cells #[.int .i64 4, .int .u64 u, .int .i64 n, .int .i64 m, .float .f64 x, .int .i64 o] 64))) := Lib.hid (Fr.of_below F1.out _)
  generalize (w.alloc (.cells #[.int .i64 4, .int .u64 u, .int .i64 n, .int .i64 m, .float .f64 x, .int .i64 o] 64)) = w1 at *
  generalize w.heap.size = X at *
  clear F1
  have x0 : w1.cell? ⟨X, 0, none⟩ = some (.int .i64 4) := X1.out.cell 0
  have x2 : w1.cell? ⟨X, 2, none⟩ = some (.int .i64 n) := X1.out.cell 2
  go_wp2_with fail
  refine (key_any S ks p w1 S1.out HK.out BK.out).mono ?_
  rintro e w2 ⟨rfl, hs, hf⟩
  have R2 := Lib.hid (R1.out.fr hf (fun a ha e => HAA.out a ha e))
  have F2 := Lib.hid (F1'.out.trans hf)
  have S2 := Lib.hid hs
  have HL : Hid ((rowL ks p 32).length = 32) := Lib.hid (rowL_len _ _ _)
  have HL8 : Hid (B8 (rowL ks p 32)) := Lib.hid (rowL_B8 _ _ _)
  have I2 : Hid ((Try.prog.info? 53).map (·.size) = some (AY .u8 (rowL ks p 32)).size) := Lib.hid (by rw [info31, AY_size, rowL_len])
  have I3 : Hid ((Try.prog.info? 53).map (·.size) = some (rowL ks p 32).length) := Lib.hid (by rw [info31, rowL_len])
  have RT : Hid (Rd w2 .u8 A (rowL ks p 32)) := Lib.hid (by have h := R2.out.take 32; rwa [rowL_take ks p M 32 (by have := HMC.out; omega)] at h)
  obtain ⟨L, hL⟩ : ∃ L, L = rowL ks p 32 := ⟨_, rfl⟩
  rw [← hL] at HL HL8 I2 I3 RT ⊢
  clear hL hs hf x0 x2 R2
  go_upto_region 13 with (first
    | (show wpList _ _ _ ({ dst := none, op := _, type := _, pos := _, after := _, guard := _ } :: _) _ _; refine wpList_store_row rfl 53 _ _ rfl w2.heap.size (AY .u8 L) rfl rfl 53 _ (heap_alloc_new _ _) I2.out (by rw [AY_size, HL.out]; rfl) (AY_one _ _) ?_))
  generalize hW : (w2.alloc _).setRow w2.heap.size (AY .u8 L) = w3
  have K3 : Hid (Blk w3 w2.heap.size 53 (L.map (Value.int .u8))) := Lib.hid (AY_blk (by rw [← hW]; exact setRow_heap _ _ _ _ _ _ (heap_alloc_new _ _)))
  have bb : Below w2.heap.size w2 w3 := by rw [← hW]; exact below_setRow ((Below.refl _ _).alloc (Nat.le_refl _) _) (Nat.le_refl _) _
  have S3 := Lib.hid (S2.out.below bb)
  have R3 := Lib.hid (RT.out.below bb)
  have F3 := Lib.hid (F2.out.trans (Fr.of_below bb _))
  clear hW bb S2 RT F2
  generalize w2.heap.size = G at *
  refine wp_region_held_drew (S := fun w' => Below w3.heap.size w3 w') (by kernel_rfl) ((Below.refl w3.heap.size w3).drew) (fun hHeld => ?_)
  have V0 : Hid (Below w3.heap.size w3 w3.drew) := Lib.hid (Below.refl w3.heap.size w3).drew
  generalize w3.drew = v0 at V0 hHeld ⊢
  refine wpAnyH_take (i := 0) (oi := ⟨some 43, _, _, _, _, _⟩) (v := (.agg (AY .u8 L))) rfl (by kernel_rfl) (by kernel_rfl) (by kernel_rfl) (fun _ _ _ h => h) (Or.inl ⟨by rfl, ?_⟩) (by assumption) ?_
  · intro w' hS; have hq := K3.out.below hS K3.out.lt; exact exec_load_AY 53 _ rfl G 0 (by rfl) .u8 L _ (fun j v hv => by rw [hq.cell, Nat.zero_add]; exact hv) Try.underlying53 rfl I3.out
  simp only [Act.put, List.setIfInBounds_toArray, List.set_cons_zero, List.set_cons_succ]
  refine wpAnyH_take (i := 2) (oi := ⟨some 45, _, _, _, _, _⟩) (v := (.slice A M c)) rfl (by kernel_rfl) (by kernel_rfl) (by kernel_rfl) (fun _ _ _ h => h) (Or.inl ⟨by rfl, ?_⟩) (by assumption) ?_
  · intro w' hS; go_simp; try with_reducible rfl
  simp only [Act.put, List.setIfInBounds_toArray, List.set_cons_zero, List.set_cons_succ]
  refine wpAnyH_take (i := 3) (oi := ⟨some 46, _, _, _, _, _⟩) (v := (.slice A 32 c)) rfl (by kernel_rfl) (by kernel_rfl) (by kernel_rfl) (fun _ _ _ h => h) (Or.inl ⟨by rfl, ?_⟩) (by assumption) ?_
  · intro w' hS; have hk1 : (32 : Int) ≤ (c : Int) := (by have := HMC.out; omega); have hk2 : 32 ≤ c := (by have := HMC.out; omega); have hk3 : decide ((32 : Int) ≤ (c : Int)) = true := decide_eq_true hk1; have hk4 : ¬ c = 0 := (by omega); go_simp; try with_reducible rfl
  simp only [Act.put, List.setIfInBounds_toArray, List.set_cons_zero, List.set_cons_succ]
  refine wpAnyH_ready (rs := [1]) (by kernel_rfl) (by simp) ?_
  refine AllReadyH.cons (o := ⟨some 44, _, _, _, _, _⟩) rfl (fun K hK => ?_) AllReadyH.nil
  rw [if_pos (by rfl)]
  go_simp
  refine (keyb_any L v0 HL.out HL8.out).mono ?_
  rintro e' v1 ⟨v, rfl, ho, bb⟩
  obtain ⟨A2, c2, rfl, -, -, hr2, -⟩ := ho.slice
  have Q1 := Lib.hid hr2
  have V1 := Lib.hid (V0.out.trans (bb.mono V0.out.size))
  rw [HL.out]
  clear bb V0 ho hr2
  dsimp only
  (try simp only [Act.put, List.setIfInBounds_toArray, List.set_cons_zero, List.set_cons_succ])
  refine hK.out _ _ V1.out (fun hHeld => ?_)
  clear hK K
  refine wpAnyH_ready (rs := [4]) (by kernel_rfl) (by simp) ?_
  refine AllReadyH.cons (o := ⟨some 47, _, _, _, _, _⟩) rfl (fun K hK => ?_) AllReadyH.nil
  rw [if_pos (by rfl)]
  go_simp
  have hcc := eqb_any A2 A 32 32 c2 c L L v1 HL.out.symm HL.out.symm Q1.out (R3.out.below V1.out) (by rw [HL.out]; decide) (by rw [HL.out]; decide)
  rw [show decide (L = L) = true from by simp] at hcc
  refine hcc.mono ?_
  rintro e' v2 ⟨q, rfl, rfl⟩
  have V2 : Hid (Below w3.heap.size w3 (v1.drewN q)) := Lib.hid (belowN V1.out q)
  clear hcc
  dsimp only
  (try simp only [Act.put, List.setIfInBounds_toArray, List.set_cons_zero, List.set_cons_succ])
  refine hK.out _ _ V2.out (fun hHeld => ?_)
  clear hK K
  refine wpAnyH_take (i := 5) (oi := ⟨some 48, _, _, _, _, _⟩) (v := (.bool false)) rfl (by kernel_rfl) (by kernel_rfl) (by kernel_rfl) (fun _ _ _ h => h) (Or.inl ⟨by rfl, ?_⟩) (by assumption) ?_
  · intro w' hS; go_simp; try with_reducible rfl
  simp only [Act.put, List.setIfInBounds_toArray, List.set_cons_zero, List.set_cons_succ]
  refine wpAnyH_done (by kernel_rfl) ?_ _
  have S4 := Lib.hid (S3.out.below V2.out)
  have F4 := Lib.hid (F3.out.trans (Fr.of_below V2.out _))
  go_wp2_with fail
  go_ret
  exact ⟨32, rfl, by omega, S4.out, F4.out⟩
set_option maxRecDepth 100000 in
set_option maxHeartbeats 4000000 in
theorem told_bytes (S : Nat) (ks : List Int) (p M c : Nat) (A : Option Addr) (u n m : Int) (x : Nat) (o : Int) (w : World) (hs : Src w S ks p) (hk : ks.length = 32) (bk : B8 ks) (hr : Rd w .u8 A (rowL ks p M)) (hA : ∀ a, A = some a → ¬ a.block = S) (hM : 40 ≤ M) (hc : M ≤ c) (hM2 : M ≤ 1048576) :
    Calls Try.prog 36 #[.pointer (some ⟨S, 0, none⟩), .agg #[.int .i64 5, .int .u64 u, .int .i64 n, .int .i64 m, .float .f64 x, .int .i64 o], .slice A M c] w (ToldP S ks p w) := by
  have HK := Lib.hid hk
  have BK := Lib.hid bk
  have HAA := Lib.hid hA
  have HMC := Lib.hid (And.intro hM (And.intro hc hM2))
  have F1 := Lib.hid ((Below.refl w.heap.size w).alloc (Nat.le_refl _) (.cells #[.int .i64 5, .int .u64 u, .int .i64 n, .int .i64 m, .float .f64 x, .int .i64 o] 64))
  have X1 : Hid (Blk (w.alloc (.cells #[.int .i64 5, .int .u64 u, .int .i64 n, .int .i64 m, .float .f64 x, .int .i64 o] 64)) w.heap.size 64 [.int .i64 5, .int .u64 u, .int .i64 n, .int .i64 m, .float .f64 x, .int .i64 o]) := Lib.hid (Blk.new w 64 _)
  have S1 := Lib.hid (hs.below F1.out)
  have R1 := Lib.hid (hr.below F1.out)
  clear hs hk bk hr hA hM hc hM2
  go_enter Try.func36, Try.ntmps36
  go_upto_region 1 with fail
  have F1' : Hid (Fr (fun b => b = S) w (w.alloc (.cells #[.int .i64 5, .int .u64 u, .int .i64 n, .int .i64 m, .float .f64 x, .int .i64 o] 64))) := Lib.hid (Fr.of_below F1.out _)
  generalize (w.alloc (.cells #[.int .i64 5, .int .u64 u, .int .i64 n, .int .i64 m, .float .f64 x, .int .i64 o] 64)) = w1 at *
  generalize w.heap.size = X at *
  clear F1
  have x0 : w1.cell? ⟨X, 0, none⟩ = some (.int .i64 5) := X1.out.cell 0
  have x2 : w1.cell? ⟨X, 2, none⟩ = some (.int .i64 n) := X1.out.cell 2
  have hwi := within_any n 40 w1 (by decide) (by decide)
  obtain ⟨Q, hQ⟩ : ∃ Q : Nat, n % 40 = (Q : Int) := ⟨(n % 40).toNat, by omega⟩
  have hQ40 : Q < 40 := by omega
  rw [show ((40 : Nat) : Int) = 40 from rfl, hQ] at hwi
  go_wp2_with fail
  refine hwi.mono ?_
  rintro e w2 ⟨rfl, hw⟩
  obtain rfl : w1 = w2 := hw.symm
  clear hwi x0 x2 hQ
  have m1 : IntKind.i64.wrap (1 + (Q : Int)) = ((Q + 1 : Nat) : Int) := by rw [IntKind.wrap_i64] <;> omega
  have m2 : IntKind.i64.wrap ((Q : Int) + 1) = ((Q + 1 : Nat) : Int) := by rw [IntKind.wrap_i64] <;> omega
  go_upto_region 18 with fail
  obtain ⟨q, hq⟩ : ∃ q, q = Q + 1 := ⟨_, rfl⟩
  rw [show (Q : Int) + 1 = ((q : Nat) : Int) from by omega]
  have hq1 : 1 ≤ q ∧ q ≤ 40 := by omega
  have HQ := Lib.hid hq1
  clear m1 m2 hq hq1 hQ40
  have RT : Hid (Rd w1 .u8 A (rowL ks p q)) := Lib.hid (by have h := R1.out.take q; rwa [rowL_take ks p M q (by have := HMC.out; have := HQ.out; omega)] at h)
  refine wp_region_held_drew (S := fun w' => Fr (fun b => b = S) w1 w') (by kernel_rfl) ((Fr.refl _ w1).drew) (fun hHeld => ?_)
  have V0 : Hid (Below w1.heap.size w1 w1.drew) := Lib.hid (Below.refl w1.heap.size w1).drew
  have S2 := Lib.hid (S1.out.below V0.out)
  have G0 : Hid (Fr (fun b => b = S) w1 w1.drew) := Lib.hid (Fr.of_below V0.out _)
  generalize w1.drew = v0 at V0 hHeld S2 G0 ⊢
  refine wpAnyH_take (i := 0) (oi := ⟨some 55, _, _, _, _, _⟩) (v := (.pointer (some ⟨S, 0, none⟩))) rfl (by kernel_rfl) (by kernel_rfl) (by kernel_rfl) (fun _ _ _ h => h) (Or.inl ⟨by rfl, ?_⟩) (by assumption) ?_
  · intro w' hS; go_simp; try with_reducible rfl
  simp only [Act.put, List.setIfInBounds_toArray, List.set_cons_zero, List.set_cons_succ]
  refine wpAnyH_take (i := 1) (oi := ⟨some 56, _, _, _, _, _⟩) (v := (.int .i64 (q : Nat))) rfl (by kernel_rfl) (by kernel_rfl) (by kernel_rfl) (fun _ _ _ h => h) (Or.inl ⟨by rfl, ?_⟩) (by assumption) ?_
  · intro w' hS; go_simp; try with_reducible rfl
  simp only [Act.put, List.setIfInBounds_toArray, List.set_cons_zero, List.set_cons_succ]
  refine wpAnyH_take (i := 3) (oi := ⟨some 58, _, _, _, _, _⟩) (v := (.slice A M c)) rfl (by kernel_rfl) (by kernel_rfl) (by kernel_rfl) (fun _ _ _ h => h) (Or.inl ⟨by rfl, ?_⟩) (by assumption) ?_
  · intro w' hS; go_simp; try with_reducible rfl
  simp only [Act.put, List.setIfInBounds_toArray, List.set_cons_zero, List.set_cons_succ]
  refine wpAnyH_take (i := 4) (oi := ⟨some 59, _, _, _, _, _⟩) (v := (.int .i64 (q : Nat))) rfl (by kernel_rfl) (by kernel_rfl) (by kernel_rfl) (fun _ _ _ h => h) (Or.inl ⟨by rfl, ?_⟩) (by assumption) ?_
  · intro w' hS; go_simp; try with_reducible rfl
  simp only [Act.put, List.setIfInBounds_toArray, List.set_cons_zero, List.set_cons_succ]
  refine wpAnyH_take (i := 5) (oi := ⟨some 60, _, _, _, _, _⟩) (v := (.slice A q c)) rfl (by kernel_rfl) (by kernel_rfl) (by kernel_rfl) (fun _ _ _ h => h) (Or.inl ⟨by rfl, ?_⟩) (by assumption) ?_
  · intro w' hS; have hk1 : (q : Int) ≤ (c : Int) := (by have := HMC.out; have := HQ.out; omega); have hk2 : q ≤ c := (by have := HMC.out; have := HQ.out; omega); have hk3 : decide ((q : Int) ≤ (c : Int)) = true := decide_eq_true hk1; have hk4 : ¬ c = 0 := (by have := HMC.out; omega); go_simp; try with_reducible rfl
  simp only [Act.put, List.setIfInBounds_toArray, List.set_cons_zero, List.set_cons_succ]
  refine wpAnyH_ready (rs := [2]) (by kernel_rfl) (by simp) ?_
  refine AllReadyH.cons (o := ⟨some 57, _, _, _, _, _⟩) rfl (fun K hK => ?_) AllReadyH.nil
  rw [if_pos (by rfl)]
  go_simp
  refine (bytes_some S q ks p v0 S2.out HK.out BK.out HQ.out.1 (by have := HQ.out; omega)).mono ?_
  rintro e' v1 ⟨v, rfl, ho, hs, hf⟩
  obtain ⟨A2, c2, rfl, -, -, hr2, -⟩ := ho.slice
  have Q1 := Lib.hid hr2
  have G1 := Lib.hid (G0.out.trans hf)
  have S3 := Lib.hid hs
  rw [rowL_len]
  clear hf V0 ho hr2 S2 G0 hs
  dsimp only
  (try simp only [Act.put, List.setIfInBounds_toArray, List.set_cons_zero, List.set_cons_succ])
  refine hK.out _ _ G1.out (fun hHeld => ?_)
  clear hK K
  refine wpAnyH_ready (rs := [6]) (by kernel_rfl) (by simp) ?_
  refine AllReadyH.cons (o := ⟨some 61, _, _, _, _, _⟩) rfl (fun K hK => ?_) AllReadyH.nil
  rw [if_pos (by rfl)]
  go_simp
  have hcc := eqb_any A2 A q q c2 c (rowL ks p q) (rowL ks p q) v1 (rowL_len _ _ _).symm (rowL_len _ _ _).symm Q1.out (RT.out.fr G1.out (fun a ha e => HAA.out a ha e)) (by rw [rowL_len]; have := HQ.out; omega) (by rw [rowL_len]; have := HQ.out; omega)
  rw [show decide (rowL ks p q = rowL ks p q) = true from by simp] at hcc
  refine hcc.mono ?_
  rintro e' v2 ⟨z, rfl, rfl⟩
  have G2 : Hid (Fr (fun b => b = S) w1 (v1.drewN z)) := Lib.hid (G1.out.drewN z)
  have S4 : Hid (Src (v1.drewN z) S ks (p + q)) := Lib.hid (S3.out.below (belowN (Below.refl _ _) z))
  clear hcc
  dsimp only
  (try simp only [Act.put, List.setIfInBounds_toArray, List.set_cons_zero, List.set_cons_succ])
  refine hK.out _ _ G2.out (fun hHeld => ?_)
  clear hK K
  refine wpAnyH_take (i := 7) (oi := ⟨some 62, _, _, _, _, _⟩) (v := (.bool false)) rfl (by kernel_rfl) (by kernel_rfl) (by kernel_rfl) (fun _ _ _ h => h) (Or.inl ⟨by rfl, ?_⟩) (by assumption) ?_
  · intro w' hS; go_simp; try with_reducible rfl
  simp only [Act.put, List.setIfInBounds_toArray, List.set_cons_zero, List.set_cons_succ]
  refine wpAnyH_done (by kernel_rfl) ?_ _
  have F4 := Lib.hid (F1'.out.trans G2.out)
  go_wp2_with fail
  go_ret
  exact ⟨q, rfl, HQ.out.2, S4.out, F4.out⟩
set_option maxRecDepth 100000 in
set_option maxHeartbeats 4000000 in
theorem told_below (S : Nat) (ks : List Int) (p M c : Nat) (A : Option Addr) (u n m : Int) (x : Nat) (o : Int) (w : World) (hs : Src w S ks p) (hk : ks.length = 32) (bk : B8 ks) (hr : Rd w .u8 A (rowL ks p M)) (hA : ∀ a, A = some a → ¬ a.block = S) (hM : 40 ≤ M) (hc : M ≤ c) (hM2 : M ≤ 1048576) :
    Calls Try.prog 36 #[.pointer (some ⟨S, 0, none⟩), .agg #[.int .i64 2, .int .u64 u, .int .i64 n, .int .i64 m, .float .f64 x, .int .i64 o], .slice A M c] w (ToldP S ks p w) := by
  have HK := Lib.hid hk
  have BK := Lib.hid bk
  have HAA := Lib.hid hA
  have HMC := Lib.hid (And.intro hM (And.intro hc hM2))
  have F1 := Lib.hid ((Below.refl w.heap.size w).alloc (Nat.le_refl _) (.cells #[.int .i64 2, .int .u64 u, .int .i64 n, .int .i64 m, .float .f64 x, .int .i64 o] 64))
  have X1 : Hid (Blk (w.alloc (.cells #[.int .i64 2, .int .u64 u, .int .i64 n, .int .i64 m, .float .f64 x, .int .i64 o] 64)) w.heap.size 64 [.int .i64 2, .int .u64 u, .int .i64 n, .int .i64 m, .float .f64 x, .int .i64 o]) := Lib.hid (Blk.new w 64 _)
  have S1 := Lib.hid (hs.below F1.out)
  have R1 := Lib.hid (hr.below F1.out)
  clear hs hk bk hr hA hM hc hM2
  go_enter Try.func36, Try.ntmps36
  go_upto_region 1 with fail
  have F1' : Hid (Fr (fun b => b = S) w (w.alloc (.cells #[.int .i64 2, .int .u64 u, .int .i64 n, .int .i64 m, .float .f64 x, .int .i64 o] 64))) := Lib.hid (Fr.of_below F1.out _)
  generalize (w.alloc (.cells #[.int .i64 2, .int .u64 u, .int .i64 n, .int .i64 m, .float .f64 x, .int .i64 o] 64)) = w1 at *
  generalize w.heap.size = X at *
  clear F1
  have x0 : w1.cell? ⟨X, 0, none⟩ = some (.int .i64 2) := X1.out.cell 0
  have x2 : w1.cell? ⟨X, 2, none⟩ = some (.int .i64 n) := X1.out.cell 2
  have hwi := within_any n 64 w1 (by decide) (by decide)
  obtain ⟨Q, hQ⟩ : ∃ Q : Nat, n % 64 = (Q : Int) := ⟨(n % 64).toNat, by omega⟩
  have hQ64 : Q < 64 := by omega
  rw [show ((64 : Nat) : Int) = 64 from rfl, hQ] at hwi
  go_wp2_with fail
  refine hwi.mono ?_
  rintro e w2 ⟨rfl, hw⟩
  obtain rfl : w1 = w2 := hw.symm
  clear hwi x0 x2 hQ
  have hp0 : 0 < 2 ^ Q := Nat.two_pow_pos Q
  have hp1 : 2 ^ Q < 18446744073709551616 := by
    have : 2 ^ Q < 2 ^ 64 := (Nat.pow_lt_pow_iff_right (by omega)).2 hQ64
    simpa using this
  have hbp := belP_pow ks Q p hQ64 99
  obtain ⟨K, hK⟩ : ∃ K, K = 2 ^ Q := ⟨_, rfl⟩
  have hsh : ((2 : Int) ^ Q) = (K : Int) := by rw [hK]; simp
  have hwk : IntKind.u64.wrap (K : Int) = (K : Int) := by rw [IntKind.wrap_u64] <;> omega
  rw [← hK] at hp0 hp1 hbp
  have hkz : ¬ (K : Int) = 0 := by omega
  have hsn : decide ((Q : Int) < 0) = false := by simp
  have hs64 : decide (Q < 64) = true := decide_eq_true hQ64
  clear hK
  go_upto_region 23 with fail
  have hcc := fbelow_any S K ks p w1 S1.out HK.out BK.out hp0 hp1
  rw [hbp] at hcc
  unfold belowN' at hcc
  rw [hbp] at hcc
  have HCC := Lib.hid hcc
  clear hcc hbp hsn hs64 hsh hwk
  go_wp2_with fail
  refine HCC.out.mono ?_
  rintro e w2 ⟨rfl, hs, hf⟩
  have R2 := Lib.hid (R1.out.fr hf (fun a ha e => HAA.out a ha e))
  have F2 := Lib.hid (F1'.out.trans hf)
  have S2 := Lib.hid hs
  clear hs hf HCC
  go_wp2_with fail
  have hcc := number_any A M c (rowL ks p M) w2 (rowL_len _ _ _).symm R2.out (rowL_B8 _ _ _) (by have := HMC.out; omega)
  rw [numN_row ks p M (by have := HMC.out; omega)] at hcc
  refine hcc.mono ?_
  rintro e w3 ⟨rfl, hw⟩
  obtain rfl : w2 = w3 := hw.symm
  clear hcc
  generalize numN ks p = N at *
  have hmod : (N : Int).tmod (K : Int) = ((N % K : Nat) : Int) := by rw [Int.tmod_eq_emod_of_nonneg (by omega)]; rfl
  have hkz2 : ((K : Int) == 0) = false := by simpa using hkz
  go_wp2_with fail
  go_ret
  exact ⟨8, rfl, by omega, S2.out, F2.out⟩
set_option maxRecDepth 100000 in
set_option maxHeartbeats 4000000 in
theorem told_none (S : Nat) (ks : List Int) (p M c : Nat) (A : Option Addr) (d : Int) (u n m : Int) (x : Nat) (o : Int) (w : World) (hs : Src w S ks p) (hk : ks.length = 32) (bk : B8 ks) (hr : Rd w .u8 A (rowL ks p M)) (hA : ∀ a, A = some a → ¬ a.block = S) (hM : 40 ≤ M) (hc : M ≤ c) (hM2 : M ≤ 1048576) (hd : ¬ d = 1 ∧ ¬ d = 2 ∧ ¬ d = 3 ∧ ¬ d = 4 ∧ ¬ d = 5) :
    Calls Try.prog 36 #[.pointer (some ⟨S, 0, none⟩), .agg #[.int .i64 d, .int .u64 u, .int .i64 n, .int .i64 m, .float .f64 x, .int .i64 o], .slice A M c] w (ToldP S ks p w) := by
  have HK := Lib.hid hk
  have BK := Lib.hid bk
  have HAA := Lib.hid hA
  have HMC := Lib.hid (And.intro hM (And.intro hc hM2))
  have F1 := Lib.hid ((Below.refl w.heap.size w).alloc (Nat.le_refl _) (.cells #[.int .i64 d, .int .u64 u, .int .i64 n, .int .i64 m, .float .f64 x, .int .i64 o] 64))
  have X1 : Hid (Blk (w.alloc (.cells #[.int .i64 d, .int .u64 u, .int .i64 n, .int .i64 m, .float .f64 x, .int .i64 o] 64)) w.heap.size 64 [.int .i64 d, .int .u64 u, .int .i64 n, .int .i64 m, .float .f64 x, .int .i64 o]) := Lib.hid (Blk.new w 64 _)
  have S1 := Lib.hid (hs.below F1.out)
  have R1 := Lib.hid (hr.below F1.out)
  clear hs hk bk hr hA hM hc hM2
  go_enter Try.func36, Try.ntmps36
  go_upto_region 1 with fail
  have F1' : Hid (Fr (fun b => b = S) w (w.alloc (.cells #[.int .i64 d, .int .u64 u, .int .i64 n, .int .i64 m, .float .f64 x, .int .i64 o] 64))) := Lib.hid (Fr.of_below F1.out _)
  generalize (w.alloc (.cells #[.int .i64 d, .int .u64 u, .int .i64 n, .int .i64 m, .float .f64 x, .int .i64 o] 64)) = w1 at *
  generalize w.heap.size = X at *
  clear F1
  have x0 : w1.cell? ⟨X, 0, none⟩ = some (.int .i64 d) := X1.out.cell 0
  have x2 : w1.cell? ⟨X, 2, none⟩ = some (.int .i64 n) := X1.out.cell 2
  have d1 : ¬ d = 1 := hd.1
  have d2 : ¬ d = 2 := hd.2.1
  have d3 : ¬ d = 3 := hd.2.2.1
  have d4 : ¬ d = 4 := hd.2.2.2.1
  have d5 : ¬ d = 5 := hd.2.2.2.2
  have e1 : (d == 1) = false := by simpa using d1
  have e2 : (d == 2) = false := by simpa using d2
  have e3 : (d == 3) = false := by simpa using d3
  have e4 : (d == 4) = false := by simpa using d4
  have e5 : (d == 5) = false := by simpa using d5
  clear hd
  go_wp2_with fail
  go_ret
  exact ⟨0, rfl, by omega, by rw [Nat.add_zero]; exact S1.out, F1'.out⟩
theorem told_step (S : Nat) (ks : List Int) (p M c : Nat) (A : Option Addr) (d u n m : Int) (x : Nat) (o : Int) (w : World) (hs : Src w S ks p) (hk : ks.length = 32) (bk : B8 ks) (hr : Rd w .u8 A (rowL ks p M)) (hA : ∀ a, A = some a → ¬ a.block = S) (hM : 40 ≤ M) (hc : M ≤ c) (hM2 : M ≤ 1048576) :
    Calls Try.prog 36 #[.pointer (some ⟨S, 0, none⟩), .agg #[.int .i64 d, .int .u64 u, .int .i64 n, .int .i64 m, .float .f64 x, .int .i64 o], .slice A M c] w (ToldP S ks p w) := by
  by_cases h1 : d = 1
  · subst h1; exact told_next S ks p M c A u n m x o w hs hk bk hr hA hM hc hM2
  by_cases h2 : d = 2
  · subst h2; exact told_below S ks p M c A u n m x o w hs hk bk hr hA hM hc hM2
  by_cases h3 : d = 3
  · subst h3; exact told_unit S ks p M c A u n m x o w hs hk bk hr hA hM hc hM2
  by_cases h4 : d = 4
  · subst h4; exact told_key S ks p M c A u n m x o w hs hk bk hr hA hM hc hM2
  by_cases h5 : d = 5
  · subst h5; exact told_bytes S ks p M c A u n m x o w hs hk bk hr hA hM hc hM2
  exact told_none S ks p M c A d u n m x o w hs hk bk hr hA hM hc hM2 ⟨h1, h2, h3, h4, h5⟩
end Go.Proofs.Ytcfbaildcocnhaa

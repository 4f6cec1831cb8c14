/-
  Walks: value, same, both Exp.
-/
import Derived.Test.YtcfbaildcocnhaaRows
import Derived.Test.YtcfbaildcocnhaaFl
import Derived.Outline
import Derived.WalkLawsBesides
import Derived.LoopTactic
import Derived.Lib.Hide
namespace Go.Proofs.Ytcfbaildcocnhaa
open Go.RowKit

def valF (b : Nat) (odd : Int) : Option Nat :=
  if odd = 1 then fop .quo (fv 0) (fv 0) else if odd = 2 then fop .quo (fv 4607182418800017408) (fv 0) else if odd = 3 then fop .quo (fv 13830554455654793216) (fv 0) else if odd = 4 then fv (Op.negFloat .f64 0) else fv b

def IsF (w : World) (want : Option Nat) (B : Nat) (e : Ending) (w' : World) : Prop :=
  ∃ r, e = .returned (.float .f64 r) ∧ fv r = want ∧ (Lit.float .f64 r).wf = true ∧ Below B w w'

theorem ret_tmp1 (w : World) {fn : Func} {t : Tmp} (h : fn.results = #[.tmp t]) {R : Ending → World → Prop} {tmps : Array Value} {d : List Deferred} (hd : d = []) (hR : R (.returned (tmps.getD t undef)) w) :
    bodyPost Try.prog fn R .ret ⟨tmps, d⟩ w := bodyPost_ret (results_tmp h _ _ _) hd hR

theorem run_neg (P : Program) (b : Nat) (w : World) : (Op.unary .neg (.float .f64 b)).run P w = .ok (.float .f64 (Op.negFloat .f64 b)) w := rfl

set_option maxHeartbeats 400000 in
theorem value_any (b : Nat) (odd : Int) (w : World) (hb : (Lit.float .f64 b).wf = true) :
    Calls Try.prog 14 #[.agg #[.float .f64 b, .int .i64 odd]] w (IsF w (valF b odd) w.heap.size) := by
  have hn := fun w => run_neg Try.prog 0 w
  go_enter Try.func14, Try.ntmps14
  go_wp2_with (first | (refine wpList_float rfl .quo rfl _ _ _ _ rfl _ _ rfl rfl ?_; intro r n hr hw))
  · go_ret
    exact ⟨r, rfl, by rw [hr]; simp_all [valF], hw, belowN ((Below.refl _ _).alloc (Nat.le_refl _) _) _⟩
  · go_ret
    exact ⟨r, rfl, by rw [hr]; simp_all [valF], hw, belowN ((Below.refl _ _).alloc (Nat.le_refl _) _) _⟩
  · go_ret
    exact ⟨r, rfl, by rw [hr]; simp_all [valF], hw, belowN ((Below.refl _ _).alloc (Nat.le_refl _) _) _⟩
  · go_ret
    exact ⟨_, rfl, by simp_all [valF], by decide, (((Below.refl _ _).alloc (Nat.le_refl _) _))⟩
  · go_ret
    exact ⟨b, rfl, by simp_all [valF], hb, (((Below.refl _ _).alloc (Nat.le_refl _) _))⟩

/-- 'same' of two floats by their values. -/
theorem same_any (a b : Nat) (w : World) (h : fv a = fv b) :
    Calls Try.prog 16 #[.float .f64 a, .float .f64 b] w fun e w' => e = .returned (.bool true) ∧ w' = w := by
  have HH := Lib.hid h
  clear h
  go_enter Try.func16, Try.ntmps16
  go_wp2
  all_goals go_ret
  all_goals
    have h := HH.out
    simp only [ford_eq, h] at *
    rcases ford_self b with ⟨h1, h2⟩ | ⟨h1, h2⟩ <;> simp_all

/-! ### e to the power x -/
def one : Nat := 4607182418800017408
def serF (y : Option Nat) : Nat → Option Nat
  | 0 => fv one
  | j + 1 => fop .add (fv one) (fop .quo (fop .mul y (serF y j)) (fv (floatOfInt .f64 (18 - (j : Int)))))
def sqF (t : Option Nat) : Nat → Option Nat
  | 0 => t
  | j + 1 => fop .mul (sqF t j) (sqF t j)
def expF (x : Option Nat) : Option Nat := sqF (serF (fop .quo x (fv 4652218415073722368)) 18) 10
/-- Is it from -700 to 700? -/
def inE (x : Option Nat) : Bool := (ford x (fv 13872740517789302784) == some .gt || ford x (fv 13872740517789302784) == some .eq) && (ford x (fv 4649368480934526976) == some .lt || ford x (fv 4649368480934526976) == some .eq)

/-- The number and the error that Exp answers to a float of that value. -/
def ExpOK (x : Option Nat) (r : Nat) (c : Int) : Prop := (Lit.float .f64 r).wf = true ∧ ((inE x = true ∧ c = 0 ∧ fv r = expF x) ∨ (inE x = false ∧ c = 260 ∧ r = 0))
theorem ExpOK.alike {x : Option Nat} {r s : Nat} {c d : Int} (h : ExpOK x r c) (k : ExpOK x s d) : fv r = fv s ∧ c = d := by
  obtain ⟨_, h⟩ := h
  obtain ⟨_, k⟩ := k
  rcases h with ⟨h1, h2, h3⟩ | ⟨h1, h2, h3⟩ <;> rcases k with ⟨k1, k2, k3⟩ | ⟨k1, k2, k3⟩ <;> simp_all
def ExpPost (x : Nat) (w : World) (e : Ending) (w' : World) : Prop :=
  ∃ r c m, e = .returned (.tuple #[.float .f64 r, .int .i64 c]) ∧ w' = w.drewN m ∧ ExpOK (fv x) r c

def Ser (y : Nat) (w : World) (t n : Value) (wr : World) : Prop :=
  ∃ (k r m : Nat), k ≤ 18 ∧ n = .int .i64 ((18 : Int) - k) ∧ t = .float .f64 r ∧ fv r = serF (fv y) k ∧ (Lit.float .f64 r).wf = true ∧ wr = w.drewN m

theorem exp_no (x : Nat) (w : World) (h : inE (fv x) = false) : Calls Try.prog 13 #[.float .f64 x] w (ExpPost x w) := by
  have hq : ExpPost x w (.returned (.tuple #[.float .f64 0, .int .i64 260])) w := ⟨0, 260, 0, rfl, rfl, by decide, .inr ⟨h, rfl, rfl⟩⟩
  have HQ := Lib.hid hq
  clear hq
  obtain ⟨B1, h1⟩ : ∃ B, (FloatKind.f64.format.order x 13872740517789302784 == some .gt || FloatKind.f64.format.order x 13872740517789302784 == some .eq) = B := ⟨_, rfl⟩
  obtain ⟨B2, h2⟩ : ∃ B, (FloatKind.f64.format.order x 4649368480934526976 == some .lt || FloatKind.f64.format.order x 4649368480934526976 == some .eq) = B := ⟨_, rfl⟩
  have hb : (B1 && B2) = false := by rw [← h1, ← h2, ford_eq, ford_eq]; exact h
  clear h
  cases B1 <;> cases B2 <;> simp at hb
  all_goals
    clear hb
    go_enter Try.func13, Try.ntmps13
    go_wp2_with fail
    go_ret2
    exact HQ.out

set_option maxHeartbeats 1000000 in
theorem exp_yes (x : Nat) (w : World) (h : inE (fv x) = true) : Calls Try.prog 13 #[.float .f64 x] w (ExpPost x w) := by
  have hb : (FloatKind.f64.format.order x 13872740517789302784 == some .gt || FloatKind.f64.format.order x 13872740517789302784 == some .eq) = true ∧ (FloatKind.f64.format.order x 4649368480934526976 == some .lt || FloatKind.f64.format.order x 4649368480934526976 == some .eq) = true := by
    simp only [ford_eq]; simpa [inE] using h
  obtain ⟨h1, h2⟩ := hb
  have HI := Lib.hid h
  clear h
  go_enter Try.func13, Try.ntmps13
  go_wp2_with (first | (refine wpList_float rfl .quo rfl _ _ _ _ rfl _ _ rfl rfl ?_; intro r n hr hw))
  go_loopw [5, 6] (Ser r w) (fun _ n _ => (intOf n).toNat)
  case atStart => exact ⟨0, one, n, by omega, rfl, rfl, rfl, by decide, rfl⟩
  case round =>
    obtain ⟨k, t, m, hk, rfl, rfl, ht, hw, rfl⟩ := hrel
    have HT := Lib.hid ht
    clear ht
    by_cases hlt : k < 18
    · have h3 : (0 : Int) < 18 - (k : Int) := by omega
      go_wp2_with (first | (refine wpList_float rfl .mul rfl _ _ _ _ rfl _ _ rfl rfl ?_; intro r1 n1 hr1 hw1; have HR1 := Lib.hid hr1; clear hr1) | (refine wpList_float rfl .quo rfl _ _ _ _ rfl _ _ rfl rfl ?_; intro r2 n2 hr2 hw2; have HR2 := Lib.hid hr2; clear hr2) | (refine wpList_float rfl .add rfl _ _ _ _ rfl _ _ rfl rfl ?_; intro r3 n3 hr3 hw3; have HR3 := Lib.hid hr3; clear hr3))
      go_roundw
      case rel =>
        refine ⟨k + 1, r3, _, by omega, by go_num, rfl, ?_, hw3, rfl⟩
        rw [HR3.out, HR2.out, HR1.out, HT.out]; rfl
      case measure => simp [intOf]; omega
    · obtain rfl : k = 18 := by omega
      have h3 : ((18 : Int) - ((18 : Nat) : Int)) = 0 := by omega
      rw [h3]
      go_wp2_with fail
      have HRE : Hid (fv t = serF (fv r) 18) := HT
      go_loopw [5, 29] (fun t2 i wr => ∃ (k q m2 : Nat), k ≤ 10 ∧ i = .int .i64 k ∧ t2 = .float .f64 q ∧ fv q = sqF (fv t) k ∧ (Lit.float .f64 q).wf = true ∧ wr = w.drewN m2) (fun _ n _ => 10 - (intOf n).toNat)
      case atStart => exact ⟨0, t, m, by omega, rfl, rfl, rfl, hw, rfl⟩
      case round =>
        obtain ⟨k, q, m2, hk, rfl, rfl, hq, hw2, rfl⟩ := hrel
        have HT2 := Lib.hid hq
        clear hq
        by_cases hlt : k < 10
        · go_wp2_with (first | (refine wpList_float rfl .mul rfl _ _ _ _ rfl _ _ rfl rfl ?_; intro r1 n1 hr1 hw1; have HR1 := Lib.hid hr1; clear hr1))
          go_roundw
          case rel => exact ⟨k + 1, r1, _, by omega, by go_num, rfl, by rw [HR1.out, HT2.out]; rfl, hw1, rfl⟩
          case measure => simp [intOf]; omega
        · obtain rfl : k = 10 := by omega
          go_wp2_with fail
          go_ret2
          exact ⟨q, 0, _, rfl, rfl, hw2, .inl ⟨HI.out, rfl, by rw [HT2.out, HRE.out, hr]; rfl⟩⟩

theorem exp_any (x : Nat) (w : World) : Calls Try.prog 13 #[.float .f64 x] w (ExpPost x w) := by
  by_cases h : inE (fv x) = true
  · exact exp_yes x w h
  · exact exp_no x w (by simpa using h)

/-! ### the document's -/
theorem rexp_no (x : Nat) (w : World) (h : inE (fv x) = false) : Calls Try.prog 15 #[.float .f64 x] w (ExpPost x w) := by
  have hq : ExpPost x w (.returned (.tuple #[.float .f64 0, .int .i64 260])) w := ⟨0, 260, 0, rfl, rfl, by decide, .inr ⟨h, rfl, rfl⟩⟩
  have HQ := Lib.hid hq
  clear hq
  obtain ⟨B1, h1⟩ : ∃ B, (FloatKind.f64.format.order x 13872740517789302784 == some .gt || FloatKind.f64.format.order x 13872740517789302784 == some .eq) = B := ⟨_, rfl⟩
  obtain ⟨B2, h2⟩ : ∃ B, (FloatKind.f64.format.order x 4649368480934526976 == some .lt || FloatKind.f64.format.order x 4649368480934526976 == some .eq) = B := ⟨_, rfl⟩
  have hb : (B1 && B2) = false := by rw [← h1, ← h2, ford_eq, ford_eq]; exact h
  clear h
  cases B1 <;> cases B2 <;> simp at hb
  all_goals
    clear hb
    go_enter Try.func15, Try.ntmps15
    go_wp2_with fail
    go_ret2
    exact HQ.out

set_option maxHeartbeats 1000000 in
theorem rexp_yes (x : Nat) (w : World) (h : inE (fv x) = true) : Calls Try.prog 15 #[.float .f64 x] w (ExpPost x w) := by
  have hb : (FloatKind.f64.format.order x 13872740517789302784 == some .gt || FloatKind.f64.format.order x 13872740517789302784 == some .eq) = true ∧ (FloatKind.f64.format.order x 4649368480934526976 == some .lt || FloatKind.f64.format.order x 4649368480934526976 == some .eq) = true := by
    simp only [ford_eq]; simpa [inE] using h
  obtain ⟨h1, h2⟩ := hb
  have HI := Lib.hid h
  clear h
  go_enter Try.func15, Try.ntmps15
  go_wp2_with (first | (refine wpList_float rfl .quo rfl _ _ _ _ rfl _ _ rfl rfl ?_; intro r n hr hw))
  go_loopw [6, 7] (Ser r w) (fun _ n _ => (intOf n).toNat)
  case atStart => exact ⟨0, one, n, by omega, rfl, rfl, rfl, by decide, rfl⟩
  case round =>
    obtain ⟨k, t, m, hk, rfl, rfl, ht, hw, rfl⟩ := hrel
    have HT := Lib.hid ht
    clear ht
    by_cases hlt : k < 18
    · have h3 : (0 : Int) < 18 - (k : Int) := by omega
      go_wp2_with (first | (refine wpList_float rfl .mul rfl _ _ _ _ rfl _ _ rfl rfl ?_; intro r1 n1 hr1 hw1; have HR1 := Lib.hid hr1; clear hr1) | (refine wpList_float rfl .quo rfl _ _ _ _ rfl _ _ rfl rfl ?_; intro r2 n2 hr2 hw2; have HR2 := Lib.hid hr2; clear hr2) | (refine wpList_float rfl .add rfl _ _ _ _ rfl _ _ rfl rfl ?_; intro r3 n3 hr3 hw3; have HR3 := Lib.hid hr3; clear hr3))
      go_roundw
      case rel =>
        refine ⟨k + 1, r3, _, by omega, by go_num, rfl, ?_, hw3, rfl⟩
        rw [HR3.out, HR2.out, HR1.out, HT.out]; rfl
      case measure => simp [intOf]; omega
    · obtain rfl : k = 18 := by omega
      have h3 : ((18 : Int) - ((18 : Nat) : Int)) = 0 := by omega
      rw [h3]
      go_wp2_with fail
      have HRE : Hid (fv t = serF (fv r) 18) := HT
      go_loopw [6, 10] (fun t2 i wr => ∃ (k q m2 : Nat), k ≤ 10 ∧ i = .int .i64 k ∧ t2 = .float .f64 q ∧ fv q = sqF (fv t) k ∧ (Lit.float .f64 q).wf = true ∧ wr = w.drewN m2) (fun _ n _ => 10 - (intOf n).toNat)
      case atStart => exact ⟨0, t, m, by omega, rfl, rfl, rfl, hw, rfl⟩
      case round =>
        obtain ⟨k, q, m2, hk, rfl, rfl, hq, hw2, rfl⟩ := hrel
        have HT2 := Lib.hid hq
        clear hq
        by_cases hlt : k < 10
        · go_wp2_with (first | (refine wpList_float rfl .mul rfl _ _ _ _ rfl _ _ rfl rfl ?_; intro r1 n1 hr1 hw1; have HR1 := Lib.hid hr1; clear hr1))
          go_roundw
          case rel => exact ⟨k + 1, r1, _, by omega, by go_num, rfl, by rw [HR1.out, HT2.out]; rfl, hw1, rfl⟩
          case measure => simp [intOf]; omega
        · obtain rfl : k = 10 := by omega
          go_wp2_with fail
          go_ret2
          exact ⟨q, 0, _, rfl, rfl, hw2, .inl ⟨HI.out, rfl, by rw [HT2.out, HRE.out, hr]; rfl⟩⟩

theorem rexp_any (x : Nat) (w : World) : Calls Try.prog 15 #[.float .f64 x] w (ExpPost x w) := by
  by_cases h : inE (fv x) = true
  · exact rexp_yes x w h
  · exact rexp_no x w (by simpa using h)
end Go.Proofs.Ytcfbaildcocnhaa

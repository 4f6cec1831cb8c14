/-
  Walks: told, Simple, root, Advanced: the program's and the document's.
-/
import Derived.Test.YtcfbaildcocnhaaBs
import Derived.LoopTactic
import Derived.Deep.DeepCutAuto
import Derived.Outline
set_option linter.unusedVariables false
set_option linter.unusedSimpArgs false
namespace Go.Proofs.Ytcfbaildcocnhaa
open Go.RowKit

/-- '+', '-', '*', '/' on floats, as an operation of a region that draws takes it. -/
theorem wp_float {P : Program} {w : World} {o : Oper} {a : Act} {K : Act → World → Prop} {Q : Exit → Act → World → Prop}
    (op : BinOp) (hop : isArith op = true) (t u : TypeId) (x y : Operand) (ho : o.op = .binOp op t x y u) (bx cx : Nat) (hx : a.eval x = .float .f64 bx) (hy : a.eval y = .float .f64 cx)
    (hK : ∀ r n, fv r = fop op (fv bx) (fv cx) → K (a.put o.dst (.float .f64 r)) (w.drewN n)) : o.wp P a w K Q := by
  obtain ⟨r, n, hrun, h1, h2⟩ := run_float_any (P := P) w op hop t bx cx
  unfold Oper.wp
  simp [execOp, ho, hx, hy, Result.andThen]
  have hgd : (eqGuard op t x y (.float .f64 bx) (.float .f64 cx)).run P w = .ok () w := by
    cases op <;> simp [isArith] at hop <;> simp [eqGuard]
  rw [hgd]
  simp only [hrun]
  exact hK r n h1

abbrev LF := Option Nat × Option Nat × Int
def toldF (e d : Option Nat) : LF := if fin e && fin d then (e, d, 0) else (fv 0, fv 0, 260)
def LossP (T : LF) (w : World) (e : Ending) (w' : World) : Prop := ∃ a b, e = .returned (.tuple #[.agg #[.float .f64 a, .float .f64 b], .int .i64 T.2.2]) ∧ fv a = T.1 ∧ fv b = T.2.1 ∧ Below w.heap.size w w'
theorem LossP.mk {T T' : LF} {w w' : World} {a b : Nat} (hT : T = T') (ha : fv a = T'.1) (hb : fv b = T'.2.1) (hw : Below w.heap.size w w') {c : Int} (hc : c = T'.2.2) : LossP T w (.returned (.tuple #[.agg #[.float .f64 a, .float .f64 b], .int .i64 c])) w' := by
  subst hT hc
  exact ⟨a, b, rfl, ha, hb, hw⟩
def kF (n : Int) : Option Nat := fv (floatOfInt .f64 n)
def outN (n : Int) : Bool := decide (n < 0) || decide (65536 < n)
def simpleF (E D : Option Nat) (n : Int) : LF := if outN n then (fv 0, fv 0, 2) else if fin E && fin D then toldF (fop .mul (kF n) E) (fop .mul (kF n) D) else (fv 0, fv 0, 260)
/-- Steps of the root. -/
def rtF (x r : Option Nat) : Nat → Option Nat
  | 0 => r
  | j + 1 => fop .quo (fop .add (rtF x r j) (fop .quo x (rtF x r j))) (fv 4611686018427387904)
def rootF (x : Option Nat) : Option Nat := if ford x (fv 0) == some .eq then fv 0 else rtF x (fop .add (fv one) x) 64
def exF (x : Option Nat) : Option Nat := if inE x then expF x else fv 0
def exC (x : Option Nat) : Int := if inE x then 0 else 260
def le7 (x : Option Nat) : Bool := ford x (fv 4649368480934526976) == some .lt || ford x (fv 4649368480934526976) == some .eq
def le1 (x : Option Nat) : Bool := ford x (fv 4607182418800017408) == some .lt || ford x (fv 4607182418800017408) == some .eq
def mayF (N S : Option Nat) : Bool := ge0 N && le7 N && ge0 S && le1 S
def badF (E N S : Option Nat) : Bool := (ford (exF (fop .sub (fv 0) N)) S == some .gt) || !(exC E == 0)
def advF (E D : Option Nat) (n : Int) (N S : Option Nat) : LF :=
  if outN n then (fv 0, fv 0, 2) else if fin E && fin D && mayF N S then
    (if badF E N S then (fv 0, fv 0, 260) else
      toldF (fop .add (fop .mul (rootF (fop .mul (fop .mul (fv 4611686018427387904) (kF n)) N)) E) (fop .mul (fop .mul (kF n) E) (fop .sub (exF E) (fv 4607182418800017408)))) (fop .add (fop .mul (kF n) D) S))
  else (fv 0, fv 0, 260)
theorem exp_of (f : FuncId) (hf : ∀ x w, Calls Try.prog f #[.float .f64 x] w (ExpPost x w)) (x : Nat) (w : World) : Calls Try.prog f #[.float .f64 x] w fun e w' => ∃ r m, e = .returned (.tuple #[.float .f64 r, .int .i64 (exC (fv x))]) ∧ w' = w.drewN m ∧ fv r = exF (fv x) := by
  refine (hf x w).mono ?_
  rintro e w' ⟨r, c, m, rfl, rfl, -, ⟨h1, rfl, h2⟩ | ⟨h1, rfl, rfl⟩⟩
  · exact ⟨r, m, by unfold exC; rw [h1]; rfl, rfl, by unfold exF; rw [h1, h2]; rfl⟩
  · exact ⟨0, m, by unfold exC; rw [h1]; rfl, rfl, by unfold exF; rw [h1]; rfl⟩

set_option maxHeartbeats 4000000 in
theorem told_any (E D : Nat) (w : World) : Calls Try.prog 52 #[.agg #[.float .f64 E, .float .f64 D]] w (LossP (toldF (fv E) (fv D)) w) := by
  have b0 := (((Below.refl w.heap.size w).alloc (Nat.le_refl _) (.cells #[.float .f64 E, .float .f64 D] 34)).alloc (by simp) (.cells #[.float .f64 0, .float .f64 0] 34))
  have B0 := Lib.hid b0
  have L0 : Hid (Blk ((w.alloc (.cells #[.float .f64 E, .float .f64 D] 34)).alloc (.cells #[.float .f64 0, .float .f64 0] 34)) w.heap.size 34 [.float .f64 E, .float .f64 D]) := Lib.hid ((Blk.new w 34 [.float .f64 E, .float .f64 D]).alloc _)
  have R0 : Hid (Blk ((w.alloc (.cells #[.float .f64 E, .float .f64 D] 34)).alloc (.cells #[.float .f64 0, .float .f64 0] 34)) (w.heap.size + 1) 34 [.float .f64 0, .float .f64 0]) := Lib.hid (Blk.new_at _ 34 [.float .f64 0, .float .f64 0] (by simp))
  clear b0
  go_enter Try.func52, Try.ntmps52
  go_wp2_with fail
  refine (good_any E D _).mono ?_
  rintro e w1 ⟨rfl, b1⟩
  have B1 := Lib.hid (B0.out.trans (b1.mono B0.out.size))
  have L1 := Lib.hid (L0.out.below b1 (Blk.lt L0.out))
  have R1 := Lib.hid (R0.out.below b1 (Blk.lt R0.out))
  clear B0 L0 R0 b1
  generalize hR : w.heap.size + 1 = R at R1 ⊢
  have HR : Hid (w.heap.size ≤ R) := Lib.hid (by omega)
  clear hR
  cases hg : (fin (fv E) && fin (fv D))
  · have HG := Lib.hid hg
    clear hg
    go_wp2_with (refine wpList_store_row rfl 34 _ _ rfl R #[.float .f64 0, .float .f64 0] rfl rfl 34 #[.float .f64 0, .float .f64 0] R1.out (by kernel_rfl) rfl (by kernel_rfl) ?_)
    have hq : Blk (w1.setRow R #[.float .f64 0, .float .f64 0]) R 34 [.float .f64 0, .float .f64 0] := setRow_heap _ _ _ _ _ _ R1.out
    have r0 : (w1.setRow R #[.float .f64 0, .float .f64 0]).cell? ⟨R, 0, none⟩ = some (.float .f64 0) := hq.cell 0
    have r1 : (w1.setRow R #[.float .f64 0, .float .f64 0]).cell? ⟨R, 1, none⟩ = some (.float .f64 0) := hq.cell 1
    refine bodyPost_ret (v := .tuple #[.agg #[.float .f64 0, .float .f64 0], .int .i64 260]) (by simp [results, Try.results52, go_sem, r0, r1]) rfl ?_
    exact LossP.mk (T' := (fv 0, fv 0, 260)) (by unfold toldF; rw [HG.out]; rfl) rfl rfl (below_setRow B1.out HR.out _) rfl
  · have HG := Lib.hid hg
    clear hg
    go_wp2_with (first
      | (refine wpList_load_row rfl 34 _ rfl w.heap.size rfl 34 #[.float .f64 E, .float .f64 D] (0, 0) _ L1.out Try.underlying34 rfl (by kernel_rfl) ?_)
      | (refine wpList_store_row rfl 34 _ _ rfl R #[.float .f64 E, .float .f64 D] rfl rfl 34 #[.float .f64 0, .float .f64 0] R1.out (by kernel_rfl) rfl (by kernel_rfl) ?_))
    have hq : Blk (w1.setRow R #[.float .f64 E, .float .f64 D]) R 34 [.float .f64 E, .float .f64 D] := setRow_heap _ _ _ _ _ _ R1.out
    have r0 : (w1.setRow R #[.float .f64 E, .float .f64 D]).cell? ⟨R, 0, none⟩ = some (.float .f64 E) := hq.cell 0
    have r1 : (w1.setRow R #[.float .f64 E, .float .f64 D]).cell? ⟨R, 1, none⟩ = some (.float .f64 D) := hq.cell 1
    refine bodyPost_ret (v := .tuple #[.agg #[.float .f64 E, .float .f64 D], .int .i64 0]) (by simp [results, Try.results52, go_sem, r0, r1]) rfl ?_
    exact LossP.mk (T' := (fv E, fv D, 0)) (by unfold toldF; rw [HG.out]; rfl) rfl rfl (below_setRow B1.out HR.out _) rfl
set_option maxHeartbeats 4000000 in
theorem rtold_any (E D : Nat) (w : World) : Calls Try.prog 53 #[.agg #[.float .f64 E, .float .f64 D]] w (LossP (toldF (fv E) (fv D)) w) := by
  have b0 := (((Below.refl w.heap.size w).alloc (Nat.le_refl _) (.cells #[.float .f64 E, .float .f64 D] 34)).alloc (by simp) (.cells #[.float .f64 0, .float .f64 0] 34))
  have B0 := Lib.hid b0
  have L0 : Hid (Blk ((w.alloc (.cells #[.float .f64 E, .float .f64 D] 34)).alloc (.cells #[.float .f64 0, .float .f64 0] 34)) w.heap.size 34 [.float .f64 E, .float .f64 D]) := Lib.hid ((Blk.new w 34 [.float .f64 E, .float .f64 D]).alloc _)
  have R0 : Hid (Blk ((w.alloc (.cells #[.float .f64 E, .float .f64 D] 34)).alloc (.cells #[.float .f64 0, .float .f64 0] 34)) (w.heap.size + 1) 34 [.float .f64 0, .float .f64 0]) := Lib.hid (Blk.new_at _ 34 [.float .f64 0, .float .f64 0] (by simp))
  clear b0
  go_enter Try.func53, Try.ntmps53
  go_wp2_with fail
  refine (rgood_any E D _).mono ?_
  rintro e w1 ⟨rfl, b1⟩
  have B1 := Lib.hid (B0.out.trans (b1.mono B0.out.size))
  have L1 := Lib.hid (L0.out.below b1 (Blk.lt L0.out))
  have R1 := Lib.hid (R0.out.below b1 (Blk.lt R0.out))
  clear B0 L0 R0 b1
  generalize hR : w.heap.size + 1 = R at R1 ⊢
  have HR : Hid (w.heap.size ≤ R) := Lib.hid (by omega)
  clear hR
  cases hg : (fin (fv E) && fin (fv D))
  · have HG := Lib.hid hg
    clear hg
    go_wp2_with (refine wpList_store_row rfl 34 _ _ rfl R #[.float .f64 0, .float .f64 0] rfl rfl 34 #[.float .f64 0, .float .f64 0] R1.out (by kernel_rfl) rfl (by kernel_rfl) ?_)
    have hq : Blk (w1.setRow R #[.float .f64 0, .float .f64 0]) R 34 [.float .f64 0, .float .f64 0] := setRow_heap _ _ _ _ _ _ R1.out
    have r0 : (w1.setRow R #[.float .f64 0, .float .f64 0]).cell? ⟨R, 0, none⟩ = some (.float .f64 0) := hq.cell 0
    have r1 : (w1.setRow R #[.float .f64 0, .float .f64 0]).cell? ⟨R, 1, none⟩ = some (.float .f64 0) := hq.cell 1
    refine bodyPost_ret (v := .tuple #[.agg #[.float .f64 0, .float .f64 0], .int .i64 260]) (by simp [results, Try.results53, go_sem, r0, r1]) rfl ?_
    exact LossP.mk (T' := (fv 0, fv 0, 260)) (by unfold toldF; rw [HG.out]; rfl) rfl rfl (below_setRow B1.out HR.out _) rfl
  · have HG := Lib.hid hg
    clear hg
    go_wp2_with (first
      | (refine wpList_load_row rfl 34 _ rfl w.heap.size rfl 34 #[.float .f64 E, .float .f64 D] (0, 0) _ L1.out Try.underlying34 rfl (by kernel_rfl) ?_)
      | (refine wpList_store_row rfl 34 _ _ rfl R #[.float .f64 E, .float .f64 D] rfl rfl 34 #[.float .f64 0, .float .f64 0] R1.out (by kernel_rfl) rfl (by kernel_rfl) ?_))
    have hq : Blk (w1.setRow R #[.float .f64 E, .float .f64 D]) R 34 [.float .f64 E, .float .f64 D] := setRow_heap _ _ _ _ _ _ R1.out
    have r0 : (w1.setRow R #[.float .f64 E, .float .f64 D]).cell? ⟨R, 0, none⟩ = some (.float .f64 E) := hq.cell 0
    have r1 : (w1.setRow R #[.float .f64 E, .float .f64 D]).cell? ⟨R, 1, none⟩ = some (.float .f64 D) := hq.cell 1
    refine bodyPost_ret (v := .tuple #[.agg #[.float .f64 E, .float .f64 D], .int .i64 0]) (by simp [results, Try.results53, go_sem, r0, r1]) rfl ?_
    exact LossP.mk (T' := (fv E, fv D, 0)) (by unfold toldF; rw [HG.out]; rfl) rfl rfl (below_setRow B1.out HR.out _) rfl
set_option maxHeartbeats 8000000 in
theorem simple_any (E D : Nat) (n : Int) (w : World) : Calls Try.prog 20 #[.agg #[.float .f64 E, .float .f64 D], .int .i64 n] w (LossP (simpleF (fv E) (fv D) n) w) := by
  have b0 := (((Below.refl w.heap.size w).alloc (Nat.le_refl _) (.cells #[.float .f64 E, .float .f64 D] 34)).alloc (by simp) (.cells #[.float .f64 0, .float .f64 0] 34))
  have B0 := Lib.hid b0
  have L0 : Hid (Blk ((w.alloc (.cells #[.float .f64 E, .float .f64 D] 34)).alloc (.cells #[.float .f64 0, .float .f64 0] 34)) w.heap.size 34 [.float .f64 E, .float .f64 D]) := Lib.hid ((Blk.new w 34 [.float .f64 E, .float .f64 D]).alloc _)
  have R0 : Hid (Blk ((w.alloc (.cells #[.float .f64 E, .float .f64 D] 34)).alloc (.cells #[.float .f64 0, .float .f64 0] 34)) (w.heap.size + 1) 34 [.float .f64 0, .float .f64 0]) := Lib.hid (Blk.new_at _ 34 [.float .f64 0, .float .f64 0] (by simp))
  clear b0
  go_enter Try.func20, Try.ntmps20
  go_upto_region 1 with fail
  generalize hR : w.heap.size + 1 = R at R0 ⊢
  have HR : Hid (w.heap.size ≤ R ∧ ¬ w.heap.size = R) := Lib.hid (by omega)
  clear hR
  generalize (w.alloc (.cells #[.float .f64 E, .float .f64 D] 34)).alloc (.cells #[.float .f64 0, .float .f64 0] 34) = w0 at *
  obtain ⟨n1, hn1⟩ : ∃ b, decide (n < 0) = b := ⟨_, rfl⟩
  obtain ⟨n2, hn2⟩ : ∃ b, decide (65536 < n) = b := ⟨_, rfl⟩
  have HO : Hid (outN n = (n1 || n2)) := Lib.hid (by unfold outN; rw [hn1, hn2])
  cases n1
  · cases n2
    · have l0 : w0.cell? ⟨w.heap.size, 0, none⟩ = some (.float .f64 E) := L0.out.cell 0
      have l1 : w0.cell? ⟨w.heap.size, 1, none⟩ = some (.float .f64 D) := L0.out.cell 1
      go_wp2_with fail
      clear l0 l1
      refine (good_any E D _).mono ?_
      rintro e w1 ⟨rfl, b1⟩
      have B1 := Lib.hid (B0.out.trans (b1.mono B0.out.size))
      have L1 := Lib.hid (L0.out.below b1 (Blk.lt L0.out))
      have R1 := Lib.hid (R0.out.below b1 (Blk.lt R0.out))
      clear B0 L0 R0 b1
      cases hg : (fin (fv E) && fin (fv D))
      · have HG := Lib.hid hg
        clear hg
        go_wp2_with (refine wpList_store_row rfl 34 _ _ rfl R #[.float .f64 0, .float .f64 0] rfl rfl 34 #[.float .f64 0, .float .f64 0] R1.out (by kernel_rfl) rfl (by kernel_rfl) ?_)
        have hq : Blk (w1.setRow R #[.float .f64 0, .float .f64 0]) R 34 [.float .f64 0, .float .f64 0] := setRow_heap _ _ _ _ _ _ R1.out
        have r0 : (w1.setRow R #[.float .f64 0, .float .f64 0]).cell? ⟨R, 0, none⟩ = some (.float .f64 0) := hq.cell 0
        have r1 : (w1.setRow R #[.float .f64 0, .float .f64 0]).cell? ⟨R, 1, none⟩ = some (.float .f64 0) := hq.cell 1
        refine bodyPost_ret (v := .tuple #[.agg #[.float .f64 0, .float .f64 0], .int .i64 260]) (by simp [results, Try.results20, go_sem, r0, r1]) rfl ?_
        exact LossP.mk (T' := (fv 0, fv 0, 260)) (by unfold simpleF; rw [HO.out, HG.out]; rfl) rfl rfl (below_setRow B1.out HR.out.1 _) rfl
      · have HG := Lib.hid hg
        clear hg
        have l0 : w1.cell? ⟨w.heap.size, 0, none⟩ = some (.float .f64 E) := L1.out.cell 0
        have l1 : w1.cell? ⟨w.heap.size, 1, none⟩ = some (.float .f64 D) := L1.out.cell 1
        go_wp2_with (first | (have zz := Hra.out; clear zz; refine wpList_float rfl .mul rfl _ _ _ _ rfl _ _ rfl rfl ?_; intro rb mrb hr _; have Hrb := Lib.hid hr; clear hr) | (refine wpList_float rfl .mul rfl _ _ _ _ rfl _ _ rfl rfl ?_; intro ra mra hr _; have Hra := Lib.hid hr; clear hr))
        have B2 : Hid (Below w.heap.size w (w1.drewN (mra + mrb))) := Lib.hid (belowN B1.out _)
        have R2 : Hid (Blk (w1.drewN (mra + mrb)) R 34 [.float .f64 0, .float .f64 0]) := Lib.hid (R1.out.drewN _)
        clear B1 R1 L1 l0 l1
        refine (told_any ra rb _).mono ?_
        rintro e w3 ⟨ea, eb, rfl, hea, heb, bb⟩
        have HE := Lib.hid hea
        have HF := Lib.hid heb
        have B3 := Lib.hid (B2.out.trans (bb.mono B2.out.size))
        have R3 := Lib.hid (R2.out.below bb (Blk.lt R2.out))
        clear hea heb bb B2 R2
        go_wp2_with (refine wpList_store_row rfl 34 _ _ rfl R #[.float .f64 ea, .float .f64 eb] rfl rfl 34 #[.float .f64 0, .float .f64 0] R3.out (by kernel_rfl) rfl (by kernel_rfl) ?_)
        have hq : Blk (w3.setRow R #[.float .f64 ea, .float .f64 eb]) R 34 [.float .f64 ea, .float .f64 eb] := setRow_heap _ _ _ _ _ _ R3.out
        have r0 : (w3.setRow R #[.float .f64 ea, .float .f64 eb]).cell? ⟨R, 0, none⟩ = some (.float .f64 ea) := hq.cell 0
        have r1 : (w3.setRow R #[.float .f64 ea, .float .f64 eb]).cell? ⟨R, 1, none⟩ = some (.float .f64 eb) := hq.cell 1
        refine bodyPost_ret (v := .tuple #[.agg #[.float .f64 ea, .float .f64 eb], .int .i64 (toldF (fv ra) (fv rb)).2.2]) (by simp [results, Try.results20, go_sem, r0, r1]) rfl ?_
        exact LossP.mk (T' := toldF (fv ra) (fv rb)) (by unfold simpleF; rw [HO.out, HG.out, Hra.out, Hrb.out]; rfl) HE.out HF.out (below_setRow B3.out HR.out.1 _) rfl
    · go_wp2_with (refine wpList_store_row rfl 34 _ _ rfl R #[.float .f64 0, .float .f64 0] rfl rfl 34 #[.float .f64 0, .float .f64 0] R0.out (by kernel_rfl) rfl (by kernel_rfl) ?_)
      have hq : Blk (w0.setRow R #[.float .f64 0, .float .f64 0]) R 34 [.float .f64 0, .float .f64 0] := setRow_heap _ _ _ _ _ _ R0.out
      have r0 : (w0.setRow R #[.float .f64 0, .float .f64 0]).cell? ⟨R, 0, none⟩ = some (.float .f64 0) := hq.cell 0
      have r1 : (w0.setRow R #[.float .f64 0, .float .f64 0]).cell? ⟨R, 1, none⟩ = some (.float .f64 0) := hq.cell 1
      refine bodyPost_ret (v := .tuple #[.agg #[.float .f64 0, .float .f64 0], .int .i64 2]) (by simp [results, Try.results20, go_sem, r0, r1]) rfl ?_
      exact LossP.mk (T' := (fv 0, fv 0, 2)) (by unfold simpleF; rw [HO.out]; rfl) rfl rfl (below_setRow B0.out HR.out.1 _) rfl
  · go_wp2_with (refine wpList_store_row rfl 34 _ _ rfl R #[.float .f64 0, .float .f64 0] rfl rfl 34 #[.float .f64 0, .float .f64 0] R0.out (by kernel_rfl) rfl (by kernel_rfl) ?_)
    have hq : Blk (w0.setRow R #[.float .f64 0, .float .f64 0]) R 34 [.float .f64 0, .float .f64 0] := setRow_heap _ _ _ _ _ _ R0.out
    have r0 : (w0.setRow R #[.float .f64 0, .float .f64 0]).cell? ⟨R, 0, none⟩ = some (.float .f64 0) := hq.cell 0
    have r1 : (w0.setRow R #[.float .f64 0, .float .f64 0]).cell? ⟨R, 1, none⟩ = some (.float .f64 0) := hq.cell 1
    refine bodyPost_ret (v := .tuple #[.agg #[.float .f64 0, .float .f64 0], .int .i64 2]) (by simp [results, Try.results20, go_sem, r0, r1]) rfl ?_
    exact LossP.mk (T' := (fv 0, fv 0, 2)) (by unfold simpleF; rw [HO.out]; rfl) rfl rfl (below_setRow B0.out HR.out.1 _) rfl
set_option maxHeartbeats 8000000 in
theorem rsimple_any (E D : Nat) (n : Int) (w : World) : Calls Try.prog 21 #[.agg #[.float .f64 E, .float .f64 D], .int .i64 n] w (LossP (simpleF (fv E) (fv D) n) w) := by
  have b0 := (((Below.refl w.heap.size w).alloc (Nat.le_refl _) (.cells #[.float .f64 E, .float .f64 D] 34)).alloc (by simp) (.cells #[.float .f64 0, .float .f64 0] 34))
  have B0 := Lib.hid b0
  have L0 : Hid (Blk ((w.alloc (.cells #[.float .f64 E, .float .f64 D] 34)).alloc (.cells #[.float .f64 0, .float .f64 0] 34)) w.heap.size 34 [.float .f64 E, .float .f64 D]) := Lib.hid ((Blk.new w 34 [.float .f64 E, .float .f64 D]).alloc _)
  have R0 : Hid (Blk ((w.alloc (.cells #[.float .f64 E, .float .f64 D] 34)).alloc (.cells #[.float .f64 0, .float .f64 0] 34)) (w.heap.size + 1) 34 [.float .f64 0, .float .f64 0]) := Lib.hid (Blk.new_at _ 34 [.float .f64 0, .float .f64 0] (by simp))
  clear b0
  go_enter Try.func21, Try.ntmps21
  go_upto_region 1 with fail
  generalize hR : w.heap.size + 1 = R at R0 ⊢
  have HR : Hid (w.heap.size ≤ R ∧ ¬ w.heap.size = R) := Lib.hid (by omega)
  clear hR
  generalize (w.alloc (.cells #[.float .f64 E, .float .f64 D] 34)).alloc (.cells #[.float .f64 0, .float .f64 0] 34) = w0 at *
  obtain ⟨n1, hn1⟩ : ∃ b, decide (n < 0) = b := ⟨_, rfl⟩
  obtain ⟨n2, hn2⟩ : ∃ b, decide (65536 < n) = b := ⟨_, rfl⟩
  have HO : Hid (outN n = (n1 || n2)) := Lib.hid (by unfold outN; rw [hn1, hn2])
  cases n1
  · cases n2
    · have l0 : w0.cell? ⟨w.heap.size, 0, none⟩ = some (.float .f64 E) := L0.out.cell 0
      have l1 : w0.cell? ⟨w.heap.size, 1, none⟩ = some (.float .f64 D) := L0.out.cell 1
      go_wp2_with fail
      clear l0 l1
      refine (rgood_any E D _).mono ?_
      rintro e w1 ⟨rfl, b1⟩
      have B1 := Lib.hid (B0.out.trans (b1.mono B0.out.size))
      have L1 := Lib.hid (L0.out.below b1 (Blk.lt L0.out))
      have R1 := Lib.hid (R0.out.below b1 (Blk.lt R0.out))
      clear B0 L0 R0 b1
      cases hg : (fin (fv E) && fin (fv D))
      · have HG := Lib.hid hg
        clear hg
        go_wp2_with (refine wpList_store_row rfl 34 _ _ rfl R #[.float .f64 0, .float .f64 0] rfl rfl 34 #[.float .f64 0, .float .f64 0] R1.out (by kernel_rfl) rfl (by kernel_rfl) ?_)
        have hq : Blk (w1.setRow R #[.float .f64 0, .float .f64 0]) R 34 [.float .f64 0, .float .f64 0] := setRow_heap _ _ _ _ _ _ R1.out
        have r0 : (w1.setRow R #[.float .f64 0, .float .f64 0]).cell? ⟨R, 0, none⟩ = some (.float .f64 0) := hq.cell 0
        have r1 : (w1.setRow R #[.float .f64 0, .float .f64 0]).cell? ⟨R, 1, none⟩ = some (.float .f64 0) := hq.cell 1
        refine bodyPost_ret (v := .tuple #[.agg #[.float .f64 0, .float .f64 0], .int .i64 260]) (by simp [results, Try.results21, go_sem, r0, r1]) rfl ?_
        exact LossP.mk (T' := (fv 0, fv 0, 260)) (by unfold simpleF; rw [HO.out, HG.out]; rfl) rfl rfl (below_setRow B1.out HR.out.1 _) rfl
      · have HG := Lib.hid hg
        clear hg
        have l0 : w1.cell? ⟨w.heap.size, 0, none⟩ = some (.float .f64 E) := L1.out.cell 0
        have l1 : w1.cell? ⟨w.heap.size, 1, none⟩ = some (.float .f64 D) := L1.out.cell 1
        go_wp2_with (first | (have zz := Hra.out; clear zz; refine wpList_float rfl .mul rfl _ _ _ _ rfl _ _ rfl rfl ?_; intro rb mrb hr _; have Hrb := Lib.hid hr; clear hr) | (refine wpList_float rfl .mul rfl _ _ _ _ rfl _ _ rfl rfl ?_; intro ra mra hr _; have Hra := Lib.hid hr; clear hr))
        have B2 : Hid (Below w.heap.size w (w1.drewN (mra + mrb))) := Lib.hid (belowN B1.out _)
        have R2 : Hid (Blk (w1.drewN (mra + mrb)) R 34 [.float .f64 0, .float .f64 0]) := Lib.hid (R1.out.drewN _)
        clear B1 R1 L1 l0 l1
        refine (rtold_any ra rb _).mono ?_
        rintro e w3 ⟨ea, eb, rfl, hea, heb, bb⟩
        have HE := Lib.hid hea
        have HF := Lib.hid heb
        have B3 := Lib.hid (B2.out.trans (bb.mono B2.out.size))
        have R3 := Lib.hid (R2.out.below bb (Blk.lt R2.out))
        clear hea heb bb B2 R2
        go_wp2_with (refine wpList_store_row rfl 34 _ _ rfl R #[.float .f64 ea, .float .f64 eb] rfl rfl 34 #[.float .f64 0, .float .f64 0] R3.out (by kernel_rfl) rfl (by kernel_rfl) ?_)
        have hq : Blk (w3.setRow R #[.float .f64 ea, .float .f64 eb]) R 34 [.float .f64 ea, .float .f64 eb] := setRow_heap _ _ _ _ _ _ R3.out
        have r0 : (w3.setRow R #[.float .f64 ea, .float .f64 eb]).cell? ⟨R, 0, none⟩ = some (.float .f64 ea) := hq.cell 0
        have r1 : (w3.setRow R #[.float .f64 ea, .float .f64 eb]).cell? ⟨R, 1, none⟩ = some (.float .f64 eb) := hq.cell 1
        refine bodyPost_ret (v := .tuple #[.agg #[.float .f64 ea, .float .f64 eb], .int .i64 (toldF (fv ra) (fv rb)).2.2]) (by simp [results, Try.results21, go_sem, r0, r1]) rfl ?_
        exact LossP.mk (T' := toldF (fv ra) (fv rb)) (by unfold simpleF; rw [HO.out, HG.out, Hra.out, Hrb.out]; rfl) HE.out HF.out (below_setRow B3.out HR.out.1 _) rfl
    · go_wp2_with (refine wpList_store_row rfl 34 _ _ rfl R #[.float .f64 0, .float .f64 0] rfl rfl 34 #[.float .f64 0, .float .f64 0] R0.out (by kernel_rfl) rfl (by kernel_rfl) ?_)
      have hq : Blk (w0.setRow R #[.float .f64 0, .float .f64 0]) R 34 [.float .f64 0, .float .f64 0] := setRow_heap _ _ _ _ _ _ R0.out
      have r0 : (w0.setRow R #[.float .f64 0, .float .f64 0]).cell? ⟨R, 0, none⟩ = some (.float .f64 0) := hq.cell 0
      have r1 : (w0.setRow R #[.float .f64 0, .float .f64 0]).cell? ⟨R, 1, none⟩ = some (.float .f64 0) := hq.cell 1
      refine bodyPost_ret (v := .tuple #[.agg #[.float .f64 0, .float .f64 0], .int .i64 2]) (by simp [results, Try.results21, go_sem, r0, r1]) rfl ?_
      exact LossP.mk (T' := (fv 0, fv 0, 2)) (by unfold simpleF; rw [HO.out]; rfl) rfl rfl (below_setRow B0.out HR.out.1 _) rfl
  · go_wp2_with (refine wpList_store_row rfl 34 _ _ rfl R #[.float .f64 0, .float .f64 0] rfl rfl 34 #[.float .f64 0, .float .f64 0] R0.out (by kernel_rfl) rfl (by kernel_rfl) ?_)
    have hq : Blk (w0.setRow R #[.float .f64 0, .float .f64 0]) R 34 [.float .f64 0, .float .f64 0] := setRow_heap _ _ _ _ _ _ R0.out
    have r0 : (w0.setRow R #[.float .f64 0, .float .f64 0]).cell? ⟨R, 0, none⟩ = some (.float .f64 0) := hq.cell 0
    have r1 : (w0.setRow R #[.float .f64 0, .float .f64 0]).cell? ⟨R, 1, none⟩ = some (.float .f64 0) := hq.cell 1
    refine bodyPost_ret (v := .tuple #[.agg #[.float .f64 0, .float .f64 0], .int .i64 2]) (by simp [results, Try.results21, go_sem, r0, r1]) rfl ?_
    exact LossP.mk (T' := (fv 0, fv 0, 2)) (by unfold simpleF; rw [HO.out]; rfl) rfl rfl (below_setRow B0.out HR.out.1 _) rfl
set_option maxHeartbeats 4000000 in
theorem root_any (x : Nat) (w : World) : Calls Try.prog 54 #[.float .f64 x] w fun e w' => ∃ r m, e = .returned (.float .f64 r) ∧ w' = w.drewN m ∧ fv r = rootF (fv x) := by
  obtain ⟨B, hB⟩ : ∃ B, (FloatKind.f64.format.order x 0 == some .eq) = B := ⟨_, rfl⟩
  have HB : Hid ((ford (fv x) (fv 0) == some .eq) = B) := Lib.hid (by rw [← ford_eq]; exact hB)
  cases B
  · go_enter Try.func54, Try.ntmps54
    go_wp2_with ((refine wpList_float rfl .add rfl _ _ _ _ rfl _ _ rfl rfl ?_; intro r0 mr0 hr _; have Hr0 := Lib.hid hr; clear hr))
    go_loopw [3, 8] (fun t i wr => ∃ (k q m : Nat), k ≤ 64 ∧ i = .int .i64 k ∧ t = .float .f64 q ∧ fv q = rtF (fv x) (fv r0) k ∧ wr = w.drewN m) (fun _ i _ => 64 - (intOf i).toNat)
    case atStart => exact ⟨0, r0, mr0, by omega, rfl, rfl, rfl, rfl⟩
    case round =>
      obtain ⟨k, q, m, hk, rfl, rfl, hq, rfl⟩ := hrel
      have HQ := Lib.hid hq
      clear hq
      by_cases hlt : k < 64
      · go_wp2_with (first | (have zz := Hrb.out; clear zz; refine wpList_float rfl .quo rfl _ _ _ _ rfl _ _ rfl rfl ?_; intro rc mrc hr _; have Hrc := Lib.hid hr; clear hr) | (have zz := Hra.out; clear zz; refine wpList_float rfl .add rfl _ _ _ _ rfl _ _ rfl rfl ?_; intro rb mrb hr _; have Hrb := Lib.hid hr; clear hr) | (refine wpList_float rfl .quo rfl _ _ _ _ rfl _ _ rfl rfl ?_; intro ra mra hr _; have Hra := Lib.hid hr; clear hr))
        go_roundw
        case rel =>
          refine ⟨k + 1, rc, _, by omega, by go_num, rfl, ?_, rfl⟩
          rw [Hrc.out, Hrb.out, Hra.out, HQ.out]; rfl
        case measure => simp [intOf]; omega
      · obtain rfl : k = 64 := by omega
        go_wp2_with fail
        go_ret
        exact ⟨q, m, rfl, rfl, by unfold rootF; rw [HB.out, HQ.out, Hr0.out]; rfl⟩
  · go_enter Try.func54, Try.ntmps54
    go_wp2_with fail
    go_ret
    exact ⟨0, 0, rfl, rfl, by unfold rootF; rw [HB.out]; rfl⟩
set_option maxHeartbeats 4000000 in
theorem rroot_any (x : Nat) (w : World) : Calls Try.prog 55 #[.float .f64 x] w fun e w' => ∃ r m, e = .returned (.float .f64 r) ∧ w' = w.drewN m ∧ fv r = rootF (fv x) := by
  obtain ⟨B, hB⟩ : ∃ B, (FloatKind.f64.format.order x 0 == some .eq) = B := ⟨_, rfl⟩
  have HB : Hid ((ford (fv x) (fv 0) == some .eq) = B) := Lib.hid (by rw [← ford_eq]; exact hB)
  cases B
  · go_enter Try.func55, Try.ntmps55
    go_wp2_with ((refine wpList_float rfl .add rfl _ _ _ _ rfl _ _ rfl rfl ?_; intro r0 mr0 hr _; have Hr0 := Lib.hid hr; clear hr))
    go_loopw [3, 4] (fun t i wr => ∃ (k q m : Nat), k ≤ 64 ∧ i = .int .i64 k ∧ t = .float .f64 q ∧ fv q = rtF (fv x) (fv r0) k ∧ wr = w.drewN m) (fun _ i _ => 64 - (intOf i).toNat)
    case atStart => exact ⟨0, r0, mr0, by omega, rfl, rfl, rfl, rfl⟩
    case round =>
      obtain ⟨k, q, m, hk, rfl, rfl, hq, rfl⟩ := hrel
      have HQ := Lib.hid hq
      clear hq
      by_cases hlt : k < 64
      · go_wp2_with (first | (have zz := Hrb.out; clear zz; refine wpList_float rfl .quo rfl _ _ _ _ rfl _ _ rfl rfl ?_; intro rc mrc hr _; have Hrc := Lib.hid hr; clear hr) | (have zz := Hra.out; clear zz; refine wpList_float rfl .add rfl _ _ _ _ rfl _ _ rfl rfl ?_; intro rb mrb hr _; have Hrb := Lib.hid hr; clear hr) | (refine wpList_float rfl .quo rfl _ _ _ _ rfl _ _ rfl rfl ?_; intro ra mra hr _; have Hra := Lib.hid hr; clear hr))
        go_roundw
        case rel =>
          refine ⟨k + 1, rc, _, by omega, by go_num, rfl, ?_, rfl⟩
          rw [Hrc.out, Hrb.out, Hra.out, HQ.out]; rfl
        case measure => simp [intOf]; omega
      · obtain rfl : k = 64 := by omega
        go_wp2_with fail
        go_ret
        exact ⟨q, m, rfl, rfl, by unfold rootF; rw [HB.out, HQ.out, Hr0.out]; rfl⟩
  · go_enter Try.func55, Try.ntmps55
    go_wp2_with fail
    go_ret
    exact ⟨0, 0, rfl, rfl, by unfold rootF; rw [HB.out]; rfl⟩
end Go.Proofs.Ytcfbaildcocnhaa

/-
  Walks: Parse of the record and of the document.
-/
import Derived.Test.YtedejkfhgpnhpaaRg
import Derived.Test.YtedejkfhgpnhpaaLp
import Derived.Great.BuildSlice
set_option linter.unusedVariables false
set_option linter.unusedSimpArgs false
namespace Go.Proofs.Ytedejkfhgpnhpaa
open Go.RowKit

def z0 : Nat → Int := fun _ => 0
/-- The zero of a head. -/
theorem zArr : (#[.int .u8 0, .int .u8 0, .int .u32 0, .int .u32 0, .int .u8 0, .int .u8 0, .int .u8 0, .int .u8 0, .int .u8 0, .int .u8 0, .int .u8 0, .int .u8 0, .int .u8 0, .int .u8 0, .int .u8 0, .int .u8 0, .int .u8 0, .int .u8 0, .int .u8 0, .int .u8 0] : Array Value) = hArr 0 0 0 0 z0 := by
  unfold hArr hlist
  rfl
theorem build_zero (w : World) : (Instr.build 26 #[]).run Try.prog w = .ok (.agg (hArr 0 0 0 0 z0)) w := by
  rw [← zArr]
  exact run_build w 26 #[] _ (by kernel_rfl)
theorem hArr_size2 (l f i r : Nat) (g : Nat → Int) : (hArr l f i r g).size = 20 := by
  unfold hArr hlist
  rfl
theorem hArr_cells (l f i r : Nat) (g : Nat → Int) : (hArr l f i r g).all (·.oneCell') = true := by
  unfold hArr hlist
  simp [Value.oneCell']
/-- A block that holds a head. -/
def Hd (w : World) (b : Nat) (h : Array Value) : Prop := w.heap[b]? = some (.cells h 26 (0, 0))
theorem Hd.lt {w : World} {b : Nat} {h : Array Value} (x : Hd w b h) : b < w.heap.size := by
  unfold Hd at x
  exact (Array.getElem?_eq_some_iff.1 x).1
theorem Hd.below {w w' : World} {b : Nat} {h : Array Value} (x : Hd w b h) {B : Nat} (hb : b < B) (bl : Below B w w') : Hd w' b h := (bl.block b hb).trans x

theorem results_ctt26 {fn : Func} {p t u : Tmp} (h : fn.results = #[.cell p 26, .tmp t, .tmp u]) (tmps : Array Value) (w : World) (g : Nat) (cs : Array Value)
    (hp : tmps.getD p undef = .pointer (some ⟨g, 0, none⟩)) (hg : w.heap[g]? = some (.cells cs 26 (0, 0)))
    (hi : (Try.prog.info? 26).map (·.size) = some cs.size) :
    (results fn tmps).run Try.prog w = .ok (.tuple #[.agg cs, tmps.getD t undef, tmps.getD u undef]) w := by
  have hp' : tmps[p]?.getD undef = .pointer (some ⟨g, 0, none⟩) := by simpa using hp
  simp [results, h, hp', asAddr, run_loadVar_row w g 26 26 cs (0, 0) _ hg Try.underlying26 rfl hi]

theorem parse_no (A : Option Addr) (n c : Nat) (xs : List Int) (w : World) (hn : n = xs.length) (hr : Rd w .u8 A xs) (hB : B8 xs) (hI : isR xs n = false) :
    Calls Try.prog 21 #[.slice A n c] w fun e w' => e = .returned (.tuple #[.agg (hArr 0 0 0 0 z0), .slice none 0 0, .int .i64 140]) ∧ Below w.heap.size w w' := by
  have HN := Lib.hid hn
  have HR := Lib.hid hr
  have HB := Lib.hid hB
  have HI := Lib.hid hI
  clear hn hr hB hI
  go_enter Try.func21, Try.ntmps21
  go_wp2_with fail
  rw [zArr]
  have W1 := Lib.hid ((Below.refl w.heap.size w).alloc (Nat.le_refl _) (.cells (hArr 0 0 0 0 z0) 26))
  have Z1 : Hid (Hd (w.alloc (.cells (hArr 0 0 0 0 z0) 26)) w.heap.size (hArr 0 0 0 0 z0)) := Lib.hid (heap_alloc_new w _)
  generalize w.alloc (.cells (hArr 0 0 0 0 z0) 26) = w1 at W1 Z1
  refine (is_any A n c xs w1 HN.out (HR.out.below W1.out) HB.out).mono ?_
  rintro e w' ⟨rfl, q, rfl⟩
  rw [HI.out]
  have Z2 : Hid (Hd (w1.drewN q) w.heap.size (hArr 0 0 0 0 z0)) := Lib.hid Z1.out
  have W2 := Lib.hid (belowN W1.out q)
  generalize w1.drewN q = w2 at Z2 W2
  have hm : (mk false : Int) = 0 := rfl
  go_wp2_with (first
    | (refine wpList_buildTo rfl 26 _ rfl (some 9) rfl (hArr 0 0 0 0 z0) (by rw [← zArr]; kernel_rfl) ?_)
    | (refine wpList_store_row rfl 26 _ _ rfl w.heap.size (hArr 0 0 0 0 z0) rfl rfl 26 _ Z2.out (size26' _ _ _ _ _) rfl (hArr_cells _ _ _ _ _) ?_))
  refine bodyPost_ret (results_ctt26 rfl _ _ w.heap.size _ rfl (setRow_heap _ _ _ _ _ _ Z2.out) (size26' _ _ _ _ _)) rfl ?_
  exact ⟨rfl, below_setRow W2.out (Nat.le_refl _) _⟩

/-- The head of a list of bytes. -/
def hdr (xs : List Int) : Array Value := hArr (xs.getD 0 0).toNat (xs.getD 1 0).toNat (numR xs 2) (numR xs 6) (fun j => xs.getD (10 + j) 0)
theorem grp16 (xs : List Int) (h : 26 ≤ xs.length) : grp xs = (List.range 16).map (fun j => Value.int .u8 (xs.getD (10 + j) 0)) := by
  apply List.ext_getElem (by simp [grp_len xs h])
  intro j h1 h2
  have hj : j < 16 := by simpa using h2
  simp [grp, List.getD, List.getElem?_eq_getElem (show 10 + j < xs.length by omega)]
theorem build_arr (l f i r : Nat) (g : Nat → Int) : Try.prog.built 26 [(0, .int .u8 l), (1, .int .u8 f), (2, .int .u32 i), (3, .int .u32 r), (4, .agg ((List.range 16).map (fun j => Value.int .u8 (g j))).toArray)] = some (hArr l f i r g) := by
  unfold hArr hlist
  kernel_rfl
theorem exec_build {P : Program} {o : Oper} {a : Act} {w : World} (t : TypeId) (parts : Array (Nat × Operand)) (ho : o.op = .build t parts) (cells : Array Value) (hc : P.built t (parts.map fun (i, x) => (i, a.eval x)).toList = some cells) :
    (execOp a.eval o).run P w = .ok (.value (.agg cells)) w := by
  unfold execOp
  simp only [ho, Sem.run_bind, run_build w t _ cells hc, Result.andThen_ok]
  rfl

end Go.Proofs.Ytedejkfhgpnhpaa

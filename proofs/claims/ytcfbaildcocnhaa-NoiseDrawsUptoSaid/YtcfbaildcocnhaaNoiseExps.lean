/-
  The law NoiseExps: the program's Exp and the document's answer alike, of every float.
-/
import Derived.Test.YtcfbaildcocnhaaExp
import Derived.ProofKit
import Derived.Lib.SmallJoins
namespace Go.Proofs.Ytcfbaildcocnhaa
open Go.RowKit

theorem bcell {W w1 : World} (hb : Below W.heap.size W w1) : (∀ b o, b < W.heap.size → w1.cell? ⟨b, o, none⟩ = W.cell? ⟨b, o, none⟩) ∧ (∀ b o, b < W.heap.size → w1.frozen? ⟨b, o, none⟩ = W.frozen? ⟨b, o, none⟩) :=
  ⟨fun b o h => hb.cell (p := ⟨b, o, none⟩) h, fun b o h => hb.frozen (p := ⟨b, o, none⟩) h⟩

set_option maxHeartbeats 1000000 in
theorem exps_walk (b : Nat) (odd : Int) (w : World) (hb : (Lit.float .f64 b).wf = true) :
    Calls Try.prog 3 #[.agg #[.float .f64 b, .int .i64 odd]] w fun e w' => e = .returned (.bool true) ∧ Below w.heap.size w w' := by
  go_enter Try.func3, Try.ntmps3
  go_wp2_with fail
  refine (value_any b odd _ hb).mono ?_
  rintro e w1 ⟨r1, rfl, h1, hw1, hb1⟩
  have H1 := Lib.hid h1
  clear h1
  go_wp2_with fail
  refine (exp_any r1 _).mono ?_
  rintro e w2 ⟨r2, c2, m2, rfl, rfl, hc⟩
  have HC := Lib.hid hc
  clear hc
  obtain ⟨hcl, hfr⟩ := bcell hb1
  go_wp2_with fail
  refine (value_any b odd _ hb).mono ?_
  rintro e w3 ⟨r3, rfl, h3, hw3, hb3⟩
  have H3 := Lib.hid h3
  clear h3
  go_wp2_with fail
  refine (rexp_any r3 _).mono ?_
  rintro e w4 ⟨r4, c4, m4, rfl, rfl, hd⟩
  have HD := Lib.hid hd
  clear hd
  go_wp2_with fail
  have e13 : fv r1 = fv r3 := by rw [H1.out, H3.out]
  have hC := HC.out
  have hD := HD.out
  rw [e13] at hC
  obtain ⟨ha, rfl⟩ := hC.alike hD
  clear hC hD e13
  refine (same_any r2 r4 _ ha).mono ?_
  rintro e w5 ⟨rfl, rfl⟩
  clear ha
  go_wp2_with fail
  go_ret
  refine ⟨by simp, ?_⟩
  have z1 := hb1.size
  simp at z1
  exact belowN ((belowN (((Below.refl _ _).alloc (Nat.le_refl _) _).trans (hb1.mono (by simp))) _).trans (hb3.mono (by simp; omega))) _

theorem trod_float {H : Type} {enc : TypeId × Value → H} {P : Program} {w : World} {base : Nat} {spare : Nat → Bool} {held : Bool} {fuel : Nat} {t : TypeId} {cs : List Value} {x : DataW H × List MemPlace} {k : FloatKind}
    (ht : P.underlying t = some (.float k)) (h : DataW.trod enc P w base spare held fuel t cs = some x) : ∃ b, cs = [.float k b] ∧ (Lit.float k b).wf = true := by
  cases fuel with
  | zero => simp [DataW.trod] at h
  | succ n =>
    unfold DataW.trod at h
    rw [ht] at h
    split at h <;> simp_all

theorem cells24 : Try.prog.cellsOf 24 = 2 := by kernel_rfl
set_option maxRecDepth 100000 in
open Go.Joins in
theorem noiseExps_open {H : Type} {enc : TypeId × Value → H} (W : World) (base : Nat) (v0 : Value) (d0 : DataW H) (p0 : List MemPlace)
    (o0 : Value.okWide Try.prog W .any base 24 v0) (h0 : DataW.Trod enc Try.prog W 0 (fun _ => true) true 24 v0 d0 p0)
    (_hsz : (DataW.weightsEach Try.prog [24] [d0]).all (· ≤ reachBytes) = true) :
    Calls Try.prog 3 #[v0] W fun e w' => e = .returned (.bool true) ∧ Below W.heap.size W w' := by
  obtain ⟨c0, c1, y0, y1, m, rfl, _, _, hy0, hy1⟩ := open_agg2 Try.underlying24 (by kernel_rfl) cells24 o0 h0
  obtain ⟨b, e0, wb⟩ := trod_float Try.underlying22 hy0
  obtain ⟨k, e1, _, _⟩ := DataW.trod_int Try.underlying3 hy1
  simp at e0 e1
  subst e0 e1
  exact exps_walk b k W wb
end Go.Proofs.Ytcfbaildcocnhaa

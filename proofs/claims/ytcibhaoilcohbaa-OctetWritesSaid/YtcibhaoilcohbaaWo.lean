/-
  The law OctetWrites at arguments as the row reads them.
-/
import Derived.Test.YtcibhaoilcohbaaWx
set_option linter.unusedVariables false
namespace Go.Proofs.Ytcibhaoilcohbaa
open Go.ChangeShapes Go.WideShapes Go.ChangeAt Go.RowKit

set_option maxRecDepth 100000 in
theorem octetWrites_open {H : Type} {enc : TypeId × Value → H} (W : World) (base : Nat) (v0 : Value) (d0 : DataW H) (p0 : List MemPlace)
    (o0 : Value.okWide Try.prog W .any base 57 v0) (h0 : DataW.Trod enc Try.prog W 0 (fun _ => true) true 57 v0 d0 p0)
    (_hsz : (DataW.weightsEach Try.prog [57] [d0]).all (· ≤ reachBytes) = true) :
    Calls Try.prog 7 #[v0] W fun e w' => e = .returned (.bool true) ∧ Below W.heap.size W w' := by
  obtain ⟨cs, xs, n, rfl, hsz, hd, hl, hf⟩ := open_struct Try.underlying57 o0 h0
  have L := (Light.of_each (P := Try.prog) (ts := [57]) (ds := [d0]) _hsz 0 rfl rfl).of hd
  obtain ⟨c0, c1, c2, c3, rfl⟩ := size4 (hsz.trans (by kernel_rfl))
  obtain ⟨y0, y1, y2, y3, rfl⟩ := len4 hl
  have k3 : Try.prog.cellsOf 3 = 1 := by kernel_rfl
  have k43 : Try.prog.cellsOf 43 = 1 := by kernel_rfl
  have g0 := hf 0 _ rfl
  have g1 := hf 1 _ rfl
  have g2 := hf 2 _ rfl
  have g3 := hf 3 _ rfl
  simp [k3, k43] at g0 g1 g2 g3
  obtain ⟨z, e0, _, w0⟩ := DataW.trod_int Try.underlying3 g0
  obtain ⟨y, e1, _, w1⟩ := DataW.trod_int Try.underlying3 g1
  simp at e0 e1
  subst e0 e1
  obtain ⟨S1, k1, e1, ss1, rfl, s1, n1, q1, m1⟩ := open_steps g2 (L.field Try.underlying57 (i := 2) rfl rfl)
  obtain ⟨S2, k2, e2, ss2, rfl, s2, n2, q2, m2⟩ := open_steps g3 (L.field Try.underlying57 (i := 3) rfl rfl)
  by_cases hz : 0 ≤ z ∧ z ≤ 1048576
  · obtain ⟨zn, rfl⟩ : ∃ n : Nat, z = n := ⟨z.toNat, by omega⟩
    by_cases hy : 0 ≤ y ∧ y ≤ 1048576
    · obtain ⟨yn, rfl⟩ : ∃ n : Nat, y = n := ⟨y.toNat, by omega⟩
      exact writes_yy zn (by omega) yn (by omega) S1 k1 e1 ss1 S2 k2 e2 ss2 W s1 s2 n1 n2 q1 q2 (by omega) (by omega)
    · exact writes_yn zn (by omega) y (by omega) S1 k1 e1 ss1 S2 k2 e2 ss2 W s1 s2 n1 n2 q1 q2 (by omega) (by omega)
  · by_cases hy : 0 ≤ y ∧ y ≤ 1048576
    · obtain ⟨yn, rfl⟩ : ∃ n : Nat, y = n := ⟨y.toNat, by omega⟩
      exact writes_ny z (by omega) yn (by omega) S1 k1 e1 ss1 S2 k2 e2 ss2 W s1 s2 n1 n2 q1 q2 (by omega) (by omega)
    · exact writes_nn z (by omega) y (by omega) S1 k1 e1 ss1 S2 k2 e2 ss2 W s1 s2 n1 n2 q1 q2 (by omega) (by omega)
end Go.Proofs.Ytcibhaoilcohbaa

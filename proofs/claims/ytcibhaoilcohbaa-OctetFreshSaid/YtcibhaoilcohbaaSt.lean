/-
  Rows of steps opened; the law OctetReads at arguments as the row reads them.
-/
import Derived.Test.YtcibhaoilcohbaaRw
import Derived.Test.YtcibhaoilcohbaaOh
import Derived.Deep.Slices
set_option linter.unusedVariables false
namespace Go.Proofs.Ytcibhaoilcohbaa
open Go.ChangeShapes Go.WideShapes Go.ChangeAt Go.RowKit

theorem size4 {cs : Array Value} (h : cs.size = 4) : ∃ a b c d, cs = #[a, b, c, d] := by
  obtain ⟨l⟩ := cs
  match l, h with
  | [a, b, c, d], _ => exact ⟨a, b, c, d, rfl⟩
theorem len4 {α : Type} {l : List α} (h : l.length = 4) : ∃ a b c d, l = [a, b, c, d] := by
  match l, h with
  | [a, b, c, d], _ => exact ⟨a, b, c, d, rfl⟩
theorem Light.of {H : Type} {P : Program} {t : TypeId} {d : DataW H} (h : Light P t d) {d' : DataW H} (e : d = d') : Light P t d' := e ▸ h

/-- What a step's data hold. -/
def DataOk (w : World) (ss : Nat → Stp) (m : Nat) : Prop := ∀ i, i < m → ∃ A c xs, (ss i).s = .slice A (xs : List Int).length c ∧ Rd w .u8 A xs ∧ Fit .u8 xs ∧ xs.length ≤ 140737488351232
def NumOk (ss : Nat → Stp) (m : Nat) : Prop := ∀ i, i < m → (Lit.int .i64 (ss i).d).wf = true ∧ (Lit.int .i64 (ss i).n).wf = true ∧ (Lit.int .u64 (ss i).v).wf = true
theorem addN (b off k : Nat) : (⟨b, off, none⟩ : Addr).add k = ⟨b, off + k, none⟩ := by
  unfold Addr.add
  split
  · subst_vars; rfl
  · rfl
def numv' : Value → Int
  | .int _ z => z
  | _ => 0

theorem NumOk.ok {ss : Nat → Stp} {m : Nat} (h : NumOk ss m) : StpOk ss m := fun i hi => by
  have := (h i hi).2.1
  simp [Lit.wf, IntKind.min, IntKind.max, IntKind.signed, IntKind.bits] at this
  exact this
set_option maxRecDepth 100000 in
theorem open_steps {H : Type} {enc : TypeId × Value → H} {W : World} {b0 : Nat} {held : Bool} {v : Value} {y : DataW H × List MemPlace} {fuel : Nat}
    (hf : DataW.trod enc Try.prog W b0 (fun _ => true) held fuel 43 [v] = some y) (L : Light Try.prog 43 y.1) :
    ∃ A m c ss, v = .slice A m c ∧ RdS W A ss m ∧ NumOk ss m ∧ DataOk W ss m ∧ m * 48 ≤ 140737488351232 := by
  rcases Go.Deep.open_slice Try.underlying43 hf with ⟨hcs, _⟩ | ⟨a, len, cap, m, n, D, Pl, hcs, hb, hl, hm, hmm, hx, hi⟩
  · obtain rfl : v = .slice none 0 0 := by simpa using hcs
    exact ⟨none, 0, 0, fun _ => ⟨0, 0, 0, .slice none 0 0⟩, rfl, fun i h => absurd h (Nat.not_lt_zero _), fun i h => absurd h (Nat.not_lt_zero _), fun i h => absurd h (Nat.not_lt_zero _), by simp⟩
  · obtain rfl : v = .slice (some a) len cap := by simpa using hcs
    have L' := L.of (congrArg Prod.fst hx)
    have hmc : len ≤ m := by rw [hmm]; split <;> omega
    have z := L'.len Try.underlying43
    have kb : Try.prog.bytesOf 52 = 48 := by kernel_rfl
    have kc : Try.prog.cellsOf 52 = 4 := by kernel_rfl
    have k3 : Try.prog.cellsOf 3 = 1 := by kernel_rfl
    have k23 : Try.prog.cellsOf 23 = 1 := by kernel_rfl
    have k22 : Try.prog.cellsOf 22 = 1 := by kernel_rfl
    obtain ⟨b, off, spot⟩ := a
    by_cases h0 : len = 0
    · subst h0
      exact ⟨_, 0, cap, fun _ => ⟨0, 0, 0, .slice none 0 0⟩, rfl, fun i h => absurd h (Nat.not_lt_zero _), fun i h => absurd h (Nat.not_lt_zero _), fun i h => absurd h (Nat.not_lt_zero _), by simp⟩
    have hspot : spot = none := by
      obtain ⟨cs', hc, ht⟩ := hi 0 (by omega)
      rw [kc] at hc
      obtain ⟨_, hcl, hat⟩ := World.cells?_some hc
      have := hat 0 (by omega)
      rw [Go.Deep.add_add, Nat.add_zero, List.getElem?_eq_getElem (by omega)] at this
      simpa [Addr.add] using World.cell?_spot this
    subst hspot
    have each : ∀ i, i < len → ∃ d n v s, W.cell? ⟨b, off + i * 4, none⟩ = some (.int .i64 d) ∧ W.cell? ⟨b, off + i * 4 + 1, none⟩ = some (.int .i64 n) ∧ W.cell? ⟨b, off + i * 4 + 2, none⟩ = some (.int .u64 v) ∧ W.cell? ⟨b, off + i * 4 + 3, none⟩ = some s ∧
        (Lit.int .i64 d).wf = true ∧ (Lit.int .i64 n).wf = true ∧ (Lit.int .u64 v).wf = true ∧ (∃ A c xs, s = .slice A (xs : List Int).length c ∧ Rd W .u8 A xs ∧ Fit .u8 xs ∧ xs.length ≤ 140737488351232) := by
      intro i hil
      obtain ⟨cs', hc, ht⟩ := hi i (by omega)
      rw [kc] at hc
      obtain ⟨_, hcl, hat⟩ := World.cells?_some hc
      obtain ⟨ys, n', hn', hy, hlen, hyl, hf⟩ := DataW.trod_struct Try.underlying52 ht
      obtain ⟨v0, v1, v2, v3, rfl⟩ := len4 hcl
      obtain ⟨y0, y1, y2, y3, rfl⟩ := len4 hyl
      have g0 := hf 0 _ rfl
      have g1 := hf 1 _ rfl
      have g2 := hf 2 _ rfl
      have g3 := hf 3 _ rfl
      simp [k3, k23, k22] at g0 g1 g2 g3
      obtain ⟨z0, e0, _, w0⟩ := DataW.trod_int Try.underlying3 g0
      obtain ⟨z1, e1, _, w1⟩ := DataW.trod_int Try.underlying3 g1
      obtain ⟨z2, e2, _, w2⟩ := DataW.trod_int Try.underlying23 g2
      simp at e0 e1 e2
      subst e0 e1 e2
      have Le : Light Try.prog 52 (D i) := L'.elem Try.underlying43 (d := D i) (List.mem_map.2 ⟨i, List.mem_range.2 hil, rfl⟩)
      have Le' := Le.of (congrArg Prod.fst hy)
      obtain ⟨A, c, xs, rfl, r2, f2, l2⟩ := row_of_trod Try.underlying22 Try.underlying5 (by kernel_rfl) (B := 1) (by kernel_rfl) g3 (Le'.field Try.underlying52 (i := 3) rfl rfl)
      have c0 := hat 0 (by omega)
      have c1 := hat 1 (by omega)
      have c2 := hat 2 (by omega)
      have c3 := hat 3 (by omega)
      rw [Go.Deep.add_add, addN] at c0 c1 c2 c3
      exact ⟨z0, z1, z2, _, c0, c1, c2, c3, w0, w1, w2, ⟨A, c, xs, rfl, r2, f2, by omega⟩⟩
    let ss : Nat → Stp := fun i => ⟨numv' ((W.cell? ⟨b, off + i * 4, none⟩).getD (.bool false)), numv' ((W.cell? ⟨b, off + i * 4 + 1, none⟩).getD (.bool false)), numv' ((W.cell? ⟨b, off + i * 4 + 2, none⟩).getD (.bool false)), (W.cell? ⟨b, off + i * 4 + 3, none⟩).getD (.bool false)⟩
    refine ⟨_, len, cap, ss, rfl, ?_, ?_, ?_, ?_⟩
    · intro i hil
      obtain ⟨d, n, v, s, c0, c1, c2, c3, _, _, _, _⟩ := each i hil
      refine ⟨b, off, rfl, ?_, ?_, ?_, ?_, ?_⟩
      · exact World.block_lt_of_cell? W _ c0
      · simp only [ss, c0]; rfl
      · simp only [ss, c1]; rfl
      · simp only [ss, c2]; rfl
      · simp only [ss, c3]; rfl
    · intro i hil
      obtain ⟨d, n, v, s, c0, c1, c2, c3, w0, w1, w2, _⟩ := each i hil
      simp only [ss, c0, c1, c2, Option.getD, numv']
      exact ⟨w0, w1, w2⟩
    · intro i hil
      obtain ⟨d, n, v, s, c0, c1, c2, c3, w0, w1, w2, h⟩ := each i hil
      simp only [ss, c3, Option.getD]
      exact h
    · have h1 : ((List.range len).map D).length = len := by simp
      rw [h1, kb] at z
      have : reachBytes = 140737488351232 := by kernel_rfl
      rw [this] at z
      exact Nat.le_trans (Nat.mul_le_mul_right _ (by omega)) z

set_option maxRecDepth 100000 in
theorem octetReads_open {H : Type} {enc : TypeId × Value → H} (W : World) (base : Nat) (v0 : Value) (d0 : DataW H) (p0 : List MemPlace)
    (o0 : Value.okWide Try.prog W .any base 45 v0) (h0 : DataW.Trod enc Try.prog W 0 (fun _ => true) true 45 v0 d0 p0)
    (_hsz : (DataW.weightsEach Try.prog [45] [d0]).all (· ≤ reachBytes) = true) :
    Calls Try.prog 6 #[v0] W fun e w' => e = .returned (.bool true) ∧ Below W.heap.size W w' := by
  obtain ⟨cs, xs, n, rfl, hsz, hd, hl, hf⟩ := open_struct Try.underlying45 o0 h0
  have L := (Light.of_each (P := Try.prog) (ts := [45]) (ds := [d0]) _hsz 0 rfl rfl).of hd
  obtain ⟨c0, c1, c2, c3, rfl⟩ := size4 (hsz.trans (by kernel_rfl))
  obtain ⟨y0, y1, y2, y3, rfl⟩ := len4 hl
  have k22 : Try.prog.cellsOf 22 = 1 := by kernel_rfl
  have k43 : Try.prog.cellsOf 43 = 1 := by kernel_rfl
  have g0 := hf 0 _ rfl
  have g1 := hf 1 _ rfl
  have g2 := hf 2 _ rfl
  have g3 := hf 3 _ rfl
  simp [k22, k43] at g0 g1 g2 g3
  obtain ⟨A, c, xs, rfl, r1, f1, l1⟩ := row_of_trod Try.underlying22 Try.underlying5 (by kernel_rfl) (B := 1) (by kernel_rfl) g0 (L.field Try.underlying45 (i := 0) rfl rfl)
  obtain ⟨B, d, ys, rfl, r2, f2, l2⟩ := row_of_trod Try.underlying22 Try.underlying5 (by kernel_rfl) (B := 1) (by kernel_rfl) g1 (L.field Try.underlying45 (i := 1) rfl rfl)
  obtain ⟨S1, k1, e1, ss1, rfl, s1, n1, -, q1⟩ := open_steps g2 (L.field Try.underlying45 (i := 2) rfl rfl)
  obtain ⟨S2, k2, e2, ss2, rfl, s2, n2, -, q2⟩ := open_steps g3 (L.field Try.underlying45 (i := 3) rfl rfl)
  exact reads_any A _ c xs B _ d ys S1 k1 e1 ss1 S2 k2 e2 ss2 W rfl rfl r1 r2 (fun i => f1.u8 i) (fun i => f2.u8 i) s1 s2 n1.ok n2.ok (by omega) (by omega) (by omega) (by omega)
end Go.Proofs.Ytcibhaoilcohbaa

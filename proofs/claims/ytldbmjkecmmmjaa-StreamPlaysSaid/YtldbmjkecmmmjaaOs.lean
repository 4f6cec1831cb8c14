/-
  Rows of steps opened; the law StreamPlays at arguments as the row reads them.
-/
import Derived.Test.YtldbmjkecmmmjaaPy
import Derived.Test.YtldbmjkecmmmjaaOg
import Derived.Test.YtldbmjkecmmmjaaOo
import Derived.Deep.Slices
set_option linter.unusedVariables false
namespace Go.Proofs.Ytldbmjkecmmmjaa
open Go.ChangeShapes Go.WideShapes Go.ChangeAt Go.RowKit

theorem len3 {α : Type} {l : List α} (h : l.length = 3) : ∃ a b c, l = [a, b, c] := by
  match l, h with
  | [a, b, c], _ => exact ⟨a, b, c, rfl⟩
theorem len4 {α : Type} {l : List α} (h : l.length = 4) : ∃ a b c d, l = [a, b, c, d] := by
  match l, h with
  | [a, b, c, d], _ => exact ⟨a, b, c, d, rfl⟩
theorem len1 {α : Type} {l : List α} (h : l.length = 1) : ∃ a, l = [a] := by
  match l, h with
  | [a], _ => exact ⟨a, rfl⟩
theorem Light.of {H : Type} {P : Program} {t : TypeId} {d : DataW H} (h : Light P t d) {d' : DataW H} (e : d = d') : Light P t d' := e ▸ h
theorem addN (b off k : Nat) : (⟨b, off, none⟩ : Addr).add k = ⟨b, off + k, none⟩ := by
  unfold Addr.add
  split
  · subst_vars; rfl
  · rfl
theorem wf_i64 {x : Int} (h : (Lit.int .i64 x).wf = true) : -9223372036854775808 ≤ x ∧ x ≤ 9223372036854775807 := by
  simpa [Lit.wf, IntKind.min, IntKind.max, IntKind.signed, IntKind.bits] using h
open Classical in
theorem pick {α : Type} {p : Nat → α → Prop} {n : Nat} (z : α) (h : ∀ i, i < n → ∃ x, p i x) : ∃ f : Nat → α, ∀ i, i < n → p i (f i) :=
  ⟨fun i => if hi : i < n then Classical.choose (h i hi) else z, fun i hi => by simp only [hi, dif_pos]; exact Classical.choose_spec (h i hi)⟩
def nostep : Stp := ⟨0, 0, none, 0, 0, []⟩

set_option maxRecDepth 100000 in
theorem open_steps {H : Type} {enc : TypeId × Value → H} {W : World} {b0 : Nat} {held : Bool} {v : Value} {y : DataW H × List MemPlace} {fuel : Nat}
    (hf : DataW.trod enc Try.prog W b0 (fun _ => true) held fuel 62 [v] = some y) (L : Light Try.prog 62 y.1) :
    ∃ A m c ss, v = .slice A m c ∧ RdS W A ss m ∧ (∀ i, i < m → StpOk W (ss i)) ∧ m * 40 ≤ 140737488351232 := by
  rcases Go.Deep.open_slice Try.underlying62 hf with ⟨hcs, _⟩ | ⟨a, len, cap, m, n, D, Pl, hcs, hb, hl, hm, hmm, hx, hi⟩
  · obtain rfl : v = .slice none 0 0 := by simpa using hcs
    exact ⟨none, 0, 0, fun _ => nostep, rfl, fun i h => absurd h (Nat.not_lt_zero _), fun i h => absurd h (Nat.not_lt_zero _), by simp⟩
  · obtain rfl : v = .slice (some a) len cap := by simpa using hcs
    have L' := L.of (congrArg Prod.fst hx)
    have hmc : len ≤ m := by rw [hmm]; split <;> omega
    have z := L'.len Try.underlying62
    have kb : Try.prog.bytesOf 69 = 40 := by kernel_rfl
    have kc : Try.prog.cellsOf 69 = 3 := by kernel_rfl
    have k3 : Try.prog.cellsOf 3 = 1 := by kernel_rfl
    have k39 : Try.prog.cellsOf 39 = 1 := by kernel_rfl
    obtain ⟨b, off, spot⟩ := a
    by_cases h0 : len = 0
    · subst h0
      exact ⟨_, 0, cap, fun _ => nostep, rfl, fun i h => absurd h (Nat.not_lt_zero _), fun i h => absurd h (Nat.not_lt_zero _), by simp⟩
    have hspot : spot = none := by
      obtain ⟨cs', hc, ht⟩ := hi 0 (by omega)
      rw [kc] at hc
      obtain ⟨_, hcl, hat⟩ := World.cells?_some hc
      have := hat 0 (by omega)
      rw [Go.Deep.add_add, Nat.add_zero, List.getElem?_eq_getElem (by omega)] at this
      simpa [Addr.add] using World.cell?_spot this
    subst hspot
    have each : ∀ i, i < len → ∃ s : Stp, W.cell? ⟨b, off + i * 3, none⟩ = some (.int .i64 s.d) ∧ W.cell? ⟨b, off + i * 3 + 1, none⟩ = some (.int .i64 s.n) ∧ W.cell? ⟨b, off + i * 3 + 2, none⟩ = some (.slice s.A s.m s.c) ∧ StpOk W s := by
      intro i hil
      obtain ⟨cs', hc, ht⟩ := hi i (by omega)
      rw [kc] at hc
      obtain ⟨_, hcl, hat⟩ := World.cells?_some hc
      obtain ⟨ys, n', hn', hy, hlen, hyl, hf⟩ := DataW.trod_struct Try.underlying69 ht
      obtain ⟨v0, v1, v2, rfl⟩ := len3 hcl
      obtain ⟨y0, y1, y2, rfl⟩ := len3 hyl
      have g0 := hf 0 _ rfl
      have g1 := hf 1 _ rfl
      have g2 := hf 2 _ rfl
      simp [k3, k39] at g0 g1 g2
      obtain ⟨z0, e0, _, w0⟩ := DataW.trod_int Try.underlying3 g0
      obtain ⟨z1, e1, _, w1⟩ := DataW.trod_int Try.underlying3 g1
      simp at e0 e1
      subst e0 e1
      have Le : Light Try.prog 69 (D i) := L'.elem Try.underlying62 (d := D i) (List.mem_map.2 ⟨i, List.mem_range.2 hil, rfl⟩)
      have Le' := Le.of (congrArg Prod.fst hy)
      obtain ⟨A, c, xs, rfl, r2, f2, l2⟩ := row_of_trod Try.underlying39 Try.underlying5 (by kernel_rfl) (B := 1) (by kernel_rfl) g2 (Le'.field Try.underlying69 (i := 2) rfl rfl)
      have c0 := hat 0 (by omega)
      have c1 := hat 1 (by omega)
      have c2 := hat 2 (by omega)
      rw [Go.Deep.add_add, addN] at c0 c1 c2
      exact ⟨⟨z0, z1, A, xs.length, c, xs⟩, c0, c1, c2, ⟨wf_i64 w1, rfl, r2, f2.B8, by simpa using l2⟩⟩
    obtain ⟨ss, hss⟩ := pick nostep each
    refine ⟨_, len, cap, ss, rfl, ?_, fun i hil => (hss i hil).2.2.2, ?_⟩
    · intro i hil
      obtain ⟨c0, c1, c2, _⟩ := hss i hil
      exact ⟨b, off, rfl, World.block_lt_of_cell? W _ c0, c0, c1, c2⟩
    · have h1 : ((List.range len).map D).length = len := by simp
      rw [h1, kb] at z
      have : reachBytes = 140737488351232 := by kernel_rfl
      rw [this] at z
      exact Nat.le_trans (Nat.mul_le_mul_right _ (by omega)) z

set_option maxRecDepth 100000 in
theorem streamPlays_open {H : Type} {enc : TypeId × Value → H} (W : World) (base : Nat) (v0 : Value) (d0 : DataW H) (p0 : List MemPlace)
    (o0 : Value.okWide Try.prog W .any base 64 v0) (h0 : DataW.Trod enc Try.prog W 0 (fun _ => true) true 64 v0 d0 p0)
    (_hsz : (DataW.weightsEach Try.prog [64] [d0]).all (· ≤ reachBytes) = true) :
    Calls Try.prog 10 #[v0] W fun e w' => e = .returned (.bool true) ∧ Below W.heap.size W w' := by
  obtain ⟨cs, xs, n, rfl, hsz, hd, hl, hf⟩ := open_struct Try.underlying64 o0 h0
  have L := (Light.of_each (P := Try.prog) (ts := [64]) (ds := [d0]) _hsz 0 rfl rfl).of hd
  obtain ⟨y0, y1, y2, y3, rfl⟩ := len4 hl
  have k35 : Try.prog.cellsOf 35 = 45 := by kernel_rfl
  have k62 : Try.prog.cellsOf 62 = 1 := by kernel_rfl
  have k64 : Try.prog.cellsOf 64 = 92 := by kernel_rfl
  rw [k64] at hsz
  have hc : cs.toList.length = 92 := by simpa using hsz
  have f0 : DataW.trod enc Try.prog W 0 (fun _ => true) true n 35 (List.take (Try.prog.cellsOf 35) (List.drop 0 cs.toList)) = some y0 := hf 0 _ rfl
  have f1 : DataW.trod enc Try.prog W 0 (fun _ => true) true n 35 (List.take (Try.prog.cellsOf 35) (List.drop 45 cs.toList)) = some y1 := hf 1 _ rfl
  have f2 : DataW.trod enc Try.prog W 0 (fun _ => true) true n 62 (List.take (Try.prog.cellsOf 62) (List.drop 90 cs.toList)) = some y2 := hf 2 _ rfl
  have f3 : DataW.trod enc Try.prog W 0 (fun _ => true) true n 62 (List.take (Try.prog.cellsOf 62) (List.drop 91 cs.toList)) = some y3 := hf 3 _ rfl
  rw [k35] at f0 f1
  rw [k62] at f2 f3
  obtain ⟨a, ha, oa⟩ := begin_of_trod (by simp; omega) f0
  obtain ⟨b, hb, ob⟩ := begin_of_trod (by simp; omega) f1
  obtain ⟨s, hs⟩ := len1 (l := List.take 1 (List.drop 90 cs.toList)) (by simp; omega)
  obtain ⟨t, ht⟩ := len1 (l := List.take 1 (List.drop 91 cs.toList)) (by simp; omega)
  rw [hs] at f2
  rw [ht] at f3
  obtain ⟨S1, k1, c1, q1, rfl, s1, o1, l1⟩ := open_steps f2 (L.field Try.underlying64 (i := 2) rfl rfl)
  obtain ⟨S2, k2, c2, q2, rfl, s2, o2, l2⟩ := open_steps f3 (L.field Try.underlying64 (i := 3) rfl rfl)
  have e : cs = TWA a.ks a.ns a.c b.ks b.ns b.c (.slice S1 k1 c1) (.slice S2 k2 c2) := by
    rw [TWA_eq]
    unfold TWl
    rw [← ha, ← hb, show ([Value.slice S1 k1 c1, .slice S2 k2 c2] : List Value) = [Value.slice S1 k1 c1] ++ [.slice S2 k2 c2] from rfl, ← hs, ← ht]
    have q1 : List.take 1 (List.drop 91 cs.toList) = List.drop 91 cs.toList := List.take_of_length_le (by simp; omega)
    have q2 : List.drop 91 cs.toList = List.drop 1 (List.drop 90 cs.toList) := by rw [List.drop_drop]
    have q3 : List.drop 90 cs.toList = List.drop 45 (List.drop 45 cs.toList) := by rw [List.drop_drop]
    rw [q1, q2, List.take_append_drop, q3, List.take_append_drop, List.drop_zero, List.take_append_drop]
  subst e
  exact plays_law rblock_any a.ks a.ns a.c b.ks b.ns b.c S1 k1 c1 q1 S2 k2 c2 q2 W oa.hk oa.hn oa.bk oa.bn oa.hc ob.hk ob.hn ob.bk ob.bn ob.hc s1 s2 o1 o2 (by omega) (by omega)
end Go.Proofs.Ytldbmjkecmmmjaa

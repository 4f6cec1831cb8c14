/-
  Cuts of rows, at whatever place, an empty rest too; appends of whatever row at a step. No program in sight.
-/
import Derived.Test.YtmmmmabfnnblfaaRow
import Derived.Deep.RegionLaw
set_option linter.unusedVariables false
namespace Go.Proofs.Ytmmmmabfnnblfaa
open Go.RowKit

/-- Where a cut from k on of a row with room m lies. -/
def cutA (A : Option Addr) (k m : Nat) : Option Addr := if m = k then A else A.map (·.add k)
theorem cutA_zero (A : Option Addr) (m : Nat) : cutA A 0 m = A := by
  unfold cutA
  split
  · rfl
  · cases A <;> simp [Addr.add]
theorem cutA_some {b off k m : Nat} (h : k < m) : cutA (some ⟨b, off, none⟩) k m = some ⟨b, off + k, none⟩ := by
  unfold cutA
  rw [if_neg (by omega)]
  by_cases hk : k = 0
  · subst hk; simp [Addr.add]
  · simp [Addr.add, hk]
theorem cutA_block {A : Option Addr} {k m : Nat} {a : Addr} (h : cutA A k m = some a) : ∃ a', A = some a' ∧ a'.block = a.block := by
  unfold cutA at h
  split at h
  · exact ⟨a, h, rfl⟩
  · cases A with
    | none => simp at h
    | some x =>
      simp at h
      subst h
      refine ⟨x, rfl, ?_⟩
      unfold Addr.add
      split <;> rfl
theorem Rd.cutA {w : World} {k : IntKind} {A : Option Addr} {xs : List Int} (h : Rd w k A xs) (j m : Nat) (hm : xs.length ≤ m) : Rd w k (cutA A j m) (xs.drop j) :=
  h.drop j (fun b off hA hj => by subst hA; exact cutA_some (by omega))
theorem run_cut_from {P : Program} (w : World) (t e : TypeId) (ht : P.underlying t = some (.slice e)) (hsz : (P.info? e).map (·.size) = some 1) (A : Option Addr) (n c j : Nat) (kl : IntKind) (l : Int) (hl : l = (j : Int)) (hj : j ≤ n) :
    (Instr.slice t (.slice A n c) (some (.int kl l)) none none).run P w = .ok (.slice (cutA A j c) (n - j) (c - j)) w := by
  subst hl
  have he : P.elem t = e := by simp [Program.elem, ht]
  rw [run_slice_l w t A n c (by rw [ht, he]) kl (j : Int) (by omega) (by omega)]
  cases hi : P.info? e with
  | none => rw [hi] at hsz; cases hsz
  | some i =>
    rw [hi] at hsz
    have hs : i.size = 1 := by simpa using hsz
    simp [sizeOf, typeInfo, he, hi, sliced, hs]
    unfold cutA
    rfl
theorem run_cut_upto {P : Program} (w : World) (t e : TypeId) (ht : P.underlying t = some (.slice e)) (hsz : (P.info? e).map (·.size) = some 1) (A : Option Addr) (n c j : Nat) (kl : IntKind) (l : Int) (hl : l = (j : Int)) (hj : j ≤ c) :
    (Instr.slice t (.slice A n c) none (some (.int kl l)) none).run P w = .ok (.slice A j c) w := by
  subst hl
  have he : P.elem t = e := by simp [Program.elem, ht]
  rw [run_slice_h w t A n c (by rw [ht, he]) kl (j : Int) (by omega) (by omega)]
  cases hi : P.info? e with
  | none => rw [hi] at hsz; cases hsz
  | some i =>
    rw [hi] at hsz
    have hs : i.size = 1 := by simpa using hsz
    have := cutA_zero A c
    unfold cutA at this
    simp [sizeOf, typeInfo, he, hi, sliced, hs]
    simpa using this
theorem run_cut_mid {P : Program} (w : World) (t e : TypeId) (ht : P.underlying t = some (.slice e)) (hsz : (P.info? e).map (·.size) = some 1) (A : Option Addr) (n c j m : Nat) (kl kh : IntKind) (l h : Int) (hl : l = (j : Int)) (hh : h = (m : Int)) (hj : j ≤ m) (hm : m ≤ c) :
    (Instr.slice t (.slice A n c) (some (.int kl l)) (some (.int kh h)) none).run P w = .ok (.slice (cutA A j c) (m - j) (c - j)) w := by
  subst hl hh
  have he : P.elem t = e := by simp [Program.elem, ht]
  rw [run_slice_lh w t A n c (by rw [ht, he]) kl kh (j : Int) (m : Int) (by omega) (by omega) (by omega)]
  cases hi : P.info? e with
  | none => rw [hi] at hsz; cases hsz
  | some i =>
    rw [hi] at hsz
    have hs : i.size = 1 := by simpa using hsz
    simp [sizeOf, typeInfo, he, hi, sliced, hs]
    unfold cutA
    rfl
theorem run_cut_upto_max {P : Program} (w : World) (t e : TypeId) (ht : P.underlying t = some (.slice e)) (hsz : (P.info? e).map (·.size) = some 1) (A : Option Addr) (n c j m : Nat) (kl kh : IntKind) (l h : Int) (hl : l = (j : Int)) (hh : h = (m : Int)) (hj : j ≤ m) (hm : m ≤ c) :
    (Instr.slice t (.slice A n c) none (some (.int kl l)) (some (.int kh h))).run P w = .ok (.slice A j m) w := by
  subst hl hh
  have he : P.elem t = e := by simp [Program.elem, ht]
  rw [run_slice_hm w t A n c (by rw [ht, he]) kl kh (j : Int) (m : Int) (by omega) (by omega) (by omega)]
  cases hi : P.info? e with
  | none => rw [hi] at hsz; cases hsz
  | some i =>
    rw [hi] at hsz
    have hs : i.size = 1 := by simpa using hsz
    have := cutA_zero A m
    unfold cutA at this
    simp [sizeOf, typeInfo, he, hi, sliced, hs]
    simpa using this

/-- append(v, xs...), the source any row of numbers, empty and nil too. -/
theorem run_pushes_rd {P : Program} (w : World) (base : Nat) (t ty e : TypeId) (k : IntKind) (bytes : Nat) (ht : P.underlying t = some (.slice e)) (hinfo : (P.info? e).map (fun i => (i.zero, i.size, i.bytes)) = some (some (.int k 0), 1, bytes))
    (v : Value) (xs : List Int) (hown : Own w base e k v xs) (A : Option Addr) (m c : Nat) (ys : List Int) (hm : m = ys.length) (hr : Rd w k A ys)
    (hbytes : (xs.length + ys.length) * bytes ≤ 140737488355328) (hb0 : 0 < bytes) (hbase : base ≤ w.heap.size) :
    ∃ v' w', (Builtin.append_ #[t, t] ty #[v, .slice A m c]).run P w = .ok v' w' ∧ Own w' base e k v' (xs ++ ys) ∧ Fr (fun g => v.ownBlock = some g) w w' := by
  subst hm
  obtain ⟨i0, hi, hz0, hz1, hz2⟩ := info_parts hinfo
  have hlen : xs.length + ys.length ≤ 140737488355328 := Nat.le_trans (Nat.le_mul_of_pos_right _ hb0) hbytes
  by_cases h0 : ys.length = 0
  · obtain rfl : ys = [] := List.eq_nil_of_length_eq_zero h0
    exact ⟨v, w, run_append_empty (P := P) w base t ty e i0 1 ht hi v xs.length (xs.map (Value.int k)) hown A c, by simpa using hown, Fr.refl _ _⟩
  · obtain ⟨b, off, rfl, _⟩ := hr 0 (by omega)
    obtain ⟨v', w', h1, h2, h3, _⟩ := run_append_own (P := P) w base t ty e i0 (.int k 0) 1 bytes ht hi hz0 hz1 hz2 rfl (by decide) v xs.length (xs.map (Value.int k)) hown ⟨b, off, none⟩ ys.length c (ys.map (Value.int k)) (by simp)
      (fun j u hu => by
        have hj2 : j < ys.length := by
          have := (List.getElem?_eq_some_iff.1 hu).1
          simpa using this
        obtain ⟨b', off', hA, hc⟩ := hr j hj2
        injection hA with hA
        injection hA with h1 h2
        subst h1 h2
        have hv : u = .int k (ys.getD j 0) := by
          simp [List.getD, hj2] at hu ⊢; exact hu.symm
        rw [hv, ← hc]
        by_cases hz : j = 0
        · subst hz; simp [Addr.add]
        · simp [Addr.add, hz]) (fun u hu => by obtain ⟨z, _, rfl⟩ := List.mem_map.1 hu; rfl) (by unfold maxLen; omega) hbytes hbase
    exact ⟨v', w', h1, by unfold Own; simpa using h2, (Fr.refl _ w).grown h3 (fun g hg => .inl hg)⟩
/-- The same at an operation. -/
theorem wp_pushes_rd {P : Program} (w : World) {o : Oper} {a : Act} {K : Act → World → Prop} {Q : Exit → Act → World → Prop} (s x : Operand) (t : TypeId)
    (ho : o.op = Op.call { callee := Callee.builtin Builtin.append, args := #[s, x], argTypes := #[t, t] })
    (base : Nat) (e : TypeId) (k : IntKind) (bytes : Nat) (ht : P.underlying t = some (.slice e)) (hinfo : (P.info? e).map (fun i => (i.zero, i.size, i.bytes)) = some (some (.int k 0), 1, bytes))
    (v : Value) (xs : List Int) (hs : a.eval s = v) (hown : Own w base e k v xs) (A : Option Addr) (m c : Nat) (ys : List Int) (hx : a.eval x = .slice A m c) (hm : m = ys.length) (hr : Rd w k A ys)
    (hbytes : (xs.length + ys.length) * bytes ≤ 140737488355328) (hb0 : 0 < bytes) (hbase : base ≤ w.heap.size)
    (h : ∀ v' w', Own w' base e k v' (xs ++ ys) → Fr (fun g => v.ownBlock = some g) w w' → K (a.put o.dst v') w') :
    o.wp P a w K Q := by
  obtain ⟨v', w', h1, h2, h3⟩ := run_pushes_rd (P := P) w base t o.type e k bytes ht hinfo v xs hown A m c ys hm hr hbytes hb0 hbase
  have hn := h v' w' h2 h3
  unfold Oper.wp execOp
  simp only [ho, resolve, invoke, builtin, Sem.run_bind, Sem.run_pure, Result.andThen_ok, List.map_toArray, List.map_cons, List.map_nil, hs, hx, h1]
  exact hn
end Go.Proofs.Ytmmmmabfnnblfaa

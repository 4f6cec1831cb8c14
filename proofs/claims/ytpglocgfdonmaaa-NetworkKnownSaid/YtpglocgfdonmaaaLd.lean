/-
  Walk: sameRows, of rows that are the same.
-/
import Derived.Test.YtpglocgfdonmaaaLc
import Derived.Test.YtpglocgfdonmaaaEq
set_option linter.unusedVariables false
set_option linter.unusedSimpArgs false
namespace Go.Proofs.Ytpglocgfdonmaaa
open Go.RowKit

/-- Rows of pairs that can be read. -/
def RdL (w : World) (A : Option Addr) (rows : List (List (Int × Int))) : Prop := ∀ i, i < rows.length → ∃ b off a c, A = some ⟨b, off, none⟩ ∧ w.cell? ⟨b, off + i, none⟩ = some (.slice a (rows.getD i []).length c) ∧ RdP w a (rows.getD i [])
theorem RdL.below {w w' : World} {A : Option Addr} {rows : List (List (Int × Int))} (h : RdL w A rows) (hb : Below w.heap.size w w') : RdL w' A rows := fun i hi => by
  obtain ⟨b, off, a, c, hA, hc, hr⟩ := h i hi
  exact ⟨b, off, a, c, hA, (hb.cell (p := ⟨b, _, none⟩) (World.block_lt_of_cell? w _ hc)).trans hc, hr.below hb⟩
theorem LayE.rd {w : World} {base : Nat} {ov : Value} {rows : List (List (Int × Int))} {cs : List Value} (h : LayE w base ov rows cs) : ∃ A c, ov = .slice A rows.length c ∧ RdL w A rows := by
  obtain ⟨A, c, hv, -, -, hr, -⟩ := h.ov_.slice
  refine ⟨A, c, by rw [hv, h.len], fun i hi => ?_⟩
  obtain ⟨b, off, hA, hc⟩ := hr i (by rw [h.len]; exact hi)
  obtain ⟨a, c', hv', hp⟩ := (h.row i hi).slice
  refine ⟨b, off, a, c', hA, ?_, hp⟩
  rw [hc, ← hv', List.getD_eq_getElem?_getD, List.getElem?_eq_getElem (by rw [h.len]; exact hi)]
  rfl
theorem Lay.rd {w : World} {base : Nat} {ov : Value} {rows : List (List (Int × Int))} (h : Lay w base ov rows) : ∃ A c, ov = .slice A rows.length c ∧ RdL w A rows := by
  obtain ⟨cs, h1, h2, h3, -⟩ := h
  obtain ⟨A, c, hv, -, -, hr, -⟩ := h1.slice
  refine ⟨A, c, by rw [hv, h2], fun i hi => ?_⟩
  obtain ⟨b, off, hA, hc⟩ := hr i (by rw [h2]; exact hi)
  obtain ⟨a, c', hv', hp⟩ := (h3 i hi).slice
  refine ⟨b, off, a, c', hA, ?_, hp⟩
  rw [hc, ← hv', List.getD_eq_getElem?_getD, List.getElem?_eq_getElem (by rw [h2]; exact hi)]
  rfl

set_option maxHeartbeats 4000000 in
theorem same_rows (A B : Option Addr) (n m c d : Nat) (rows : List (List (Int × Int))) (w : World) (hn : n = rows.length) (hm : m = rows.length) (hA : RdL w A rows) (hB : RdL w B rows) (hl : n ≤ 4000000) (hl2 : ∀ i, i < n → (rows.getD i []).length ≤ 4000000) :
    Calls Try.prog 32 #[.slice A n c, .slice B m d] w fun e w' => e = .returned (.bool true) ∧ Hid (Below w.heap.size w w') := by
  obtain rfl : n = m := hn.trans hm.symm
  have HN := Lib.hid hn
  have HA := Lib.hid hA
  have HB := Lib.hid hB
  have HL := Lib.hid hl2
  clear hn hm hA hB hl2
  go_enter Try.func32, Try.ntmps32
  go_wp2_with fail
  go_loopw [5] (fun iv wr => ∃ i q : Nat, iv = .int .i64 (i : Int) ∧ i ≤ n ∧ wr = w.drewN q) (fun iv _ => n - (intOf iv).toNat)
  case atStart => exact ⟨0, 0, rfl, by omega, rfl⟩
  case round =>
    obtain ⟨i, q, rfl, hi, rfl⟩ := hrel
    by_cases hlt : i < n
    · have hlt' : (i : Int) < (n : Int) := by omega
      obtain ⟨b1, o1, a1, c1, rfl, hc1, hr1⟩ := HA.out i (by rw [← HN.out]; exact hlt)
      obtain ⟨b2, o2, a2, c2, rfl, hc2, hr2⟩ := HB.out i (by rw [← HN.out]; exact hlt)
      have hrl := HL.out i hlt
      have HR1 := Lib.hid hr1
      have HR2 := Lib.hid hr2
      have m1 : IntKind.i64.wrap ((i : Int) + 1) = ((i + 1 : Nat) : Int) := by rw [IntKind.wrap_i64] <;> omega
      generalize rows.getD i [] = r at *
      clear hr1 hr2
      go_wp2_with fail
      go_quiet (fail)
      go_wp2_with fail
      go_loopw [6] (fun kv wr => ∃ k q : Nat, kv = .int .i64 (k : Int) ∧ k ≤ r.length ∧ wr = w.drewN q) (fun kv _ => r.length - (intOf kv).toNat)
      case atStart => exact ⟨0, _, rfl, by omega, World.drewN_drewN ..⟩
      case round =>
        obtain ⟨k, q2, rfl, hk, rfl⟩ := hrel
        by_cases hkl : k < r.length
        · have hkl' : (k : Int) < (r.length : Int) := by omega
          obtain ⟨e1, f1, hA1, -, x1, y1⟩ := HR1.out k hkl
          obtain ⟨e2, f2, hA2, -, x2, y2⟩ := HR2.out k hkl
          subst hA1 hA2
          have m2 : IntKind.i64.wrap ((k : Int) + 1) = ((k + 1 : Nat) : Int) := by rw [IntKind.wrap_i64] <;> omega
          generalize (r.getD k (0, 0)).1 = u at *
          generalize (r.getD k (0, 0)).2 = v at *
          go_wp2_with fail
          go_quiet (fail)
          go_wp2_with fail
          go_roundw
          case rel => exact ⟨k + 1, _, by simp, by omega, rfl⟩
          case measure => simp [intOf]; omega
        · have hge : decide ((k : Int) < (r.length : Int)) = false := by simp; omega
          go_wp2_with fail
          go_roundw
          case rel => exact ⟨i + 1, _, by simp, by omega, rfl⟩
          case measure => simp [intOf]; omega
    · have hge : decide ((i : Int) < (n : Int)) = false := by simp; omega
      go_wp2_with fail
      go_ret
      exact ⟨rfl, Lib.hid ((Fr.drewN (Fr.refl (fun _ => False) w) q).below (Nat.le_refl _) (fun _ h => h.elim))⟩
end Go.Proofs.Ytpglocgfdonmaaa

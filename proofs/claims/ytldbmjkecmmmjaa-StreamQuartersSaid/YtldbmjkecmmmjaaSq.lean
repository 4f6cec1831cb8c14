/-
  Walk of the law StreamQuarters.
-/
import Derived.Test.YtldbmjkecmmmjaaQr
set_option linter.unusedVariables false
set_option linter.unusedSimpArgs false
namespace Go.Proofs.Ytldbmjkecmmmjaa
open Go.RowKit

theorem quarter_ok {q : Q4} (h : q.ok) : (quarter q).ok := half_ok (half_ok h 16 12 (.inl rfl) (.inr (.inl rfl))) 8 7 (.inr (.inr (.inl rfl))) (.inr (.inr (.inr rfl)))

set_option maxHeartbeats 2000000 in
theorem squarters_walk (RQ : ∀ (q : Q4) (w : World), q.ok → Calls Try.prog 14 #[.agg #[.int .u64 q.a, .int .u64 q.b, .int .u64 q.c, .int .u64 q.d]] w fun e w' =>
      e = .returned (.agg #[.int .u64 (quarter q).a, .int .u64 (quarter q).b, .int .u64 (quarter q).c, .int .u64 (quarter q).d]) ∧ Below w.heap.size w w')
    (a b c d : Nat) (w : World) (h : (Q4.mk a b c d).ok) :
    Calls Try.prog 3 #[.agg #[.int .u32 a, .int .u32 b, .int .u32 c, .int .u32 d]] w fun e w' => e = .returned (.bool true) ∧ Below w.heap.size w w' := by
  have HQ := Lib.hid h
  have HR := Lib.hid RQ
  obtain ⟨ha, hb, hc, hd⟩ := h
  simp only at ha hb hc hd
  have hok := quarter_ok HQ.out
  obtain ⟨A, B, C, D, hq⟩ : ∃ A B C D, Hid (quarter ⟨a, b, c, d⟩ = Q4.mk A B C D) := ⟨_, _, _, _, Lib.hid rfl⟩
  rw [hq.out] at hok
  obtain ⟨hA, hB, hC, hD⟩ := hok
  simp only at hA hB hC hD
  clear RQ
  go_enter Try.func3, Try.ntmps3
  go_wp2_with fail
  refine (quarter_any a b c d _ HQ.out).mono ?_
  rintro e w' ⟨rfl, rfl⟩
  rw [hq.out]
  go_wp2_with fail
  refine (HR.out ⟨a, b, c, d⟩ _ HQ.out).mono ?_
  rintro e w1 ⟨rfl, hb1⟩
  rw [hq.out]
  have B1 := Lib.hid (((Below.refl _ w).alloc (Nat.le_refl _) (.cells #[.int .u32 a, .int .u32 b, .int .u32 c, .int .u32 d] 23)).trans (hb1.mono (by simp)))
  clear hb1
  go_wp2_with fail
  go_ret
  exact ⟨rfl, B1.out.alloc (by have := B1.out.size; exact this) _⟩
end Go.Proofs.Ytldbmjkecmmmjaa

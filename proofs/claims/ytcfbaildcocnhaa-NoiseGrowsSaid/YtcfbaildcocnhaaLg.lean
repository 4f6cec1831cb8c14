/-
  Walk: the law's own 'good'.
-/
import Derived.Test.YtcfbaildcocnhaaBo
set_option linter.unusedVariables false
set_option linter.unusedSimpArgs false
namespace Go.Proofs.Ytcfbaildcocnhaa
open Go.RowKit

theorem fin_sub {x r : Nat} {F : Bool} (h : fv r = fop .sub (fv x) (fv x)) (hF : (FloatKind.f64.format.order r 0 == some .eq) = F) : ge0 (fv x) = true → fin (fv x) = F := by
  intro h0
  rw [fin_ref, h0, ← h, ← hF, ford_eq]
  rfl
theorem lgood_any (E D : Nat) (w : World) : Calls Try.prog 31 #[.agg #[.float .f64 E, .float .f64 D]] w fun e w' => e = .returned (.bool (fin (fv E) && fin (fv D))) ∧ Below w.heap.size w w' := by
  have hb : Below w.heap.size w (w.alloc (.cells #[.float .f64 E, .float .f64 D] 34)) := (Below.refl _ _).alloc (Nat.le_refl _) _
  have HB := Lib.hid hb
  clear hb
  obtain ⟨B, hB⟩ : ∃ B, ge0 (fv E) = B := ⟨_, rfl⟩
  obtain ⟨C, hC⟩ : ∃ C, ge0 (fv D) = C := ⟨_, rfl⟩
  have h1 := ge0_eq E
  have h2 := ge0_eq D
  rw [hB] at h1
  rw [hC] at h2
  have HE := Lib.hid hB
  have HD := Lib.hid hC
  clear hB hC
  cases B
  · go_enter Try.func31, Try.ntmps31
    go_wp2_with fail
    go_ret
    exact ⟨by rw [fin_ref E, HE.out]; rfl, HB.out⟩
  · cases C
    · go_enter Try.func31, Try.ntmps31
      go_wp2_with fail
      go_ret
      exact ⟨by rw [fin_ref E, fin_ref D, HE.out, HD.out]; simp, HB.out⟩
    · go_enter Try.func31, Try.ntmps31
      go_wp2_with (refine wpList_floatG (by rfl) .sub rfl _ _ _ _ rfl _ _ rfl rfl ?_; intro r n hr hw; obtain ⟨F, hF⟩ : ∃ F, (FloatKind.f64.format.order r 0 == some .eq) = F := ⟨_, rfl⟩; have HR := Lib.hid (fin_sub hr hF); clear hr; cases F)
      · go_ret
        exact ⟨by rw [(by assumption : Hid (ge0 (fv E) = true → fin (fv E) = false)).out HE.out]; rfl, belowN HB.out _⟩
      · go_ret
        exact ⟨by rw [(by assumption : Hid (ge0 (fv E) = true → fin (fv E) = true)).out HE.out, (by assumption : Hid (ge0 (fv D) = true → fin (fv D) = false)).out HD.out]; rfl, belowN HB.out _⟩
      · go_ret
        exact ⟨by rw [(by assumption : Hid (ge0 (fv E) = true → fin (fv E) = true)).out HE.out, (by assumption : Hid (ge0 (fv D) = true → fin (fv D) = true)).out HD.out]; rfl, belowN HB.out _⟩
end Go.Proofs.Ytcfbaildcocnhaa

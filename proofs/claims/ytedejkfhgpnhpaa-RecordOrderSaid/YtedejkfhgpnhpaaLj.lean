/-
  Walks: the document's ByIndex, Together; record.Together.
-/
import Derived.Test.YtedejkfhgpnhpaaLi
set_option linter.unusedVariables false
set_option linter.unusedSimpArgs false
namespace Go.Proofs.Ytedejkfhgpnhpaa
open Go.RowKit

theorem ris_quiet {A : Option Addr} {n c : Nat} {xs : List Int} {w : World} (v : Bool) (q : Nat) (hv : Hid (isR xs n = v)) (hn : Hid (n = xs.length)) (hr : Hid (Rd w .u8 A xs)) (hB : Hid (B8 xs)) :
    Calls Try.prog 37 #[.slice A n c] (w.drewN q) fun e w'' => e = .returned (.bool v) ∧ ∃ m, w'' = w.drewN m := by
  refine (ris_any A n c xs _ hn.out (hr.out.draws q) hB.out).mono ?_
  rintro e w' ⟨rfl, rfl⟩
  exact ⟨by rw [hv.out], q, rfl⟩
theorem rlive_quiet {A : Option Addr} {n c : Nat} {xs : List Int} {w : World} (v : Bool) (q : Nat) (hv : Hid (lvR xs n = v)) (hn : Hid (n = xs.length)) (hr : Hid (Rd w .u8 A xs)) (hB : Hid (B8 xs)) :
    Calls Try.prog 24 #[.slice A n c] (w.drewN q) fun e w'' => e = .returned (.bool v) ∧ ∃ m, w'' = w.drewN m := by
  refine (rlive_any A n c xs _ hn.out (hr.out.draws q) hB.out).mono ?_
  rintro e w' ⟨rfl, rfl⟩
  exact ⟨by rw [hv.out], q, rfl⟩
theorem refnum_quiet {A : Option Addr} {d : Nat} {ys : List Int} {w : World} (V : Nat) (q : Nat) (hV : Hid (leV ys 4 = V)) (hn : Hid (4 = ys.length)) (hr : Hid (Rd w .u8 A ys)) (hB : Hid (B8 ys)) :
    Calls Try.prog 38 #[.slice A 4 d] (w.drewN q) fun e w'' => e = .returned (.int .u32 (V : Nat)) ∧ ∃ m, w'' = w.drewN m := by
  refine (refnum_any A d ys _ hn.out (hr.out.draws q) hB.out).mono ?_
  rintro e w' ⟨rfl, k, rfl⟩
  exact ⟨by rw [hV.out], q + k, by rw [World.drewN_drewN]⟩
/-- A cut of a row, as the model writes its address. -/
theorem Rd.cut {w : World} {kd : IntKind} {b off : Nat} {xs : List Int} (h : Rd w kd (some ⟨b, off, none⟩) xs) (k n : Nat) : Rd w kd (some ⟨b, off + k, none⟩) ((xs.drop k).take n) :=
  (h.drop k (A' := some ⟨b, off + k, none⟩) (fun b' off' h _ => by cases h; rfl)).take n

set_option maxHeartbeats 1000000 in
theorem rbyIndex_any (A B : Option Addr) (n c m d : Nat) (xs ys : List Int) (w : World) (hn : n = xs.length) (hm : m = ys.length) (hnc : n ≤ c) (hmd : m ≤ d) (hc63 : c ≤ 9223372036854775807) (hd63 : d ≤ 9223372036854775807) (hx : Rd w .u8 A xs) (hy : Rd w .u8 B ys) (hBx : B8 xs) (hBy : B8 ys) :
    Calls Try.prog 30 #[.slice A n c, .slice B m d] w fun e w' => e = .returned (.bool (ixR xs n ys m)) ∧ ∃ q, w' = w.drewN q := by
  have HX := Lib.hid hx
  have HY := Lib.hid hy
  have HN := Lib.hid hn
  have HM := Lib.hid hm
  have HBX := Lib.hid hBx
  have HBY := Lib.hid hBy
  clear hx hy hn hm hBx hBy
  cases hI : isR xs n
  · have HL : Hid (ixR xs n ys m = false) := Lib.hid (by unfold ixR; rw [hI]; rfl)
    have HI := Lib.hid hI
    clear hI
    go_enter Try.func30, Try.ntmps30
    go_wp2_with fail
    go_quiet (first | (go_at_call 37; exact ris_quiet false _ HI HN HX HBX))
    go_wp2_with fail
    go_ret
    exact ⟨by rw [HL.out]; first | done | rfl, _, rfl⟩
  · cases hJ : isR ys m
    · have HL : Hid (ixR xs n ys m = false) := Lib.hid (by unfold ixR; rw [hI, hJ]; rfl)
      have HI := Lib.hid hI
      have HJ := Lib.hid hJ
      clear hI hJ
      go_enter Try.func30, Try.ntmps30
      go_wp2_with fail
      go_quiet (first | (go_at_call 37; first | with_reducible exact ris_quiet true _ HI HN HX HBX | with_reducible exact ris_quiet false _ HJ HM HY HBY))
      go_wp2_with fail
      go_ret
      exact ⟨by rw [HL.out]; first | done | rfl, _, rfl⟩
    · have h1 := isR_26 hI
      have h2 := isR_26 hJ
      obtain ⟨b, off, hA, -⟩ := HX.out 0 (by have := HN.out; omega)
      obtain ⟨b2, off2, hB2, -⟩ := HY.out 0 (by have := HM.out; omega)
      subst hA hB2
      obtain ⟨X, hX⟩ : ∃ X, X = numR xs 2 := ⟨_, rfl⟩
      obtain ⟨Y, hY⟩ : ∃ Y, Y = numR ys 2 := ⟨_, rfl⟩
      have HL : Hid (ixR xs n ys m = decide (X < Y)) := Lib.hid (by unfold ixR; rw [hI, hJ, hX, hY]; simp)
      have HI := Lib.hid hI
      have HJ := Lib.hid hJ
      have HXE : Hid (leV (four xs 2) 4 = X) := Lib.hid hX.symm
      have HYE : Hid (leV (four ys 2) 4 = Y) := Lib.hid hY.symm
      have HXF : Hid (Rd w .u8 (some ⟨b, off + 2, none⟩) (four xs 2)) := Lib.hid (HX.out.cut 2 4)
      have HYF : Hid (Rd w .u8 (some ⟨b2, off2 + 2, none⟩) (four ys 2)) := Lib.hid (HY.out.cut 2 4)
      have HXL : Hid (4 = (four xs 2).length) := Lib.hid (four_len xs 2 (by have := HN.out; omega)).symm
      have HYL : Hid (4 = (four ys 2).length) := Lib.hid (four_len ys 2 (by have := HM.out; omega)).symm
      have HXB := Lib.hid (four_b8 HBX.out 2)
      have HYB := Lib.hid (four_b8 HBY.out 2)
      have c1 : (6 : Int) ≤ (c : Int) := by omega
      have c2 : (6 : Int) ≤ (d : Int) := by omega
      have k1 : ¬ c = 2 := by omega
      have k2 : ¬ d = 2 := by omega
      have k1' : ¬ 2 = c := by omega
      have k2' : ¬ 2 = d := by omega
      clear hI hJ hX hY
      go_enter Try.func30, Try.ntmps30
      go_wp2_with fail
      go_quiet (first | (go_at_call 37; first | with_reducible exact ris_quiet true _ HI HN HX HBX | with_reducible exact ris_quiet true _ HJ HM HY HBY) | (go_at_call 38; first | with_reducible exact refnum_quiet X _ HXE HXL HXF HXB | with_reducible exact refnum_quiet Y _ HYE HYL HYF HYB))
      go_wp2_with fail
      go_ret
      exact ⟨by rw [HL.out]; first | done | rfl | simp, _, rfl⟩
end Go.Proofs.Ytedejkfhgpnhpaa

/-
  Walk: the document's ByGroup.
-/
import Derived.Test.YtedejkfhgpnhpaaBg
set_option linter.unusedVariables false
set_option linter.unusedSimpArgs false
namespace Go.Proofs.Ytedejkfhgpnhpaa
open Go.RowKit

theorem isR_get {xs : List Int} {n : Nat} (h : isR xs n = true) (hB : B8 xs) : (xs.getD 0 0 = 0 ∧ lvR xs n = false) ∨ (xs.getD 0 0 = 1 ∧ lvR xs n = true) := by
  have h2 := h
  unfold isR at h2
  simp only [Bool.and_eq_true, decide_eq_true_eq] at h2
  have h0 := hB 0
  have : xs.getD 0 0 = 0 ∨ xs.getD 0 0 = 1 := by omega
  rcases this with e | e
  · exact .inl ⟨e, by unfold lvR; rw [h, e]; rfl⟩
  · exact .inr ⟨e, by unfold lvR; rw [h, e]; rfl⟩
theorem eqb_at {A B : Option Addr} {n m c d : Nat} {xs ys : List Int} {w : World} (v : Bool) (hv : Hid (decide (xs = ys) = v)) (hn : Hid (n = xs.length)) (hm : Hid (m = ys.length)) (hx : Hid (Rd w .u8 A xs)) (hy : Hid (Rd w .u8 B ys)) (hl : Hid (xs.length ≤ 9223372036854775807 ∧ ys.length ≤ 9223372036854775807)) (y x : Nat) :
    Calls Try.prog 14 #[.slice A n c, .slice B m d] (w.drewN (y + x)) fun e w'' => e = .returned (.bool v) ∧ ∃ k, w'' = w.drewN (y + k) := by
  have h := eqb_any A B c d xs ys (w.drewN (y + x)) (hx.out.draws _) (hy.out.draws _) hl.out.1 hl.out.2
  rw [← hn.out, ← hm.out] at h
  refine h.mono ?_
  rintro e w' ⟨k, rfl, rfl⟩
  exact ⟨by rw [hv.out], x + k, by rw [World.drewN_drewN, Nat.add_assoc]⟩
theorem lower_at {A B : Option Addr} {c d : Nat} {xs ys : List Int} {w : World} (v : Bool) (hv : Hid (bef xs ys = v)) (hn : Hid (16 = xs.length)) (hm : Hid (16 = ys.length)) (hx : Hid (Rd w .u8 A xs)) (hy : Hid (Rd w .u8 B ys)) (y x : Nat) :
    Calls Try.prog 45 #[.slice A 16 c, .slice B 16 d] (w.drewN (y + x)) fun e w'' => e = .returned (.bool v) ∧ ∃ k, w'' = w.drewN (y + k) := by
  refine (lower_any A B 16 c d xs ys (w.drewN (y + x)) hn.out hm.out (hx.out.draws _) (hy.out.draws _) (by rw [← hn.out]; decide)).mono ?_
  rintro e w' ⟨k, rfl, rfl⟩
  exact ⟨by rw [hv.out], x + k, by rw [World.drewN_drewN, Nat.add_assoc]⟩

set_option maxRecDepth 100000 in
set_option maxHeartbeats 2000000 in
theorem rbyGroup_any (A B : Option Addr) (n c m d : Nat) (xs ys : List Int) (w : World) (hn : n = xs.length) (hm : m = ys.length) (hnc : n ≤ c) (hmd : m ≤ d) (hc63 : c ≤ 9223372036854775807) (hd63 : d ≤ 9223372036854775807) (hx : Rd w .u8 A xs) (hy : Rd w .u8 B ys) (hBx : B8 xs) (hBy : B8 ys) :
    Calls Try.prog 28 #[.slice A n c, .slice B m d] w fun e w' => e = .returned (.bool (bgR xs n ys m)) ∧ ∃ q, w' = w.drewN q := by
  have HX := Lib.hid hx
  have HY := Lib.hid hy
  have HN := Lib.hid hn
  have HM := Lib.hid hm
  have HBX := Lib.hid hBx
  have HBY := Lib.hid hBy
  clear hx hy hn hm hBx hBy
  cases hI : isR xs n
  · have HL : Hid (bgR xs n ys m = false) := Lib.hid (by unfold bgR; rw [hI]; rfl)
    have HI := Lib.hid hI
    clear hI
    go_enter Try.func28, Try.ntmps28
    go_wp2_with fail
    refine (ris_any A n c xs w HN.out HX.out HBX.out).mono ?_
    rintro e w' ⟨rfl, rfl⟩
    rw [HI.out]
    go_wp2_with fail
    go_ret
    exact ⟨by rw [HL.out]; first | done | rfl, 0, rfl⟩
  · cases hJ : isR ys m
    · have HL : Hid (bgR xs n ys m = false) := Lib.hid (by unfold bgR; rw [hI, hJ]; rfl)
      have HI := Lib.hid hI
      have HJ := Lib.hid hJ
      clear hI hJ
      go_enter Try.func28, Try.ntmps28
      go_wp2_with fail
      refine (ris_any A n c xs w HN.out HX.out HBX.out).mono ?_
      rintro e w' ⟨rfl, rfl⟩
      rw [HI.out]
      go_wp2_with fail
      refine (ris_any B m d ys _ HM.out HY.out HBY.out).mono ?_
      rintro e w' ⟨rfl, rfl⟩
      rw [HJ.out]
      go_wp2_with fail
      go_ret
      exact ⟨by rw [HL.out]; first | done | rfl, 0, rfl⟩
    · have h1 := isR_26 hI
      have h2 := isR_26 hJ
      obtain ⟨b, off, x0, rfl, hcx, HX0⟩ := HX.out.at 0 (by have := HN.out; omega)
      obtain ⟨b2, off2, y0, rfl, hcy, HY0⟩ := HY.out.at 0 (by have := HM.out; omega)
      rw [Nat.add_zero] at hcx hcy
      have HXF : Hid (Rd w .u8 (some ⟨b, off + 10, none⟩) (gcut xs)) := Lib.hid (HX.out.cut 10 16)
      have HYF : Hid (Rd w .u8 (some ⟨b2, off2 + 10, none⟩) (gcut ys)) := Lib.hid (HY.out.cut 10 16)
      have HXL : Hid (16 = (gcut xs).length) := Lib.hid (gcut_len xs (by have := HN.out; omega)).symm
      have HYL : Hid (16 = (gcut ys).length) := Lib.hid (gcut_len ys (by have := HM.out; omega)).symm
      have HLL : Hid ((gcut xs).length ≤ 9223372036854775807 ∧ (gcut ys).length ≤ 9223372036854775807) := Lib.hid ⟨by rw [← HXL.out]; decide, by rw [← HYL.out]; decide⟩
      have HBG : Hid (bgR xs n ys m = (if lvR xs n != lvR ys m then lvR xs n else if lvR xs n then (if gcut xs = gcut ys then ixR xs n ys m else bef (gcut xs) (gcut ys)) else ixR xs n ys m)) := Lib.hid (by unfold bgR; rw [hI, hJ]; rfl)
      have HGX := Lib.hid (isR_get hI HBX.out)
      have HGY := Lib.hid (isR_get hJ HBY.out)
      have HI := Lib.hid hI
      have HJ := Lib.hid hJ
      have c1 : (26 : Int) ≤ (c : Int) := by omega
      have c2 : (26 : Int) ≤ (d : Int) := by omega
      have k1 : ¬ c = 10 := by omega
      have k2 : ¬ d = 10 := by omega
      have k1' : ¬ 10 = c := by omega
      have k2' : ¬ 10 = d := by omega
      clear hI hJ
      rcases HGX.out with ⟨ex, lx⟩ | ⟨ex, lx⟩
      all_goals (
        rcases HGY.out with ⟨ey, ly⟩ | ⟨ey, ly⟩
        all_goals (
          have hx0 : x0 = _ := HX0.out.trans ex
          have hy0 : y0 = _ := HY0.out.trans ey
          subst hx0 hy0
          rw [lx, ly] at HBG
          have LX := Lib.hid lx
          have LY := Lib.hid ly
          clear ex ey lx ly HX0 HY0 HGX HGY
          go_enter Try.func28, Try.ntmps28
          go_wp2_with fail
          refine (ris_any _ n c xs w HN.out HX.out HBX.out).mono ?_
          rintro e w' ⟨rfl, rfl⟩
          rw [HI.out]
          go_wp2_with fail
          refine (ris_any _ m d ys _ HM.out HY.out HBY.out).mono ?_
          rintro e w' ⟨rfl, rfl⟩
          rw [HJ.out]
          go_wp2_with fail
          go_quiet (fail)
          go_wp2_with fail))
      · have HZ : Hid (bgR xs n ys m = ixR xs n ys m) := Lib.hid (by rw [HBG.out]; rfl)
        go_quiet (fail)
        go_wp2_with fail
        refine (rbyIndex_any _ _ n c m d xs ys _ HN.out HM.out hnc hmd hc63 hd63 (HX.out.draws _) (HY.out.draws _) HBX.out HBY.out).mono ?_
        rintro e w2 ⟨rfl, q2, rfl⟩
        go_wp2_with fail
        go_ret
        exact ⟨by rw [HZ.out]; first | done | rfl, _, rfl⟩
      · go_ret
        exact ⟨by rw [HBG.out]; first | done | rfl, _, rfl⟩
      · go_ret
        exact ⟨by rw [HBG.out]; first | done | rfl, _, rfl⟩
      · cases hV : decide (gcut xs = gcut ys)
        · have hne : ¬ gcut xs = gcut ys := by simpa using hV
          obtain ⟨g1, G1⟩ : ∃ v, Hid (bef (gcut xs) (gcut ys) = v) := ⟨_, Lib.hid rfl⟩
          have HZ : Hid (bgR xs n ys m = g1) := Lib.hid (by rw [HBG.out, if_neg hne, G1.out]; rfl)
          have HV := Lib.hid hV
          clear hV hne
          go_quiet (first | (go_at_call 14; exact eqb_at false HV HXL HYL HXF HYF HLL _ _))
          go_wp2_with fail
          go_quiet (first | (go_at_call 45; exact lower_at g1 G1 HXL HYL HXF HYF _ _))
          go_wp2_with fail
          go_ret
          exact ⟨by rw [HZ.out]; first | done | rfl, _, by rw [World.drewN_drewN, World.drewN_drewN]⟩
        · have hne : gcut xs = gcut ys := by simpa using hV
          have HZ : Hid (bgR xs n ys m = ixR xs n ys m) := Lib.hid (by rw [HBG.out, if_pos hne]; rfl)
          have HV := Lib.hid hV
          clear hV hne
          go_quiet (first | (go_at_call 14; exact eqb_at true HV HXL HYL HXF HYF HLL _ _))
          go_wp2_with fail
          refine (rbyIndex_any _ _ n c m d xs ys _ HN.out HM.out hnc hmd hc63 hd63 (HX.out.draws _) (HY.out.draws _) HBX.out HBY.out).mono ?_
          rintro e w2 ⟨rfl, q2, rfl⟩
          go_wp2_with fail
          go_ret
          exact ⟨by rw [HZ.out]; first | done | rfl, _, rfl⟩
end Go.Proofs.Ytedejkfhgpnhpaa

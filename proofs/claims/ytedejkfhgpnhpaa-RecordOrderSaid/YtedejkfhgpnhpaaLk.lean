/-
  Walks: the document's Together; record.Together.
-/
import Derived.Test.YtedejkfhgpnhpaaLj
import Derived.Stop.BytesEq
set_option linter.unusedVariables false
set_option linter.unusedSimpArgs false
namespace Go.Proofs.Ytedejkfhgpnhpaa
open Go.RowKit

/-- The group's bytes, as numbers. -/
def gcut (xs : List Int) : List Int := (xs.drop 10).take 16
theorem gcut_len (xs : List Int) (h : 26 ≤ xs.length) : (gcut xs).length = 16 := by simp [gcut]; omega
def tgR (xs : List Int) (n : Nat) (ys : List Int) (m : Nat) : Bool := lvR xs n && lvR ys m && decide (gcut xs = gcut ys)
theorem lvR_is {xs : List Int} {n : Nat} (h : lvR xs n = true) : isR xs n = true := by
  unfold lvR at h
  simp at h
  exact h.1
theorem eqb_quiet {A B : Option Addr} {n m c d : Nat} {xs ys : List Int} {w : World} (v : Bool) (q : Nat) (hv : Hid (decide (xs = ys) = v)) (hn : Hid (n = xs.length)) (hm : Hid (m = ys.length)) (hx : Hid (Rd w .u8 A xs)) (hy : Hid (Rd w .u8 B ys)) (hl : Hid (xs.length ≤ 9223372036854775807 ∧ ys.length ≤ 9223372036854775807)) :
    Calls Try.prog 14 #[.slice A n c, .slice B m d] (w.drewN q) fun e w'' => e = .returned (.bool v) ∧ ∃ k, w'' = w.drewN k := by
  have h := eqb_any A B c d xs ys (w.drewN q) (hx.out.draws q) (hy.out.draws q) hl.out.1 hl.out.2
  rw [← hn.out, ← hm.out] at h
  refine h.mono ?_
  rintro e w' ⟨k, rfl, rfl⟩
  exact ⟨by rw [hv.out], q + k, by rw [World.drewN_drewN]⟩

def ub (l : List Int) : List UInt8 := l.map fun z => UInt8.ofNat z.toNat
theorem B8.mem {l : List Int} (h : B8 l) {z : Int} (hz : z ∈ l) : 0 ≤ z ∧ z ≤ 255 := by
  obtain ⟨i, hi, rfl⟩ := List.getElem_of_mem hz
  have := h i
  simpa [List.getD, hi] using this
theorem ub_cell {l : List Int} (h : B8 l) : (ub l).map Go.Extern.Stop.cell = l.map (Value.int .u8) := by
  unfold ub
  rw [List.map_map]
  apply List.map_congr_left
  intro z hz
  have := h.mem hz
  have hlt : z.toNat < 256 := by omega
  show Value.int .u8 ((UInt8.ofNat z.toNat).toNat : Int) = _
  rw [UInt8.toNat_ofNat_of_lt' hlt]
  congr 1
  omega
theorem map_int_inj : ∀ {l l' : List Int}, l.map (Value.int .u8) = l'.map (Value.int .u8) → l = l'
  | [], [], _ => rfl
  | [], _ :: _, h => by simp at h
  | _ :: _, [], h => by simp at h
  | a :: l, b :: l', h => by
    simp only [List.map_cons, List.cons.injEq] at h
    obtain ⟨h1, h2⟩ := h
    injection h1 with _ h1
    rw [h1, map_int_inj h2]
theorem ub_eq {l l' : List Int} (h : B8 l) (h' : B8 l') : (ub l == ub l') = decide (l = l') := by
  rw [Bool.eq_iff_iff]
  simp only [beq_iff_eq, decide_eq_true_eq]
  constructor
  · intro e
    have := congrArg (List.map Go.Extern.Stop.cell) e
    rw [ub_cell h, ub_cell h'] at this
    exact map_int_inj this
  · intro e; rw [e]
theorem size5w : ∀ w : World, (sizeOf 5).run Try.prog w = .ok 1 w := fun w => by
  obtain ⟨i, hi, _, h1, _⟩ := info_parts info5
  simp [sizeOf, typeInfo, hi, h1]
theorem eq_grp {xs ys : List Int} (hx : B8 xs) (hy : B8 ys) (lx : 26 ≤ xs.length) (ly : 26 ≤ ys.length) (w : World) : (Op.equalIn 10000 24 (.agg (grp xs).toArray) (.agg (grp ys).toArray)).run Try.prog w = .ok (decide (gcut xs = gcut ys)) w := by
  have bx : B8 (gcut xs) := (hx.drop 10).take 16
  have by_ : B8 (gcut ys) := (hy.drop 10).take 16
  have h := run_equalIn_bytes (P := Try.prog) w 9998 24 5 16 Try.underlying24 Try.underlying5 size5w (ub (gcut xs)) (ub (gcut ys)) (by unfold ub; rw [List.length_map]; exact gcut_len xs lx) (by unfold ub; rw [List.length_map]; exact gcut_len ys ly)
  rw [ub_cell bx, ub_cell by_, ub_eq bx by_] at h
  exact h

set_option maxHeartbeats 1000000 in
theorem rtog_any (A B : Option Addr) (n c m d : Nat) (xs ys : List Int) (w : World) (hn : n = xs.length) (hm : m = ys.length) (hnc : n ≤ c) (hmd : m ≤ d) (hc63 : c ≤ 9223372036854775807) (hd63 : d ≤ 9223372036854775807) (hx : Rd w .u8 A xs) (hy : Rd w .u8 B ys) (hBx : B8 xs) (hBy : B8 ys) :
    Calls Try.prog 26 #[.slice A n c, .slice B m d] w fun e w' => e = .returned (.bool (tgR xs n ys m)) ∧ ∃ q, w' = w.drewN q := by
  have HX := Lib.hid hx
  have HY := Lib.hid hy
  have HN := Lib.hid hn
  have HM := Lib.hid hm
  have HBX := Lib.hid hBx
  have HBY := Lib.hid hBy
  clear hx hy hn hm hBx hBy
  cases hI : lvR xs n
  · have HL : Hid (tgR xs n ys m = false) := Lib.hid (by unfold tgR; rw [hI]; rfl)
    have HI := Lib.hid hI
    clear hI
    go_enter Try.func26, Try.ntmps26
    go_wp2_with fail
    go_quiet (first | (go_at_call 24; exact rlive_quiet false _ HI HN HX HBX))
    go_wp2_with fail
    go_ret
    exact ⟨by rw [HL.out]; first | done | rfl, _, rfl⟩
  · cases hJ : lvR ys m
    · have HL : Hid (tgR xs n ys m = false) := Lib.hid (by unfold tgR; rw [hI, hJ]; rfl)
      have HI := Lib.hid hI
      have HJ := Lib.hid hJ
      clear hI hJ
      go_enter Try.func26, Try.ntmps26
      go_wp2_with fail
      go_quiet (first | (go_at_call 24; first | with_reducible exact rlive_quiet true _ HI HN HX HBX | with_reducible exact rlive_quiet false _ HJ HM HY HBY))
      go_wp2_with fail
      go_ret
      exact ⟨by rw [HL.out]; first | done | rfl, _, rfl⟩
    · have h1 := isR_26 (lvR_is hI)
      have h2 := isR_26 (lvR_is hJ)
      obtain ⟨b, off, hA, -⟩ := HX.out 0 (by have := HN.out; omega)
      obtain ⟨b2, off2, hB2, -⟩ := HY.out 0 (by have := HM.out; omega)
      subst hA hB2
      obtain ⟨V, hV⟩ : ∃ V, V = decide (gcut xs = gcut ys) := ⟨_, rfl⟩
      have HL : Hid (tgR xs n ys m = V) := Lib.hid (by unfold tgR; rw [hI, hJ, hV]; simp)
      have HV := Lib.hid hV.symm
      have HI := Lib.hid hI
      have HJ := Lib.hid hJ
      have HXF : Hid (Rd w .u8 (some ⟨b, off + 10, none⟩) (gcut xs)) := Lib.hid (HX.out.cut 10 16)
      have HYF : Hid (Rd w .u8 (some ⟨b2, off2 + 10, none⟩) (gcut ys)) := Lib.hid (HY.out.cut 10 16)
      have HXL : Hid (16 = (gcut xs).length) := Lib.hid (gcut_len xs (by have := HN.out; omega)).symm
      have HYL : Hid (16 = (gcut ys).length) := Lib.hid (gcut_len ys (by have := HM.out; omega)).symm
      have HLL : Hid ((gcut xs).length ≤ 9223372036854775807 ∧ (gcut ys).length ≤ 9223372036854775807) := Lib.hid ⟨by rw [← HXL.out]; decide, by rw [← HYL.out]; decide⟩
      have c1 : (26 : Int) ≤ (c : Int) := by omega
      have c2 : (26 : Int) ≤ (d : Int) := by omega
      have k1 : ¬ c = 10 := by omega
      have k2 : ¬ d = 10 := by omega
      have k1' : ¬ 10 = c := by omega
      have k2' : ¬ 10 = d := by omega
      clear hI hJ hV
      go_enter Try.func26, Try.ntmps26
      go_wp2_with fail
      go_quiet (first | (go_at_call 24; first | with_reducible exact rlive_quiet true _ HI HN HX HBX | with_reducible exact rlive_quiet true _ HJ HM HY HBY) | (go_at_call 14; with_reducible exact eqb_quiet V _ HV HXL HYL HXF HYF HLL))
      go_wp2_with fail
      go_ret
      exact ⟨by rw [HL.out]; first | done | rfl | simp, _, rfl⟩

theorem tog_any (A B : Option Addr) (n c m d : Nat) (xs ys : List Int) (w : World) (hn : n = xs.length) (hm : m = ys.length) (hnc : n ≤ c) (hmd : m ≤ d) (hc63 : c ≤ 9223372036854775807) (hd63 : d ≤ 9223372036854775807) (hx : Rd w .u8 A xs) (hy : Rd w .u8 B ys) (hBx : B8 xs) (hBy : B8 ys) :
    Calls Try.prog 25 #[.slice A n c, .slice B m d] w fun e w' => e = .returned (.int .u64 (mk (tgR xs n ys m))) ∧ Below w.heap.size w w' := by
  have HX := Lib.hid hx
  have HY := Lib.hid hy
  have HN := Lib.hid hn
  have HM := Lib.hid hm
  have HBX := Lib.hid hBx
  have HBY := Lib.hid hBy
  clear hx hy hn hm hBx hBy
  cases hI : (lvR xs n && lvR ys m)
  · have HL : Hid (tgR xs n ys m = false) := Lib.hid (by unfold tgR; rw [hI]; rfl)
    have HI := Lib.hid hI
    clear hI
    go_enter Try.func25, Try.ntmps25
    go_wp2_with fail
    refine (live_any A n c xs w HN.out HX.out HBX.out).mono ?_
    rintro e w' ⟨rfl, q1, rfl⟩
    go_wp2_with fail
    refine (live_any B m d ys _ HM.out (HY.out.draws _) HBY.out).mono ?_
    rintro e w' ⟨rfl, q2, rfl⟩
    have ha : bits .and .u64 (mk (lvR xs n)) (mk (lvR ys m)) = 0 := by rw [mk_and, HI.out]; rfl
    go_wp2_with fail
    go_ret
    exact ⟨by rw [HL.out]; rfl, belowN (Below.refl _ _) _⟩
  · have hI2 := hI
    rw [Bool.and_eq_true] at hI2
    have h1 := isR_26 (lvR_is hI2.1)
    have h2 := isR_26 (lvR_is hI2.2)
    obtain ⟨b, off, hA, -⟩ := HX.out 0 (by have := HN.out; omega)
    obtain ⟨b2, off2, hB2, -⟩ := HY.out 0 (by have := HM.out; omega)
    subst hA hB2
    have HL : Hid (tgR xs n ys m = decide (gcut xs = gcut ys)) := Lib.hid (by unfold tgR; rw [hI]; simp)
    have HI := Lib.hid hI
    clear hI hI2
    go_enter Try.func25, Try.ntmps25
    go_wp2_with fail
    refine (live_any _ n c xs w HN.out HX.out HBX.out).mono ?_
    rintro e w' ⟨rfl, q1, rfl⟩
    go_wp2_with fail
    refine (live_any _ m d ys _ HM.out (HY.out.draws _) HBY.out).mono ?_
    rintro e w' ⟨rfl, q2, rfl⟩
    have ha : bits .and .u64 (mk (lvR xs n)) (mk (lvR ys m)) = 18446744073709551615 := by rw [mk_and, HI.out]; rfl
    go_wp2_with fail
    refine (group_any b off n c xs _ HN.out hnc h1 (HX.out.draws _) hc63).mono ?_
    rintro e w1 ⟨rfl, b1⟩
    have W1 : Hid (Below w.heap.size w w1) := Lib.hid ((belowN (Below.refl w.heap.size w) _).trans b1)
    have Y1 := Lib.hid (HY.out.below W1.out)
    clear b1
    go_wp2_with fail
    refine (group_any b2 off2 m d ys _ HM.out hmd h2 Y1.out hd63).mono ?_
    rintro e w2 ⟨rfl, b2'⟩
    have W2 := Lib.hid (W1.out.trans (b2'.mono W1.out.size))
    clear b2'
    go_wp2_with fail
    rw [eq_grp HBX.out HBY.out (by have := HN.out; omega) (by have := HM.out; omega)]
    cases hV : decide (gcut xs = gcut ys)
    · have HV := Lib.hid hV
      clear hV
      go_simp
      go_wp2_with fail
      go_ret
      exact ⟨by rw [HL.out, HV.out]; rfl, W2.out⟩
    · have HV := Lib.hid hV
      clear hV
      go_simp
      go_wp2_with fail
      go_ret
      exact ⟨by rw [HL.out, HV.out]; rfl, W2.out⟩
end Go.Proofs.Ytedejkfhgpnhpaa

/-
  Walks: numbers out of a reader of the program; taken.
-/
import Derived.Test.YtcibhaoilcohbaaRr
set_option linter.unusedVariables false
set_option linter.unusedSimpArgs false
namespace Go.Proofs.Ytcibhaoilcohbaa
open Go.RowKit

set_option maxHeartbeats 2000000 in
theorem low16u_any (A : Option Addr) (n c : Nat) (xs : List Int) (w : World) (hn : n = xs.length) (hr : Rd w .u8 A xs) (hB : B8 xs) (hs : n ≤ 2) :
    Calls Try.prog 90 #[.slice A n c] w fun e w' => e = .returned (.int .u16 (leV xs n : Nat)) ∧ w' = w := by
  have HR := Lib.hid hr
  have HN := Lib.hid hn
  have HB := Lib.hid hB
  clear hr hn hB
  go_enter Try.func90, Try.ntmps90
  go_wp2_with fail
  go_loop [3, 8] (fun v i => ∃ k V : Nat, k ≤ n ∧ i = .int .i64 k ∧ v = .int .u16 V ∧ Hid (V = leV xs k)) (fun _ i => n - (intOf i).toNat)
  case atStart => exact ⟨0, 0, Nat.zero_le _, rfl, rfl, Lib.hid rfl⟩
  case round =>
    obtain ⟨k, V, hk, rfl, rfl, HV⟩ := hrel
    by_cases hlt : k < n
    · obtain ⟨b, off, y, rfl, hc, HY⟩ := HR.out.at k (by have := HN.out; omega)
      obtain ⟨Y, hY⟩ : ∃ Y : Nat, y = (Y : Int) := ⟨y.toNat, by have := HB.out k; have := HY.out; omega⟩
      have hY8 : Y < 256 := by have := HB.out k; have := HY.out; omega
      subst hY
      have hVC : V < 256 ^ k := by rw [HV.out]; exact leV_lt HB.out k
      have hk4 : k = 0 ∨ k = 1 := by omega
      rcases hk4 with rfl | rfl
      · rw [Nat.add_zero] at hc
        go_wp2_with fail
        go_round
        case rel => exact ⟨1, V + Y * 1, by omega, rfl, congrArg (Value.int .u16) (by have h := u16_or_nat V Y (by omega) (by omega); have hv : V = 0 := (by omega); subst hv; rw [Nat.zero_or] at h; rw [Nat.zero_add, Nat.mul_one]; exact h), Lib.hid (lev_next HV.out HY.out (by decide))⟩
        case measure => simp [intOf]; omega
      · go_wp2_with fail
        go_round
        case rel => exact ⟨2, V + Y * 256, by omega, rfl, congrArg (Value.int .u16) (by have h := u16_or_nat V (Y * 256) (by omega) (by omega); rw [Nat.or_comm, nat_join 8 (Y * 256) V (by omega) (by omega)] at h; rw [show ((Y : Int) * 256) = ((Y * 256 : Nat) : Int) from by omega, h]; omega), Lib.hid (lev_next HV.out HY.out (by decide))⟩
        case measure => simp [intOf]; omega
    · have HK : Hid (k = n) := Lib.hid (by omega)
      have hge : decide ((k : Int) < (n : Int)) = false := by simp; omega
      go_wp2_with fail
      go_ret
      exact ⟨by rw [HV.out, HK.out]; first | done | rfl, rfl⟩


theorem tkL_b8 {xs : List Int} (h : B8 xs) (n e : Int) : B8 (tkL xs n e) := by
  unfold tkL
  split
  · intro i
    by_cases hi : i < (xs.take n.toNat).length
    · have hk : i < n.toNat := by rw [List.length_take] at hi; omega
      have e1 : (xs.take n.toNat).getD i 0 = xs.getD i 0 := by rw [List.getD_eq_getElem?_getD, List.getElem?_take_of_lt hk, ← List.getD_eq_getElem?_getD]
      rw [e1]
      exact h i
    · rw [show (xs.take n.toNat).getD i 0 = 0 from by simp [List.getD, List.getElem?_eq_none (Nat.le_of_not_lt hi)]]; omega
  · intro i; simp
theorem tkL_lek (xs : List Int) (k : Nat) (e : Int) : (tkL xs k e).length ≤ k := by
  unfold tkL
  split
  · simp; omega
  · simp
/-- The number that a reader tells. -/
def nmR (xs : List Int) (k : Nat) (e : Int) : Nat := leV (tkL xs k e) (tkL xs k e).length
theorem u8_any (p g : Nat) (xs : List Int) (e : Int) (w : World) (h : Rdr w p g xs e) (hB : B8 xs) :
    Calls Try.prog 52 #[.pointer (some ⟨p, 0, none⟩)] w fun e' w' => e' = .returned (.int .u8 (nmR xs 1 e : Nat)) ∧ Hid (Rdr w' p g (rsL xs 1 e) (erR xs 1 e)) ∧ Hid (Fr (fun j => j = p) w w') := by
  have H := Lib.hid h
  have HB := Lib.hid (tkL_b8 hB (1 : Int) e)
  have HL := Lib.hid (tkL_lek xs 1 e)
  clear h hB
  go_enter Try.func52, Try.ntmps52
  go_wp2_with fail
  refine (take_any p g 1 xs e w H.out ⟨by decide, by decide⟩).mono ?_
  rintro e' w1 ⟨A, m, c, rfl, HM, HR, HD, HF⟩
  go_wp2_with fail
  refine (low8_any A m c (tkL xs 1 e) w1 HM.out.1 HR.out HB.out (by rw [HM.out.1]; exact HL.out)).mono ?_
  rintro e' w' ⟨rfl, hw⟩
  obtain rfl : w1 = w' := hw.symm
  go_wp2_with fail
  go_ret
  exact ⟨by rw [HM.out.1]; rfl, HD, HF⟩
theorem u16_any (p g : Nat) (xs : List Int) (e : Int) (w : World) (h : Rdr w p g xs e) (hB : B8 xs) :
    Calls Try.prog 53 #[.pointer (some ⟨p, 0, none⟩)] w fun e' w' => e' = .returned (.int .u16 (nmR xs 2 e : Nat)) ∧ Hid (Rdr w' p g (rsL xs 2 e) (erR xs 2 e)) ∧ Hid (Fr (fun j => j = p) w w') := by
  have H := Lib.hid h
  have HB := Lib.hid (tkL_b8 hB (2 : Int) e)
  have HL := Lib.hid (tkL_lek xs 2 e)
  clear h hB
  go_enter Try.func53, Try.ntmps53
  go_wp2_with fail
  refine (take_any p g 2 xs e w H.out ⟨by decide, by decide⟩).mono ?_
  rintro e' w1 ⟨A, m, c, rfl, HM, HR, HD, HF⟩
  go_wp2_with fail
  refine (low16u_any A m c (tkL xs 2 e) w1 HM.out.1 HR.out HB.out (by rw [HM.out.1]; exact HL.out)).mono ?_
  rintro e' w' ⟨rfl, hw⟩
  obtain rfl : w1 = w' := hw.symm
  go_wp2_with fail
  go_ret
  exact ⟨by rw [HM.out.1]; rfl, HD, HF⟩
theorem u32_any (p g : Nat) (xs : List Int) (e : Int) (w : World) (h : Rdr w p g xs e) (hB : B8 xs) :
    Calls Try.prog 54 #[.pointer (some ⟨p, 0, none⟩)] w fun e' w' => e' = .returned (.int .u32 (nmR xs 4 e : Nat)) ∧ Hid (Rdr w' p g (rsL xs 4 e) (erR xs 4 e)) ∧ Hid (Fr (fun j => j = p) w w') := by
  have H := Lib.hid h
  have HB := Lib.hid (tkL_b8 hB (4 : Int) e)
  have HL := Lib.hid (tkL_lek xs 4 e)
  clear h hB
  go_enter Try.func54, Try.ntmps54
  go_wp2_with fail
  refine (take_any p g 4 xs e w H.out ⟨by decide, by decide⟩).mono ?_
  rintro e' w1 ⟨A, m, c, rfl, HM, HR, HD, HF⟩
  go_wp2_with fail
  refine (low32_any A m c (tkL xs 4 e) w1 HM.out.1 HR.out HB.out (by rw [HM.out.1]; exact HL.out)).mono ?_
  rintro e' w' ⟨rfl, hw⟩
  obtain rfl : w1 = w' := hw.symm
  go_wp2_with fail
  go_ret
  exact ⟨by rw [HM.out.1]; rfl, HD, HF⟩
theorem u64_any (p g : Nat) (xs : List Int) (e : Int) (w : World) (h : Rdr w p g xs e) (hB : B8 xs) :
    Calls Try.prog 55 #[.pointer (some ⟨p, 0, none⟩)] w fun e' w' => e' = .returned (.int .u64 (nmR xs 8 e : Nat)) ∧ Hid (Rdr w' p g (rsL xs 8 e) (erR xs 8 e)) ∧ Hid (Fr (fun j => j = p) w w') := by
  have H := Lib.hid h
  have HB := Lib.hid (tkL_b8 hB (8 : Int) e)
  have HL := Lib.hid (tkL_lek xs 8 e)
  clear h hB
  go_enter Try.func55, Try.ntmps55
  go_wp2_with fail
  refine (take_any p g 8 xs e w H.out ⟨by decide, by decide⟩).mono ?_
  rintro e' w1 ⟨A, m, c, rfl, HM, HR, HD, HF⟩
  go_wp2_with fail
  refine (low64_any A m c (tkL xs 8 e) w1 HM.out.1 HR.out HB.out (by rw [HM.out.1]; exact HL.out)).mono ?_
  rintro e' w' ⟨rfl, hw⟩
  obtain rfl : w1 = w' := hw.symm
  go_wp2_with fail
  go_ret
  exact ⟨by rw [HM.out.1]; rfl, HD, HF⟩

theorem nmR_lt {xs : List Int} (hB : B8 xs) (k : Nat) (e : Int) : nmR xs k e < 256 ^ k := by
  unfold nmR
  exact Nat.lt_of_lt_of_le (leV_lt (tkL_b8 hB k e) _) (Nat.pow_le_pow_right (by decide) (tkL_lek xs k e))
/-- How wide a step's number is. -/
def wdR (d : Int) : Nat := if d = 1 then 1 else if d = 2 then 2 else if d = 3 then 4 else if d = 4 then 8 else 0
theorem taken1 (p g : Nat) (xs : List Int) (e : Int) (w : World) (h : Rdr w p g xs e) (hB : B8 xs) :
    Calls Try.prog 82 #[.pointer (some ⟨p, 0, none⟩), .int .i64 1] w fun e' w' => e' = .returned (.int .u64 (nmR xs 1 e : Nat)) ∧ Hid (Rdr w' p g (rsL xs 1 e) (erR xs 1 e)) ∧ Hid (Fr (fun j => j = p) w w') := by
  have H := Lib.hid h
  have HB := Lib.hid hB
  have hlt := nmR_lt hB 1 e
  clear h hB
  go_enter Try.func82, Try.ntmps82
  go_wp2_with fail
  refine (u8_any p g xs e w H.out HB.out).mono ?_
  rintro e' w1 ⟨rfl, HD, HF⟩
  generalize hV : nmR xs 1 e = V at hlt
  have HV := Lib.hid hV
  clear hV
  have hv : V < 256 := hlt
  go_wp2_with fail
  go_ret
  exact ⟨by rw [HV.out]; rfl, HD, HF⟩
theorem taken2 (p g : Nat) (xs : List Int) (e : Int) (w : World) (h : Rdr w p g xs e) (hB : B8 xs) :
    Calls Try.prog 82 #[.pointer (some ⟨p, 0, none⟩), .int .i64 2] w fun e' w' => e' = .returned (.int .u64 (nmR xs 2 e : Nat)) ∧ Hid (Rdr w' p g (rsL xs 2 e) (erR xs 2 e)) ∧ Hid (Fr (fun j => j = p) w w') := by
  have H := Lib.hid h
  have HB := Lib.hid hB
  have hlt := nmR_lt hB 2 e
  clear h hB
  go_enter Try.func82, Try.ntmps82
  go_wp2_with fail
  refine (u16_any p g xs e w H.out HB.out).mono ?_
  rintro e' w1 ⟨rfl, HD, HF⟩
  generalize hV : nmR xs 2 e = V at hlt
  have HV := Lib.hid hV
  clear hV
  have hv : V < 65536 := hlt
  go_wp2_with fail
  go_ret
  exact ⟨by rw [HV.out]; rfl, HD, HF⟩
theorem taken3 (p g : Nat) (xs : List Int) (e : Int) (w : World) (h : Rdr w p g xs e) (hB : B8 xs) :
    Calls Try.prog 82 #[.pointer (some ⟨p, 0, none⟩), .int .i64 3] w fun e' w' => e' = .returned (.int .u64 (nmR xs 4 e : Nat)) ∧ Hid (Rdr w' p g (rsL xs 4 e) (erR xs 4 e)) ∧ Hid (Fr (fun j => j = p) w w') := by
  have H := Lib.hid h
  have HB := Lib.hid hB
  have hlt := nmR_lt hB 4 e
  clear h hB
  go_enter Try.func82, Try.ntmps82
  go_wp2_with fail
  refine (u32_any p g xs e w H.out HB.out).mono ?_
  rintro e' w1 ⟨rfl, HD, HF⟩
  generalize hV : nmR xs 4 e = V at hlt
  have HV := Lib.hid hV
  clear hV
  have hv : V < 4294967296 := hlt
  go_wp2_with fail
  go_ret
  exact ⟨by rw [HV.out]; rfl, HD, HF⟩
theorem taken4 (p g : Nat) (xs : List Int) (e : Int) (w : World) (h : Rdr w p g xs e) (hB : B8 xs) :
    Calls Try.prog 82 #[.pointer (some ⟨p, 0, none⟩), .int .i64 4] w fun e' w' => e' = .returned (.int .u64 (nmR xs 8 e : Nat)) ∧ Hid (Rdr w' p g (rsL xs 8 e) (erR xs 8 e)) ∧ Hid (Fr (fun j => j = p) w w') := by
  have H := Lib.hid h
  have HB := Lib.hid hB
  have hlt := nmR_lt hB 8 e
  clear h hB
  go_enter Try.func82, Try.ntmps82
  go_wp2_with fail
  refine (u64_any p g xs e w H.out HB.out).mono ?_
  rintro e' w1 ⟨rfl, HD, HF⟩
  generalize hV : nmR xs 8 e = V at hlt
  have HV := Lib.hid hV
  clear hV
  have hv : V < 18446744073709551616 := hlt
  go_wp2_with fail
  go_ret
  exact ⟨by rw [HV.out]; rfl, HD, HF⟩

theorem taken_any (p g : Nat) (d : Int) (xs : List Int) (e : Int) (w : World) (h : Rdr w p g xs e) (hB : B8 xs) (hd : 0 < wdR d) :
    Calls Try.prog 82 #[.pointer (some ⟨p, 0, none⟩), .int .i64 d] w fun e' w' => e' = .returned (.int .u64 (nmR xs (wdR d) e : Nat)) ∧ Hid (Rdr w' p g (rsL xs (wdR d) e) (erR xs (wdR d) e)) ∧ Hid (Fr (fun j => j = p) w w') := by
  by_cases h1 : d = 1
  · subst h1; exact taken1 p g xs e w h hB
  · by_cases h2 : d = 2
    · subst h2; exact taken2 p g xs e w h hB
    · by_cases h3 : d = 3
      · subst h3; exact taken3 p g xs e w h hB
      · by_cases h4 : d = 4
        · subst h4; exact taken4 p g xs e w h hB
        · unfold wdR at hd; rw [if_neg h1, if_neg h2, if_neg h3, if_neg h4] at hd; exact absurd hd (by decide)
theorem wd_any (d : Int) (w : World) : Calls Try.prog 57 #[.int .i64 d] w fun e w' => e = .returned (.int .i64 (wdR d : Nat)) ∧ w' = w := by
  by_cases h1 : d = 1
  · subst h1
    go_enter Try.func57, Try.ntmps57
    go_wp2_with fail
    go_ret
    exact ⟨rfl, rfl⟩
  · by_cases h2 : d = 2
    · subst h2
      go_enter Try.func57, Try.ntmps57
      go_wp2_with fail
      go_ret
      exact ⟨rfl, rfl⟩
    · by_cases h3 : d = 3
      · subst h3
        go_enter Try.func57, Try.ntmps57
        go_wp2_with fail
        go_ret
        exact ⟨rfl, rfl⟩
      · by_cases h4 : d = 4
        · subst h4
          go_enter Try.func57, Try.ntmps57
          go_wp2_with fail
          go_ret
          exact ⟨rfl, rfl⟩
        · have e1 : Hid (wdR d = 0) := Lib.hid (by unfold wdR; rw [if_neg h1, if_neg h2, if_neg h3, if_neg h4])
          have b1 : (d == 1) = false := by simpa using h1
          have b2 : (d == 2) = false := by simpa using h2
          have b3 : (d == 3) = false := by simpa using h3
          have b4 : (d == 4) = false := by simpa using h4
          go_enter Try.func57, Try.ntmps57
          go_wp2_with fail
          go_ret
          exact ⟨by rw [e1.out]; rfl, rfl⟩
end Go.Proofs.Ytcibhaoilcohbaa

/-
  Walks: new writers; numbers laid.
-/
import Derived.Test.YtcibhaoilcohbaaWs
set_option linter.unusedVariables false
set_option linter.unusedSimpArgs false
namespace Go.Proofs.Ytcibhaoilcohbaa
open Go.RowKit

/-- Why a size is refused. -/
def nwE (z : Int) : Int := if z < 0 then 2 else 3

theorem nw_ok (z : Nat) (w : World) (hz : z ≤ 1048576) : Calls Try.prog 39 #[.int .i64 z] w fun e w' => ∃ p, e = .returned (.tuple #[.pointer (some ⟨p, 0, none⟩), .int .i64 0]) ∧ Hid (w.heap.size ≤ p) ∧ Hid (Wtr 111 w' p p z [] 0) ∧ Hid (Below w.heap.size w w') := by
  have d1 : decide ((z : Int) < 0) = false := decide_eq_false (by omega)
  have d2 : decide ((1048576 : Int) < (z : Int)) = false := decide_eq_false (by omega)
  go_enter Try.func39, Try.ntmps39
  go_wp2_with fail
  go_ret2
  have W := (Below.refl w.heap.size w).alloc (Nat.le_refl _) (.cells #[.int .i64 z, .slice none 0 0, .int .i64 0] 111)
  have B0 := Blk.new w 111 [.int .i64 z, .slice none 0 0, .int .i64 0]
  exact ⟨w.heap.size, rfl, Lib.hid (Nat.le_refl _), Lib.hid ⟨.slice none 0 0, B0, Own.nil _ _ _ _, (fun j hj => by cases hj), (fun hj => by cases hj), B0.lt⟩, Lib.hid W⟩
theorem nw_no (z : Int) (w : World) (hz : z < 0 ∨ 1048576 < z) : Calls Try.prog 39 #[.int .i64 z] w fun e w' => e = .returned (.tuple #[.pointer none, .int .i64 (nwE z)]) ∧ w' = w := by
  by_cases h0 : z < 0
  · have d1 : decide (z < 0) = true := decide_eq_true h0
    go_enter Try.func39, Try.ntmps39
    go_wp2_with fail
    go_ret2
    exact ⟨by rw [show nwE z = 2 from if_pos h0]; rfl, rfl⟩
  · have d1 : decide (z < 0) = false := decide_eq_false h0
    have d2 : decide ((1048576 : Int) < z) = true := decide_eq_true (by omega)
    go_enter Try.func39, Try.ntmps39
    go_wp2_with fail
    go_ret2
    exact ⟨by rw [show nwE z = 3 from if_neg (by omega)]; rfl, rfl⟩

theorem nq_ok (z : Nat) (w : World) (hz : z ≤ 1048576) : Calls Try.prog 40 #[.int .i64 z] w fun e w' => ∃ p, e = .returned (.tuple #[.pointer (some ⟨p, 0, none⟩), .int .i64 0]) ∧ Hid (w.heap.size ≤ p) ∧ Hid (Wtr 113 w' p p z [] 0) ∧ Hid (Below w.heap.size w w') := by
  have d1 : decide ((z : Int) < 0) = false := decide_eq_false (by omega)
  have d2 : decide ((1048576 : Int) < (z : Int)) = false := decide_eq_false (by omega)
  go_enter Try.func40, Try.ntmps40
  go_wp2_with fail
  go_ret2
  have W := (Below.refl w.heap.size w).alloc (Nat.le_refl _) (.cells #[.int .i64 z, .slice none 0 0, .int .i64 0] 113)
  have B0 := Blk.new w 113 [.int .i64 z, .slice none 0 0, .int .i64 0]
  exact ⟨w.heap.size, rfl, Lib.hid (Nat.le_refl _), Lib.hid ⟨.slice none 0 0, B0, Own.nil _ _ _ _, (fun j hj => by cases hj), (fun hj => by cases hj), B0.lt⟩, Lib.hid W⟩
theorem nq_no (z : Int) (w : World) (hz : z < 0 ∨ 1048576 < z) : Calls Try.prog 40 #[.int .i64 z] w fun e w' => e = .returned (.tuple #[.pointer none, .int .i64 (nwE z)]) ∧ w' = w := by
  by_cases h0 : z < 0
  · have d1 : decide (z < 0) = true := decide_eq_true h0
    go_enter Try.func40, Try.ntmps40
    go_wp2_with fail
    go_ret2
    exact ⟨by rw [show nwE z = 2 from if_pos h0]; rfl, rfl⟩
  · have d1 : decide (z < 0) = false := decide_eq_false h0
    have d2 : decide ((1048576 : Int) < z) = true := decide_eq_true (by omega)
    go_enter Try.func40, Try.ntmps40
    go_wp2_with fail
    go_ret2
    exact ⟨by rw [show nwE z = 3 from if_neg (by omega)]; rfl, rfl⟩

theorem Wrote.after {T : TypeId} {w w1 w' : World} {p g z : Nat} {bs : List Int} {e : Int} (h : Wrote T w1 p g z bs e w') (hb : Below w.heap.size w w1) : Wrote T w p g z bs e w' := by
  obtain ⟨g', h1, h2, h3⟩ := h
  exact ⟨g', h1, h2.imp id (Nat.le_trans hb.size), (Fr.of_below hb _).trans h3⟩
theorem Wrote.then {T : TypeId} {w w1 w' : World} {p g z : Nat} {bs : List Int} {e : Int} (h : Wrote T w p g z bs e w1) (hb : Below w1.heap.size w1 w') : Wrote T w p g z bs e w' := by
  obtain ⟨g', h1, h2, h3⟩ := h
  exact ⟨g', h1.below hb, h2, h3.trans (Fr.of_below hb _)⟩
theorem wu8_any (p g z : Nat) (bs : List Int) (e : Int) (X : Nat) (w : World) (h : Wtr 111 w p g z bs e) (hX : X < 256) (hz : z ≤ 2000000) (hbs : bs.length ≤ z) :
    Calls Try.prog 48 #[.pointer (some ⟨p, 0, none⟩), .int .u8 X] w fun e' w' => (∃ u, e' = .returned u) ∧ Hid (Wrote 111 w p g z (wL z bs e (leN X 1)) (wE z bs e (leN X 1)) w') := by
  have H := Lib.hid h
  clear h
  go_enter Try.func48, Try.ntmps48
  go_wp2_with fail
  refine (pl8_any none 0 0 [] X w rfl (Rd.nil _ _ _) (by simp) hX).mono ?_
  rintro e' w1 ⟨v1, rfl, o1, b1⟩
  rw [List.nil_append] at o1
  obtain ⟨A, c, rfl, -, -, r1, -⟩ := o1.slice
  have R1 := Lib.hid r1
  have W1 := Lib.hid b1
  clear o1 b1 r1
  go_wp2_with fail
  refine (wbytes_any p g z bs e A _ c (leN X 1) w1 (H.out.below W1.out) rfl R1.out hz hbs (by rw [leN_len]; decide)).mono ?_
  rintro e' w2 ⟨⟨u, rfl⟩, HW⟩
  go_wp2_with fail
  first | go_end0 | refine bodyPost_ret (results_none rfl _ _ _) rfl ?_
  exact ⟨⟨_, rfl⟩, Lib.hid (HW.out.after W1.out)⟩
theorem wu16_any (p g z : Nat) (bs : List Int) (e : Int) (X : Nat) (w : World) (h : Wtr 111 w p g z bs e) (hX : X < 65536) (hz : z ≤ 2000000) (hbs : bs.length ≤ z) :
    Calls Try.prog 49 #[.pointer (some ⟨p, 0, none⟩), .int .u16 X] w fun e' w' => (∃ u, e' = .returned u) ∧ Hid (Wrote 111 w p g z (wL z bs e (leN X 2)) (wE z bs e (leN X 2)) w') := by
  have H := Lib.hid h
  clear h
  go_enter Try.func49, Try.ntmps49
  go_wp2_with fail
  refine (pl16u_any none 0 0 [] X w rfl (Rd.nil _ _ _) (by simp) hX).mono ?_
  rintro e' w1 ⟨v1, rfl, o1, b1⟩
  rw [List.nil_append] at o1
  obtain ⟨A, c, rfl, -, -, r1, -⟩ := o1.slice
  have R1 := Lib.hid r1
  have W1 := Lib.hid b1
  clear o1 b1 r1
  go_wp2_with fail
  refine (wbytes_any p g z bs e A _ c (leN X 2) w1 (H.out.below W1.out) rfl R1.out hz hbs (by rw [leN_len]; decide)).mono ?_
  rintro e' w2 ⟨⟨u, rfl⟩, HW⟩
  go_wp2_with fail
  first | go_end0 | refine bodyPost_ret (results_none rfl _ _ _) rfl ?_
  exact ⟨⟨_, rfl⟩, Lib.hid (HW.out.after W1.out)⟩
theorem wu32_any (p g z : Nat) (bs : List Int) (e : Int) (X : Nat) (w : World) (h : Wtr 111 w p g z bs e) (hX : X < 4294967296) (hz : z ≤ 2000000) (hbs : bs.length ≤ z) :
    Calls Try.prog 50 #[.pointer (some ⟨p, 0, none⟩), .int .u32 X] w fun e' w' => (∃ u, e' = .returned u) ∧ Hid (Wrote 111 w p g z (wL z bs e (leN X 4)) (wE z bs e (leN X 4)) w') := by
  have H := Lib.hid h
  clear h
  go_enter Try.func50, Try.ntmps50
  go_wp2_with fail
  refine (pl32_any none 0 0 [] X w rfl (Rd.nil _ _ _) (by simp) hX).mono ?_
  rintro e' w1 ⟨v1, rfl, o1, b1⟩
  rw [List.nil_append] at o1
  obtain ⟨A, c, rfl, -, -, r1, -⟩ := o1.slice
  have R1 := Lib.hid r1
  have W1 := Lib.hid b1
  clear o1 b1 r1
  go_wp2_with fail
  refine (wbytes_any p g z bs e A _ c (leN X 4) w1 (H.out.below W1.out) rfl R1.out hz hbs (by rw [leN_len]; decide)).mono ?_
  rintro e' w2 ⟨⟨u, rfl⟩, HW⟩
  go_wp2_with fail
  first | go_end0 | refine bodyPost_ret (results_none rfl _ _ _) rfl ?_
  exact ⟨⟨_, rfl⟩, Lib.hid (HW.out.after W1.out)⟩
theorem wu64_any (p g z : Nat) (bs : List Int) (e : Int) (X : Nat) (w : World) (h : Wtr 111 w p g z bs e) (hX : X < 18446744073709551616) (hz : z ≤ 2000000) (hbs : bs.length ≤ z) :
    Calls Try.prog 51 #[.pointer (some ⟨p, 0, none⟩), .int .u64 X] w fun e' w' => (∃ u, e' = .returned u) ∧ Hid (Wrote 111 w p g z (wL z bs e (leN X 8)) (wE z bs e (leN X 8)) w') := by
  have H := Lib.hid h
  clear h
  go_enter Try.func51, Try.ntmps51
  go_wp2_with fail
  refine (pl64_any none 0 0 [] X w rfl (Rd.nil _ _ _) (by simp) hX).mono ?_
  rintro e' w1 ⟨v1, rfl, o1, b1⟩
  rw [List.nil_append] at o1
  obtain ⟨A, c, rfl, -, -, r1, -⟩ := o1.slice
  have R1 := Lib.hid r1
  have W1 := Lib.hid b1
  clear o1 b1 r1
  go_wp2_with fail
  refine (wbytes_any p g z bs e A _ c (leN X 8) w1 (H.out.below W1.out) rfl R1.out hz hbs (by rw [leN_len]; decide)).mono ?_
  rintro e' w2 ⟨⟨u, rfl⟩, HW⟩
  go_wp2_with fail
  first | go_end0 | refine bodyPost_ret (results_none rfl _ _ _) rfl ?_
  exact ⟨⟨_, rfl⟩, Lib.hid (HW.out.after W1.out)⟩

theorem lay_any (p g z : Nat) (bs : List Int) (e : Int) (d : Int) (X : Nat) (w : World) (h : Wtr 111 w p g z bs e) (hX : X < 18446744073709551616) (hz : z ≤ 2000000) (hbs : bs.length ≤ z) (hd : 0 < wdR d) :
    Calls Try.prog 58 #[.pointer (some ⟨p, 0, none⟩), .int .i64 d, .int .u64 X] w fun e' w' => (∃ u, e' = .returned u) ∧ Hid (Wrote 111 w p g z (wL z bs e (leN (X % 256 ^ wdR d) (wdR d))) (wE z bs e (leN (X % 256 ^ wdR d) (wdR d))) w') := by
  have H := Lib.hid h
  clear h
  have h8 : X % 18446744073709551616 = X := Nat.mod_eq_of_lt hX
  have hD : d = 1 ∨ d = 2 ∨ d = 3 ∨ d = 4 := by
    by_cases h1 : d = 1
    · exact .inl h1
    · by_cases h2 : d = 2
      · exact .inr (.inl h2)
      · by_cases h3 : d = 3
        · exact .inr (.inr (.inl h3))
        · by_cases h4 : d = 4
          · exact .inr (.inr (.inr h4))
          · unfold wdR at hd; rw [if_neg h1, if_neg h2, if_neg h3, if_neg h4] at hd; exact absurd hd (by decide)
  clear hd
  rcases hD with rfl | rfl | rfl | rfl
  · obtain ⟨Y, hY⟩ : ∃ Y, Y = X % 256 ^ 1 := ⟨_, rfl⟩
    have hw : IntKind.u8.wrap (X : Int) = (Y : Int) := by rw [hY]; simp [IntKind.wrap, IntKind.bits, IntKind.signed]
    have hYB : Y < 256 ^ 1 := by rw [hY]; exact Nat.mod_lt _ (by decide)
    rw [show wdR 1 = 1 from by decide, ← hY]
    clear hY h8
    go_enter Try.func58, Try.ntmps58
    go_wp2_with fail
    refine (wu8_any p g z bs e Y w H.out hYB hz hbs).mono ?_
    rintro e' w1 ⟨⟨u, rfl⟩, HW⟩
    go_wp2_with fail
    first | go_end0 | refine bodyPost_ret (results_none rfl _ _ _) rfl ?_
    exact ⟨⟨_, rfl⟩, HW⟩
  · obtain ⟨Y, hY⟩ : ∃ Y, Y = X % 256 ^ 2 := ⟨_, rfl⟩
    have hw : IntKind.u16.wrap (X : Int) = (Y : Int) := by rw [hY]; simp [IntKind.wrap, IntKind.bits, IntKind.signed]
    have hYB : Y < 256 ^ 2 := by rw [hY]; exact Nat.mod_lt _ (by decide)
    rw [show wdR 2 = 2 from by decide, ← hY]
    clear hY h8
    go_enter Try.func58, Try.ntmps58
    go_wp2_with fail
    refine (wu16_any p g z bs e Y w H.out hYB hz hbs).mono ?_
    rintro e' w1 ⟨⟨u, rfl⟩, HW⟩
    go_wp2_with fail
    first | go_end0 | refine bodyPost_ret (results_none rfl _ _ _) rfl ?_
    exact ⟨⟨_, rfl⟩, HW⟩
  · obtain ⟨Y, hY⟩ : ∃ Y, Y = X % 256 ^ 4 := ⟨_, rfl⟩
    have hw : IntKind.u32.wrap (X : Int) = (Y : Int) := by rw [hY]; simp [IntKind.wrap, IntKind.bits, IntKind.signed]
    have hYB : Y < 256 ^ 4 := by rw [hY]; exact Nat.mod_lt _ (by decide)
    rw [show wdR 3 = 4 from by decide, ← hY]
    clear hY h8
    go_enter Try.func58, Try.ntmps58
    go_wp2_with fail
    refine (wu32_any p g z bs e Y w H.out hYB hz hbs).mono ?_
    rintro e' w1 ⟨⟨u, rfl⟩, HW⟩
    go_wp2_with fail
    first | go_end0 | refine bodyPost_ret (results_none rfl _ _ _) rfl ?_
    exact ⟨⟨_, rfl⟩, HW⟩
  · have hX8 : X % 256 ^ 8 = X := h8
    rw [show wdR 4 = 8 from by decide, hX8]
    clear h8 hX8
    go_enter Try.func58, Try.ntmps58
    go_wp2_with fail
    refine (wu64_any p g z bs e X w H.out hX hz hbs).mono ?_
    rintro e' w1 ⟨⟨u, rfl⟩, HW⟩
    go_wp2_with fail
    first | go_end0 | refine bodyPost_ret (results_none rfl _ _ _) rfl ?_
    exact ⟨⟨_, rfl⟩, HW⟩
end Go.Proofs.Ytcibhaoilcohbaa

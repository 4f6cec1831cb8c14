/-
  Walk: awake.
-/
import Derived.Test.YtcfbaildcocnhaaAw
set_option linter.unusedVariables false
set_option linter.unusedSimpArgs false
namespace Go.Proofs.Ytcfbaildcocnhaa
open Go.RowKit

set_option maxRecDepth 100000 in
set_option maxHeartbeats 8000000 in
theorem awake_any (w : World) : Calls Try.prog 30 #[] w fun e w' => e = .returned (.bool true) ∧ Below w.heap.size w w' := by
  have B1 : Hid (Try.prog.built 53 [(0, .int .u8 1)] = some (AY .u8 (Kc 1))) := Lib.hid (key_built 1)
  have B2 : Hid (Try.prog.built 53 [(0, .int .u8 2)] = some (AY .u8 (Kc 2))) := Lib.hid (key_built 2)
  have HN1 := Lib.hid (fun W => new_any (Kc 1) W (Kc_len 1))
  have HN2 := Lib.hid (fun W => new_any (Kc 2) W (Kc_len 2))
  have HY1 := Lib.hid (fun S p W hs => bytes_some S 16 (Kc 1) p W hs (Kc_len 1) (Kc_8 (by decide)) (by decide) (by decide))
  have HY2 := Lib.hid (fun S p W hs => bytes_some S 16 (Kc 2) p W hs (Kc_len 2) (Kc_8 (by decide)) (by decide) (by decide))
  have HLP := Lib.hid (fun S p W hs => laplace_ok S 3 8 0 (Kc 1) p W hs (Kc_len 1) (Kc_8 (by decide)) (by decide) (by decide) (by decide +kernel) (by decide +kernel))
  generalize hK1 : Kc 1 = K1 at B1 HN1 HY1 HLP
  generalize hK2 : Kc 2 = K2 at B2 HN2 HY2
  have HUN : Hid (¬ rowL K1 0 16 = rowL K2 0 16) := Lib.hid (by rw [← hK1, ← hK2]; exact rows_unlike16)
  clear hK1 hK2
  go_enter Try.func30, Try.ntmps30
  go_wp2_with (first
    | (show wpList _ _ _ ({ dst := some 13, op := _, type := _, pos := _, after := _, guard := _ } :: _) _ _; refine wpList_buildE rfl 53 _ rfl (AY .u8 K1) (by simp only [List.map_toArray, List.map_cons, List.map_nil]; exact B1.out) ?_))
  refine (HN1.out w).mono ?_
  rintro e w1 ⟨S1, rfl, hlo1, hs1, hb1⟩
  have HS1 := Lib.hid hs1
  have HB1 := Lib.hid hb1
  have HL1 := Lib.hid (And.intro hlo1 (Src.lt hs1))
  clear hs1 hb1 hlo1
  go_wp2_with (first
    | (show wpList _ _ _ ({ dst := some 15, op := _, type := _, pos := _, after := _, guard := _ } :: _) _ _; refine wpList_buildE rfl 53 _ rfl (AY .u8 K1) (by simp only [List.map_toArray, List.map_cons, List.map_nil]; exact B1.out) ?_))
  refine (HN1.out w1).mono ?_
  rintro e w2 ⟨S2, rfl, hlo2, hs2, hb2⟩
  have HS2 := Lib.hid hs2
  have HS12 := Lib.hid (HS1.out.below hb2)
  have HB2 := Lib.hid (HB1.out.trans (hb2.mono HB1.out.size))
  have HL2 := Lib.hid (And.intro hlo2 (Src.lt hs2))
  clear hs2 hb2 hlo2
  go_wp2_with (first
    | (show wpList _ _ _ ({ dst := some 17, op := _, type := _, pos := _, after := _, guard := _ } :: _) _ _; refine wpList_buildE rfl 53 _ rfl (AY .u8 K2) (by simp only [List.map_toArray, List.map_cons, List.map_nil]; exact B2.out) ?_))
  refine (HN2.out w2).mono ?_
  rintro e w3 ⟨S3, rfl, hlo3, hs3, hb3⟩
  have HS33 := Lib.hid hs3
  have HS13 := Lib.hid (HS12.out.below hb3)
  have HS23 := Lib.hid (HS2.out.below hb3)
  have HB3 := Lib.hid (HB2.out.trans (hb3.mono HB2.out.size))
  have HNE : Hid (S1 ≠ S2 ∧ S1 ≠ S3 ∧ S2 ≠ S3 ∧ w.heap.size ≤ S1 ∧ w.heap.size ≤ S2 ∧ w.heap.size ≤ S3) := Lib.hid (by have h1 := HL1.out; have h2 := HL2.out; have h3 := HB1.out.size; have h4 := HB2.out.size; omega)
  clear hs3 hb3 hlo3 HS1 HS12 HS2 HB1 HB2 HL1 HL2 HN1 HN2 B1 B2
  go_wp2_with fail
  refine (HY1.out S1 0 w3 HS13.out).mono ?_
  rintro e w4 ⟨a, rfl, ho, hs, hf⟩
  have OA4 := Lib.hid (Own.lower ho HB3.out.size)
  have HS14 := Lib.hid hs
  have HS24 := Lib.hid (HS23.out.keep HS13.out (Ne.symm HNE.out.1) hf)
  have HS34 := Lib.hid (HS33.out.keep HS13.out (Ne.symm HNE.out.2.1) hf)
  have HB4 := Lib.hid (HB3.out.trans (hf.below (B := w.heap.size) HB3.out.size (fun k hk => by rw [hk]; exact HNE.out.2.2.2.1)))
  clear ho hs hf HS13 HS23 HS33
  go_wp2_with fail
  refine (HY1.out S2 0 w4 HS24.out).mono ?_
  rintro e w5 ⟨b, rfl, ho, hs, hf⟩
  have OB5 := Lib.hid (Own.lower ho HB4.out.size)
  have OA5 := Lib.hid (OA4.out.keepS HS24.out (by decide) hf)
  have HS15 := Lib.hid (HS14.out.keep HS24.out HNE.out.1 hf)
  have HS35 := Lib.hid (HS34.out.keep HS24.out (Ne.symm HNE.out.2.2.1) hf)
  have HB5 := Lib.hid (HB4.out.trans (hf.below (B := w.heap.size) HB4.out.size (fun k hk => by rw [hk]; exact HNE.out.2.2.2.2.1)))
  clear ho hs hf HS14 HS24 HS34 OA4
  go_wp2_with fail
  refine (HY2.out S3 0 w5 HS35.out).mono ?_
  rintro e w6 ⟨c, rfl, ho, hs, hf⟩
  have OC6 := Lib.hid (Own.lower ho HB5.out.size)
  have OA6 := Lib.hid (OA5.out.keepS HS35.out (by decide) hf)
  have OB6 := Lib.hid (OB5.out.keepS HS35.out (by decide) hf)
  have HS16 := Lib.hid (HS15.out.keep HS35.out HNE.out.2.1 hf)
  have HB6 := Lib.hid (HB5.out.trans (hf.below (B := w.heap.size) HB5.out.size (fun k hk => by rw [hk]; exact HNE.out.2.2.2.2.2)))
  clear ho hs hf HS15 HS35 OA5 OB5
  go_wp2_with fail
  refine (newb_any 4607182418800017408 4602678819172646912 w6).mono ?_
  rintro e w7 ⟨hb, ⟨hfin, q, rfl, hq, hbud⟩ | ⟨hfin, rfl⟩⟩
  rotate_left
  · rw [fin_one] at hfin; cases hfin
  have HQ7 := Lib.hid hbud
  have HS17 := Lib.hid (HS16.out.below hb)
  have OA7 := Lib.hid (OA6.out.below hb)
  have OB7 := Lib.hid (OB6.out.below hb)
  have OC7 := Lib.hid (OC6.out.below hb)
  have HB7 := Lib.hid (HB6.out.trans (hb.mono HB6.out.size))
  have HQL : Hid (w.heap.size ≤ q) := Lib.hid (Nat.le_trans HB6.out.size hq)
  clear hfin hb hq hbud HS16 OA6 OB6 OC6 HB6
  go_wp2_with fail
  have hsp1 := spend_any q 4607182418800017408 4602678819172646912 0 0 4604930618986332160 0 w7 HQ7.out nn_a nn_b nn_z nn_z
  rw [spend1] at hsp1
  refine hsp1.mono ?_
  rintro e w8 ⟨rfl, hbud, hf⟩
  have HQ8 : Hid (Bud 96 w8 q 4607182418800017408 4602678819172646912 4604930618986332160 0) := Lib.hid hbud
  have hnq : ∀ T cs, Blk w7 q T cs → T = 96 → True := fun _ _ _ _ => trivial
  have HS18 := Lib.hid (HS17.out.fr hf (fun e => HS17.out.ne HQ7.out (by decide) e) (fun g bs hg e => (Blk.ne hg HQ7.out (by decide)) e))
  have OA8 := Lib.hid (OA7.out.fr hf (fun g hg e => own_neB OA7.out HQ7.out (by decide) hg e))
  have OB8 := Lib.hid (OB7.out.fr hf (fun g hg e => own_neB OB7.out HQ7.out (by decide) hg e))
  have OC8 := Lib.hid (OC7.out.fr hf (fun g hg e => own_neB OC7.out HQ7.out (by decide) hg e))
  have HB8 := Lib.hid (HB7.out.trans (hf.below (B := w.heap.size) HB7.out.size (fun k hk => by rw [hk]; exact HQL.out)))
  clear hsp1 hbud hf hnq HQ7 HS17 OA7 OB7 OC7 HB7
  go_wp2_with fail
  have hsp2 := spend_any q 4607182418800017408 4602678819172646912 4604930618986332160 0 4602678819172646912 0 w8 HQ8.out nn_a nn_b nn_c nn_z
  rw [spend2] at hsp2
  refine hsp2.mono ?_
  rintro e w9 ⟨rfl, hbud, hf⟩
  have HQ9 : Hid (Bud 96 w9 q 4607182418800017408 4602678819172646912 4604930618986332160 0) := Lib.hid hbud
  have HS19 := Lib.hid (HS18.out.fr hf (fun e => HS18.out.ne HQ8.out (by decide) e) (fun g bs hg e => (Blk.ne hg HQ8.out (by decide)) e))
  have OA9 := Lib.hid (OA8.out.fr hf (fun g hg e => own_neB OA8.out HQ8.out (by decide) hg e))
  have OB9 := Lib.hid (OB8.out.fr hf (fun g hg e => own_neB OB8.out HQ8.out (by decide) hg e))
  have OC9 := Lib.hid (OC8.out.fr hf (fun g hg e => own_neB OC8.out HQ8.out (by decide) hg e))
  have HB9 := Lib.hid (HB8.out.trans (hf.below (B := w.heap.size) HB8.out.size (fun k hk => by rw [hk]; exact HQL.out)))
  clear hsp2 hbud hf HQ8 HS18 OA8 OB8 OC8 HB8
  go_wp2_with fail
  have hlp := HLP.out S1 (0 + 16) w9 HS19.out
  rw [(lap_zero' K1 3 8 (0 + 16) 10 rfl).1, lapM_38] at hlp
  refine hlp.mono ?_
  rintro e w10 ⟨rfl, hs, hf⟩
  have HQ10 := Lib.hid (HQ9.out.keepS HS19.out hf)
  have OA10 := Lib.hid (OA9.out.keepS HS19.out (by decide) hf)
  have OB10 := Lib.hid (OB9.out.keepS HS19.out (by decide) hf)
  have OC10 := Lib.hid (OC9.out.keepS HS19.out (by decide) hf)
  have HB10 := Lib.hid (HB9.out.trans (hf.below (B := w.heap.size) HB9.out.size (fun k hk => by rw [hk]; exact HNE.out.2.2.2.1)))
  clear hlp hs hf HQ9 HS19 OA9 OB9 OC9 HB9 HLP
  go_wp2_with fail
  refine (exp_any 0 w10).mono ?_
  rintro e w11 ⟨r, cc, m, rfl, rfl, hok⟩
  obtain ⟨rfl, rfl⟩ := exp_at0 hok
  obtain ⟨A1, c1, rfl, -, -, hra, -⟩ := OA10.out.slice
  obtain ⟨A2, c2, rfl, -, -, hrb, -⟩ := OB10.out.slice
  obtain ⟨A3, c3, rfl, -, -, hrc, -⟩ := OC10.out.slice
  have RA := Lib.hid (fun n => hra.draws n)
  have RB := Lib.hid (fun n => hrb.draws n)
  have RC := Lib.hid (fun n => hrc.draws n)
  rw [rowL_len, rowL_len]
  clear hok hra hrb hrc OA10 OB10 OC10
  go_wp2_with fail
  have he1 := eqb_any A1 A2 16 16 c1 c2 (rowL K1 0 16) (rowL K1 0 16) (w10.drewN m) (rowL_len _ _ _).symm (rowL_len _ _ _).symm (RA.out m) (RB.out m) (by rw [rowL_len]; decide) (by rw [rowL_len]; decide)
  rw [show decide (rowL K1 0 16 = rowL K1 0 16) = true from by simp] at he1
  refine he1.mono ?_
  rintro e w12 ⟨q2, rfl, rfl⟩
  rw [World.drewN_drewN]
  generalize hM : m + q2 = m2
  clear he1 hM
  go_wp2_with fail
  have he2 := eqb_any A1 A3 16 16 c1 c3 (rowL K1 0 16) (rowL K2 0 16) (w10.drewN m2) (rowL_len _ _ _).symm (rowL_len _ _ _).symm (RA.out m2) (RC.out m2) (by rw [rowL_len]; decide) (by rw [rowL_len]; decide)
  rw [show decide (rowL K1 0 16 = rowL K2 0 16) = false from by simp [HUN.out]] at he2
  refine he2.mono ?_
  rintro e w13 ⟨q3, rfl, rfl⟩
  rw [World.drewN_drewN]
  generalize hM : m2 + q3 = m3
  have HQ11 : Hid (Bud 96 (w10.drewN m3) q 4607182418800017408 4602678819172646912 4604930618986332160 0) := HQ10
  have HB11 : Hid (Below w.heap.size w (w10.drewN m3)) := Lib.hid (belowN HB10.out m3)
  clear he2 hM RA RB RC HQ10 HB10
  go_wp2_with fail
  refine (spent_of q _ _ _ _ _ HQ11.out).mono ?_
  rintro e w14 ⟨rfl, hb⟩
  have HB14 := Lib.hid (HB11.out.trans (hb.mono HB11.out.size))
  have q1 := eq22 w14 4604930618986332160 4604930618986332160
  have q0 := eq22 w14 0 0
  rw [show Op.floatEq .f64 4604930618986332160 4604930618986332160 = true from by decide] at q1
  rw [show Op.floatEq .f64 0 0 = true from by decide] at q0
  have o1 : FloatKind.f64.format.order 4604930618986332160 4604930618986332160 = some .eq := by decide
  have o2 : FloatKind.f64.format.order 0 0 = some .eq := by decide
  have o3 : FloatKind.f64.format.order 4607182418800017408 4607182418800017408 = some .eq := by decide
  clear hb HB11 HQ11
  go_wp2_with fail
  go_ret
  exact ⟨rfl, HB14.out⟩
end Go.Proofs.Ytcfbaildcocnhaa

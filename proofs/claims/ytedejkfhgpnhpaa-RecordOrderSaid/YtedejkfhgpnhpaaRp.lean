/-
  Walk: the law RecordPut.
-/
import Derived.Test.YtedejkfhgpnhpaaRb
import Derived.BigRegion
set_option linter.unusedVariables false
set_option linter.unusedSimpArgs false
namespace Go.Proofs.Ytedejkfhgpnhpaa
open Go.RowKit

theorem copy_ats (A : Option Addr) (n c : Nat) (xs : List Int) (w : World) (hn : n = xs.length) (hr : Rd w .u8 A xs) (hl : xs.length ≤ 140737488355328) :
    Calls Try.prog 17 #[.slice A n c] w fun e w' => ∃ A' c', e = .returned (.slice A' n c') ∧ Hid (Rd w' .u8 A' xs ∧ n ≤ c' ∧ c' ≤ 9223372036854775807) ∧ Hid (∀ a, A' = some a → w.heap.size ≤ a.block) ∧ Below w.heap.size w w' := by
  subst hn
  refine (copyb_any A c xs w hr hl).mono ?_
  rintro e w' ⟨v, rfl, o, b⟩
  obtain ⟨A', c', rfl, h1, h2, h3, h4⟩ := o.slice
  exact ⟨A', c', rfl, Lib.hid ⟨h3, h1, by unfold maxLen at h2; omega⟩, Lib.hid h4, b⟩
theorem hd_frm {S : Nat → Prop} {w w' : World} {P : Nat} {H : Array Value} (h : Hd w P H) (hf : Fr S w w') (hs : ¬ S P) : Hd w' P H := (hf.block P h.lt hs).trans h
theorem hd_set0 {w : World} {P l f i r : Nat} {g : Nat → Int} (h : Hd w P (hArr l f i r g)) (y : Nat) : Hd (w.setCell ⟨P, 0, none⟩ (.int .u8 (y : Int))) P (hArr y f i r g) := by
  have h2 : Blk w P 26 (hlist l f i r g) := by unfold hArr at h; exact h
  have := h2.set 0 (.int .u8 (y : Int))
  unfold hArr
  exact this
theorem hd_set1 {w : World} {P l f i r : Nat} {g : Nat → Int} (h : Hd w P (hArr l f i r g)) (y : Nat) : Hd (w.setCell ⟨P, 1, none⟩ (.int .u8 (y : Int))) P (hArr l y i r g) := by
  have h2 : Blk w P 26 (hlist l f i r g) := by unfold hArr at h; exact h
  have := h2.set 1 (.int .u8 (y : Int))
  unfold hArr
  exact this
theorem hd_other {w : World} {P Q : Nat} {H : Array Value} (h : Hd w P H) (hne : P ≠ Q) (j : Nat) (u : Value) : Hd (w.setCell ⟨Q, j, none⟩ u) P H := (Below.heap_setCell w ⟨Q, j, none⟩ u P hne).trans h
theorem hd_c0 {w : World} {P l f i r : Nat} {g : Nat → Int} (h : Hd w P (hArr l f i r g)) : w.cell? ⟨P, 0, none⟩ = some (.int .u8 (l : Int)) := by
  have h2 : Blk w P 26 (hlist l f i r g) := by unfold hArr at h; exact h
  exact h2.cell 0
theorem hd_c1 {w : World} {P l f i r : Nat} {g : Nat → Int} (h : Hd w P (hArr l f i r g)) : w.cell? ⟨P, 1, none⟩ = some (.int .u8 (f : Int)) := by
  have h2 : Blk w P 26 (hlist l f i r g) := by unfold hArr at h; exact h
  exact h2.cell 1
theorem hd_fr {w : World} {P l f i r : Nat} {g : Nat → Int} (h : Hd w P (hArr l f i r g)) (j : Nat) : w.frozen? ⟨P, j, none⟩ = false := by
  have h2 : Blk w P 26 (hlist l f i r g) := by unfold hArr at h; exact h
  exact h2.frozen j

set_option maxRecDepth 100000 in
set_option maxHeartbeats 8000000 in
theorem put_any (l f i r : Nat) (g : Nat → Int) (l2 f2 i2 r2 : Nat) (g2 : Nat → Int) (A : Option Addr) (n c : Nat) (xs : List Int) (w : World) (hn : n = xs.length) (hx : Rd w .u8 A xs) (hBx : B8 xs)
    (hl : l < 256) (hf : f < 256) (hi : i < 4294967296) (hr : r < 4294967296) (hg : ∀ k, 0 ≤ g k ∧ g k ≤ 255) (hl2 : l2 < 256) (hf2 : f2 < 256) (hi2 : i2 < 4294967296) (hr2 : r2 < 4294967296) (hg2 : ∀ k, 0 ≤ g2 k ∧ g2 k ≤ 255) (hxl : xs.length ≤ 140737488354000) :
    Calls Try.prog 9 #[.agg (hArr l f i r g), .agg (hArr l2 f2 i2 r2 g2), .slice A n c] w fun e w' => e = .returned (.bool true) ∧ Below w.heap.size w w' := by
  have W0 := Lib.hid ((Below.refl w.heap.size w).alloc (Nat.le_refl _) (.cells (hArr l f i r g) 26))
  have B0 : Hid (Hd (w.alloc (.cells (hArr l f i r g) 26)) w.heap.size (hArr l f i r g)) := Lib.hid (heap_alloc_new w _)
  have HX := Lib.hid hx
  have HN := Lib.hid hn
  have HBX := Lib.hid hBx
  have HG := Lib.hid hg
  have HG2 := Lib.hid hg2
  have hn63 : n ≤ 140737488354000 := by omega
  clear hx hn hBx hg hg2
  go_enter Try.func9, Try.ntmps9
  go_wp2_with fail
  have W0' := Lib.hid (W0.out.alloc W0.out.size (.cells (hArr l2 f2 i2 r2 g2) 26))
  have BQ : Hid (Hd ((w.alloc (.cells (hArr l f i r g) 26)).alloc (.cells (hArr l2 f2 i2 r2 g2) 26)) (w.heap.size + 1) (hArr l2 f2 i2 r2 g2)) := Lib.hid (by
    have := heap_alloc_new (w.alloc (.cells (hArr l f i r g) 26)) (.cells (hArr l2 f2 i2 r2 g2) 26)
    rw [show (w.alloc (.cells (hArr l f i r g) 26)).heap.size = w.heap.size + 1 from by simp] at this
    exact this)
  have BP : Hid (Hd ((w.alloc (.cells (hArr l f i r g) 26)).alloc (.cells (hArr l2 f2 i2 r2 g2) 26)) w.heap.size (hArr l f i r g)) := Lib.hid ((Below.heap_alloc _ _ w.heap.size B0.out.lt).trans B0.out)
  clear W0 B0
  generalize (w.alloc (.cells (hArr l f i r g) 26)).alloc (.cells (hArr l2 f2 i2 r2 g2) 26) = w0 at W0' BQ BP
  obtain ⟨P, hP⟩ : ∃ P, P = w.heap.size := ⟨_, rfl⟩
  obtain ⟨Q, hQ⟩ : ∃ Q, Q = w.heap.size + 1 := ⟨_, rfl⟩
  rw [← hQ] at BQ ⊢
  rw [← hP] at BP ⊢
  have HPQ : Hid (P ≠ Q ∧ w.heap.size ≤ P ∧ w.heap.size ≤ Q) := Lib.hid (by omega)
  clear hP hQ
  refine (awake_any w0).mono ?_
  rintro e w1 ⟨rfl, b1⟩
  have W1 := Lib.hid (W0'.out.trans (b1.mono W0'.out.size))
  have BP1 := Lib.hid (BP.out.below BP.out.lt b1)
  have BQ1 := Lib.hid (BQ.out.below BQ.out.lt b1)
  clear b1 W0' BP BQ
  go_wp2_with fail
  have p0 := hd_c0 BP1.out
  have p1 := hd_c1 BP1.out
  have q0 := hd_c0 BQ1.out
  have q1 := hd_c1 BQ1.out
  have zp0 := hd_fr BP1.out 0
  have zp1 := hd_fr BP1.out 1
  have zq0 := hd_fr BQ1.out 0
  have zq1 := hd_fr BQ1.out 1
  have nPQ : ¬ P = Q := HPQ.out.1
  have nQP : ¬ Q = P := fun h => nPQ h.symm
  obtain ⟨L, hL⟩ : ∃ L, L = l % 2 := ⟨_, rfl⟩
  obtain ⟨F, hF⟩ : ∃ F, F = f % 2 := ⟨_, rfl⟩
  obtain ⟨L2, hL2⟩ : ∃ L2, L2 = l2 % 2 := ⟨_, rfl⟩
  obtain ⟨F2, hF2⟩ : ∃ F2, F2 = f2 % 2 := ⟨_, rfl⟩
  have m1 : Int.tmod (l : Int) 2 = (L : Int) := by rw [hL, Int.tmod_eq_emod_of_nonneg (by omega)]; omega
  have m2 : Int.tmod (f : Int) 2 = (F : Int) := by rw [hF, Int.tmod_eq_emod_of_nonneg (by omega)]; omega
  have m3 : Int.tmod (l2 : Int) 2 = (L2 : Int) := by rw [hL2, Int.tmod_eq_emod_of_nonneg (by omega)]; omega
  have m4 : Int.tmod (f2 : Int) 2 = (F2 : Int) := by rw [hF2, Int.tmod_eq_emod_of_nonneg (by omega)]; omega
  have HLF : Hid (L < 2 ∧ F < 2 ∧ L2 < 2 ∧ F2 < 2) := Lib.hid (by omega)
  clear hL hF hL2 hF2
  go_region
  go_wp2_with fail
  have W2 : Hid (Below w.heap.size w ((((w1.setCell ⟨P, 0, none⟩ (.int .u8 (L : Int))).setCell ⟨P, 1, none⟩ (.int .u8 (F : Int))).setCell ⟨Q, 0, none⟩ (.int .u8 (L2 : Int))).setCell ⟨Q, 1, none⟩ (.int .u8 (F2 : Int))).drew) := Lib.hid (((((W1.out.setCell HPQ.out.2.1 _).setCell HPQ.out.2.1 _).setCell HPQ.out.2.2 _).setCell HPQ.out.2.2 _).drew)
  have BP2 : Hid (Hd ((((w1.setCell ⟨P, 0, none⟩ (.int .u8 (L : Int))).setCell ⟨P, 1, none⟩ (.int .u8 (F : Int))).setCell ⟨Q, 0, none⟩ (.int .u8 (L2 : Int))).setCell ⟨Q, 1, none⟩ (.int .u8 (F2 : Int))).drew P (hArr L F i r g)) := Lib.hid (hd_other (hd_other (hd_set1 (hd_set0 BP1.out L) F) HPQ.out.1 0 _) HPQ.out.1 1 _)
  have BQ2 : Hid (Hd ((((w1.setCell ⟨P, 0, none⟩ (.int .u8 (L : Int))).setCell ⟨P, 1, none⟩ (.int .u8 (F : Int))).setCell ⟨Q, 0, none⟩ (.int .u8 (L2 : Int))).setCell ⟨Q, 1, none⟩ (.int .u8 (F2 : Int))).drew Q (hArr L2 F2 i2 r2 g2)) := Lib.hid (hd_set1 (hd_set0 (hd_other (hd_other BQ1.out (fun h => HPQ.out.1 h.symm) 0 _) (fun h => HPQ.out.1 h.symm) 1 _) L2) F2)
  generalize ((((w1.setCell ⟨P, 0, none⟩ (.int .u8 (L : Int))).setCell ⟨P, 1, none⟩ (.int .u8 (F : Int))).setCell ⟨Q, 0, none⟩ (.int .u8 (L2 : Int))).setCell ⟨Q, 1, none⟩ (.int .u8 (F2 : Int))).drew = w2 at W2 BP2 BQ2
  clear W1 BP1 BQ1 p0 p1 q0 q1 zp0 zp1 zq0 zq1 nPQ nQP m1 m2 m3 m4
  refine wp_region_held_drew (S := fun w' => Hd w' P (hArr L F i r g)) (by kernel_rfl) BP2.out (fun hHeld => ?_)
  have W3 := Lib.hid W2.out.drew
  have BP3 : Hid (Hd w2.drew P (hArr L F i r g)) := Lib.hid BP2.out
  have BQ3 : Hid (Hd w2.drew Q (hArr L2 F2 i2 r2 g2)) := Lib.hid BQ2.out
  generalize w2.drew = w3 at W3 BP3 BQ3 hHeld
  clear W2 BP2 BQ2
  refine wpAnyH_take (i := 0) (oi := ⟨some 31, _, _, _, _, _⟩) (v := (.agg (hArr L F i r g))) rfl (by kernel_rfl) (by kernel_rfl) (by kernel_rfl) (fun _ _ _ h => h) (Or.inl ⟨by rfl, ?_⟩) (by assumption) ?_
  · intro w' hS; exact exec_load_row 26 _ (by rfl) P (by rfl) 26 (hArr L F i r g) (0, 0) _ hS Try.underlying26 rfl (size26' _ _ _ _ _)
  simp only [Act.put, List.setIfInBounds_toArray, List.set_cons_zero, List.set_cons_succ]
  refine wpAnyH_take (i := 1) (oi := ⟨some 32, _, _, _, _, _⟩) (v := (.slice A n c)) rfl (by kernel_rfl) (by kernel_rfl) (by kernel_rfl) (fun _ _ _ h => h) (Or.inl ⟨by rfl, ?_⟩) (by assumption) ?_
  · intro w' hS; rfl
  simp only [Act.put, List.setIfInBounds_toArray, List.set_cons_zero, List.set_cons_succ]
  refine wpAnyH_ready (rs := [2]) (by kernel_rfl) (by simp) ?_
  refine AllReadyH.cons (o := ⟨some 33, _, _, _, _, _⟩) rfl (fun K hK => ?_) AllReadyH.nil
  rw [if_pos (by rfl)]
  go_simp
  refine (copy_at A n c xs w3 HN.out (HX.out.below W3.out) (by have := HN.out; omega)).mono ?_
  rintro e w4 ⟨A3, c3, rfl, R3, b3⟩
  have W4 := Lib.hid (W3.out.trans (b3.mono W3.out.size))
  have BP4 := Lib.hid (BP3.out.below BP3.out.lt b3)
  have BQ4 := Lib.hid (BQ3.out.below BQ3.out.lt b3)
  clear b3 W3 BP3 BQ3
  dsimp only
  (try simp only [Act.put, List.setIfInBounds_toArray, List.set_cons_zero, List.set_cons_succ])
  refine hK.out _ _ BP4.out (fun hHeld => ?_)
  clear hK K
  refine wpAnyH_ready (rs := [3]) (by kernel_rfl) (by simp) ?_
  refine AllReadyH.cons (o := ⟨some 34, _, _, _, _, _⟩) rfl (fun K hK => ?_) AllReadyH.nil
  rw [if_pos (by rfl)]
  go_simp
  refine (pmake_any L F i r g A3 n c3 xs w4 HN.out R3.out.1 hi hr (by have := HN.out; omega)).mono ?_
  rintro e w5 ⟨vm, rfl, om, b4⟩
  have LM : Hid ((hb L F i r g ++ xs).length = 26 + n) := Lib.hid (by rw [hb_len2, ← HN.out])
  rcases om.form with ⟨hv0, hnil⟩ | ⟨b, cm, rest, rfl, hbb, hBm, hcm, hmm⟩
  · exfalso; have := LM.out; rw [hnil] at this; simp at this; omega
  have W5 := Lib.hid (W4.out.trans (b4.mono W4.out.size))
  have BP5 := Lib.hid (BP4.out.below BP4.out.lt b4)
  have BQ5 := Lib.hid (BQ4.out.below BQ4.out.lt b4)
  have HbB := Lib.hid (show P < b ∧ Q < b ∧ w.heap.size ≤ b from by have h1 := BP4.out.lt; have h2 := BQ4.out.lt; have h3 := W4.out.size; omega)
  have BM := Lib.hid hBm
  have CM : Hid (26 + n ≤ cm ∧ cm ≤ 9223372036854775807) := Lib.hid (by have := LM.out; unfold maxLen at hmm; omega)
  clear b4 om hbb hBm hcm hmm W4 BP4 BQ4 R3
  rw [LM.out]
  dsimp only
  (try simp only [Act.put, List.setIfInBounds_toArray, List.set_cons_zero, List.set_cons_succ])
  refine hK.out _ _ BP5.out (fun hHeld => ?_)
  clear hK K
  refine wpAnyH_take (i := 4) (oi := ⟨some 7, _, _, _, _, _⟩) (v := (.slice (some ⟨b, 0, none⟩) (26 + n) cm)) rfl (by kernel_rfl) (by kernel_rfl) (by kernel_rfl) (fun _ _ _ h => h) (Or.inl ⟨by rfl, ?_⟩) (by assumption) ?_
  · intro w' hS; rfl
  simp only [Act.put, List.setIfInBounds_toArray, List.set_cons_zero, List.set_cons_succ]
  refine wpAnyH_done (by kernel_rfl) ?_ _
  go_wp2_with fail
  obtain ⟨O, hO⟩ : ∃ O, O = hb L F i r g ++ xs := ⟨_, rfl⟩
  obtain ⟨N, hN⟩ : ∃ N, N = hb L2 F2 i2 r2 g2 ++ xs := ⟨_, rfl⟩
  have HOO := Lib.hid hO
  have HNN := Lib.hid hN
  rw [← hO] at BM LM
  clear hO hN
  have LN : Hid (N.length = 26 + n) := Lib.hid (by rw [HNN.out, hb_len2, ← HN.out])
  have HO8 : Hid (B8 O) := Lib.hid (by rw [HOO.out]; exact hb_b8 (by have := HLF.out; omega) (by have := HLF.out; omega) HG.out HBX.out)
  have HN8 : Hid (B8 N) := Lib.hid (by rw [HNN.out]; exact hb_b8 (by have := HLF.out; omega) (by have := HLF.out; omega) HG2.out HBX.out)
  refine (copy_ats (some ⟨b, 0, none⟩) (26 + n) cm O w5 LM.out.symm (blk_rd BM.out) (by have := LM.out; omega)).mono ?_
  rintro e w6 ⟨Aw, cw, rfl, RW6, HA6, b6⟩
  have W6 := Lib.hid (W5.out.trans (b6.mono W5.out.size))
  have BP6 := Lib.hid (BP5.out.below BP5.out.lt b6)
  have BQ6 := Lib.hid (BQ5.out.below BQ5.out.lt b6)
  have BM6 := Lib.hid (BM.out.below b6 BM.out.lt)
  have HAW : Hid (∀ a, Aw = some a → a.block ≠ b) := Lib.hid (fun a ha => by have h1 := HA6.out a ha; have h2 := BM.out.lt; omega)
  clear b6 HA6 W5 BP5 BQ5 BM hHeld
  go_wp2_with (refine wpList_load_row rfl 26 _ rfl Q rfl 26 (hArr L2 F2 i2 r2 g2) (0, 0) _ BQ6.out Try.underlying26 rfl (size26' _ _ _ _ _) ?_)
  refine (rput_any L2 F2 i2 r2 g2 b (26 + n) cm O rest w6 LM.out.symm (by omega) BM6.out hi2 hr2).mono ?_
  rintro e w7 ⟨rfl, bm7, f7⟩
  rw [show hb L2 F2 i2 r2 g2 ++ O.drop 26 = N from by rw [HOO.out, hb_drop, HNN.out]] at bm7
  have BM7 := Lib.hid bm7
  have BP7 := Lib.hid (hd_frm BP6.out f7 (by have := HbB.out; omega))
  have BQ7 := Lib.hid (hd_frm BQ6.out f7 (by have := HbB.out; omega))
  have RW7 := Lib.hid (RW6.out.1.fr f7 (fun a ha => HAW.out a ha))
  have W7 := Lib.hid (W6.out.trans (f7.below W6.out.size (fun j hj => by have := HbB.out; omega)))
  clear bm7 f7 RW6 W6 BP6 BQ6 BM6
  go_wp2_with fail
  have hRt : isR N (26 + n) = true := by
    have := hb_isR L2 F2 i2 r2 g2 xs
    rw [← HN.out, ← HNN.out] at this
    rw [this, decide_eq_true HLF.out.2.2.1, decide_eq_true HLF.out.2.2.2]; rfl
  have hpH : pH N (26 + n) = hArr L2 F2 i2 r2 g2 := by unfold pH; rw [hRt, if_pos rfl, HNN.out]; exact hb_hdr L2 F2 i2 r2 g2 xs hi2 hr2
  have hpB : pB N (26 + n) = xs := by unfold pB; rw [hRt, if_pos rfl, HNN.out]; rfl
  have hpE : pE N (26 + n) = 0 := by unfold pE; rw [hRt, if_pos rfl]
  have hp := parse_any (some ⟨b, 0, none⟩) (26 + n) cm N w7 LN.out.symm CM.out.1 CM.out.2 (by rw [LN.out]; omega) (blk_rd BM7.out) HN8.out
  have hKs := pH_size N (26 + n)
  have hKz := pH_sz N (26 + n)
  have hKc := pH_cells N (26 + n)
  have hKq := fun W => eq_pH HN8.out (26 + n) W
  rw [hpH] at hKs hKz hKc hKq
  rw [hpH, hpB, hpE] at hp
  have KS := Lib.hid hKs
  have KZ := Lib.hid hKz
  have KC := Lib.hid hKc
  have KQ := Lib.hid hKq
  clear hRt hpH hpB hpE hKs hKz hKc hKq
  generalize hK : hArr L2 F2 i2 r2 g2 = KK at hp KS KZ KC KQ BQ7 ⊢
  have HKK := Lib.hid hK
  clear hK
  refine hp.mono ?_
  rintro e w8 ⟨vc, rfl, oc, b8⟩
  obtain ⟨Ac, cc, rfl, -, -, rc, -⟩ := oc.slice
  have RC8 := Lib.hid rc
  have W8 := Lib.hid (W7.out.trans (b8.mono W7.out.size))
  have BP8 := Lib.hid (BP7.out.below BP7.out.lt b8)
  have BQ8 := Lib.hid (BQ7.out.below BQ7.out.lt b8)
  have BM8 := Lib.hid (BM7.out.below b8 BM7.out.lt)
  have RW8 := Lib.hid (RW7.out.below b8)
  clear hp b8 oc rc W7 BP7 BQ7 BM7 RW7
  go_upto_region 8 with (refine wpList_store_row rfl 26 _ _ rfl w8.heap.size KK rfl rfl 26 _ (heap_alloc_new _ _) KS.out KZ.out KC.out ?_)
  have hbx := boxed w8 #[.int .u8 0, .int .u8 0, .int .u32 0, .int .u32 0, .int .u8 0, .int .u8 0, .int .u8 0, .int .u8 0, .int .u8 0, .int .u8 0, .int .u8 0, .int .u8 0, .int .u8 0, .int .u8 0, .int .u8 0, .int .u8 0, .int .u8 0, .int .u8 0, .int .u8 0, .int .u8 0] KK
  generalize ((w8.alloc (.cells #[.int .u8 0, .int .u8 0, .int .u32 0, .int .u32 0, .int .u8 0, .int .u8 0, .int .u8 0, .int .u8 0, .int .u8 0, .int .u8 0, .int .u8 0, .int .u8 0, .int .u8 0, .int .u8 0, .int .u8 0, .int .u8 0, .int .u8 0, .int .u8 0, .int .u8 0, .int .u8 0] 26)).setRow w8.heap.size KK) = w9 at hbx ⊢
  have W9 := Lib.hid (W8.out.trans (hbx.2.mono W8.out.size))
  have BP9 := Lib.hid (BP8.out.below BP8.out.lt hbx.2)
  have BQ9 := Lib.hid (BQ8.out.below BQ8.out.lt hbx.2)
  have BM9 := Lib.hid (BM8.out.below hbx.2 BM8.out.lt)
  have RW9 := Lib.hid (RW8.out.below hbx.2)
  have RC9 := Lib.hid (RC8.out.below hbx.2)
  obtain ⟨D, hD⟩ : ∃ D, D = w8.heap.size := ⟨_, rfl⟩
  rw [← hD] at hbx ⊢
  have BD9 := Lib.hid hbx.1
  have HDb : Hid (P < D ∧ Q < D ∧ b < D) := Lib.hid (by have h1 := BP8.out.lt; have h2 := BQ8.out.lt; have h3 := BM8.out.lt; omega)
  clear hbx hD W8 BP8 BQ8 BM8 RW8 RC8
  have hneq := fun W => neq_head (H := KK) W (KQ.out W)
  have BDr : Hid (w9.heap[D]? = some (.cells KK 26 (0, 0))) := BD9
  have BQr : Hid (w9.heap[Q]? = some (.cells KK 26 (0, 0))) := BQ9
  rw [← HN.out]
  go_wp2_with (first
    | (refine wpList_load_row rfl 26 _ rfl D rfl 26 KK (0, 0) _ BDr.out Try.underlying26 rfl KS.out ?_)
    | (refine wpList_load_row rfl 26 _ rfl Q rfl 26 KK (0, 0) _ BQr.out Try.underlying26 rfl KS.out ?_)
    | (refine wpList_load_rowG rfl 26 _ rfl D rfl 26 KK (0, 0) _ BDr.out Try.underlying26 rfl KS.out ?_)
    | (refine wpList_load_rowG rfl 26 _ rfl Q rfl 26 KK (0, 0) _ BQr.out Try.underlying26 rfl KS.out ?_))
  refine wp_region_held_drew (S := fun W => W.heap[D]? = some (.cells KK 26 (0, 0)) ∧ W.heap[Q]? = some (.cells KK 26 (0, 0))) (by kernel_rfl) (⟨BD9.out, BQ9.out⟩) (fun hHeld => ?_)
  have Wa : Hid (Below w.heap.size w (w9.drew)) := Lib.hid (W9.out.drew)
  have BPa : Hid (Hd (w9.drew) P (hArr L F i r g)) := Lib.hid BP9.out
  have BQa : Hid (Hd (w9.drew) Q KK) := Lib.hid BQ9.out
  have BDa : Hid (Hd (w9.drew) D KK) := Lib.hid BD9.out
  have BMa : Hid (Blk (w9.drew) b 5 (List.map (Value.int IntKind.u8) N ++ rest)) := Lib.hid BM9.out
  have RWa : Hid (Rd (w9.drew) IntKind.u8 Aw O) := Lib.hid RW9.out
  have RCa : Hid (Rd w9.drew IntKind.u8 Ac xs) := Lib.hid RC9.out
  generalize w9.drew = wa at Wa BPa BQa BDa BMa RWa RCa hHeld
  clear W9 BP9 BQ9 BD9 BM9 RW9 RC9 BDr BQr
  refine wpAnyH_take (i := 0) (oi := ⟨some 46, _, _, _, _, _⟩) (v := (.int .i64 0)) rfl (by kernel_rfl) (by kernel_rfl) (by kernel_rfl) (fun _ _ _ h => h) (Or.inl ⟨by rfl, ?_⟩) (by assumption) ?_
  · intro w' hS; rfl
  simp only [Act.put, List.setIfInBounds_toArray, List.set_cons_zero, List.set_cons_succ]
  refine wpAnyH_take (i := 1) (oi := ⟨some 47, _, _, _, _, _⟩) (v := (.bool false)) rfl (by kernel_rfl) (by kernel_rfl) (by kernel_rfl) (fun _ _ _ h => h) (Or.inl ⟨by rfl, ?_⟩) (by assumption) ?_
  · intro w' hS; go_simp; try with_reducible rfl
  simp only [Act.put, List.setIfInBounds_toArray, List.set_cons_zero, List.set_cons_succ]
  refine wpAnyH_take (i := 2) (oi := ⟨some 48, _, _, _, _, _⟩) (v := (.bool false)) rfl (by kernel_rfl) (by kernel_rfl) (by kernel_rfl) (fun _ _ _ h => h) (Or.inl ⟨by rfl, ?_⟩) (by assumption) ?_
  · intro w' hS; rfl
  simp only [Act.put, List.setIfInBounds_toArray, List.set_cons_zero, List.set_cons_succ]
  refine wpAnyH_take (i := 3) (oi := ⟨some 49, _, _, _, _, _⟩) (v := (.int .i64 0)) rfl (by kernel_rfl) (by kernel_rfl) (by kernel_rfl) (fun _ _ _ h => h) (Or.inl ⟨by rfl, ?_⟩) (by assumption) ?_
  · intro w' hS; rfl
  simp only [Act.put, List.setIfInBounds_toArray, List.set_cons_zero, List.set_cons_succ]
  refine wpAnyH_take (i := 4) (oi := ⟨some 50, _, _, _, _, _⟩) (v := (.bool false)) rfl (by kernel_rfl) (by kernel_rfl) (by kernel_rfl) (fun _ _ _ h => h) (Or.inl ⟨by rfl, ?_⟩) (by assumption) ?_
  · intro w' hS; go_simp; try with_reducible rfl
  simp only [Act.put, List.setIfInBounds_toArray, List.set_cons_zero, List.set_cons_succ]
  refine wpAnyH_take (i := 5) (oi := ⟨some 51, _, _, _, _, _⟩) (v := (.bool false)) rfl (by kernel_rfl) (by kernel_rfl) (by kernel_rfl) (fun _ _ _ h => h) (Or.inl ⟨by rfl, ?_⟩) (by assumption) ?_
  · intro w' hS; go_simp; try with_reducible rfl
  simp only [Act.put, List.setIfInBounds_toArray, List.set_cons_zero, List.set_cons_succ]
  refine wpAnyH_take (i := 6) (oi := ⟨some 52, _, _, _, _, _⟩) (v := (.bool false)) rfl (by kernel_rfl) (by kernel_rfl) (by kernel_rfl) (fun _ _ _ h => h) (Or.inl ⟨by rfl, ?_⟩) (by assumption) ?_
  · intro w' hS; rfl
  simp only [Act.put, List.setIfInBounds_toArray, List.set_cons_zero, List.set_cons_succ]
  refine wpAnyH_take (i := 7) (oi := ⟨some 53, _, _, _, _, _⟩) (v := (.agg KK)) rfl (by kernel_rfl) (by kernel_rfl) (by kernel_rfl) (fun _ _ _ h => h) (Or.inl ⟨by rfl, ?_⟩) (by assumption) ?_
  · intro w' hS; exact exec_load_row 26 _ (by rfl) D (by rfl) 26 KK (0, 0) _ hS.1 Try.underlying26 rfl KS.out
  simp only [Act.put, List.setIfInBounds_toArray, List.set_cons_zero, List.set_cons_succ]
  refine wpAnyH_take (i := 8) (oi := ⟨some 54, _, _, _, _, _⟩) (v := (.agg KK)) rfl (by kernel_rfl) (by kernel_rfl) (by kernel_rfl) (fun _ _ _ h => h) (Or.inl ⟨by rfl, ?_⟩) (by assumption) ?_
  · intro w' hS; exact exec_load_row 26 _ (by rfl) Q (by rfl) 26 KK (0, 0) _ hS.2 Try.underlying26 rfl KS.out
  simp only [Act.put, List.setIfInBounds_toArray, List.set_cons_zero, List.set_cons_succ]
  refine wpAnyH_take (i := 9) (oi := ⟨some 55, _, _, _, _, _⟩) (v := (.bool false)) rfl (by kernel_rfl) (by kernel_rfl) (by kernel_rfl) (fun _ _ _ h => h) (Or.inl ⟨by rfl, ?_⟩) (by assumption) ?_
  · intro w' hS; go_simp; try with_reducible rfl
  simp only [Act.put, List.setIfInBounds_toArray, List.set_cons_zero, List.set_cons_succ]
  refine wpAnyH_take (i := 10) (oi := ⟨some 56, _, _, _, _, _⟩) (v := (.bool false)) rfl (by kernel_rfl) (by kernel_rfl) (by kernel_rfl) (fun _ _ _ h => h) (Or.inl ⟨by rfl, ?_⟩) (by assumption) ?_
  · intro w' hS; go_simp; try with_reducible rfl
  simp only [Act.put, List.setIfInBounds_toArray, List.set_cons_zero, List.set_cons_succ]
  refine wpAnyH_take (i := 11) (oi := ⟨some 57, _, _, _, _, _⟩) (v := (.bool false)) rfl (by kernel_rfl) (by kernel_rfl) (by kernel_rfl) (fun _ _ _ h => h) (Or.inl ⟨by rfl, ?_⟩) (by assumption) ?_
  · intro w' hS; rfl
  simp only [Act.put, List.setIfInBounds_toArray, List.set_cons_zero, List.set_cons_succ]
  refine wpAnyH_take (i := 12) (oi := ⟨some 58, _, _, _, _, _⟩) (v := (.slice Ac n cc)) rfl (by kernel_rfl) (by kernel_rfl) (by kernel_rfl) (fun _ _ _ h => h) (Or.inl ⟨by rfl, ?_⟩) (by assumption) ?_
  · intro w' hS; rfl
  simp only [Act.put, List.setIfInBounds_toArray, List.set_cons_zero, List.set_cons_succ]
  refine wpAnyH_take (i := 13) (oi := ⟨some 59, _, _, _, _, _⟩) (v := (.slice A n c)) rfl (by kernel_rfl) (by kernel_rfl) (by kernel_rfl) (fun _ _ _ h => h) (Or.inl ⟨by rfl, ?_⟩) (by assumption) ?_
  · intro w' hS; rfl
  simp only [Act.put, List.setIfInBounds_toArray, List.set_cons_zero, List.set_cons_succ]
  refine wpAnyH_ready (rs := [14]) (by kernel_rfl) (by simp) ?_
  refine AllReadyH.cons (o := ⟨some 60, _, _, _, _, _⟩) rfl (fun K hK => ?_) AllReadyH.nil
  rw [if_pos (by rfl)]
  go_simp
  refine (eqb_fr Ac A n n cc c xs xs wa HN.out HN.out RCa.out (HX.out.below Wa.out) (by have := HN.out; omega) (by have := HN.out; omega)).mono ?_
  rintro e w' ⟨q, rfl, rfl⟩
  rw [show decide (xs = xs) = true from by simp]
  have Wb : Hid (Below w.heap.size w (wa.drewN q)) := Lib.hid (belowN Wa.out _)
  have BPb : Hid (Hd (wa.drewN q) P (hArr L F i r g)) := Lib.hid BPa.out
  have BQb : Hid (Hd (wa.drewN q) Q KK) := Lib.hid BQa.out
  have BDb : Hid (Hd (wa.drewN q) D KK) := Lib.hid BDa.out
  have BMb : Hid (Blk (wa.drewN q) b 5 (List.map (Value.int IntKind.u8) N ++ rest)) := Lib.hid BMa.out
  have RWb : Hid (Rd (wa.drewN q) IntKind.u8 Aw O) := Lib.hid RWa.out
  generalize wa.drewN q = wb at Wb BPb BQb BDb BMb RWb
  clear Wa BPa BQa BDa BMa RWa RCa
  dsimp only
  (try simp only [Act.put, List.setIfInBounds_toArray, List.set_cons_zero, List.set_cons_succ])
  refine hK.out _ _ (⟨BDb.out, BQb.out⟩) (fun hHeld => ?_)
  clear hK K
  refine wpAnyH_take (i := 15) (oi := ⟨some 61, _, _, _, _, _⟩) (v := (.bool false)) rfl (by kernel_rfl) (by kernel_rfl) (by kernel_rfl) (fun _ _ _ h => h) (Or.inl ⟨by rfl, ?_⟩) (by assumption) ?_
  · intro w' hS; go_simp; try with_reducible rfl
  simp only [Act.put, List.setIfInBounds_toArray, List.set_cons_zero, List.set_cons_succ]
  refine wpAnyH_take (i := 16) (oi := ⟨some 62, _, _, _, _, _⟩) (v := (.bool false)) rfl (by kernel_rfl) (by kernel_rfl) (by kernel_rfl) (fun _ _ _ h => h) (Or.inl ⟨by rfl, ?_⟩) (by assumption) ?_
  · intro w' hS; go_simp; try with_reducible rfl
  simp only [Act.put, List.setIfInBounds_toArray, List.set_cons_zero, List.set_cons_succ]
  refine wpAnyH_take (i := 17) (oi := ⟨some 63, _, _, _, _, _⟩) (v := (.bool false)) rfl (by kernel_rfl) (by kernel_rfl) (by kernel_rfl) (fun _ _ _ h => h) (Or.inl ⟨by rfl, ?_⟩) (by assumption) ?_
  · intro w' hS; rfl
  simp only [Act.put, List.setIfInBounds_toArray, List.set_cons_zero, List.set_cons_succ]
  refine wpAnyH_take (i := 18) (oi := ⟨some 64, _, _, _, _, _⟩) (v := (.slice (some ⟨b, 0, none⟩) (26 + n) cm)) rfl (by kernel_rfl) (by kernel_rfl) (by kernel_rfl) (fun _ _ _ h => h) (Or.inl ⟨by rfl, ?_⟩) (by assumption) ?_
  · intro w' hS; rfl
  simp only [Act.put, List.setIfInBounds_toArray, List.set_cons_zero, List.set_cons_succ]
  refine wpAnyH_take (i := 19) (oi := ⟨some 65, _, _, _, _, _⟩) (v := (.agg KK)) rfl (by kernel_rfl) (by kernel_rfl) (by kernel_rfl) (fun _ _ _ h => h) (Or.inl ⟨by rfl, ?_⟩) (by assumption) ?_
  · intro w' hS; exact exec_load_row 26 _ (by rfl) Q (by rfl) 26 KK (0, 0) _ hS.2 Try.underlying26 rfl KS.out
  simp only [Act.put, List.setIfInBounds_toArray, List.set_cons_zero, List.set_cons_succ]
  refine wpAnyH_take (i := 20) (oi := ⟨some 66, _, _, _, _, _⟩) (v := (.slice A n c)) rfl (by kernel_rfl) (by kernel_rfl) (by kernel_rfl) (fun _ _ _ h => h) (Or.inl ⟨by rfl, ?_⟩) (by assumption) ?_
  · intro w' hS; rfl
  simp only [Act.put, List.setIfInBounds_toArray, List.set_cons_zero, List.set_cons_succ]
  refine wpAnyH_ready (rs := [21]) (by kernel_rfl) (by simp) ?_
  refine AllReadyH.cons (o := ⟨some 67, _, _, _, _, _⟩) rfl (fun K hK => ?_) AllReadyH.nil
  rw [if_pos (by rfl)]
  go_simp
  refine (copy_at A n c xs wb HN.out (HX.out.below Wb.out) (by have := HN.out; omega)).mono ?_
  rintro e wc ⟨A9, c9, rfl, R9, b9⟩
  have Wc := Lib.hid (Wb.out.trans (b9.mono Wb.out.size))
  have BPc := Lib.hid (BPb.out.below BPb.out.lt b9)
  have BQc := Lib.hid (BQb.out.below BQb.out.lt b9)
  have BDc := Lib.hid (BDb.out.below BDb.out.lt b9)
  have BMc := Lib.hid (BMb.out.below b9 BMb.out.lt)
  have RWc := Lib.hid (RWb.out.below b9)
  clear Wb BPb BQb BDb BMb RWb
  clear b9
  dsimp only
  (try simp only [Act.put, List.setIfInBounds_toArray, List.set_cons_zero, List.set_cons_succ])
  refine hK.out _ _ (⟨BDc.out, BQc.out⟩) (fun hHeld => ?_)
  clear hK K
  have hmk := pmake_any L2 F2 i2 r2 g2 A9 n c9 xs wc HN.out R9.out.1 hi2 hr2 (by have := HN.out; omega)
  rw [HKK.out, ← HNN.out] at hmk
  have HMK := Lib.hid hmk
  clear hmk
  refine wpAnyH_ready (rs := [22]) (by kernel_rfl) (by simp) ?_
  refine AllReadyH.cons (o := ⟨some 68, _, _, _, _, _⟩) rfl (fun K hK => ?_) AllReadyH.nil
  rw [if_pos (by rfl)]
  go_simp
  refine (HMK.out).mono ?_
  rintro e wd ⟨vd, rfl, od, bd⟩
  have Wd := Lib.hid (Wc.out.trans (bd.mono Wc.out.size))
  have BPd := Lib.hid (BPc.out.below BPc.out.lt bd)
  have BQd := Lib.hid (BQc.out.below BQc.out.lt bd)
  have BDd := Lib.hid (BDc.out.below BDc.out.lt bd)
  have BMd := Lib.hid (BMc.out.below bd BMc.out.lt)
  have RWd := Lib.hid (RWc.out.below bd)
  clear Wc BPc BQc BDc BMc RWc
  obtain ⟨Ad, cd, rfl, -, -, rd, -⟩ := od.slice
  have RDd := Lib.hid rd
  rw [LN.out]
  clear rd od bd HMK
  dsimp only
  (try simp only [Act.put, List.setIfInBounds_toArray, List.set_cons_zero, List.set_cons_succ])
  refine hK.out _ _ (⟨BDd.out, BQd.out⟩) (fun hHeld => ?_)
  clear hK K
  refine wpAnyH_ready (rs := [23]) (by kernel_rfl) (by simp) ?_
  refine AllReadyH.cons (o := ⟨some 69, _, _, _, _, _⟩) rfl (fun K hK => ?_) AllReadyH.nil
  rw [if_pos (by rfl)]
  go_simp
  refine (eqb_fr (some ⟨b, 0, none⟩) Ad (26 + n) (26 + n) cm cd N N wd LN.out.symm LN.out.symm (blk_rd BMd.out) RDd.out (by rw [LN.out]; omega) (by rw [LN.out]; omega)).mono ?_
  rintro e w' ⟨q, rfl, rfl⟩
  rw [show decide (N = N) = true from by simp]
  have We : Hid (Below w.heap.size w (wd.drewN q)) := Lib.hid (belowN Wd.out _)
  have BPe : Hid (Hd (wd.drewN q) P (hArr L F i r g)) := Lib.hid BPd.out
  have BQe : Hid (Hd (wd.drewN q) Q KK) := Lib.hid BQd.out
  have BDe : Hid (Hd (wd.drewN q) D KK) := Lib.hid BDd.out
  have BMe : Hid (Blk (wd.drewN q) b 5 (List.map (Value.int IntKind.u8) N ++ rest)) := Lib.hid BMd.out
  have RWe : Hid (Rd (wd.drewN q) IntKind.u8 Aw O) := Lib.hid RWd.out
  generalize wd.drewN q = we at We BPe BQe BDe BMe RWe
  clear Wd BPd BQd BDd BMd RWd RDd
  dsimp only
  (try simp only [Act.put, List.setIfInBounds_toArray, List.set_cons_zero, List.set_cons_succ])
  refine hK.out _ _ (⟨BDe.out, BQe.out⟩) (fun hHeld => ?_)
  clear hK K
  refine wpAnyH_take (i := 24) (oi := ⟨some 70, _, _, _, _, _⟩) (v := (.bool false)) rfl (by kernel_rfl) (by kernel_rfl) (by kernel_rfl) (fun _ _ _ h => h) (Or.inl ⟨by rfl, ?_⟩) (by assumption) ?_
  · intro w' hS; go_simp; try with_reducible rfl
  simp only [Act.put, List.setIfInBounds_toArray, List.set_cons_zero, List.set_cons_succ]
  refine wpAnyH_take (i := 25) (oi := ⟨some 71, _, _, _, _, _⟩) (v := (.bool false)) rfl (by kernel_rfl) (by kernel_rfl) (by kernel_rfl) (fun _ _ _ h => h) (Or.inl ⟨by rfl, ?_⟩) (by assumption) ?_
  · intro w' hS; go_simp; try with_reducible rfl
  simp only [Act.put, List.setIfInBounds_toArray, List.set_cons_zero, List.set_cons_succ]
  refine wpAnyH_done (by kernel_rfl) ?_ _
  go_wp2_with fail
  refine wp_region_held_drew (S := fun W => Hd W P (hArr L F i r g)) (by kernel_rfl) (BPe.out) (fun hHeld => ?_)
  have Wf : Hid (Below w.heap.size w we.drew) := Lib.hid We.out.drew
  have BPf : Hid (Hd we.drew P (hArr L F i r g)) := Lib.hid BPe.out
  have BMf : Hid (Blk we.drew b 5 (List.map (Value.int IntKind.u8) N ++ rest)) := Lib.hid BMe.out
  have RWf : Hid (Rd we.drew IntKind.u8 Aw O) := Lib.hid RWe.out
  generalize we.drew = wf at Wf BPf BMf RWf hHeld
  clear We BPe BQe BDe BMe RWe
  refine wpAnyH_take (i := 0) (oi := ⟨some 72, _, _, _, _, _⟩) (v := (.slice (some ⟨b, 0, none⟩) (26 + n) cm)) rfl (by kernel_rfl) (by kernel_rfl) (by kernel_rfl) (fun _ _ _ h => h) (Or.inl ⟨by rfl, ?_⟩) (by assumption) ?_
  · intro w' hS; rfl
  simp only [Act.put, List.setIfInBounds_toArray, List.set_cons_zero, List.set_cons_succ]
  refine wpAnyH_take (i := 1) (oi := ⟨some 73, _, _, _, _, _⟩) (v := (.agg (hArr L F i r g))) rfl (by kernel_rfl) (by kernel_rfl) (by kernel_rfl) (fun _ _ _ h => h) (Or.inl ⟨by rfl, ?_⟩) (by assumption) ?_
  · intro w' hS; exact exec_load_row 26 _ (by rfl) P (by rfl) 26 (hArr L F i r g) (0, 0) _ hS Try.underlying26 rfl (size26' _ _ _ _ _)
  simp only [Act.put, List.setIfInBounds_toArray, List.set_cons_zero, List.set_cons_succ]
  refine wpAnyH_ready (rs := [2]) (by kernel_rfl) (by simp) ?_
  refine AllReadyH.cons (o := ⟨some 74, _, _, _, _, _⟩) rfl (fun K hK => ?_) AllReadyH.nil
  rw [if_pos (by rfl)]
  go_simp
  refine (rput_any L F i r g b (26 + n) cm N rest wf LN.out.symm (by omega) BMf.out hi hr).mono ?_
  rintro e wg ⟨rfl, bmg, fg⟩
  rw [show hb L F i r g ++ N.drop 26 = O from by rw [HNN.out, hb_drop, HOO.out]] at bmg
  have BMg := Lib.hid bmg
  have BPg := Lib.hid (hd_frm BPf.out fg (by have := HbB.out; omega))
  have RWg := Lib.hid (RWf.out.fr fg (fun a ha => HAW.out a ha))
  have Wg := Lib.hid (Wf.out.trans (fg.below Wf.out.size (fun j hj => by have := HbB.out; omega)))
  clear bmg fg Wf BPf BMf RWf
  dsimp only
  (try simp only [Act.put, List.setIfInBounds_toArray, List.set_cons_zero, List.set_cons_succ])
  refine hK.out _ _ (BPg.out) (fun hHeld => ?_)
  clear hK K
  refine wpAnyH_take (i := 3) (oi := ⟨some 75, _, _, _, _, _⟩) (v := (.bool true)) rfl (by kernel_rfl) (by kernel_rfl) (by kernel_rfl) (fun _ _ _ h => h) (Or.inl ⟨by rfl, ?_⟩) (by assumption) ?_
  · intro w' hS; go_simp; try with_reducible rfl
  simp only [Act.put, List.setIfInBounds_toArray, List.set_cons_zero, List.set_cons_succ]
  refine wpAnyH_take (i := 4) (oi := ⟨some 76, _, _, _, _, _⟩) (v := (.bool true)) rfl (by kernel_rfl) (by kernel_rfl) (by kernel_rfl) (fun _ _ _ h => h) (Or.inl ⟨by rfl, ?_⟩) (by assumption) ?_
  · intro w' hS; rfl
  simp only [Act.put, List.setIfInBounds_toArray, List.set_cons_zero, List.set_cons_succ]
  refine wpAnyH_take (i := 5) (oi := ⟨some 77, _, _, _, _, _⟩) (v := (.slice (some ⟨b, 0, none⟩) (26 + n) cm)) rfl (by kernel_rfl) (by kernel_rfl) (by kernel_rfl) (fun _ _ _ h => h) (Or.inl ⟨by rfl, ?_⟩) (by assumption) ?_
  · intro w' hS; rfl
  simp only [Act.put, List.setIfInBounds_toArray, List.set_cons_zero, List.set_cons_succ]
  refine wpAnyH_take (i := 6) (oi := ⟨some 78, _, _, _, _, _⟩) (v := (.slice Aw (26 + n) cw)) rfl (by kernel_rfl) (by kernel_rfl) (by kernel_rfl) (fun _ _ _ h => h) (Or.inl ⟨by rfl, ?_⟩) (by assumption) ?_
  · intro w' hS; rfl
  simp only [Act.put, List.setIfInBounds_toArray, List.set_cons_zero, List.set_cons_succ]
  refine wpAnyH_ready (rs := [7]) (by kernel_rfl) (by simp) ?_
  refine AllReadyH.cons (o := ⟨some 79, _, _, _, _, _⟩) rfl (fun K hK => ?_) AllReadyH.nil
  rw [if_pos (by rfl)]
  go_simp
  refine (eqb_fr (some ⟨b, 0, none⟩) Aw (26 + n) (26 + n) cm cw O O wg LM.out.symm LM.out.symm (blk_rd BMg.out) RWg.out (by rw [LM.out]; omega) (by rw [LM.out]; omega)).mono ?_
  rintro e w' ⟨q, rfl, rfl⟩
  rw [show decide (O = O) = true from by simp]
  have Wh : Hid (Below w.heap.size w (wg.drewN q)) := Lib.hid (belowN Wg.out q)
  have BPh : Hid (Hd (wg.drewN q) P (hArr L F i r g)) := Lib.hid BPg.out
  have BMh : Hid (Blk (wg.drewN q) b 5 (List.map (Value.int IntKind.u8) O ++ rest)) := Lib.hid BMg.out
  generalize wg.drewN q = wh at Wh BPh BMh
  clear Wg BPg BMg RWg
  dsimp only
  (try simp only [Act.put, List.setIfInBounds_toArray, List.set_cons_zero, List.set_cons_succ])
  refine hK.out _ _ (BPh.out) (fun hHeld => ?_)
  clear hK K
  refine wpAnyH_take (i := 8) (oi := ⟨some 80, _, _, _, _, _⟩) (v := (.bool true)) rfl (by kernel_rfl) (by kernel_rfl) (by kernel_rfl) (fun _ _ _ h => h) (Or.inl ⟨by rfl, ?_⟩) (by assumption) ?_
  · intro w' hS; go_simp; try with_reducible rfl
  simp only [Act.put, List.setIfInBounds_toArray, List.set_cons_zero, List.set_cons_succ]
  refine wpAnyH_take (i := 9) (oi := ⟨some 81, _, _, _, _, _⟩) (v := (.bool true)) rfl (by kernel_rfl) (by kernel_rfl) (by kernel_rfl) (fun _ _ _ h => h) (Or.inl ⟨by rfl, ?_⟩) (by assumption) ?_
  · intro w' hS; rfl
  simp only [Act.put, List.setIfInBounds_toArray, List.set_cons_zero, List.set_cons_succ]
  refine wpAnyH_take (i := 10) (oi := ⟨some 82, _, _, _, _, _⟩) (v := (.slice (some ⟨b, 0, none⟩) (26 + n) cm)) rfl (by kernel_rfl) (by kernel_rfl) (by kernel_rfl) (fun _ _ _ h => h) (Or.inl ⟨by rfl, ?_⟩) (by assumption) ?_
  · intro w' hS; rfl
  simp only [Act.put, List.setIfInBounds_toArray, List.set_cons_zero, List.set_cons_succ]
  have hlv : lvR O (26 + n) = decide (L = 1) := by
    have h1 := hb_isR L F i r g xs
    rw [← HN.out, ← HOO.out, decide_eq_true HLF.out.1, decide_eq_true HLF.out.2.1] at h1
    unfold lvR
    rw [h1, HOO.out]
    rfl
  have HLV := Lib.hid hlv
  clear hlv
  by_cases hL1 : L = 1
  · have hb1 : ((L : Int) == 1) = true := by simp; omega
    refine wpAnyH_take (i := 13) (oi := ⟨some 85, _, _, _, _, _⟩) (v := (.pointer (some ⟨P, 0, none⟩))) rfl (by kernel_rfl) (by kernel_rfl) (by kernel_rfl) (fun _ _ _ h => h) (Or.inl ⟨by rfl, ?_⟩) (by assumption) ?_
    · intro w' hS; go_simp; try with_reducible rfl
    simp only [Act.put, List.setIfInBounds_toArray, List.set_cons_zero, List.set_cons_succ]
    refine wpAnyH_take (i := 14) (oi := ⟨some 86, _, _, _, _, _⟩) (v := (.int .u8 (L : Int))) rfl (by kernel_rfl) (by kernel_rfl) (by kernel_rfl) (fun _ _ _ h => h) (Or.inl ⟨by rfl, ?_⟩) (by assumption) ?_
    · intro w' hS; have h0 := hd_c0 hS; go_simp; try with_reducible rfl
    simp only [Act.put, List.setIfInBounds_toArray, List.set_cons_zero, List.set_cons_succ]
    refine wpAnyH_take (i := 15) (oi := ⟨some 87, _, _, _, _, _⟩) (v := (.bool true)) rfl (by kernel_rfl) (by kernel_rfl) (by kernel_rfl) (fun _ _ _ h => h) (Or.inl ⟨by rfl, ?_⟩) (by assumption) ?_
    · intro w' hS; go_simp; try with_reducible rfl
    simp only [Act.put, List.setIfInBounds_toArray, List.set_cons_zero, List.set_cons_succ]
    refine wpAnyH_ready (rs := [11]) (by kernel_rfl) (by simp) ?_
    refine AllReadyH.cons (o := ⟨some 83, _, _, _, _, _⟩) rfl (fun K hK => ?_) AllReadyH.nil
    rw [if_pos (by rfl)]
    go_simp
    refine (live_any (some ⟨b, 0, none⟩) (26 + n) cm O wh LM.out.symm (blk_rd BMh.out) HO8.out).mono ?_
    rintro e w' ⟨rfl, q, rfl⟩
    rw [HLV.out]
    have Wi : Hid (Below w.heap.size w (wh.drewN q)) := Lib.hid (belowN Wh.out q)
    have BPi : Hid (Hd (wh.drewN q) P (hArr L F i r g)) := Lib.hid BPh.out
    generalize wh.drewN q = wi at Wi BPi
    clear Wh BPh BMh
    dsimp only
    (try simp only [Act.put, List.setIfInBounds_toArray, List.set_cons_zero, List.set_cons_succ])
    refine hK.out _ _ (BPi.out) (fun hHeld => ?_)
    clear hK K
    rw [show mk (decide (L = 1)) = 18446744073709551615 from by rw [decide_eq_true hL1]; rfl]
    refine wpAnyH_take (i := 12) (oi := ⟨some 84, _, _, _, _, _⟩) (v := (.bool true)) rfl (by kernel_rfl) (by kernel_rfl) (by kernel_rfl) (fun _ _ _ h => h) (Or.inl ⟨by rfl, ?_⟩) (by assumption) ?_
    · intro w' hS; go_simp; try with_reducible rfl
    simp only [Act.put, List.setIfInBounds_toArray, List.set_cons_zero, List.set_cons_succ]
    refine wpAnyH_take (i := 16) (oi := ⟨some 88, _, _, _, _, _⟩) (v := (.bool true)) rfl (by kernel_rfl) (by kernel_rfl) (by kernel_rfl) (fun _ _ _ h => h) (Or.inl ⟨by rfl, ?_⟩) (by assumption) ?_
    · intro w' hS; go_simp; try with_reducible rfl
    simp only [Act.put, List.setIfInBounds_toArray, List.set_cons_zero, List.set_cons_succ]
    refine wpAnyH_take (i := 17) (oi := ⟨some 89, _, _, _, _, _⟩) (v := (.bool true)) rfl (by kernel_rfl) (by kernel_rfl) (by kernel_rfl) (fun _ _ _ h => h) (Or.inl ⟨by rfl, ?_⟩) (by assumption) ?_
    · intro w' hS; go_simp; try with_reducible rfl
    simp only [Act.put, List.setIfInBounds_toArray, List.set_cons_zero, List.set_cons_succ]
    refine wpAnyH_take (i := 18) (oi := ⟨some 6, _, _, _, _, _⟩) (v := (.bool true)) rfl (by kernel_rfl) (by kernel_rfl) (by kernel_rfl) (fun _ _ _ h => h) (Or.inl ⟨by rfl, ?_⟩) (by assumption) ?_
    · intro w' hS; rfl
    simp only [Act.put, List.setIfInBounds_toArray, List.set_cons_zero, List.set_cons_succ]
    refine wpAnyH_done (by kernel_rfl) ?_ _
    go_wp2_with fail
    go_ret
    exact ⟨rfl, Wi.out⟩
  · have hb1 : ((L : Int) == 1) = false := by simp; omega
    refine wpAnyH_take (i := 13) (oi := ⟨some 85, _, _, _, _, _⟩) (v := (.pointer (some ⟨P, 0, none⟩))) rfl (by kernel_rfl) (by kernel_rfl) (by kernel_rfl) (fun _ _ _ h => h) (Or.inl ⟨by rfl, ?_⟩) (by assumption) ?_
    · intro w' hS; go_simp; try with_reducible rfl
    simp only [Act.put, List.setIfInBounds_toArray, List.set_cons_zero, List.set_cons_succ]
    refine wpAnyH_take (i := 14) (oi := ⟨some 86, _, _, _, _, _⟩) (v := (.int .u8 (L : Int))) rfl (by kernel_rfl) (by kernel_rfl) (by kernel_rfl) (fun _ _ _ h => h) (Or.inl ⟨by rfl, ?_⟩) (by assumption) ?_
    · intro w' hS; have h0 := hd_c0 hS; go_simp; try with_reducible rfl
    simp only [Act.put, List.setIfInBounds_toArray, List.set_cons_zero, List.set_cons_succ]
    refine wpAnyH_take (i := 15) (oi := ⟨some 87, _, _, _, _, _⟩) (v := (.bool false)) rfl (by kernel_rfl) (by kernel_rfl) (by kernel_rfl) (fun _ _ _ h => h) (Or.inl ⟨by rfl, ?_⟩) (by assumption) ?_
    · intro w' hS; go_simp; try with_reducible rfl
    simp only [Act.put, List.setIfInBounds_toArray, List.set_cons_zero, List.set_cons_succ]
    refine wpAnyH_ready (rs := [11]) (by kernel_rfl) (by simp) ?_
    refine AllReadyH.cons (o := ⟨some 83, _, _, _, _, _⟩) rfl (fun K hK => ?_) AllReadyH.nil
    rw [if_pos (by rfl)]
    go_simp
    refine (live_any (some ⟨b, 0, none⟩) (26 + n) cm O wh LM.out.symm (blk_rd BMh.out) HO8.out).mono ?_
    rintro e w' ⟨rfl, q, rfl⟩
    rw [HLV.out]
    have Wi : Hid (Below w.heap.size w (wh.drewN q)) := Lib.hid (belowN Wh.out q)
    have BPi : Hid (Hd (wh.drewN q) P (hArr L F i r g)) := Lib.hid BPh.out
    generalize wh.drewN q = wi at Wi BPi
    clear Wh BPh BMh
    dsimp only
    (try simp only [Act.put, List.setIfInBounds_toArray, List.set_cons_zero, List.set_cons_succ])
    refine hK.out _ _ (BPi.out) (fun hHeld => ?_)
    clear hK K
    rw [show mk (decide (L = 1)) = 0 from by rw [decide_eq_false hL1]; rfl]
    refine wpAnyH_take (i := 12) (oi := ⟨some 84, _, _, _, _, _⟩) (v := (.bool false)) rfl (by kernel_rfl) (by kernel_rfl) (by kernel_rfl) (fun _ _ _ h => h) (Or.inl ⟨by rfl, ?_⟩) (by assumption) ?_
    · intro w' hS; go_simp; try with_reducible rfl
    simp only [Act.put, List.setIfInBounds_toArray, List.set_cons_zero, List.set_cons_succ]
    refine wpAnyH_take (i := 16) (oi := ⟨some 88, _, _, _, _, _⟩) (v := (.bool true)) rfl (by kernel_rfl) (by kernel_rfl) (by kernel_rfl) (fun _ _ _ h => h) (Or.inl ⟨by rfl, ?_⟩) (by assumption) ?_
    · intro w' hS; go_simp; try with_reducible rfl
    simp only [Act.put, List.setIfInBounds_toArray, List.set_cons_zero, List.set_cons_succ]
    refine wpAnyH_take (i := 17) (oi := ⟨some 89, _, _, _, _, _⟩) (v := (.bool true)) rfl (by kernel_rfl) (by kernel_rfl) (by kernel_rfl) (fun _ _ _ h => h) (Or.inl ⟨by rfl, ?_⟩) (by assumption) ?_
    · intro w' hS; go_simp; try with_reducible rfl
    simp only [Act.put, List.setIfInBounds_toArray, List.set_cons_zero, List.set_cons_succ]
    refine wpAnyH_take (i := 18) (oi := ⟨some 6, _, _, _, _, _⟩) (v := (.bool true)) rfl (by kernel_rfl) (by kernel_rfl) (by kernel_rfl) (fun _ _ _ h => h) (Or.inl ⟨by rfl, ?_⟩) (by assumption) ?_
    · intro w' hS; rfl
    simp only [Act.put, List.setIfInBounds_toArray, List.set_cons_zero, List.set_cons_succ]
    refine wpAnyH_done (by kernel_rfl) ?_ _
    go_wp2_with fail
    go_ret
    exact ⟨rfl, Wi.out⟩
end Go.Proofs.Ytedejkfhgpnhpaa

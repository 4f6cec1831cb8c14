/-
  Walk: the law NoiseFresh.
-/
import Derived.Test.YtcfbaildcocnhaaRw
import Derived.Test.YtcfbaildcocnhaaEi
import Derived.Test.YtcfbaildcocnhaaApr
import Derived.Test.YtcfbaildcocnhaaApi
set_option linter.unusedVariables false
set_option linter.unusedSimpArgs false
namespace Go.Proofs.Ytcfbaildcocnhaa
open Go.RowKit

def Rg (v : Value) (lo hi : Nat) : Prop := ∀ j, v.ownBlock = some j → lo ≤ j ∧ j < hi
theorem lt4 {i : Nat} (h : i < 4) : i = 0 ∨ i = 1 ∨ i = 2 ∨ i = 3 := by omega
theorem lt2 {i : Nat} (h : i < 2) : i = 0 ∨ i = 1 := by omega
/-- Four values. -/
def fou (a b c d : Value) : Nat → Value := fun j => [a, b, c, d].getD j (.bool false)
theorem fou_all {P : Nat → Value → Prop} {a b c d : Value} (h0 : P 0 a) (h1 : P 1 b) (h2 : P 2 c) (h3 : P 3 d) : ∀ j, j < 4 → P j (fou a b c d j) := fun j hj => by
  rcases lt4 hj with rfl | rfl | rfl | rfl
  · exact h0
  · exact h1
  · exact h2
  · exact h3
def two (a b : Value) : Nat → Value := fun j => [a, b].getD j (.bool false)
theorem two_all {P : Nat → Value → Prop} {a b : Value} (h0 : P 0 a) (h1 : P 1 b) : ∀ j, j < 2 → P j (two a b j) := fun j hj => by
  rcases lt2 hj with rfl | rfl
  · exact h0
  · exact h1
theorem rg_dist {N : Nat} {vs : Nat → Value} {lo hi : Nat → Nat} (h : ∀ j, j < N → Rg (vs j) (lo j) (hi j)) (hd : ∀ i j, i < N → j < N → i ≠ j → hi i ≤ lo j ∨ hi j ≤ lo i) : ∀ i j, i < N → j < N → i ≠ j → ∀ g, (vs i).ownBlock = some g → (vs j).ownBlock ≠ some g := fun i j hi' hj hne g hg hg2 => by
  have h1 := h i hi' g hg
  have h2 := h j hj g hg2
  have h3 := hd i j hi' hj hne
  omega
theorem apart_four {W : World} {s0 s1 s2 s3 s4 : Nat} {va vb vc vd : Value} {xa xb xc xd : List Int} (oa : Own W s0 5 .u8 va xa) (ob : Own W s0 5 .u8 vb xb) (oc : Own W s0 5 .u8 vc xc) (od : Own W s0 5 .u8 vd xd)
    (ra : Rg va s0 s1) (rb : Rg vb s1 s2) (rc : Rg vc s2 s3) (rd : Rg vd s3 s4) (hs : s0 ≤ s1 ∧ s1 ≤ s2 ∧ s2 ≤ s3 ∧ s3 ≤ s4) (hW : s4 ≤ W.heap.size)
    (la : xa.length + 101 ≤ 140737488355328) (lb : xb.length + 101 ≤ 140737488355328) (lc : xc.length + 101 ≤ 140737488355328) (ld : xd.length + 101 ≤ 140737488355328) :
    Calls Try.prog 42 #[.slice (some ⟨W.heap.size, 0, none⟩) 4 4] (W.alloc (.cells #[va, vb, vc, vd] 75)) fun e w' => e = .returned (.bool true) ∧ Fr (fun g => va.ownBlock = some g ∨ vb.ownBlock = some g ∨ vc.ownBlock = some g ∨ vd.ownBlock = some g) W w' := by
  have bel := (Below.refl W.heap.size W).alloc (Nat.le_refl _) (.cells #[va, vb, vc, vd] 75)
  have hB := Blk.new W 75 [va, vb, vc, vd]
  have hR4 : ∀ j, j < 4 → Rg (fou va vb vc vd j) s0 s4 := fou_all (P := fun _ v => Rg v s0 s4) (fun j h => by have := ra j h; omega) (fun j h => by have := rb j h; omega) (fun j h => by have := rc j h; omega) (fun j h => by have := rd j h; omega)
  have hap := apart_any s0 W.heap.size 4 4 (fou va vb vc vd) (fun j => [xa.length, xb.length, xc.length, xd.length].getD j 0) (fun j => [xa, xb, xc, xd].getD j []) (W.alloc (.cells #[va, vb, vc, vd] 75)) (by decide) (fun j hj => by rcases lt4 hj with rfl | rfl | rfl | rfl <;> rfl)
    (fou_all (P := fun j v => Own (W.alloc (.cells #[va, vb, vc, vd] 75)) s0 5 .u8 v ([xa, xb, xc, xd].getD j [])) (oa.below bel) (ob.below bel) (oc.below bel) (od.below bel))
    (rg_dist (lo := fun j => [s0, s1, s2, s3].getD j 0) (hi := fun j => [s1, s2, s3, s4].getD j 0) (fou_all (P := fun j v => Rg v ([s0, s1, s2, s3].getD j 0) ([s1, s2, s3, s4].getD j 0)) ra rb rc rd) (fun i j hi hj hne => by
      rcases lt4 hi with rfl | rfl | rfl | rfl <;> rcases lt4 hj with rfl | rfl | rfl | rfl <;> simp at hne ⊢ <;> omega))
    (fun j hj h => by have := hR4 j hj _ h; omega)
    (fou_all (P := fun j v => (W.alloc (.cells #[va, vb, vc, vd] 75)).cell? ⟨W.heap.size, j, none⟩ = some v) (hB.cell 0) (hB.cell 1) (hB.cell 2) (hB.cell 3))
    (by simp; omega) (fun j hj => by rcases lt4 hj with rfl | rfl | rfl | rfl <;> simp <;> omega)
  refine hap.mono ?_
  rintro e w' ⟨rfl, hf⟩
  exact ⟨rfl, ((Fr.refl _ W).alloc _).trans (hf.mono (fun g hg => by
    obtain ⟨j, hj, h⟩ := hg
    rcases lt4 hj with rfl | rfl | rfl | rfl
    · exact .inl h
    · exact .inr (.inl h)
    · exact .inr (.inr (.inl h))
    · exact .inr (.inr (.inr h))))⟩
theorem aparti_two {W : World} {s0 s1 s2 : Nat} {va vb : Value} {xa xb : List Int} (oa : Own W s0 3 .i64 va xa) (ob : Own W s0 3 .i64 vb xb)
    (ra : Rg va s0 s1) (rb : Rg vb s1 s2) (hs : s0 ≤ s1 ∧ s1 ≤ s2) (hW : s2 ≤ W.heap.size) (la : xa.length + 101 ≤ 17592186044416) (lb : xb.length + 101 ≤ 17592186044416) :
    Calls Try.prog 43 #[.slice (some ⟨W.heap.size, 0, none⟩) 2 2] (W.alloc (.cells #[va, vb] 81)) fun e w' => e = .returned (.bool true) ∧ Fr (fun g => va.ownBlock = some g ∨ vb.ownBlock = some g) W w' := by
  have bel := (Below.refl W.heap.size W).alloc (Nat.le_refl _) (.cells #[va, vb] 81)
  have hB := Blk.new W 81 [va, vb]
  have hR4 : ∀ j, j < 2 → Rg (two va vb j) s0 s2 := two_all (P := fun _ v => Rg v s0 s2) (fun j h => by have := ra j h; omega) (fun j h => by have := rb j h; omega)
  have hap := Ints.aparti_any s0 W.heap.size 2 2 (two va vb) (fun j => [xa.length, xb.length].getD j 0) (fun j => [xa, xb].getD j []) (W.alloc (.cells #[va, vb] 81)) (by decide) (fun j hj => by rcases lt2 hj with rfl | rfl <;> rfl)
    (two_all (P := fun j v => Own (W.alloc (.cells #[va, vb] 81)) s0 3 .i64 v ([xa, xb].getD j [])) (oa.below bel) (ob.below bel))
    (rg_dist (lo := fun j => [s0, s1].getD j 0) (hi := fun j => [s1, s2].getD j 0) (two_all (P := fun j v => Rg v ([s0, s1].getD j 0) ([s1, s2].getD j 0)) ra rb) (fun i j hi hj hne => by
      rcases lt2 hi with rfl | rfl <;> rcases lt2 hj with rfl | rfl <;> simp at hne ⊢ <;> omega))
    (fun j hj h => by have := hR4 j hj _ h; omega)
    (two_all (P := fun j v => (W.alloc (.cells #[va, vb] 81)).cell? ⟨W.heap.size, j, none⟩ = some v) (hB.cell 0) (hB.cell 1))
    (by simp; omega) (fun j hj => by rcases lt2 hj with rfl | rfl <;> simp <;> omega)
  refine hap.mono ?_
  rintro e w' ⟨rfl, hf⟩
  exact ⟨rfl, ((Fr.refl _ W).alloc _).trans (hf.mono (fun g hg => by
    obtain ⟨j, hj, h⟩ := hg
    rcases lt2 hj with rfl | rfl
    · exact .inl h
    · exact .inr h))⟩
theorem Src.fr4 {W w' : World} {S p s1 s2 s3 s4 : Nat} {T : TypeId} {kd : IntKind} {ks : List Int} {va vb vc vd : Value} {xa xb xc xd : List Int} (h : Src W S ks p) (hf : Fr (fun g => va.ownBlock = some g ∨ vb.ownBlock = some g ∨ vc.ownBlock = some g ∨ vd.ownBlock = some g) W w')
    (h1 : T ≠ 102) (h2 : T ≠ 103) (oa : Own W s1 T kd va xa) (ob : Own W s2 T kd vb xb) (oc : Own W s3 T kd vc xc) (od : Own W s4 T kd vd xd) : Src w' S ks p := by
  have hS : ∀ {v : Value} {xs : List Int} {s : Nat}, Own W s T kd v xs → ∀ g, v.ownBlock = some g → g ≠ S := fun ho g hg => by
    obtain ⟨A, c, nx, r, hb, -⟩ := h
    exact own_neB ho hb h1 hg
  have hR : ∀ {v : Value} {xs : List Int} {s : Nat}, Own W s T kd v xs → ∀ g (bs : List Int), Blk W g 103 (bs.map (Value.int .u8)) → ∀ g', v.ownBlock = some g' → g' ≠ g := fun ho g bs hb g' hg => own_neB ho hb h2 hg
  refine h.fr hf ?_ ?_
  · rintro (e | e | e | e)
    · exact hS oa _ e rfl
    · exact hS ob _ e rfl
    · exact hS oc _ e rfl
    · exact hS od _ e rfl
  · intro g bs hb
    rintro (e | e | e | e)
    · exact hR oa g bs hb _ e rfl
    · exact hR ob g bs hb _ e rfl
    · exact hR oc g bs hb _ e rfl
    · exact hR od g bs hb _ e rfl
theorem Src.fr2 {W w' : World} {S p s1 s2 : Nat} {T : TypeId} {kd : IntKind} {ks : List Int} {va vb : Value} {xa xb : List Int} (h : Src W S ks p) (hf : Fr (fun g => va.ownBlock = some g ∨ vb.ownBlock = some g) W w')
    (h1 : T ≠ 102) (h2 : T ≠ 103) (oa : Own W s1 T kd va xa) (ob : Own W s2 T kd vb xb) : Src w' S ks p :=
  h.fr4 (hf.mono (fun g hg => by rcases hg with e | e; exact .inl e; exact .inr (.inl e))) h1 h2 oa ob oa ob
/-- A row in an interval. -/
def OwI (T : TypeId) (kd : IntKind) (W : World) (v : Value) (xs : List Int) (lo hi : Nat) : Prop := Own W lo T kd v xs ∧ Rg v lo hi
theorem OwI.mk {T : TypeId} {kd : IntKind} {W : World} {v : Value} {xs : List Int} {lo : Nat} (h : Own W lo T kd v xs) : OwI T kd W v xs lo W.heap.size := ⟨h, fun j hj => h.base_le hj⟩
theorem OwI.fr {T : TypeId} {kd : IntKind} {S : Nat → Prop} {W W' : World} {v : Value} {xs : List Int} {lo hi : Nat} (h : OwI T kd W v xs lo hi) (hf : Fr S W W') (hS : ∀ g, lo ≤ g → g < hi → ¬ S g) : OwI T kd W' v xs lo hi := ⟨h.1.fr hf (fun g hg => by have := h.2 g hg; exact hS g this.1 this.2), h.2⟩
theorem OwI.rd {T : TypeId} {kd : IntKind} {W : World} {A : Option Addr} {n c : Nat} {xs : List Int} {lo hi : Nat} (h : OwI T kd W (.slice A n c) xs lo hi) : Rd W kd A xs := by
  obtain ⟨A', c', h1, -, -, h4, -⟩ := Own.slice h.1
  injection h1 with q1
  subst q1
  exact h4
theorem OwI.drewN {T : TypeId} {kd : IntKind} {W : World} {v : Value} {xs : List Int} {lo hi : Nat} (h : OwI T kd W v xs lo hi) (q : Nat) : OwI T kd (W.drewN q) v xs lo hi := ⟨h.1.drewN q, h.2⟩
set_option maxRecDepth 100000 in
set_option maxHeartbeats 8000000 in
theorem fresh_law (ks : List Int) (n : Int) (w : World) (hk : ks.length = 32) (bk : B8 ks) :
    Calls Try.prog 9 #[.agg (AY .u8 ks), .int .i64 n] w fun e w' => e = .returned (.bool true) ∧ Below w.heap.size w w' := by
  have HK := Lib.hid hk
  have BK := Lib.hid bk
  have I53 : Hid ((Try.prog.info? 53).map (·.size) = some ks.length) := Lib.hid (by rw [info31, hk])
  clear hk bk
  go_enter Try.func9, Try.ntmps9
  go_upto_region 1 with fail
  generalize hX : w.heap.size = X
  generalize hW1 : w.alloc _ = w1
  have X1 : Hid (Blk w1 X 53 (ks.map (Value.int .u8))) := Lib.hid (by rw [← hW1]; exact AY_new_at .u8 w 53 ks hX.symm)
  have F1 : Hid (Below w.heap.size w w1) := Lib.hid (by rw [← hW1]; exact (Below.refl _ w).alloc (Nat.le_refl _) _)
  have HXE := Lib.hid hX
  clear hX hW1
  go_wp2_with fail
  refine (awake_any w1).mono ?_
  rintro e w2 ⟨rfl, bb⟩
  have X2 := Lib.hid (X1.out.below bb X1.out.lt)
  have F2 := Lib.hid (F1.out.trans (bb.mono F1.out.size))
  clear bb X1 F1
  go_upto_region 3 with fail
  go_cut [5, 6] from 13 (fun v5 v6 wx => ∃ S T, v5 = .pointer (some ⟨S, 0, none⟩) ∧ v6 = .pointer (some ⟨T, 0, none⟩) ∧ Src wx S ks 0 ∧ Src wx T ks 0 ∧ w2.heap.size ≤ S ∧ S < T ∧ Below w2.heap.size w2 wx)
  case first =>
    refine wp_region_held_drew (S := fun w' => Below w2.heap.size w2 w') (by kernel_rfl) ((Below.refl w2.heap.size w2).drew) (fun hHeld => ?_)
    have V0 : Hid (Below w2.heap.size w2 w2.drew) := Lib.hid (Below.refl w2.heap.size w2).drew
    generalize w2.drew = v0 at V0 hHeld ⊢
    refine wpAnyH_take (i := 0) (oi := ⟨some 15, _, _, _, _, _⟩) (v := (.agg (AY .u8 ks))) rfl (by kernel_rfl) (by kernel_rfl) (by kernel_rfl) (fun _ _ _ h => h) (Or.inl ⟨by rfl, ?_⟩) (by assumption) ?_
    · intro w' hS; have hq := X2.out.below hS X2.out.lt; exact exec_load_AY 53 _ rfl X 0 (by rfl) .u8 ks _ (fun j v hv => by rw [hq.cell, Nat.zero_add]; exact hv) Try.underlying53 rfl I53.out
    simp only [Act.put, List.setIfInBounds_toArray, List.set_cons_zero, List.set_cons_succ]
    refine wpAnyH_take (i := 2) (oi := ⟨some 17, _, _, _, _, _⟩) (v := (.agg (AY .u8 ks))) rfl (by kernel_rfl) (by kernel_rfl) (by kernel_rfl) (fun _ _ _ h => h) (Or.inl ⟨by rfl, ?_⟩) (by assumption) ?_
    · intro w' hS; have hq := X2.out.below hS X2.out.lt; exact exec_load_AY 53 _ rfl X 0 (by rfl) .u8 ks _ (fun j v hv => by rw [hq.cell, Nat.zero_add]; exact hv) Try.underlying53 rfl I53.out
    simp only [Act.put, List.setIfInBounds_toArray, List.set_cons_zero, List.set_cons_succ]
    refine wpAnyH_ready (rs := [1]) (by kernel_rfl) (by simp) ?_
    refine AllReadyH.cons (o := ⟨some 16, _, _, _, _, _⟩) rfl (fun K hK => ?_) AllReadyH.nil
    rw [if_pos (by rfl)]
    go_simp
    refine (new_any ks v0 HK.out).mono ?_
    rintro e' v1 ⟨S, rfl, hlo, hs, bb⟩
    have HS := Lib.hid hs
    have V1 := Lib.hid (V0.out.trans (bb.mono V0.out.size))
    have HLO : Hid (w2.heap.size ≤ S ∧ S < v1.heap.size) := Lib.hid ⟨Nat.le_trans V0.out.size hlo, hs.lt⟩
    clear bb V0 hlo hs
    dsimp only
    (try simp only [Act.put, List.setIfInBounds_toArray, List.set_cons_zero, List.set_cons_succ])
    refine hK.out _ _ V1.out (fun hHeld => ?_)
    clear hK K
    refine wpAnyH_ready (rs := [3]) (by kernel_rfl) (by simp) ?_
    refine AllReadyH.cons (o := ⟨some 18, _, _, _, _, _⟩) rfl (fun K hK => ?_) AllReadyH.nil
    rw [if_pos (by rfl)]
    go_simp
    refine (new_any ks v1 HK.out).mono ?_
    rintro e' v2 ⟨T, rfl, hlo, hs, bb⟩
    have HT := Lib.hid hs
    have HS2 := Lib.hid (HS.out.below bb)
    have V2 := Lib.hid (V1.out.trans (bb.mono V1.out.size))
    have HLO2 : Hid (v1.heap.size ≤ T) := Lib.hid hlo
    clear bb V1 hlo hs HS
    dsimp only
    (try simp only [Act.put, List.setIfInBounds_toArray, List.set_cons_zero, List.set_cons_succ])
    refine hK.out _ _ V2.out (fun hHeld => ?_)
    clear hK K
    refine wpAnyH_take (i := 4) (oi := ⟨some 5, _, _, _, _, _⟩) (v := (.pointer (some ⟨S, 0, none⟩))) rfl (by kernel_rfl) (by kernel_rfl) (by kernel_rfl) (fun _ _ _ h => h) (Or.inl ⟨by rfl, ?_⟩) (by assumption) ?_
    · intro w' hS; go_simp; try with_reducible rfl
    simp only [Act.put, List.setIfInBounds_toArray, List.set_cons_zero, List.set_cons_succ]
    refine wpAnyH_take (i := 5) (oi := ⟨some 6, _, _, _, _, _⟩) (v := (.pointer (some ⟨T, 0, none⟩))) rfl (by kernel_rfl) (by kernel_rfl) (by kernel_rfl) (fun _ _ _ h => h) (Or.inl ⟨by rfl, ?_⟩) (by assumption) ?_
    · intro w' hS; go_simp; try with_reducible rfl
    simp only [Act.put, List.setIfInBounds_toArray, List.set_cons_zero, List.set_cons_succ]
    refine wpAnyH_done (by kernel_rfl) ?_ _
    go_wp2_with fail
    go_meet
    exact ⟨S, T, rfl, rfl, HS2.out, HT.out, HLO.out.1, by have := HLO.out; have := HLO2.out; omega, V2.out⟩
  case rest =>
  obtain ⟨S, T, rfl, rfl, hs, ht, hlo, hlt, bb⟩ := hcut
  have HS := Lib.hid hs
  have HT := Lib.hid ht
  have HL : Hid (w.heap.size ≤ S ∧ w.heap.size ≤ T ∧ ¬ T = S) := Lib.hid (by have := F2.out.size; omega)
  have F3 := Lib.hid (F2.out.trans (bb.mono F2.out.size))
  clear hs ht hlo hlt bb F2 X2
  generalize wc = w3 at *
  obtain ⟨Q, hQ⟩ : ∃ Q : Nat, n % 150 = (Q : Int) := ⟨(n % 150).toNat, by omega⟩
  have hQ150 : Q < 150 := by omega
  have hwi := within_any n 150 w3 (by decide) (by decide)
  rw [show ((150 : Nat) : Int) = 150 from rfl, hQ] at hwi
  go_wp2_with fail
  refine hwi.mono ?_
  rintro e w4 ⟨rfl, hw⟩
  obtain rfl : w3 = w4 := hw.symm
  clear hwi hQ
  have m1 : IntKind.i64.wrap (1 + (Q : Int)) = ((Q + 1 : Nat) : Int) := by rw [IntKind.wrap_i64] <;> omega
  have m2 : IntKind.i64.wrap ((Q : Int) + 1) = ((Q + 1 : Nat) : Int) := by rw [IntKind.wrap_i64] <;> omega
  go_upto_region 7 with fail
  obtain ⟨q, hq⟩ : ∃ q, q = Q + 1 := ⟨_, rfl⟩
  rw [show (Q : Int) + 1 = ((q : Nat) : Int) from by omega]
  have HQ : Hid (1 ≤ q ∧ q ≤ 150) := Lib.hid (by omega)
  have HW3 : Hid (w.heap.size ≤ w3.heap.size) := Lib.hid F3.out.size
  have HST : Hid (S < w3.heap.size ∧ T < w3.heap.size) := Lib.hid ⟨HS.out.lt, HT.out.lt⟩
  clear m1 m2 hq hQ150
  go_wp2_with fail
  refine (bytes_some S q ks (0) w3 HS.out HK.out BK.out (by have := HQ.out; omega) (by have := HQ.out; omega)).mono ?_
  rintro e w4 ⟨v, rfl, ho, hs, hf⟩
  obtain ⟨Aa, ca, rfl, -, -, -, -⟩ := ho.slice
  rw [rowL_len] at ho ⊢
  have Oa : Hid (OwI 5 .u8 w4 (.slice Aa q ca) (rowL ks (0) q) w3.heap.size w4.heap.size) := Lib.hid (OwI.mk ho)
  replace HT := Lib.hid (HT.out.keep HS.out HL.out.2.2 hf)
  replace F3 := Lib.hid (F3.out.trans (hf.below (B := w.heap.size) F3.out.size (fun j hj => by rw [hj]; exact HL.out.1)))
  replace HS := Lib.hid hs
  have ZZ : Hid (w3.heap.size ≤ w4.heap.size) := Lib.hid hf.size
  clear ho hs hf
  go_wp2_with fail
  refine (bytes_some T q ks (0) w4 HT.out HK.out BK.out (by have := HQ.out; omega) (by have := HQ.out; omega)).mono ?_
  rintro e w5 ⟨v, rfl, ho, hs, hf⟩
  obtain ⟨Ab, cb, rfl, -, -, -, -⟩ := ho.slice
  rw [rowL_len] at ho ⊢
  have Ob : Hid (OwI 5 .u8 w5 (.slice Ab q cb) (rowL ks (0) q) w4.heap.size w5.heap.size) := Lib.hid (OwI.mk ho)
  replace Oa := Lib.hid (Oa.out.fr hf (fun g h1 h2 => by have := HST.out; have := ZZ.out; omega))
  replace HS := Lib.hid (HS.out.keep HT.out (Ne.symm HL.out.2.2) hf)
  replace F3 := Lib.hid (F3.out.trans (hf.below (B := w.heap.size) F3.out.size (fun j hj => by rw [hj]; exact HL.out.2.1)))
  replace HT := Lib.hid hs
  replace ZZ : Hid (w3.heap.size ≤ w4.heap.size ∧ w4.heap.size ≤ w5.heap.size) := Lib.hid (by have h := hf.size; have z := ZZ.out; omega)
  clear ho hs hf
  go_wp2_with fail
  refine (bytes_some S 9 ks ((0) + q) w5 HS.out HK.out BK.out (by have := HQ.out; omega) (by have := HQ.out; omega)).mono ?_
  rintro e w6 ⟨v, rfl, ho, hs, hf⟩
  obtain ⟨Ac, cc, rfl, -, -, -, -⟩ := ho.slice
  rw [rowL_len] at ho ⊢
  have Oc : Hid (OwI 5 .u8 w6 (.slice Ac 9 cc) (rowL ks ((0) + q) 9) w5.heap.size w6.heap.size) := Lib.hid (OwI.mk ho)
  replace Oa := Lib.hid (Oa.out.fr hf (fun g h1 h2 => by have := HST.out; have := ZZ.out; omega))
  replace Ob := Lib.hid (Ob.out.fr hf (fun g h1 h2 => by have := HST.out; have := ZZ.out; omega))
  replace HT := Lib.hid (HT.out.keep HS.out HL.out.2.2 hf)
  replace F3 := Lib.hid (F3.out.trans (hf.below (B := w.heap.size) F3.out.size (fun j hj => by rw [hj]; exact HL.out.1)))
  replace HS := Lib.hid hs
  replace ZZ : Hid (w3.heap.size ≤ w4.heap.size ∧ w4.heap.size ≤ w5.heap.size ∧ w5.heap.size ≤ w6.heap.size) := Lib.hid (by have h := hf.size; have z := ZZ.out; omega)
  clear ho hs hf
  go_wp2_with fail
  refine (bytes_some T 9 ks ((0) + q) w6 HT.out HK.out BK.out (by have := HQ.out; omega) (by have := HQ.out; omega)).mono ?_
  rintro e w7 ⟨v, rfl, ho, hs, hf⟩
  obtain ⟨Ad, cd, rfl, -, -, -, -⟩ := ho.slice
  rw [rowL_len] at ho ⊢
  have Od : Hid (OwI 5 .u8 w7 (.slice Ad 9 cd) (rowL ks ((0) + q) 9) w6.heap.size w7.heap.size) := Lib.hid (OwI.mk ho)
  replace Oa := Lib.hid (Oa.out.fr hf (fun g h1 h2 => by have := HST.out; have := ZZ.out; omega))
  replace Ob := Lib.hid (Ob.out.fr hf (fun g h1 h2 => by have := HST.out; have := ZZ.out; omega))
  replace Oc := Lib.hid (Oc.out.fr hf (fun g h1 h2 => by have := HST.out; have := ZZ.out; omega))
  replace HS := Lib.hid (HS.out.keep HT.out (Ne.symm HL.out.2.2) hf)
  replace F3 := Lib.hid (F3.out.trans (hf.below (B := w.heap.size) F3.out.size (fun j hj => by rw [hj]; exact HL.out.2.1)))
  replace HT := Lib.hid hs
  replace ZZ : Hid (w3.heap.size ≤ w4.heap.size ∧ w4.heap.size ≤ w5.heap.size ∧ w5.heap.size ≤ w6.heap.size ∧ w6.heap.size ≤ w7.heap.size) := Lib.hid (by have h := hf.size; have z := ZZ.out; omega)
  clear ho hs hf
  go_wp2_with fail
  refine (shuffle_any S q ks (((0) + q) + 9) w7 HS.out HK.out BK.out HQ.out.1 (by have := HQ.out; omega)).mono ?_
  rintro e w8 ⟨v, rfl, ho, hs, hf⟩
  obtain ⟨Al, cl, rfl, -, -, -, -⟩ := ho.slice
  rw [shL_len] at ho ⊢
  have Ol : Hid (OwI 3 .i64 w8 (.slice Al q cl) (shL ks q (((0) + q) + 9)) w7.heap.size w8.heap.size) := Lib.hid (OwI.mk ho)
  replace Oa := Lib.hid (Oa.out.fr hf (fun g h1 h2 => by have := HST.out; have := ZZ.out; omega))
  replace Ob := Lib.hid (Ob.out.fr hf (fun g h1 h2 => by have := HST.out; have := ZZ.out; omega))
  replace Oc := Lib.hid (Oc.out.fr hf (fun g h1 h2 => by have := HST.out; have := ZZ.out; omega))
  replace Od := Lib.hid (Od.out.fr hf (fun g h1 h2 => by have := HST.out; have := ZZ.out; omega))
  replace HT := Lib.hid (HT.out.keep HS.out HL.out.2.2 hf)
  replace F3 := Lib.hid (F3.out.trans (hf.below (B := w.heap.size) F3.out.size (fun j hj => by rw [hj]; exact HL.out.1)))
  replace HS := Lib.hid hs
  replace ZZ : Hid (w3.heap.size ≤ w4.heap.size ∧ w4.heap.size ≤ w5.heap.size ∧ w5.heap.size ≤ w6.heap.size ∧ w6.heap.size ≤ w7.heap.size ∧ w7.heap.size ≤ w8.heap.size) := Lib.hid (by have h := hf.size; have z := ZZ.out; omega)
  clear ho hs hf
  go_wp2_with fail
  refine (shuffle_any T q ks (((0) + q) + 9) w8 HT.out HK.out BK.out HQ.out.1 (by have := HQ.out; omega)).mono ?_
  rintro e w9 ⟨v, rfl, ho, hs, hf⟩
  obtain ⟨Am, cm, rfl, -, -, -, -⟩ := ho.slice
  rw [shL_len] at ho ⊢
  have Om : Hid (OwI 3 .i64 w9 (.slice Am q cm) (shL ks q (((0) + q) + 9)) w8.heap.size w9.heap.size) := Lib.hid (OwI.mk ho)
  replace Oa := Lib.hid (Oa.out.fr hf (fun g h1 h2 => by have := HST.out; have := ZZ.out; omega))
  replace Ob := Lib.hid (Ob.out.fr hf (fun g h1 h2 => by have := HST.out; have := ZZ.out; omega))
  replace Oc := Lib.hid (Oc.out.fr hf (fun g h1 h2 => by have := HST.out; have := ZZ.out; omega))
  replace Od := Lib.hid (Od.out.fr hf (fun g h1 h2 => by have := HST.out; have := ZZ.out; omega))
  replace Ol := Lib.hid (Ol.out.fr hf (fun g h1 h2 => by have := HST.out; have := ZZ.out; omega))
  replace HS := Lib.hid (HS.out.keep HT.out (Ne.symm HL.out.2.2) hf)
  replace F3 := Lib.hid (F3.out.trans (hf.below (B := w.heap.size) F3.out.size (fun j hj => by rw [hj]; exact HL.out.2.1)))
  replace HT := Lib.hid hs
  replace ZZ : Hid (w3.heap.size ≤ w4.heap.size ∧ w4.heap.size ≤ w5.heap.size ∧ w5.heap.size ≤ w6.heap.size ∧ w6.heap.size ≤ w7.heap.size ∧ w7.heap.size ≤ w8.heap.size ∧ w8.heap.size ≤ w9.heap.size) := Lib.hid (by have h := hf.size; have z := ZZ.out; omega)
  clear ho hs hf
  have hqq : ((q : Int) != (q : Int)) = false := by simp
  go_wp2_with fail
  have hcc := eqb_any Aa Ab q q ca cb (rowL ks (0) q) (rowL ks (0) q) w9 (rowL_len _ _ _).symm (rowL_len _ _ _).symm Oa.out.rd Ob.out.rd (by rw [rowL_len]; have := HQ.out; omega) (by rw [rowL_len]; have := HQ.out; omega)
  rw [show decide ((rowL ks (0) q) = (rowL ks (0) q)) = true from by simp] at hcc
  refine hcc.mono ?_
  rintro e w' ⟨z, rfl, rfl⟩
  replace Oa := Lib.hid (Oa.out.drewN z)
  replace Ob := Lib.hid (Ob.out.drewN z)
  replace Oc := Lib.hid (Oc.out.drewN z)
  replace Od := Lib.hid (Od.out.drewN z)
  replace Ol := Lib.hid (Ol.out.drewN z)
  replace Om := Lib.hid (Om.out.drewN z)
  replace HS := Lib.hid (HS.out.below (belowN (Below.refl _ _) z))
  replace HT := Lib.hid (HT.out.below (belowN (Below.refl _ _) z))
  replace F3 := Lib.hid (belowN F3.out z)
  have ZZu1 : Hid (w9.heap.size ≤ (w9.drewN z).heap.size) := Lib.hid (Nat.le_refl _)
  generalize (w9.drewN z) = u1 at *
  clear hcc
  go_wp2_with fail
  have hcc := eqb_any Ac Ad 9 9 cc cd (rowL ks ((0) + q) 9) (rowL ks ((0) + q) 9) u1 (rowL_len _ _ _).symm (rowL_len _ _ _).symm Oc.out.rd Od.out.rd (by rw [rowL_len]; have := HQ.out; omega) (by rw [rowL_len]; have := HQ.out; omega)
  rw [show decide ((rowL ks ((0) + q) 9) = (rowL ks ((0) + q) 9)) = true from by simp] at hcc
  refine hcc.mono ?_
  rintro e w' ⟨z, rfl, rfl⟩
  replace Oa := Lib.hid (Oa.out.drewN z)
  replace Ob := Lib.hid (Ob.out.drewN z)
  replace Oc := Lib.hid (Oc.out.drewN z)
  replace Od := Lib.hid (Od.out.drewN z)
  replace Ol := Lib.hid (Ol.out.drewN z)
  replace Om := Lib.hid (Om.out.drewN z)
  replace HS := Lib.hid (HS.out.below (belowN (Below.refl _ _) z))
  replace HT := Lib.hid (HT.out.below (belowN (Below.refl _ _) z))
  replace F3 := Lib.hid (belowN F3.out z)
  have ZZu2 : Hid (u1.heap.size ≤ (u1.drewN z).heap.size) := Lib.hid (Nat.le_refl _)
  generalize (u1.drewN z) = u2 at *
  clear hcc
  go_wp2_with fail
  have hcc := eqi_any Al Am cl cm (shL ks q (((0) + q) + 9)) (shL ks q (((0) + q) + 9)) u2 Ol.out.rd Om.out.rd (by rw [shL_len]; have := HQ.out; omega) (by rw [shL_len]; have := HQ.out; omega)
  rw [shL_len] at hcc
  rw [show decide ((shL ks q (((0) + q) + 9)) = (shL ks q (((0) + q) + 9))) = true from by simp] at hcc
  refine hcc.mono ?_
  rintro e w' ⟨z, rfl, rfl⟩
  replace Oa := Lib.hid (Oa.out.drewN z)
  replace Ob := Lib.hid (Ob.out.drewN z)
  replace Oc := Lib.hid (Oc.out.drewN z)
  replace Od := Lib.hid (Od.out.drewN z)
  replace Ol := Lib.hid (Ol.out.drewN z)
  replace Om := Lib.hid (Om.out.drewN z)
  replace HS := Lib.hid (HS.out.below (belowN (Below.refl _ _) z))
  replace HT := Lib.hid (HT.out.below (belowN (Below.refl _ _) z))
  replace F3 := Lib.hid (belowN F3.out z)
  have ZZu3 : Hid (u2.heap.size ≤ (u2.drewN z).heap.size) := Lib.hid (Nat.le_refl _)
  generalize (u2.drewN z) = u3 at *
  clear hcc
  clear hqq
  go_wp2_with fail
  have hap := apart_four (W := u3) (Own.lower Oa.out.1 (Nat.le_refl _)) (Own.lower Ob.out.1 (by have := ZZ.out; omega)) (Own.lower Oc.out.1 (by have := ZZ.out; omega)) (Own.lower Od.out.1 (by have := ZZ.out; omega)) Oa.out.2 Ob.out.2 Oc.out.2 Od.out.2 (by have := ZZ.out; omega) (by have := ZZ.out; have := ZZu1.out; have := ZZu2.out; have := ZZu3.out; omega) (by rw [rowL_len]; have := HQ.out; omega) (by rw [rowL_len]; have := HQ.out; omega) (by rw [rowL_len]; decide) (by rw [rowL_len]; decide)
  refine hap.mono ?_
  rintro e u4 ⟨rfl, hf⟩
  clear hap
  replace Ol := Lib.hid (Ol.out.fr hf (fun g h1 h2 h => by have z := ZZ.out; rcases h with h | h | h | h; (have := Oa.out.2 g h; omega); (have := Ob.out.2 g h; omega); (have := Oc.out.2 g h; omega); (have := Od.out.2 g h; omega)))
  replace Om := Lib.hid (Om.out.fr hf (fun g h1 h2 h => by have z := ZZ.out; rcases h with h | h | h | h; (have := Oa.out.2 g h; omega); (have := Ob.out.2 g h; omega); (have := Oc.out.2 g h; omega); (have := Od.out.2 g h; omega)))
  replace HS := Lib.hid (HS.out.fr4 hf (by decide) (by decide) Oa.out.1 Ob.out.1 Oc.out.1 Od.out.1)
  replace HT := Lib.hid (HT.out.fr4 hf (by decide) (by decide) Oa.out.1 Ob.out.1 Oc.out.1 Od.out.1)
  replace F3 := Lib.hid (F3.out.trans (hf.below (B := w.heap.size) F3.out.size (fun g h => by have z := ZZ.out; have z2 := HW3.out; rcases h with h | h | h | h; (have := Oa.out.2 g h; omega); (have := Ob.out.2 g h; omega); (have := Oc.out.2 g h; omega); (have := Od.out.2 g h; omega))))
  have ZZu4 : Hid (u3.heap.size ≤ u4.heap.size) := Lib.hid hf.size
  clear hf
  go_wp2_with fail
  have hap := aparti_two (W := u4) (Own.lower Ol.out.1 (Nat.le_refl _)) (Own.lower Om.out.1 (by have := ZZ.out; omega)) Ol.out.2 Om.out.2 (by have := ZZ.out; omega) (by have := ZZ.out; have := ZZu1.out; have := ZZu2.out; have := ZZu3.out; have := ZZu4.out; omega) (by rw [shL_len]; have := HQ.out; omega) (by rw [shL_len]; have := HQ.out; omega)
  refine hap.mono ?_
  rintro e u5 ⟨rfl, hf⟩
  clear hap
  have ZZu5 : Hid (u4.heap.size ≤ u5.heap.size) := Lib.hid hf.size
  replace HS := Lib.hid (HS.out.fr2 hf (by decide) (by decide) Ol.out.1 Om.out.1)
  replace HT := Lib.hid (HT.out.fr2 hf (by decide) (by decide) Ol.out.1 Om.out.1)
  replace F3 := Lib.hid (F3.out.trans (hf.below (B := w.heap.size) F3.out.size (fun g h => by have z := ZZ.out; have z2 := HW3.out; rcases h with h | h; (have := Ol.out.2 g h; omega); (have := Om.out.2 g h; omega))))
  clear hf Oa Ob Oc Od Ol Om
  obtain ⟨P, hP⟩ : ∃ P, P = shQ ks q (0 + q + 9) := ⟨_, rfl⟩
  rw [← hP] at HS HT
  clear hP
  have ZU : Hid (w9.heap.size ≤ u5.heap.size) := Lib.hid (by have := ZZu1.out; have := ZZu2.out; have := ZZu3.out; have := ZZu4.out; have := ZZu5.out; omega)
  go_wp2_with fail
  refine (next_any S ks P u5 HS.out HK.out BK.out).mono ?_
  rintro e u6 ⟨rfl, hs, hf⟩
  have ZU6 : Hid (u5.heap.size ≤ u6.heap.size) := Lib.hid hf.size
  replace HT := Lib.hid (HT.out.keep HS.out HL.out.2.2 hf)
  replace F3 := Lib.hid (F3.out.trans (hf.below (B := w.heap.size) F3.out.size (fun j hj => by rw [hj]; exact HL.out.1)))
  replace HS := Lib.hid hs
  clear hs hf
  go_wp2_with fail
  refine (next_any T ks P u6 HT.out HK.out BK.out).mono ?_
  rintro e u7 ⟨rfl, hs, hf⟩
  have ZU7 : Hid (u5.heap.size ≤ u7.heap.size) := Lib.hid (by have h := hf.size; have := ZU6.out; omega)
  replace HS := Lib.hid (HS.out.keep HT.out (Ne.symm HL.out.2.2) hf)
  replace F3 := Lib.hid (F3.out.trans (hf.below (B := w.heap.size) F3.out.size (fun j hj => by rw [hj]; exact HL.out.2.1)))
  replace HT := Lib.hid hs
  clear hs hf
  generalize numN ks P = N
  go_wp2_with fail
  refine (bytes_some S 5 ks (P + 8) u7 HS.out HK.out BK.out (by decide) (by decide)).mono ?_
  rintro e u8 ⟨v, rfl, ho, hs, hf⟩
  obtain ⟨Ax, cx, rfl, -, -, -, -⟩ := ho.slice
  rw [rowL_len] at ho ⊢
  have Ox := Lib.hid (OwI.mk ho)
  replace HT := Lib.hid (HT.out.keep HS.out HL.out.2.2 hf)
  replace F3 := Lib.hid (F3.out.trans (hf.below (B := w.heap.size) F3.out.size (fun j hj => by rw [hj]; exact HL.out.1)))
  have ZT : Hid (T < u7.heap.size) := Lib.hid (by have := HST.out; have := ZZ.out; have := ZU.out; have := ZU7.out; omega)
  clear ho hs hf
  go_wp2_with fail
  refine (bytes_some T 5 ks (P + 8) u8 HT.out HK.out BK.out (by decide) (by decide)).mono ?_
  rintro e u9 ⟨v, rfl, ho, hs, hf⟩
  obtain ⟨Ay, cy, rfl, -, -, -, -⟩ := ho.slice
  rw [rowL_len] at ho ⊢
  have Oy := Lib.hid (OwI.mk ho)
  replace Ox := Lib.hid (Ox.out.fr hf (fun g h1 h2 => by have := ZT.out; omega))
  replace F3 := Lib.hid (F3.out.trans (hf.below (B := w.heap.size) F3.out.size (fun j hj => by rw [hj]; exact HL.out.2.1)))
  clear ho hs hf
  go_wp2_with fail
  have hcc := eqb_any Ax Ay 5 5 cx cy (rowL ks (P + 8) 5) (rowL ks (P + 8) 5) u9 (rowL_len _ _ _).symm (rowL_len _ _ _).symm Ox.out.rd Oy.out.rd (by rw [rowL_len]; decide) (by rw [rowL_len]; decide)
  rw [show decide (rowL ks (P + 8) 5 = rowL ks (P + 8) 5) = true from by simp] at hcc
  refine hcc.mono ?_
  rintro e u10 ⟨z, rfl, rfl⟩
  have F9 : Hid (Below w.heap.size w (u9.drewN z)) := Lib.hid (belowN F3.out z)
  clear hcc
  go_wp2_with fail
  go_ret
  exact ⟨rfl, HXE.out ▸ F9.out⟩
end Go.Proofs.Ytcfbaildcocnhaa

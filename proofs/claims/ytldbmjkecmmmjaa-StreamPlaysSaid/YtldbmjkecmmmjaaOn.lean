/-
  Walk: the law StreamOnce.
-/
import Derived.Test.YtldbmjkecmmmjaaAn
import Derived.Test.YtldbmjkecmmmjaaAt
set_option linter.unusedVariables false
set_option linter.unusedSimpArgs false
namespace Go.Proofs.Ytldbmjkecmmmjaa
open Go.RowKit

/-- The contracts of the document's side. -/
structure RefC (ks ns : List Int) (c : Nat) : Prop where
  new : ∀ W, Calls Try.prog 18 #[.agg (AY .u8 ks), .agg (AY .u8 ns), .int .u32 (c : Int)] W fun e w' => ∃ g, e = .returned (.pointer (some ⟨g, 0, none⟩)) ∧ W.heap.size ≤ g ∧ Blk w' g 66 (SGl ks ns (64 * c)) ∧ Below W.heap.size W w'
  xor : ∀ (g : Nat) (A : Option Addr) (n cap : Nat) (xs : List Int) (p : Nat) (W : World), n = xs.length → Rd W .u8 A xs → B8 xs → (0 < xs.length → ∀ a, A = some a → a.block ≠ g) → xs.length ≤ 140737488355328 → Blk W g 66 (SGl ks ns p) → p ≤ 274877906944 →
    Calls Try.prog 19 #[.pointer (some ⟨g, 0, none⟩), .slice A n cap] W (xorA 66 ks ns p xs g .i64 W)
structure OurC (ks ns : List Int) (c : Nat) : Prop where
  one : ∀ (A : Option Addr) (n cap : Nat) (xs : List Int) (W : World), n = xs.length → Rd W .u8 A xs → B8 xs → xs.length ≤ 140737488355328 → Calls Try.prog 20 #[.agg (AY .u8 ks), .agg (AY .u8 ns), .int .u32 (c : Int), .slice A n cap] W (xor1A ks ns (64 * c) xs W)
theorem BGl_range {w : World} {g T : Nat} {ks ns : List Int} {c : Nat} (h : Blk w g T (BGl ks ns c)) (hk : ks.length = 32) (hn : ns.length = 12) :
    w.rangeAt g 0 (ks.map (Value.int .u8)) ∧ w.rangeAt g 32 (ns.map (Value.int .u8)) ∧ w.cell? ⟨g, 44, none⟩ = some (.int .u32 (c : Int)) := by
  obtain ⟨h1, h2, h3⟩ := range_blk (a := ks.map (Value.int .u8)) (b := ns.map (Value.int .u8)) (c := [.int .u32 (c : Int)]) h
  rw [List.length_map, hk] at h2 h3
  rw [List.length_map, hn] at h3
  exact ⟨h1, h2, h3 0 _ rfl⟩

set_option maxRecDepth 100000 in
set_option maxHeartbeats 16000000 in
theorem once_any (A : Option Addr) (n cap : Nat) (xs ks ns : List Int) (c : Nat) (w : World) (hn : n = xs.length) (hr : Rd w .u8 A xs) (hB : B8 xs) (hl : xs.length ≤ 140737488351232)
    (hk : ks.length = 32) (hns : ns.length = 12) (hc : c < 4294967296) (RC : RefC ks ns c) (OC : OurC ks ns c) :
    Calls Try.prog 5 #[.agg (BG ks ns c), .slice A n cap] w fun e w' => e = .returned (.bool true) ∧ Below w.heap.size w w' := by
  have HRC := Lib.hid RC
  have HOC := Lib.hid OC
  have HR := Lib.hid hr
  have HN := Lib.hid hn
  have HB := Lib.hid hB
  have I31 : Hid ((Try.prog.info? 31).map (·.size) = some ks.length) := Lib.hid (by rw [info31, hk])
  have I33 : Hid ((Try.prog.info? 33).map (·.size) = some ns.length) := Lib.hid (by rw [info33, hns])
  have hn47 : n ≤ 140737488351232 := by omega
  have hp38 : 64 * c ≤ 274877906944 := by omega
  have HP38 := Lib.hid hp38
  obtain ⟨D, hD⟩ : ∃ D, D = w.heap.size := ⟨_, rfl⟩
  have HR3 : Hid (∀ W, Blk W D 35 (BGl ks ns c) → W.rangeAt D 0 (ks.map (Value.int .u8)) ∧ W.rangeAt D 32 (ns.map (Value.int .u8)) ∧ W.cell? ⟨D, 44, none⟩ = some (.int .u32 (c : Int))) := Lib.hid (fun W h => BGl_range h hk hns)
  obtain ⟨w0, hw0⟩ : ∃ w0, w0 = w.alloc (.cells (BG ks ns c) 35) := ⟨_, rfl⟩
  have HXw0 : Hid (Blk w0 D 35 (BGl ks ns c)) := Lib.hid (by rw [hw0, hD, BG_eq]; exact Blk.new w 35 _)
  have B0 : Hid (Below D w w0) := Lib.hid (by rw [hw0, hD]; exact (Below.refl _ w).alloc (Nat.le_refl _) _)
  have HDE := Lib.hid hD
  clear hk hns hr hB hl hn RC OC
  go_enter Try.func5, Try.ntmps5
  go_upto_region 1 with fail
  rw [← hD, ← hw0]
  clear hD hw0
  go_wp2_with fail
  refine (lent_any A n cap xs w0 HN.out (HR.out.below (by rw [← HDE.out]; exact B0.out)) (by have := HN.out; omega)).mono ?_
  rintro e w1 ⟨gi, ci, rest, rfl, hgi, L1, b1⟩
  have HXw1 : Hid (Blk w1 D 35 (BGl ks ns c)) := Lib.hid (HXw0.out.below b1 HXw0.out.lt)
  have B1 : Hid (Below D w w1) := Lib.hid (B0.out.trans (b1.mono (Nat.le_of_lt HXw0.out.lt)))
  have HL1 := Lib.hid L1
  have HGI : Hid (D < gi) := Lib.hid (Nat.lt_of_lt_of_le HXw0.out.lt hgi)
  have RW : Hid (∀ W, Below D w W → Rd W .u8 A xs) := Lib.hid (fun W h => HR.out.below (by rw [← HDE.out]; exact h))
  clear hgi L1 b1 HXw0 B0 HR
  have hcx : w1.cell? ⟨D, 44, none⟩ = some (.int .u32 (c : Int)) := (HR3.out w1 HXw1.out).2.2
  go_wp2_with (first
    | (show wpList _ _ _ ({ dst := some 18, op := _, type := _, pos := _, after := _, guard := _ } :: _) _ _; refine wpList_load_AY rfl 31 _ rfl D 0 rfl .u8 ks _ (HR3.out w1 HXw1.out).1 Try.underlying31 rfl I31.out ?_)
    | (show wpList _ _ _ ({ dst := some 20, op := _, type := _, pos := _, after := _, guard := _ } :: _) _ _; refine wpList_load_AY rfl 33 _ rfl D 32 rfl .u8 ns _ (HR3.out w1 HXw1.out).2.1 Try.underlying33 rfl I33.out ?_))
  clear hcx
  refine (HRC.out.new w1).mono ?_
  rintro e w2 ⟨g1, rfl, hg1, hb1, b2⟩
  have HXw2 : Hid (Blk w2 D 35 (BGl ks ns c)) := Lib.hid (HXw1.out.below b2 HXw1.out.lt)
  have B2 : Hid (Below D w w2) := Lib.hid (B1.out.trans (b2.mono (Nat.le_of_lt HXw1.out.lt)))
  have HL2 : Hid (Lent w2 gi ci xs rest) := Lib.hid (HL1.out.below b2)
  have HG1 : Hid (gi < g1 ∧ D < g1) := Lib.hid ⟨Nat.lt_of_lt_of_le HL1.out.blk.lt hg1, Nat.lt_of_lt_of_le HXw1.out.lt hg1⟩
  have HS1 := Lib.hid hb1
  clear hg1 hb1 b2 HXw1 B1 HL1
  go_wp2_with fail
  refine (HRC.out.xor g1 A n cap xs (64 * c) w2 HN.out (RW.out w2 B2.out) HB.out (fun h0 a ha he => by
    obtain ⟨b0, o0, hb0, hc0⟩ := RW.out w (Below.refl _ w) 0 h0
    rw [hb0] at ha
    injection ha with ha
    subst ha
    have := World.block_lt_of_cell? w _ hc0
    have h1 := HG1.out
    have h2 := HDE.out
    simp at this he
    omega) (by have := HN.out; omega) HS1.out HP38.out).mono ?_
  rintro e w3 ⟨v3, rfl, o3, -, f3⟩
  have HXw3 : Hid (Blk w3 D 35 (BGl ks ns c)) := Lib.hid (HXw2.out.fr f3 (by have := HG1.out; omega))
  have HL3 : Hid (Lent w3 gi ci xs rest) := Lib.hid (HL2.out.fr f3 (by have := HG1.out; omega))
  have B3 : Hid (Below D w w3) := Lib.hid (B2.out.trans (f3.below (Nat.le_of_lt HXw2.out.lt) (fun j hj => by have := HG1.out; omega)))
  have O3 : Hid (Own w3 w2.heap.size 5 .u8 v3 (ansL ks ns (64 * c) xs)) := Lib.hid o3
  have HLB : Hid (∀ zs : List Int, zs.length = n → (ansL ks ns (64 * c) zs).length ≤ n) := Lib.hid (fun zs h => by rw [← h]; exact ansL_le _ _ _ _)
  have HRL : Hid ((ansL ks ns (64 * c) xs).length ≤ n) := Lib.hid (HLB.out xs HN.out.symm)
  clear o3 f3 HXw2 B2 HL2 HS1
  rw [← HN.out]
  have hcx : w3.cell? ⟨D, 44, none⟩ = some (.int .u32 (c : Int)) := (HR3.out w3 HXw3.out).2.2
  generalize hR : ansL ks ns (64 * c) xs = R at *
  generalize hE : ansE (64 * c) n = E at *
  have HRE : Hid (ansL ks ns (64 * c) xs = R ∧ ansE (64 * c) n = E) := Lib.hid ⟨hR, hE⟩
  clear hR hE
  obtain ⟨A3, n3, c3, hv3⟩ : ∃ A n c, v3 = .slice A n c := by obtain ⟨A, c, h, _⟩ := O3.out.slice; exact ⟨A, _, c, h⟩
  subst hv3
  go_wp2_with (first
    | (show wpList _ _ _ ({ dst := some 30, op := _, type := _, pos := _, after := _, guard := _ } :: _) _ _; refine wpList_load_AY rfl 31 _ rfl D 0 rfl .u8 ks _ (HR3.out w3 HXw3.out).1 Try.underlying31 rfl I31.out ?_)
    | (show wpList _ _ _ ({ dst := some 32, op := _, type := _, pos := _, after := _, guard := _ } :: _) _ _; refine wpList_load_AY rfl 33 _ rfl D 32 rfl .u8 ns _ (HR3.out w3 HXw3.out).2.1 Try.underlying33 rfl I33.out ?_))
  clear hcx
  refine (HOC.out.one _ n ci xs w3 HN.out HL3.out.rd HB.out (by have := HN.out; omega)).mono ?_
  rintro e w4 ⟨v4, rfl, o4, b4⟩
  rw [← HN.out, HRE.out.2]
  rw [HRE.out.1] at o4
  have HXw4 : Hid (Blk w4 D 35 (BGl ks ns c)) := Lib.hid (HXw3.out.below b4 HXw3.out.lt)
  have HL4 : Hid (Lent w4 gi ci xs rest) := Lib.hid (HL3.out.below b4)
  have B4 : Hid (Below D w w4) := Lib.hid (B3.out.trans (b4.mono (Nat.le_of_lt HXw3.out.lt)))
  have O34 : Hid (Own w4 w2.heap.size 5 .u8 (.slice A3 n3 c3) R) := Lib.hid (O3.out.below b4)
  have HBD3 : Hid (∀ g, (Value.slice A3 n3 c3).ownBlock = some g → g < w3.heap.size) := Lib.hid (fun g h => (O3.out.base_le h).2)
  have O4 : Hid (Own w4 w3.heap.size 5 .u8 v4 R) := Lib.hid o4
  have HS34 : Hid (w3.heap.size ≤ w4.heap.size) := Lib.hid b4.size
  have HGI3 : Hid (gi < w3.heap.size) := Lib.hid HL3.out.blk.lt
  clear o4 b4 O3 HXw3 HL3 B3
  obtain ⟨A4, n4, c4, hv4⟩ : ∃ A n c, v4 = .slice A n c := by obtain ⟨A, c, h, _⟩ := O4.out.slice; exact ⟨A, _, c, h⟩
  subst hv4
  have hcx : w4.cell? ⟨D, 44, none⟩ = some (.int .u32 (c : Int)) := (HR3.out w4 HXw4.out).2.2
  go_wp2_with (first
    | (show wpList _ _ _ ({ dst := some 41, op := _, type := _, pos := _, after := _, guard := _ } :: _) _ _; refine wpList_load_AY rfl 31 _ rfl D 0 rfl .u8 ks _ (HR3.out w4 HXw4.out).1 Try.underlying31 rfl I31.out ?_)
    | (show wpList _ _ _ ({ dst := some 43, op := _, type := _, pos := _, after := _, guard := _ } :: _) _ _; refine wpList_load_AY rfl 33 _ rfl D 32 rfl .u8 ns _ (HR3.out w4 HXw4.out).2.1 Try.underlying33 rfl I33.out ?_))
  clear hcx
  refine (HOC.out.one _ n ci xs w4 HN.out HL4.out.rd HB.out (by have := HN.out; omega)).mono ?_
  rintro e w5 ⟨v5, rfl, o5, b5⟩
  rw [← HN.out, HRE.out.2]
  rw [HRE.out.1] at o5
  have HXw5 : Hid (Blk w5 D 35 (BGl ks ns c)) := Lib.hid (HXw4.out.below b5 HXw4.out.lt)
  have HL5 : Hid (Lent w5 gi ci xs rest) := Lib.hid (HL4.out.below b5)
  have B5 : Hid (Below D w w5) := Lib.hid (B4.out.trans (b5.mono (Nat.le_of_lt HXw4.out.lt)))
  have O35 : Hid (Own w5 w2.heap.size 5 .u8 (.slice A3 n3 c3) R) := Lib.hid (O34.out.below b5)
  have O45 : Hid (Own w5 w3.heap.size 5 .u8 (.slice A4 n4 c4) R) := Lib.hid (O4.out.below b5)
  have O5 : Hid (Own w5 w3.heap.size 5 .u8 v5 R) := Lib.hid (o5.lower HS34.out)
  have HS5 : Hid (w3.heap.size ≤ w5.heap.size) := Lib.hid (Nat.le_trans HS34.out b5.size)
  have HNE : Hid (∀ g, (Value.slice A4 n4 c4).ownBlock = some g → v5.ownBlock ≠ some g) := Lib.hid (fun g h1 h2 => by have := (O4.out.base_le h1).2; have := (o5.base_le h2).1; omega)
  clear o5 b5 O34 O4 HXw4 HL4 B4 HS34
  obtain ⟨A5, n5, c5, hv5⟩ : ∃ A n c, v5 = .slice A n c := by obtain ⟨A, c, h, _⟩ := O5.out.slice; exact ⟨A, _, c, h⟩
  subst hv5
  have hEE : (E != E) = false := by simp
  go_wp2_with fail
  refine (same_any A4 A3 n4 n3 c4 c3 R R w5 (own_rd O45.out).2 (own_rd O35.out).2 (own_rd O45.out).1 (own_rd O35.out).1 (by have := HRL.out; omega) (by have := HRL.out; omega)).mono ?_
  rintro e w' ⟨q1, rfl, rfl⟩
  rw [show decide (R = R) = true from by simp]
  go_wp2_with fail
  refine (same_any A5 A3 n5 n3 c5 c3 R R _ (own_rd O5.out).2 (own_rd O35.out).2 ((own_rd O5.out).1.draws _) ((own_rd O35.out).1.draws _) (by have := HRL.out; omega) (by have := HRL.out; omega)).mono ?_
  rintro e w' ⟨q2, rfl, rfl⟩
  rw [show decide (R = R) = true from by simp]
  go_wp2_with fail
  refine (still_any A gi ci cap n n xs rest _ HN.out HN.out (HL5.out.drewN _) ((RW.out w5 B5.out).draws _)).mono ?_
  rintro e w' ⟨q3, rfl, rfl⟩
  have HXw6 : Hid (Blk ((w5.drewN (q1 + q2)).drewN q3) D 35 (BGl ks ns c)) := HXw5
  have HL6 : Hid (Lent ((w5.drewN (q1 + q2)).drewN q3) gi ci xs rest) := Lib.hid ((HL5.out.drewN _).drewN _)
  have B6 : Hid (Below D w ((w5.drewN (q1 + q2)).drewN q3)) := Lib.hid (belowN (belowN B5.out _) _)
  have O46 : Hid (Own ((w5.drewN (q1 + q2)).drewN q3) w3.heap.size 5 .u8 (.slice A4 n4 c4) R) := O45
  have O56 : Hid (Own ((w5.drewN (q1 + q2)).drewN q3) w3.heap.size 5 .u8 (.slice A5 n5 c5) R) := O5
  have HS6 : Hid (w3.heap.size ≤ ((w5.drewN (q1 + q2)).drewN q3).heap.size) := HS5
  generalize (w5.drewN (q1 + q2)).drewN q3 = w6 at *
  clear HXw5 HL5 B5 O45 O5 O35 HS5 HBD3
  go_wp2_with fail
  refine (apart_two_fr O46.out O56.out HNE.out HS6.out (by have := HRL.out; omega) (by have := HRL.out; omega)).mono ?_
  rintro e w7 ⟨rfl, f7⟩
  have HXw7 : Hid (Blk w7 D 35 (BGl ks ns c)) := Lib.hid (HXw6.out.fr f7 (fun h => by have h3 := HGI3.out; have h4 := HGI.out; rcases h with h | h; have := (O46.out.base_le h).1; omega; have := (O56.out.base_le h).1; omega))
  have HL7 : Hid (Lent w7 gi ci xs rest) := Lib.hid (HL6.out.fr f7 (fun h => by have h3 := HGI3.out; rcases h with h | h; have := (O46.out.base_le h).1; omega; have := (O56.out.base_le h).1; omega))
  have B7 : Hid (Below D w w7) := Lib.hid (B6.out.trans (f7.below (Nat.le_of_lt HXw6.out.lt) (fun j h => by have h3 := HGI3.out; have h4 := HGI.out; rcases h with h | h; have := (O46.out.base_le h).1; omega; have := (O56.out.base_le h).1; omega)))
  clear f7 O46 O56 HXw6 HL6 B6 HS6 HNE
  go_wp2_with fail
  refine (still_any A gi ci cap n n xs rest _ HN.out HN.out HL7.out (RW.out w7 B7.out)).mono ?_
  rintro e w' ⟨q4, rfl, rfl⟩
  have HXw8 : Hid (Blk (w7.drewN q4) D 35 (BGl ks ns c)) := HXw7
  have HL8 : Hid (Lent (w7.drewN q4) gi ci xs rest) := Lib.hid (HL7.out.drewN _)
  have B8' : Hid (Below D w (w7.drewN q4)) := Lib.hid (belowN B7.out _)
  generalize w7.drewN q4 = w8 at *
  clear HXw7 HL7 B7
  have hcx : w8.cell? ⟨D, 44, none⟩ = some (.int .u32 (c : Int)) := (HR3.out w8 HXw8.out).2.2
  go_wp2_with (first
    | (show wpList _ _ _ ({ dst := some 88, op := _, type := _, pos := _, after := _, guard := _ } :: _) _ _; refine wpList_load_AY rfl 31 _ rfl D 0 rfl .u8 ks _ (HR3.out w8 HXw8.out).1 Try.underlying31 rfl I31.out ?_)
    | (show wpList _ _ _ ({ dst := some 90, op := _, type := _, pos := _, after := _, guard := _ } :: _) _ _; refine wpList_load_AY rfl 33 _ rfl D 32 rfl .u8 ns _ (HR3.out w8 HXw8.out).2.1 Try.underlying33 rfl I33.out ?_))
  clear hcx
  refine (HOC.out.one _ n ci xs w8 HN.out HL8.out.rd HB.out (by have := HN.out; omega)).mono ?_
  rintro e w9 ⟨v9, rfl, -, b9⟩
  have HXw9 : Hid (Blk w9 D 35 (BGl ks ns c)) := Lib.hid (HXw8.out.below b9 HXw8.out.lt)
  have HL9 : Hid (Lent w9 gi ci xs rest) := Lib.hid (HL8.out.below b9)
  have B9 : Hid (Below D w w9) := Lib.hid (B8'.out.trans (b9.mono (Nat.le_of_lt HXw8.out.lt)))
  clear b9 HXw8 HL8 B8' HRE HRL hEE
  go_wp2_with fail
  go_loopw [12] (fun z wr => ∃ (k : Nat) (zs : List Int), k ≤ n ∧ z = .int .i64 k ∧ Hid (n = zs.length) ∧ Hid (B8 zs) ∧ Hid (Lent wr gi ci zs rest) ∧ Hid (Fr (fun j => j = gi) w9 wr)) (fun z _ => n - (intOf z).toNat)
  case atStart => exact ⟨0, xs, Nat.zero_le _, rfl, HN, HB, HL9, Lib.hid (Fr.refl _ _)⟩
  case round =>
    obtain ⟨k, zs, hk, rfl, HZ, HBZ, HLZ, HF⟩ := hrel
    by_cases hlt : k < n
    · obtain ⟨b, off, y, hA, hcy, HYK⟩ := HLZ.out.rd.at k (by have := HZ.out; omega)
      cases hA
      rw [Nat.zero_add] at hcy
      obtain ⟨Y, hY⟩ : ∃ Y : Nat, y = (Y : Int) := ⟨y.toNat, by have := HBZ.out k; have := HYK.out; omega⟩
      have hY8 : Y < 256 := by have := HBZ.out k; have := HYK.out; omega
      subst hY
      have hfz := HLZ.out.blk.frozen k
      have hw1 : IntKind.i64.wrap (7 + (k : Int)) = 7 + (k : Int) := by simp [IntKind.wrap, IntKind.bits, IntKind.signed]; omega
      obtain ⟨V, hV⟩ : ∃ V : Nat, V = (7 + k) % 256 := ⟨_, rfl⟩
      have hw2 : IntKind.u8.wrap (7 + (k : Int)) = (V : Int) := by rw [hV]; simp [IntKind.wrap, IntKind.bits, IntKind.signed]
      have hV8 : V < 256 := by omega
      obtain ⟨Z, hZ⟩ : ∃ Z, Z = (Y + V) % 256 := ⟨_, rfl⟩
      have hZ8 : Z < 256 := by omega
      have hw3 : IntKind.u8.wrap ((Y : Int) + (V : Int)) = (Z : Int) := by rw [hZ]; simp [IntKind.wrap, IntKind.bits, IntKind.signed]
      clear hZ hV
      go_wp2_with fail
      go_roundw
      case rel => exact ⟨k + 1, zs.set k (Z : Int), by omega, by go_num, Lib.hid (by rw [List.length_set]; exact HZ.out), Lib.hid (HBZ.out.set k ⟨by omega, by omega⟩), Lib.hid (HLZ.out.set (by have := HZ.out; omega) _), Lib.hid (HF.out.setCell (p := ⟨gi, k, none⟩) (.inl rfl) _)⟩
      case measure => simp [intOf]; omega
    · have hge : decide ((k : Int) < (n : Int)) = false := by simp; omega
      have HXr : Hid (Blk wr D 35 (BGl ks ns c)) := Lib.hid (HXw9.out.fr HF.out (by have := HGI.out; omega))
      have BR : Hid (Below D w wr) := Lib.hid (B9.out.trans (HF.out.below (Nat.le_of_lt HXw9.out.lt) (fun j hj => by have := HGI.out; omega)))
      clear HF HXw9 B9 HL9
      go_wp2_with fail
      refine (copied_any (some ⟨gi, 0, none⟩) n ci zs wr HZ.out HLZ.out.rd (by have := HZ.out; omega)).mono ?_
      rintro e wa ⟨vk, rfl, ok, ba⟩
      obtain ⟨Ak, nk, ck, hvk⟩ : ∃ A n c, vk = .slice A n c := by obtain ⟨A, c, h, _⟩ := ok.slice; exact ⟨A, _, c, h⟩
      subst hvk
      have HXwa : Hid (Blk wa D 35 (BGl ks ns c)) := Lib.hid (HXr.out.below ba HXr.out.lt)
      have BA : Hid (Below D w wa) := Lib.hid (BR.out.trans (ba.mono (Nat.le_of_lt HXr.out.lt)))
      have LA : Hid (Lent wa gi ci zs rest) := Lib.hid (HLZ.out.below ba)
      have OK : Hid (Own wa wr.heap.size 5 .u8 (.slice Ak nk ck) zs) := Lib.hid ok
      have HGIr : Hid (gi < wr.heap.size) := Lib.hid HLZ.out.blk.lt
      have hnk : nk = n := by have := (own_rd OK.out).2; have := HZ.out; omega
      subst hnk
      clear ok ba HXr BR HLZ
      have hcx : wa.cell? ⟨D, 44, none⟩ = some (.int .u32 (c : Int)) := (HR3.out wa HXwa.out).2.2
      go_wp2_with (first
        | (show wpList _ _ _ ({ dst := some 116, op := _, type := _, pos := _, after := _, guard := _ } :: _) _ _; refine wpList_load_AY rfl 31 _ rfl D 0 rfl .u8 ks _ (HR3.out wa HXwa.out).1 Try.underlying31 rfl I31.out ?_)
        | (show wpList _ _ _ ({ dst := some 118, op := _, type := _, pos := _, after := _, guard := _ } :: _) _ _; refine wpList_load_AY rfl 33 _ rfl D 32 rfl .u8 ns _ (HR3.out wa HXwa.out).2.1 Try.underlying33 rfl I33.out ?_))
      clear hcx
      refine (HRC.out.new wa).mono ?_
      rintro e wb ⟨g2, rfl, hg2, hb2, bb⟩
      have HXwb : Hid (Blk wb D 35 (BGl ks ns c)) := Lib.hid (HXwa.out.below bb HXwa.out.lt)
      have BB : Hid (Below D w wb) := Lib.hid (BA.out.trans (bb.mono (Nat.le_of_lt HXwa.out.lt)))
      have LB : Hid (Lent wb gi ci zs rest) := Lib.hid (LA.out.below bb)
      have OKb : Hid (Own wb wr.heap.size 5 .u8 (.slice Ak nk ck) zs) := Lib.hid (OK.out.below bb)
      have HG2 : Hid (wa.heap.size ≤ g2) := Lib.hid hg2
      have HKB : Hid (∀ g, (Value.slice Ak nk ck).ownBlock = some g → g < wa.heap.size) := Lib.hid (fun g h => (OK.out.base_le h).2)
      have HKL : Hid (∀ a, Ak = some a → a.block < wa.heap.size) := Lib.hid (fun a h => by subst h; exact (OK.out.base_le (g := a.block) rfl).2)
      have HS2 := Lib.hid hb2
      have HGa : Hid (gi < wa.heap.size ∧ D < wa.heap.size) := Lib.hid ⟨LA.out.blk.lt, HXwa.out.lt⟩
      clear hg2 hb2 bb HXwa BA LA OK
      go_wp2_with fail
      refine (HRC.out.xor g2 Ak nk ck zs (64 * c) wb HZ.out (own_rd OKb.out).1 HBZ.out (fun h0 a ha he => by have := HKL.out a ha; have := HG2.out; omega) (by have := HZ.out; omega) HS2.out HP38.out).mono ?_
      rintro e wc ⟨vc, rfl, oc, -, fc⟩
      have HXwc : Hid (Blk wc D 35 (BGl ks ns c)) := Lib.hid (HXwb.out.fr fc (by have := HG2.out; have := HGa.out; omega))
      have LC : Hid (Lent wc gi ci zs rest) := Lib.hid (LB.out.fr fc (by have := HG2.out; have := HGa.out; omega))
      have BC : Hid (Below D w wc) := Lib.hid (BB.out.trans (fc.below (Nat.le_of_lt HXwb.out.lt) (fun j hj => by have := HG2.out; have := HGa.out; omega)))
      have OKc : Hid (Own wc wr.heap.size 5 .u8 (.slice Ak nk ck) zs) := Lib.hid (OKb.out.fr fc (fun g h1 h2 => by
        have h3 := HKB.out g h1
        have h5 : g = g2 := h2
        have h4 := HG2.out
        omega))
      have OC1 : Hid (Own wc wb.heap.size 5 .u8 vc (ansL ks ns (64 * c) zs)) := Lib.hid oc
      have HZL : Hid ((ansL ks ns (64 * c) zs).length ≤ nk) := Lib.hid (HLB.out zs HZ.out.symm)
      rw [← HZ.out]
      generalize hR : ansL ks ns (64 * c) zs = R at *
      generalize hE : ansE (64 * c) nk = F at *
      have HRE : Hid (ansL ks ns (64 * c) zs = R ∧ ansE (64 * c) nk = F) := Lib.hid ⟨hR, hE⟩
      clear hR hE
      clear oc fc HXwb LB BB OKb HS2 HG2
      obtain ⟨Ac, nc, cc, hvc⟩ : ∃ A n c, vc = .slice A n c := by obtain ⟨A, c, h, _⟩ := OC1.out.slice; exact ⟨A, _, c, h⟩
      subst hvc
      have hcx : wc.cell? ⟨D, 44, none⟩ = some (.int .u32 (c : Int)) := (HR3.out wc HXwc.out).2.2
      go_wp2_with (first
        | (show wpList _ _ _ ({ dst := some 128, op := _, type := _, pos := _, after := _, guard := _ } :: _) _ _; refine wpList_load_AY rfl 31 _ rfl D 0 rfl .u8 ks _ (HR3.out wc HXwc.out).1 Try.underlying31 rfl I31.out ?_)
        | (show wpList _ _ _ ({ dst := some 130, op := _, type := _, pos := _, after := _, guard := _ } :: _) _ _; refine wpList_load_AY rfl 33 _ rfl D 32 rfl .u8 ns _ (HR3.out wc HXwc.out).2.1 Try.underlying33 rfl I33.out ?_))
      clear hcx
      refine (HOC.out.one _ nk ci zs wc HZ.out LC.out.rd HBZ.out (by have := HZ.out; omega)).mono ?_
      rintro e wd ⟨vd, rfl, od, bd⟩
      rw [← HZ.out, HRE.out.2]
      rw [HRE.out.1] at od
      have LD : Hid (Lent wd gi ci zs rest) := Lib.hid (LC.out.below bd)
      have BD : Hid (Below D w wd) := Lib.hid (BC.out.trans (bd.mono (Nat.le_of_lt HXwc.out.lt)))
      have OKd : Hid (Own wd wr.heap.size 5 .u8 (.slice Ak nk ck) zs) := Lib.hid (OKc.out.below bd)
      have OCd : Hid (Own wd wb.heap.size 5 .u8 (.slice Ac nc cc) R) := Lib.hid (OC1.out.below bd)
      have OD : Hid (Own wd wc.heap.size 5 .u8 vd R) := Lib.hid od
      clear od bd LC BC OKc OC1 HXwc
      obtain ⟨Ad, nd, cd, hvd⟩ : ∃ A n c, vd = .slice A n c := by obtain ⟨A, c, h, _⟩ := OD.out.slice; exact ⟨A, _, c, h⟩
      subst hvd
      have hFF : (F == F) = true := by simp
      go_wp2_with fail
      refine (same_any Ad Ac nd nc cd cc R R wd (own_rd OD.out).2 (own_rd OCd.out).2 (own_rd OD.out).1 (own_rd OCd.out).1 (by have := HZL.out; omega) (by have := HZL.out; omega)).mono ?_
      rintro e w' ⟨q5, rfl, rfl⟩
      rw [show decide (R = R) = true from by simp]
      go_wp2_with fail
      refine (same_any (some ⟨gi, 0, none⟩) Ak nk nk ci ck zs zs _ HZ.out HZ.out (LD.out.rd.draws _) ((own_rd OKd.out).1.draws _) (by have := HZ.out; omega) (by have := HZ.out; omega)).mono ?_
      rintro e w' ⟨q6, rfl, rfl⟩
      rw [show decide (zs = zs) = true from by simp]
      go_wp2_with fail
      go_ret
      exact ⟨rfl, by rw [← HDE.out]; exact belowN BD.out _⟩
end Go.Proofs.Ytldbmjkecmmmjaa

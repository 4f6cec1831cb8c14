/-
  Walk: step: a call on both streams.
-/
import Derived.Test.YtldbmjkecmmmjaaOn
import Derived.Test.YtldbmjkecmmmjaaSk
set_option linter.unusedVariables false
set_option linter.unusedSimpArgs false
namespace Go.Proofs.Ytldbmjkecmmmjaa
open Go.RowKit

/-- What a step leaves: both streams at one place. -/
def StepP (ks ns : List Int) (g1 g2 : Nat) (w : World) (e : Ending) (w' : World) : Prop :=
  e = .returned (.bool true) ∧ ∃ p, p ≤ 274877906944 ∧ Blk w' g1 87 (SGl ks ns p) ∧ Blk w' g2 66 (SGl ks ns p) ∧ Fr (fun j => j = g1 ∨ j = g2) w w'
theorem bdrw (w : World) : Below w.heap.size w w.drew := ⟨rfl, rfl, rfl, Nat.le_refl _, fun _ _ => rfl⟩

set_option maxRecDepth 100000 in
set_option maxHeartbeats 16000000 in
theorem step_any (RB : ∀ (ks ns : List Int) (c : Nat) (w : World), ks.length = 32 → ns.length = 12 → B8 ks → B8 ns → c < 4294967296 →
      Calls Try.prog 16 #[.agg (AY .u8 ks), .int .u32 (c : Int), .agg (AY .u8 ns)] w fun e w' => e = .returned (.agg (AY .u8 (blkL ks ns c))) ∧ Below w.heap.size w w')
    (g1 g2 : Nat) (dv z : Int) (A : Option Addr) (n cap : Nat) (xs ks ns : List Int) (p : Nat) (w : World) (hz : -9223372036854775808 ≤ z ∧ z ≤ 9223372036854775807) (hn : n = xs.length) (hr : Rd w .u8 A xs) (hB : B8 xs) (hl : xs.length ≤ 140737488351232)
    (hA1 : 0 < xs.length → ∀ a, A = some a → a.block ≠ g1 ∧ a.block ≠ g2) (h1 : Blk w g1 87 (SGl ks ns p)) (h2 : Blk w g2 66 (SGl ks ns p)) (hp : p ≤ 274877906944) (hk : ks.length = 32) (hns : ns.length = 12) (bk : B8 ks) (bn : B8 ns) :
    Calls Try.prog 32 #[.pointer (some ⟨g1, 0, none⟩), .pointer (some ⟨g2, 0, none⟩), .agg #[.int .i64 dv, .int .i64 z, .slice A n cap]] w (StepP ks ns g1 g2 w) := by
  have HN := Lib.hid hn
  have HR := Lib.hid hr
  have HB := Lib.hid hB
  have HA1 := Lib.hid hA1
  have H1 := Lib.hid h1
  have H2 := Lib.hid h2
  have HP := Lib.hid hp
  have hne : g1 ≠ g2 := h1.ne h2 (by decide)
  have HNE := Lib.hid hne
  have hn47 : n ≤ 140737488351232 := by omega
  have HXA : Hid (∀ (A : Option Addr) cap W, Rd W .u8 A xs → (0 < xs.length → ∀ a, A = some a → a.block ≠ g1) → Blk W g1 87 (SGl ks ns p) → Calls Try.prog 28 #[.pointer (some ⟨g1, 0, none⟩), .slice A n cap] W (xorA 87 ks ns p xs g1 .i64 W)) := Lib.hid (fun A cap W hr hA hg => (xor_any g1 A n cap xs ks ns p W hn hr hB hA (by omega) hg hp hk hns bk bn).mono (fun e w' h => h.ans hg))
  have HXB : Hid (∀ (A : Option Addr) cap W, Rd W .u8 A xs → (0 < xs.length → ∀ a, A = some a → a.block ≠ g2) → Blk W g2 66 (SGl ks ns p) → Calls Try.prog 19 #[.pointer (some ⟨g2, 0, none⟩), .slice A n cap] W (xorA 66 ks ns p xs g2 .i64 W)) := Lib.hid (fun A cap W hr hA hg => (rxor_any RB g2 A n cap xs ks ns p W hn hr hB hA (by omega) hg hp hk hns bk bn).mono (fun e w' h => h.ans hg))
  have HSA : Hid (∀ W, Blk W g1 87 (SGl ks ns p) → Calls Try.prog 31 #[.pointer (some ⟨g1, 0, none⟩), .int .i64 z] W fun e w' => e = .returned (.int .i64 (skE p z)) ∧ Blk w' g1 87 (SGl ks ns (skP p z)) ∧ Fr (fun j => j = g1) W w') := Lib.hid (fun W hg => skip_any g1 z ks ns p W hz hg hp hk hns)
  have HSB : Hid (∀ W, Blk W g2 66 (SGl ks ns p) → Calls Try.prog 45 #[.pointer (some ⟨g2, 0, none⟩), .int .i64 z] W fun e w' => e = .returned (.int .i64 (skE p z)) ∧ Blk w' g2 66 (SGl ks ns (skP p z)) ∧ Fr (fun j => j = g2) W w') := Lib.hid (fun W hg => rskip_any g2 z ks ns p W hz hg hp hk hns)
  have HAT : Hid (∀ W, Blk W g1 87 (SGl ks ns p) → Calls Try.prog 29 #[.pointer (some ⟨g1, 0, none⟩)] W fun e w' => e = .returned (.int .u64 (p : Int)) ∧ w' = W) := Lib.hid (fun W hg => at_any g1 ks ns p W hg hk hns)
  have HPL : Hid (∀ W, Blk W g2 66 (SGl ks ns p) → W.cell? ⟨g2, 44, none⟩ = some (.int .u64 (p : Int))) := Lib.hid (fun W h => (SGl_range h hk hns).2.2)
  obtain ⟨X, hX⟩ : ∃ X, X = w.heap.size := ⟨_, rfl⟩
  obtain ⟨w1, hw1⟩ : ∃ w1, w1 = w.alloc (.cells #[.int .i64 dv, .int .i64 z, .slice A n cap] 69) := ⟨_, rfl⟩
  have BX : Hid (Blk w1 X 69 [.int .i64 dv, .int .i64 z, .slice A n cap]) := Lib.hid (by rw [hw1, hX]; exact Blk.new w 69 _)
  have F0 : Hid (Fr (fun j => j = g1 ∨ j = g2) w w1) := Lib.hid (by rw [hw1]; exact (Fr.refl _ w).alloc _)
  have G1 : Hid (Blk w1 g1 87 (SGl ks ns p)) := Lib.hid (by rw [hw1]; exact h1.alloc _)
  have G2 : Hid (Blk w1 g2 66 (SGl ks ns p)) := Lib.hid (by rw [hw1]; exact h2.alloc _)
  have RX : Hid (Rd w1 .u8 A xs) := Lib.hid (by rw [hw1]; exact hr.below ((Below.refl _ w).alloc (Nat.le_refl _) _))
  have HGX : Hid (g1 < X ∧ g2 < X) := Lib.hid (by rw [hX]; exact ⟨h1.lt, h2.lt⟩)
  have HXE := Lib.hid hX
  have HAX : Hid (0 < xs.length → ∀ a, A = some a → a.block < X) := Lib.hid (fun h0 a ha => by
    obtain ⟨b0, o0, hb0, hc0⟩ := hr 0 h0
    rw [hb0] at ha
    injection ha with ha
    subst ha
    have := World.block_lt_of_cell? w _ hc0
    rw [hX]
    simpa using this)
  clear hn hr hB hl hA1 h1 h2 hp hk hns bk bn hz hne
  have hx0 : w1.cell? ⟨X, 0, none⟩ = some (.int .i64 dv) := BX.out.cell 0
  by_cases hd1 : dv = 1
  · subst hd1
    go_enter Try.func32, Try.ntmps32
    go_upto_region 1 with fail
    rw [← hX, ← hw1]
    clear hw1 hX
    have hx2 : w1.cell? ⟨X, 2, none⟩ = some (.slice A n cap) := BX.out.cell 2
    go_wp2_with fail
    refine (lent_any A n cap xs w1 HN.out RX.out (by have := HN.out; omega)).mono ?_
    rintro e w2 ⟨gi, ci, rest, rfl, hgi, L1, b⟩
    have HL := Lib.hid L1
    have HGI : Hid (X < gi ∧ gi < w2.heap.size) := Lib.hid ⟨Nat.lt_of_lt_of_le BX.out.lt hgi, L1.blk.lt⟩
    replace G1 := Lib.hid (G1.out.below b G1.out.lt)
    replace G2 := Lib.hid (G2.out.below b G2.out.lt)
    have RXA : Hid (∀ W, Fr (fun j => j = g1 ∨ j = g2 ∨ X < j) w1 W → Rd W .u8 A xs) := Lib.hid (fun W hf => by
      by_cases h0 : 0 < xs.length
      · exact RX.out.fr hf (fun a ha h => by
          have h1 := HA1.out h0 a ha
          have h2 := HAX.out h0 a ha
          rcases h with h | h | h
          · exact h1.1 h
          · exact h1.2 h
          · omega)
      · intro i hi
        omega)
    have F : Hid (Fr (fun j => j = g1 ∨ j = g2 ∨ X < j) w1 w2) := Lib.hid (Fr.of_below b _)
    have BX2 := Lib.hid (BX.out.below b BX.out.lt)
    clear hx0 hx2 hgi L1 b
    go_wp2_with fail
    refine (HXA.out _ ci w2 HL.out.rd (fun _ a ha => by injection ha with ha; subst ha; have := HGI.out; have := HGX.out; show gi ≠ g1; omega) G1.out).mono ?_
    rintro e w3 ⟨v, rfl, ov, hg, f⟩
    rw [← HN.out] at hg ⊢
    have K1 := Lib.hid hg
    replace G2 := Lib.hid (G2.out.fr f (by have := HNE.out; omega))
    replace HL := Lib.hid (HL.out.fr f (by have := HGI.out; have := HGX.out; omega))
    replace F := Lib.hid (F.out.trans (f.mono (fun _ h => .inl h)))
    replace BX2 := Lib.hid (BX2.out.fr f (by have := HGX.out; omega))
    have OA := Lib.hid ov
    have HS23 : Hid (w2.heap.size ≤ w3.heap.size) := Lib.hid f.size
    obtain ⟨Aa, na, ca, hv⟩ : ∃ A n c, v = .slice A n c := by obtain ⟨A, c, h, _⟩ := ov.slice; exact ⟨A, _, c, h⟩
    subst hv
    clear ov hg f G1
    have hx2 : w3.cell? ⟨X, 2, none⟩ = some (.slice A n cap) := BX2.out.cell 2
    go_wp2_with fail
    refine (HXB.out A cap w3 (RXA.out w3 F.out) (fun h0 a ha => (HA1.out h0 a ha).2) G2.out).mono ?_
    rintro e w4 ⟨v, rfl, ov, hg, f⟩
    rw [← HN.out] at hg ⊢
    have K2 := Lib.hid hg
    replace K1 := Lib.hid (K1.out.fr f (by have := HNE.out; omega))
    replace HL := Lib.hid (HL.out.fr f (by have := HGI.out; have := HGX.out; omega))
    replace F := Lib.hid (F.out.trans (f.mono (fun _ h => .inr (.inl h))))
    replace BX2 := Lib.hid (BX2.out.fr f (by have := HGX.out; omega))
    replace OA := Lib.hid (OA.out.fr f (fun gg h1 h2 => by have := (OA.out.base_le h1).1; have h3 : gg = g2 := h2; have := HGX.out; have := HGI.out; omega))
    have OB := Lib.hid ov
    obtain ⟨Ab, nb, cb, hv⟩ : ∃ A n c, v = .slice A n c := by obtain ⟨A, c, h, _⟩ := ov.slice; exact ⟨A, _, c, h⟩
    subst hv
    clear ov hg f G2 hx2
    have hx2 : w4.cell? ⟨X, 2, none⟩ = some (.slice A n cap) := BX2.out.cell 2
    have HRL : Hid ((ansL ks ns p xs).length ≤ n) := Lib.hid (by rw [HN.out]; exact ansL_le _ _ _ _)
    have HRB : Hid (B8 (ansL ks ns p xs)) := Lib.hid (ansL_B8 HB.out)
    have HPP : Hid (plc p n ≤ 274877906944) := Lib.hid (plc_le HP.out)
    have hEE : (ansE p n != ansE p n) = false := by simp
    generalize ansE p n = E at *
    generalize ansL ks ns p xs = R at *
    generalize plc p n = p2 at *
    go_wp2_with fail
    refine (same_any Aa Ab na nb ca cb R R w4 (own_rd OA.out).2 (own_rd OB.out).2 (own_rd OA.out).1 (own_rd OB.out).1 (by have := HRL.out; omega) (by have := HRL.out; omega)).mono ?_
    rintro e w' ⟨q1, rfl, rfl⟩
    rw [show decide (R = R) = true from by simp]
    go_wp2_with fail
    refine (still_any A gi ci cap n n xs rest _ HN.out HN.out (HL.out.drewN _) ((RXA.out w4 F.out).draws _)).mono ?_
    rintro e w' ⟨q2, rfl, rfl⟩
    replace K1 : Hid (Blk ((w4.drewN q1).drewN q2) g1 87 (SGl ks ns p2)) := K1
    replace K2 : Hid (Blk ((w4.drewN q1).drewN q2) g2 66 (SGl ks ns p2)) := K2
    replace HL : Hid (Lent ((w4.drewN q1).drewN q2) gi ci xs rest) := Lib.hid ((HL.out.drewN _).drewN _)
    replace BX2 : Hid (Blk ((w4.drewN q1).drewN q2) X 69 [.int .i64 1, .int .i64 z, .slice A n cap]) := BX2
    replace OA : Hid (Own ((w4.drewN q1).drewN q2) w2.heap.size 5 .u8 (.slice Aa na ca) R) := OA
    replace F : Hid (Fr (fun j => j = g1 ∨ j = g2 ∨ X < j) w1 ((w4.drewN q1).drewN q2)) := Lib.hid ((F.out.drewN _).drewN _)
    generalize (w4.drewN q1).drewN q2 = w5 at *
    have hna : na = R.length := (own_rd OA.out).2
    have HNA := Lib.hid hna
    have hnab : na ≤ n := by rw [hna]; exact HRL.out
    clear hx2 hEE OB hna
    go_wp2_with fail
    go_loopw [12] (fun iv wr => ∃ (k : Nat) (zs : List Int), k ≤ na ∧ iv = .int .i64 k ∧ Hid (na = zs.length) ∧ Hid (B8 zs) ∧ Hid (Own wr w2.heap.size 5 .u8 (.slice Aa na ca) zs) ∧ Hid (Fr (fun j => w2.heap.size ≤ j) w5 wr)) (fun iv _ => na - (intOf iv).toNat)
    case atStart => exact ⟨0, R, Nat.zero_le _, rfl, HNA, HRB, OA, Lib.hid (Fr.refl _ _)⟩
    case round =>
      obtain ⟨k, zs, hk, rfl, HZ, HBZ, HO, HF⟩ := hrel
      by_cases hlt : k < na
      · obtain ⟨ga, c', y, hv, hcy, hfy⟩ := HO.out.cells (k := k) (by rw [← HZ.out]; exact hlt)
        injection hv with hv1 hv2 hv3
        have HY : Hid (0 ≤ y ∧ y ≤ 255) := Lib.hid (by
          obtain ⟨b, off, y2, hA, hc2, hy2⟩ := (own_rd HO.out).1.at k (by rw [← HZ.out]; exact hlt)
          rw [hv1] at hA
          injection hA with hA
          injection hA with h1 h2
          subst h1 h2
          rw [Nat.zero_add] at hc2
          rw [hc2] at hcy
          injection hcy with hcy
          injection hcy with _ hcy
          rw [← hcy, hy2.out]
          exact HBZ.out k)
        subst hv1
        clear hv2 hv3
        obtain ⟨Y, hY⟩ : ∃ Y : Nat, y = (Y : Int) := ⟨y.toNat, by have := HY.out; omega⟩
        have hY8 : Y < 256 := by have := HY.out; omega
        subst hY
        have hxo : bits .xor .u8 (Y : Int) 255 = ((Y ^^^ 255 : Nat) : Int) := u8_xor_nat Y 255 hY8 (by decide)
        have hZ8 : Y ^^^ 255 < 256 := Nat.xor_lt_two_pow (n := 8) hY8 (by decide)
        generalize Y ^^^ 255 = Z at *
        have HGA : Hid (w2.heap.size ≤ ga) := Lib.hid (HO.out.base_le (g := ga) rfl).1
        have hkn : k < zs.length := by rw [← HZ.out]; exact hlt
        have HKN := Lib.hid hkn
        clear hkn
        go_wp2_with fail
        go_roundw
        case rel => exact ⟨k + 1, zs.set k (Z : Int), by omega, by go_num, Lib.hid (by rw [List.length_set]; exact HZ.out), Lib.hid (HBZ.out.set k ⟨by omega, by omega⟩), Lib.hid (HO.out.setAt HKN.out _), Lib.hid (HF.out.setCell (p := ⟨ga, k, none⟩) (.inl HGA.out) _)⟩
        case measure => simp [intOf]; omega
      · have hge : decide ((k : Int) < (na : Int)) = false := by simp; omega
        have L1 : Hid (Lent wr gi ci xs rest) := Lib.hid (HL.out.fr HF.out (by have := HGI.out; omega))
        have M1 : Hid (Blk wr g1 87 (SGl ks ns p2)) := Lib.hid (K1.out.fr HF.out (by have := HGI.out; have := HGX.out; omega))
        have M2 : Hid (Blk wr g2 66 (SGl ks ns p2)) := Lib.hid (K2.out.fr HF.out (by have := HGI.out; have := HGX.out; omega))
        have FR : Hid (Fr (fun j => j = g1 ∨ j = g2 ∨ X < j) w1 wr) := Lib.hid (F.out.trans (HF.out.mono (fun j hj => .inr (.inr (by have := HGI.out; omega)))))
        have hx2 : wr.cell? ⟨X, 2, none⟩ = some (.slice A n cap) := (BX2.out.fr HF.out (by have := HGI.out; omega)).cell 2
        clear HF HO
        go_wp2_with fail
        refine (still_any A gi ci cap n n xs rest _ HN.out HN.out L1.out (RXA.out wr FR.out)).mono ?_
        rintro e w' ⟨q3, rfl, rfl⟩
        replace L1 : Hid (Lent (wr.drewN q3) gi ci xs rest) := Lib.hid (L1.out.drewN _)
        replace M1 : Hid (Blk (wr.drewN q3) g1 87 (SGl ks ns p2)) := M1
        replace M2 : Hid (Blk (wr.drewN q3) g2 66 (SGl ks ns p2)) := M2
        replace FR : Hid (Fr (fun j => j = g1 ∨ j = g2 ∨ X < j) w1 (wr.drewN q3)) := Lib.hid (FR.out.drewN _)
        generalize wr.drewN q3 = w6 at *
        clear hx2 hge
        go_wp2_with fail
        go_loopw [13] (fun iv wr => ∃ (k : Nat) (zs : List Int), k ≤ n ∧ iv = .int .i64 k ∧ Hid (n = zs.length) ∧ Hid (Lent wr gi ci zs rest) ∧ Hid (Fr (fun j => j = gi) w6 wr)) (fun iv _ => n - (intOf iv).toNat)
        case atStart => exact ⟨0, xs, Nat.zero_le _, rfl, HN, L1, Lib.hid (Fr.refl _ _)⟩
        case round =>
          obtain ⟨k, zs, hk, rfl, HZ, HLZ, HF⟩ := hrel
          by_cases hlt : k < n
          · obtain ⟨b, off, y, hA, hcy, HYK⟩ := HLZ.out.rd.at k (by have := HZ.out; omega)
            cases hA
            rw [Nat.zero_add] at hcy
            have hfz := HLZ.out.blk.frozen k
            obtain ⟨V, hV⟩ : ∃ V : Nat, V = k % 256 := ⟨_, rfl⟩
            have hw2 : IntKind.u8.wrap (k : Int) = (V : Int) := by rw [hV]; simp [IntKind.wrap, IntKind.bits, IntKind.signed]
            clear hV
            go_wp2_with fail
            go_roundw
            case rel => exact ⟨k + 1, zs.set k (V : Int), by omega, by go_num, Lib.hid (by rw [List.length_set]; exact HZ.out), Lib.hid (HLZ.out.set (by have := HZ.out; omega) _), Lib.hid (HF.out.setCell (p := ⟨gi, k, none⟩) (.inl rfl) _)⟩
            case measure => simp [intOf]; omega
          · have hge : decide ((k : Int) < (n : Int)) = false := by simp; omega
            have N1 : Hid (Blk wr g1 87 (SGl ks ns p2)) := Lib.hid (M1.out.fr HF.out (by have := HGI.out; have := HGX.out; omega))
            have N2 : Hid (Blk wr g2 66 (SGl ks ns p2)) := Lib.hid (M2.out.fr HF.out (by have := HGI.out; have := HGX.out; omega))
            have FE : Hid (Fr (fun j => j = g1 ∨ j = g2) w wr) := Lib.hid ((F0.out.then FR.out (fun i h => by
              rcases h with h | h | h
              · exact .inl (.inl h)
              · exact .inl (.inr h)
              · exact .inr (by rw [← HXE.out]; omega))).then HF.out (fun i h => .inr (by have := HGI.out; have h2 := HXE.out; omega)))
            clear HF
            go_wp2_with fail
            go_ret
            exact ⟨rfl, p2, HPP.out, N1.out, N2.out, FE.out⟩
  · have he1 : ((dv : Int) == 1) = false := by simpa using hd1
    by_cases hd2 : dv = 2
    · subst hd2
      go_enter Try.func32, Try.ntmps32
      go_upto_region 1 with fail
      rw [← hX, ← hw1]
      clear hw1 hX
      go_upto_region 19 with fail
      refine wp_region_held_drew (S := fun w' => w'.heap[X]? = w1.heap[X]?) (by kernel_rfl) (rfl) (fun hHeld => ?_)
      have HHd := Lib.hid hHeld
      clear hHeld
      refine wpAnyH_take (i := 0) (oi := ⟨some 82, _, _, _, _, _⟩) (v := (.pointer (some ⟨g1, 0, none⟩))) rfl (by kernel_rfl) (by kernel_rfl) (by kernel_rfl) (fun _ _ _ h => h) (Or.inl ⟨by rfl, ?_⟩) HHd.out ?_
      · intro w' hS; go_simp; try with_reducible rfl
      simp only [Act.put, List.setIfInBounds_toArray, List.set_cons_zero, List.set_cons_succ]
      refine wpAnyH_take (i := 1) (oi := ⟨some 83, _, _, _, _, _⟩) (v := (.pointer (some ⟨X, 1, none⟩))) rfl (by kernel_rfl) (by kernel_rfl) (by kernel_rfl) (fun _ _ _ h => h) (Or.inl ⟨by rfl, ?_⟩) HHd.out ?_
      · intro w' hS; go_simp; try with_reducible rfl
      simp only [Act.put, List.setIfInBounds_toArray, List.set_cons_zero, List.set_cons_succ]
      refine wpAnyH_take (i := 2) (oi := ⟨some 84, _, _, _, _, _⟩) (v := (.int .i64 z)) rfl (by kernel_rfl) (by kernel_rfl) (by kernel_rfl) (fun _ _ _ h => h) (Or.inl ⟨by rfl, ?_⟩) HHd.out ?_
      · intro w' hS; have z0 : w'.cell? ⟨X, 1, none⟩ = some (.int .i64 z) := (World.cell?_of_block (w := w1) (w' := w') hS).trans (BX.out.cell 1); go_simp; try with_reducible rfl
      simp only [Act.put, List.setIfInBounds_toArray, List.set_cons_zero, List.set_cons_succ]
      refine wpAnyH_take (i := 4) (oi := ⟨some 86, _, _, _, _, _⟩) (v := (.pointer (some ⟨g2, 0, none⟩))) rfl (by kernel_rfl) (by kernel_rfl) (by kernel_rfl) (fun _ _ _ h => h) (Or.inl ⟨by rfl, ?_⟩) HHd.out ?_
      · intro w' hS; go_simp; try with_reducible rfl
      simp only [Act.put, List.setIfInBounds_toArray, List.set_cons_zero, List.set_cons_succ]
      refine wpAnyH_take (i := 5) (oi := ⟨some 87, _, _, _, _, _⟩) (v := (.pointer (some ⟨X, 1, none⟩))) rfl (by kernel_rfl) (by kernel_rfl) (by kernel_rfl) (fun _ _ _ h => h) (Or.inl ⟨by rfl, ?_⟩) HHd.out ?_
      · intro w' hS; go_simp; try with_reducible rfl
      simp only [Act.put, List.setIfInBounds_toArray, List.set_cons_zero, List.set_cons_succ]
      refine wpAnyH_take (i := 6) (oi := ⟨some 88, _, _, _, _, _⟩) (v := (.int .i64 z)) rfl (by kernel_rfl) (by kernel_rfl) (by kernel_rfl) (fun _ _ _ h => h) (Or.inl ⟨by rfl, ?_⟩) HHd.out ?_
      · intro w' hS; have z0 : w'.cell? ⟨X, 1, none⟩ = some (.int .i64 z) := (World.cell?_of_block (w := w1) (w' := w') hS).trans (BX.out.cell 1); go_simp; try with_reducible rfl
      simp only [Act.put, List.setIfInBounds_toArray, List.set_cons_zero, List.set_cons_succ]
      refine wpAnyH_ready (rs := [3]) (by kernel_rfl) (by simp) ?_
      refine AllReadyH.cons (o := ⟨some 85, _, _, _, _, _⟩) rfl (fun K hK => ?_) AllReadyH.nil
      rw [if_pos (by rfl)]
      go_simp
      refine (HSA.out w1.drew G1.out).mono ?_
      rintro e w2 ⟨rfl, hb, f⟩
      (try simp only [Act.put, List.setIfInBounds_toArray, List.set_cons_zero, List.set_cons_succ])
      refine hK.out _ _ ((f.block X BX.out.lt (by have := HGX.out; omega)).trans HHd.out) (fun hHeld => ?_)
      clear hK K
      have HH1 := Lib.hid hHeld
      clear hHeld HHd
      have HB1a := Lib.hid hb
      have G2a : Hid (Blk w2 g2 66 (SGl ks ns p)) := Lib.hid ((show Blk w1.drew g2 66 _ from G2.out).fr f (by have := HNE.out; omega))
      have HF1 : Hid (Fr (fun j => j = g1 ∨ j = g2) w w2) := Lib.hid (F0.out.drew.trans (f.mono (fun _ h => .inl h)))
      have HXS : Hid (X < w2.heap.size) := Lib.hid (Nat.lt_of_lt_of_le BX.out.lt f.size)
      clear hb f
      refine wpAnyH_ready (rs := [7]) (by kernel_rfl) (by simp) ?_
      refine AllReadyH.cons (o := ⟨some 89, _, _, _, _, _⟩) rfl (fun K hK => ?_) AllReadyH.nil
      rw [if_pos (by rfl)]
      go_simp
      refine (HSB.out w2 G2a.out).mono ?_
      rintro e w3 ⟨rfl, hb, f⟩
      (try simp only [Act.put, List.setIfInBounds_toArray, List.set_cons_zero, List.set_cons_succ])
      refine hK.out _ _ ((f.block X HXS.out (by have := HGX.out; omega)).trans HH1.out) (fun hHeld => ?_)
      clear hK K
      have HH2 := Lib.hid hHeld
      clear hHeld HH1
      have HB2 := Lib.hid hb
      have HB1 : Hid (Blk w3 g1 87 (SGl ks ns (skP p z))) := Lib.hid (HB1a.out.fr f (by have := HNE.out; omega))
      have HFF : Hid (Fr (fun j => j = g1 ∨ j = g2) w w3) := Lib.hid (HF1.out.trans (f.mono (fun _ h => .inr h)))
      have hee : (skE p z == skE p z) = true := by simp
      clear hb f
      refine wpAnyH_take (i := 8) (oi := ⟨some 90, _, _, _, _, _⟩) (v := (.bool true)) rfl (by kernel_rfl) (by kernel_rfl) (by kernel_rfl) (fun _ _ _ h => h) (Or.inl ⟨by rfl, ?_⟩) HH2.out ?_
      · intro w' hS; go_simp; try with_reducible rfl
      simp only [Act.put, List.setIfInBounds_toArray, List.set_cons_zero, List.set_cons_succ]
      refine wpAnyH_take (i := 9) (oi := ⟨some 6, _, _, _, _, _⟩) (v := (.bool true)) rfl (by kernel_rfl) (by kernel_rfl) (by kernel_rfl) (fun _ _ _ h => h) (Or.inl ⟨by rfl, ?_⟩) HH2.out ?_
      · intro w' hS; go_simp; try with_reducible rfl
      simp only [Act.put, List.setIfInBounds_toArray, List.set_cons_zero, List.set_cons_succ]
      refine wpAnyH_done (by kernel_rfl) ?_ _
      go_wp2_with fail
      go_ret
      exact ⟨rfl, _, skP_le HP.out, HB1.out, HB2.out, HFF.out⟩
    · have he2 : ((dv : Int) == 2) = false := by simpa using hd2
      by_cases hd3 : dv = 3
      · subst hd3
        go_enter Try.func32, Try.ntmps32
        go_upto_region 1 with fail
        rw [← hX, ← hw1]
        clear hw1 hX
        go_upto_region 21 with fail
        refine wp_region_held_drew (S := fun w' => w'.heap[g2]? = w1.heap[g2]?) (by kernel_rfl) (rfl) (fun hHeld => ?_)
        have HHd := Lib.hid hHeld
        clear hHeld
        refine wpAnyH_take (i := 0) (oi := ⟨some 93, _, _, _, _, _⟩) (v := (.pointer (some ⟨g1, 0, none⟩))) rfl (by kernel_rfl) (by kernel_rfl) (by kernel_rfl) (fun _ _ _ h => h) (Or.inl ⟨by rfl, ?_⟩) HHd.out ?_
        · intro w' hS; go_simp; try with_reducible rfl
        simp only [Act.put, List.setIfInBounds_toArray, List.set_cons_zero, List.set_cons_succ]
        refine wpAnyH_take (i := 2) (oi := ⟨some 95, _, _, _, _, _⟩) (v := (.pointer (some ⟨g2, 0, none⟩))) rfl (by kernel_rfl) (by kernel_rfl) (by kernel_rfl) (fun _ _ _ h => h) (Or.inl ⟨by rfl, ?_⟩) HHd.out ?_
        · intro w' hS; go_simp; try with_reducible rfl
        simp only [Act.put, List.setIfInBounds_toArray, List.set_cons_zero, List.set_cons_succ]
        refine wpAnyH_take (i := 3) (oi := ⟨some 96, _, _, _, _, _⟩) (v := (.pointer (some ⟨g2, 0, none⟩))) rfl (by kernel_rfl) (by kernel_rfl) (by kernel_rfl) (fun _ _ _ h => h) (Or.inl ⟨by rfl, ?_⟩) HHd.out ?_
        · intro w' hS; go_simp; try with_reducible rfl
        simp only [Act.put, List.setIfInBounds_toArray, List.set_cons_zero, List.set_cons_succ]
        refine wpAnyH_take (i := 4) (oi := ⟨some 97, _, _, _, _, _⟩) (v := (.pointer (some ⟨g2, 44, none⟩))) rfl (by kernel_rfl) (by kernel_rfl) (by kernel_rfl) (fun _ _ _ h => h) (Or.inl ⟨by rfl, ?_⟩) HHd.out ?_
        · intro w' hS; go_simp; try with_reducible rfl
        simp only [Act.put, List.setIfInBounds_toArray, List.set_cons_zero, List.set_cons_succ]
        refine wpAnyH_take (i := 5) (oi := ⟨some 98, _, _, _, _, _⟩) (v := (.int .u64 (p : Int))) rfl (by kernel_rfl) (by kernel_rfl) (by kernel_rfl) (fun _ _ _ h => h) (Or.inl ⟨by rfl, ?_⟩) HHd.out ?_
        · intro w' hS; have z0 : w'.cell? ⟨g2, 44, none⟩ = some (.int .u64 (p : Int)) := (World.cell?_of_block (w := w1) (w' := w') hS).trans (HPL.out w1 G2.out); go_simp; try with_reducible rfl
        simp only [Act.put, List.setIfInBounds_toArray, List.set_cons_zero, List.set_cons_succ]
        refine wpAnyH_ready (rs := [1]) (by kernel_rfl) (by simp) ?_
        refine AllReadyH.cons (o := ⟨some 94, _, _, _, _, _⟩) rfl (fun K hK => ?_) AllReadyH.nil
        rw [if_pos (by rfl)]
        go_simp
        refine (HAT.out w1.drew G1.out).mono ?_
        rintro e w2 ⟨rfl, hw2⟩
        (try simp only [Act.put, List.setIfInBounds_toArray, List.set_cons_zero, List.set_cons_succ])
        refine hK.out _ _ (by rw [hw2]; exact HHd.out) (fun hHeld => ?_)
        clear hK K
        have HH2 := Lib.hid hHeld
        clear hHeld HHd
        have HB1 : Hid (Blk w2 g1 87 (SGl ks ns p)) := Lib.hid (by rw [hw2]; exact G1.out)
        have HB2 : Hid (Blk w2 g2 66 (SGl ks ns p)) := Lib.hid (by rw [hw2]; exact G2.out)
        have HFF : Hid (Fr (fun j => j = g1 ∨ j = g2) w w2) := Lib.hid (by rw [hw2]; exact F0.out.drew)
        have hee : ((p : Int) == (p : Int)) = true := by simp
        have hee2 : (p == p) = true := by simp
        clear hw2
        refine wpAnyH_take (i := 6) (oi := ⟨some 99, _, _, _, _, _⟩) (v := (.bool true)) rfl (by kernel_rfl) (by kernel_rfl) (by kernel_rfl) (fun _ _ _ h => h) (Or.inl ⟨by rfl, ?_⟩) HH2.out ?_
        · intro w' hS; go_simp; try with_reducible rfl
        simp only [Act.put, List.setIfInBounds_toArray, List.set_cons_zero, List.set_cons_succ]
        refine wpAnyH_take (i := 7) (oi := ⟨some 6, _, _, _, _, _⟩) (v := (.bool true)) rfl (by kernel_rfl) (by kernel_rfl) (by kernel_rfl) (fun _ _ _ h => h) (Or.inl ⟨by rfl, ?_⟩) HH2.out ?_
        · intro w' hS; go_simp; try with_reducible rfl
        simp only [Act.put, List.setIfInBounds_toArray, List.set_cons_zero, List.set_cons_succ]
        refine wpAnyH_done (by kernel_rfl) ?_ _
        go_wp2_with fail
        go_ret
        exact ⟨rfl, p, HP.out, HB1.out, HB2.out, HFF.out⟩
      · have he3 : ((dv : Int) == 3) = false := by simpa using hd3
        go_enter Try.func32, Try.ntmps32
        go_upto_region 1 with fail
        rw [← hX, ← hw1]
        clear hw1 hX
        go_wp2_with fail
        go_ret
        exact ⟨rfl, p, HP.out, G1.out, G2.out, F0.out⟩
end Go.Proofs.Ytldbmjkecmmmjaa

/-
  Walk: the law NetworkKnown.
-/
import Derived.Test.YtpglocgfdonmaaaLl
import Derived.Test.YtpglocgfdonmaaaGa
import Derived.Test.YtpglocgfdonmaaaNl
import Derived.Test.YtpglocgfdonmaaaSz
import Derived.Test.YtpglocgfdonmaaaHl
set_option linter.unusedVariables false
set_option linter.unusedSimpArgs false
namespace Go.Proofs.Ytpglocgfdonmaaa
open Go.RowKit Go.Shelf

/-- The closure that NetworkKnown hands over: it keeps nothing. -/
theorem after_asks (xs : List Int) (lo : Nat) : Asks 38 #[] xs (fun k => decide (90 < xs.getD k 0)) lo (fun _ => False) (fun _ _ _ => True) := by
  refine ⟨fun b h => h.elim, fun _ _ _ _ _ _ => trivial, ?_⟩
  intro hi k W h1 h2 h3 _
  show Calls Try.prog 38 #[.int .i64 (xs.getD k 0)] W _
  have HF : Hid (Fr (fun b => False ∨ hi ≤ b) W W) := Lib.hid (Fr.refl _ W)
  generalize xs.getD k 0 = x
  go_enter Try.func38, Try.ntmps38
  go_wp2_with fail
  go_ret
  refine ⟨?_, trivial, HF.out⟩
  simp
theorem own_vv {w : World} {base base' T T' : Nat} {v v' : Value} {xs ys : List Value} (h : OwnV w base T v xs) (h' : OwnV w base' T' v' ys) (hT : T ≠ T') : ∀ g, v.ownBlock = some g → v'.ownBlock ≠ some g := by
  intro g hg hg'
  rcases h'.form with ⟨h1, h2⟩ | ⟨g', c, rest, h1, hb, hB, hc, hm⟩
  · rw [h1] at hg'; cases hg'
  · rw [h1] at hg'
    injection hg' with hg'
    subst hg'
    exact ownv_ne h hB hT hg rfl
theorem RdV.toRd {w : World} {A : Option Addr} {xs : List Int} (h : RdV w A (xs.map (Value.int .i64))) : Rd w .i64 A xs := fun i hi => by
  obtain ⟨b, off, hA, hc⟩ := h i (by rw [List.length_map]; exact hi)
  refine ⟨b, off, hA, ?_⟩
  rw [hc, List.getElem?_map, List.getElem?_eq_getElem hi, List.getD_eq_getElem?_getD, List.getElem?_eq_getElem hi]
  rfl
theorem gates_top : (gatesF 65536).length = 4456448 := by
  have h := gates_count (e := 16) (by omega)
  have e1 : ((2 ^ 16 : Nat) : Int) = 65536 := by decide
  rw [e1] at h
  have e2 : 2 ^ 16 * 16 * (16 + 1) = 17825792 := by decide
  omega
theorem pad_top : padF 65536 = 65536 := by decide +kernel
def prb : List Int := [-9223372036854775808, 65535, 65537, 1099511627776, 9223372036854775807]
theorem probes : ∀ i, i < 5 → let z := prb.getD i 0; ((padF z = 0 ∧ z ≠ 65535) ∨ (z = 65535 ∧ padF z = 65536)) ∧ gatesF z = [] ∧ layersF z = [] ∧ R64 z := by
  intro i hi
  have hs : ∀ z : Int, sizeB z = false → gatesF z = [] ∧ layersF z = [] := fun z h => by
    have : layersF z = [] := by unfold layersF; rw [h]; rfl
    exact ⟨by unfold gatesF; rw [this]; rfl, this⟩
  match i, hi with
  | 0, _ => exact ⟨.inl ⟨by decide +kernel, by decide⟩, (hs _ (by decide +kernel)).1, (hs _ (by decide +kernel)).2, by unfold R64; decide⟩
  | 1, _ => exact ⟨.inr ⟨rfl, by decide +kernel⟩, (hs _ (by decide +kernel)).1, (hs _ (by decide +kernel)).2, by unfold R64; decide⟩
  | 2, _ => exact ⟨.inl ⟨by decide +kernel, by decide⟩, (hs _ (by decide +kernel)).1, (hs _ (by decide +kernel)).2, by unfold R64; decide⟩
  | 3, _ => exact ⟨.inl ⟨by decide +kernel, by decide⟩, (hs _ (by decide +kernel)).1, (hs _ (by decide +kernel)).2, by unfold R64; decide⟩
  | 4, _ => exact ⟨.inl ⟨by decide +kernel, by decide⟩, (hs _ (by decide +kernel)).1, (hs _ (by decide +kernel)).2, by unfold R64; decide⟩
theorem asked_five : (shF (lvL (fun k => decide (90 < ([97, 66, 99, 68, 101] : List Int).getD k 0)) 5)).map (fun p => ([97, 66, 99, 68, 101] : List Int).getD p 0) = [97, 99, 101, 68, 66] := by decide +kernel

set_option maxHeartbeats 16000000 in
theorem known_law (w : World) : Calls Try.prog 11 #[] w fun e w' => e = .returned (.bool true) ∧ Below w.heap.size w w' := by
  go_enter Try.func11, Try.ntmps11
  go_wp2_with fail
  go_loopw [1] (fun nv wr => ∃ n : Nat, nv = .int .i64 (n : Int) ∧ 1 ≤ n ∧ n ≤ 16 ∧ Hid (Below w.heap.size w wr)) (fun nv _ => 16 - (intOf nv).toNat)
  case atStart => exact ⟨1, rfl, by omega, by omega, Lib.hid (Below.refl _ _)⟩
  case round =>
    obtain ⟨n, rfl, h1, h16, HB⟩ := hrel
    by_cases hn8 : n ≤ 8
    · have hn8' : (n : Int) ≤ 8 := by omega
      have m1 : IntKind.i64.wrap (2 * (n : Int)) = ((2 * n : Nat) : Int) := by rw [IntKind.wrap_i64] <;> omega
      go_wp2_with fail
      go_loopw [2] (fun bv wr => ∃ b : Nat, bv = .int .i64 (b : Int) ∧ b ≤ 256 ∧ Hid (Below w.heap.size w wr)) (fun bv _ => 256 - (intOf bv).toNat)
      case atStart => exact ⟨0, rfl, by omega, HB⟩
      case round =>
        clear HB
        obtain ⟨b, rfl, hb, HB⟩ := hrel
        have HSH : Hid (∃ M : Nat, wrap64 ((2 : Int) ^ n) = (M : Int) ∧ M ≤ 256) := Lib.hid ⟨2 ^ n, by
          have hp : 2 ^ n ≤ 2 ^ 8 := Nat.pow_le_pow_right (by omega) hn8
          have e : (2 : Int) ^ n = ((2 ^ n : Nat) : Int) := by push_cast; rfl
          rw [e]
          generalize 2 ^ n = M at *
          rw [IntWalk.wrap64_in _ (by omega)], Nat.le_trans (Nat.pow_le_pow_right (by omega) hn8) (by decide)⟩
        obtain ⟨M, hsh, hM⟩ := HSH.out
        have hu : IntKind.u64.wrap (n : Int) = (n : Int) := by rw [IntKind.wrap_u64] <;> omega
        by_cases hbM : b < M
        · have hbM' : (b : Int) < (M : Int) := by omega
          have m2 : IntKind.i64.wrap ((b : Int) + 1) = ((b + 1 : Nat) : Int) := by rw [IntKind.wrap_i64] <;> omega
          have O0 : Hid (OwnV wr w.heap.size 3 (.slice none 0 0) (([] : List Int).map (Value.int .i64)) ∧ OwnV wr w.heap.size 4 (.slice none 0 0) (([] : List Bool).map Value.bool)) := Lib.hid ⟨OwnV.nil _ _ _, OwnV.nil _ _ _⟩
          set_option maxRecDepth 10000 in
          go_wp2_with fail
          rw [hsh]
          clear hsh HSH
          go_loopw [3, 4, 5] (fun lv vv iv wr => ∃ (i : Nat) (xs : List Int) (L : List Bool) (A B : Option Addr) (c d : Nat), iv = .int .i64 (i : Int) ∧ i ≤ n ∧ lv = .slice A i c ∧ vv = .slice B i d ∧ Hid (OwnV wr w.heap.size 3 (.slice A i c) (xs.map (Value.int .i64)) ∧ OwnV wr w.heap.size 4 (.slice B i d) (L.map Value.bool) ∧ xs.length = i ∧ L.length = i ∧ (∀ k, R64 (xs.getD k 0))) ∧ Hid (Below w.heap.size w wr)) (fun _ _ iv _ => n - (intOf iv).toNat)
          case atStart => exact ⟨0, [], [], none, none, 0, 0, rfl, by omega, rfl, rfl, Lib.hid ⟨O0.out.1, O0.out.2, rfl, rfl, fun k => by simp [R64]⟩, HB⟩
          case round =>
            clear O0 HB
            obtain ⟨i, xs, L, A, B, c, d, rfl, hi, rfl, rfl, HO, HB⟩ := hrel
            by_cases hin : i < n
            · have hin' : (i : Int) < (n : Int) := by omega
              have m3 : IntKind.i64.wrap ((i : Int) + 1) = ((i + 1 : Nat) : Int) := by rw [IntKind.wrap_i64] <;> omega
              have hui : IntKind.u64.wrap (i : Int) = (i : Int) := by rw [IntKind.wrap_u64] <;> omega
              have HBY : Hid (w.heap.size ≤ wr.heap.size ∧ i ≤ 16) := Lib.hid ⟨HB.out.size, by omega⟩
              obtain ⟨r, hr, hr0, hr1⟩ : ∃ r : Int, ((b : Int) / 2 ^ i).tmod 2 = r ∧ 0 ≤ r ∧ r ≤ 1 := by
                have hq : 0 ≤ (b : Int) / 2 ^ i := Int.ediv_nonneg (by omega) (Int.le_of_lt (Int.pow_pos (by decide)))
                generalize (b : Int) / 2 ^ i = q at hq
                refine ⟨_, rfl, ?_⟩
                rw [Int.tmod_eq_emod_of_nonneg hq]
                omega
              have HR01 : Hid (0 ≤ r ∧ r ≤ 1) := Lib.hid ⟨hr0, hr1⟩
              clear hr0 hr1
              set_option maxRecDepth 10000 in
              go_wp2_with (first
                | (show wpList _ _ _ ({ dst := some 33, op := _, type := _, pos := _, after := _, guard := _ } :: _) _ _; refine wpList_pushV wr rfl _ _ 39 rfl w.heap.size 3 (.int .i64 0) 8 Try.underlying39 info3 rfl (.int .i64 r) rfl rfl _ (xs.map (Value.int .i64)) rfl rfl HO.out.1 (by have := HBY.out.2; have := HO.out.2.2.1; simp; omega) (by decide) HBY.out.1 ?_; intro v1 w1 ho hp; have O1 := Lib.hid ho; have P1 := Lib.hid hp; have O2 : Hid (OwnV w1 w.heap.size 4 (.slice B i d) (L.map Value.bool) ∧ w.heap.size ≤ w1.heap.size) := Lib.hid ⟨HO.out.2.1.fr hp.fr (fun g hg hg2 => own_vv HO.out.2.1 HO.out.1 (by decide) g hg hg2), Nat.le_trans HBY.out.1 hp.fr.size⟩; clear ho hp)
                | (show wpList _ _ _ ({ dst := some 42, op := _, type := _, pos := _, after := _, guard := _ } :: _) _ _; refine wpList_pushV w1 rfl _ _ 59 rfl w.heap.size 4 (.bool false) 1 Try.underlying59 info4 rfl (.bool (r == 1)) rfl rfl _ (L.map Value.bool) rfl rfl O2.out.1 (by have := HBY.out.2; have := HO.out.2.2.2.1; simp; omega) (by decide) O2.out.2 ?_; intro v2 w2 ho hp; have O3 := Lib.hid ho; have O4 := Lib.hid (O1.out.fr hp.fr (fun g hg hg2 => own_vv O1.out O2.out.1 (by decide) g hg hg2)); have HB2 : Hid (Below w.heap.size w w2) := Lib.hid ((HB.out.trans (P1.out.fr.below HBY.out.1 (fun g hg => (HO.out.1.base_le hg).1))).trans (hp.fr.below O2.out.2 (fun g hg => (O2.out.1.base_le hg).1))); clear ho hp))
              obtain ⟨A', c', hv1, -⟩ := O4.out.slice
              obtain ⟨B', d', hv2, -⟩ := O3.out.slice
              have hv1' : v1 = .slice A' (i + 1) c' := by rw [hv1]; congr 1; have := HO.out.2.2.1; simp; omega
              have hv2' : v2 = .slice B' (i + 1) d' := by rw [hv2]; congr 1; have := HO.out.2.2.2.1; simp; omega
              clear hv1 hv2
              subst hv1' hv2'
              have HO2 : Hid (OwnV w2 w.heap.size 3 (.slice A' (i + 1) c') ((xs ++ [r]).map (Value.int .i64)) ∧ OwnV w2 w.heap.size 4 (.slice B' (i + 1) d') ((L ++ [r == 1]).map Value.bool) ∧ (xs ++ [r]).length = i + 1 ∧ (L ++ [r == 1]).length = i + 1 ∧ (∀ k, R64 ((xs ++ [r]).getD k 0))) := Lib.hid ⟨by rw [List.map_append]; exact O4.out, by rw [List.map_append]; exact O3.out, by have := HO.out.2.2.1; simp; omega, by have := HO.out.2.2.2.1; simp; omega, fun k => by
                have h := HO.out.2.2.2.2 k
                rw [List.getD_eq_getElem?_getD] at h ⊢
                rw [List.getElem?_append]
                split
                · exact h
                · have := HR01.out
                  rw [List.getElem?_singleton]
                  split
                  · show R64 r; unfold R64; omega
                  · show R64 0; unfold R64; omega⟩
              go_roundw
              case rel => exact ⟨i + 1, _, _, A', B', c', d', by simp, by omega, rfl, rfl, HO2, HB2⟩
              case measure => simp [intOf]; omega
            · obtain rfl : n = i := by omega
              have hge : decide ((n : Int) < (n : Int)) = false := by simp
              have HA : Hid (n = xs.length ∧ Rd wr .i64 A xs ∧ n = L.length ∧ RdV wr B (L.map Value.bool) ∧ (∀ k, R64 (xs.getD k 0))) := Lib.hid (by
                obtain ⟨h1, h2, h3, h4, h5⟩ := HO.out
                obtain ⟨A', c', hv, -, -, hr, -⟩ := h1.slice
                injection hv with q1 q2 q3
                subst q1
                obtain ⟨B', d', hv', -, -, hr', -⟩ := h2.slice
                injection hv' with q1 q2 q3
                subst q1
                exact ⟨h3.symm, RdV.toRd hr, h4.symm, hr', h5⟩)
              have HT : Hid (n - 1 = (L.take (n - 1)).length ∧ RdV wr B ((L.take (n - 1)).map Value.bool)) := Lib.hid ⟨by have := HA.out.2.2.1; rw [List.length_take]; omega, fun j hj => by
                have h4 := HA.out.2.2.2.1
                rw [List.length_map, List.length_take] at hj
                obtain ⟨b', o', hB, hc⟩ := h4 j (by rw [List.length_map]; omega)
                refine ⟨b', o', hB, hc.trans ?_⟩
                rw [List.getElem?_map, List.getElem?_map, List.getElem?_take, if_pos (by omega)]⟩
              have HBQ : Hid (∃ bb oo, B = some ⟨bb, oo, none⟩) := Lib.hid (by obtain ⟨b', o', h, -⟩ := HA.out.2.2.2.1 0 (by rw [List.length_map]; have := HA.out.2.2.1; omega); exact ⟨b', o', h⟩)
              have HD : Hid (n ≤ d) := Lib.hid (by obtain ⟨B', d', hv, h, -⟩ := HO.out.2.1.slice; injection hv with q1 q2 q3; omega)
              clear HO
              obtain ⟨bb, oo, rfl⟩ := HBQ.out
              have hd := HD.out
              have m4 : IntKind.i64.wrap ((n : Int) - 1) = ((n - 1 : Nat) : Int) := by rw [IntKind.wrap_i64] <;> omega
              have e1 : ((n : Int) - 1) = ((n - 1 : Nat) : Int) := by omega
              set_option maxRecDepth 10000 in
              go_wp2_with fail
              refine (sorts_law A n c xs 2 wr HA.out.1 HA.out.2.1 (by have := HA.out.1; omega) HA.out.2.2.2.2 (by unfold R64; omega)).mono ?_
              rintro e wa ⟨rfl, ha⟩
              have HA1 := Lib.hid ha
              clear ha
              set_option maxRecDepth 10000 in
              go_wp2_with fail
              refine (gathers_law _ n d L wa HA.out.2.2.1 (HA.out.2.2.2.1.below HA1.out) (by omega)).mono ?_
              rintro e wb ⟨rfl, ha⟩
              have HA2 := Lib.hid (HA1.out.trans (ha.mono HA1.out.size))
              clear ha
              set_option maxRecDepth 10000 in
              go_wp2_with fail
              refine (gathers_law _ (n - 1) d (L.take (n - 1)) wb HT.out.1 (HT.out.2.below HA2.out) (by omega)).mono ?_
              rintro e wc ⟨rfl, ha⟩
              have HA3 := Lib.hid (HA2.out.trans (ha.mono HA2.out.size))
              clear ha
              set_option maxRecDepth 10000 in
              go_wp2_with fail
              refine (shifts_law A n c xs wc HA.out.1 (HA.out.2.1.below HA3.out) (by have := HA.out.1; omega) HA.out.2.2.2.2).mono ?_
              rintro e wd ⟨rfl, ha⟩
              have HB4 := Lib.hid (HB.out.trans ((HA3.out.trans (ha.mono HA3.out.size)).mono HB.out.size))
              clear ha
              set_option maxRecDepth 10000 in
              go_wp2_with fail
              go_roundw
              case rel => exact ⟨b + 1, by simp, by omega, HB4⟩
              case measure => simp [intOf]; omega
        · have hge : decide ((b : Int) < (M : Int)) = false := by simp; omega
          set_option maxRecDepth 10000 in
          go_wp2_with fail
          go_roundw
          case rel => exact ⟨2 * n, by simp, by omega, by omega, HB⟩
          case measure => simp [intOf]; omega
    · have hgt : decide ((n : Int) ≤ 8) = false := by simp; omega
      obtain ⟨wP, hwP⟩ : ∃ wP : World, wP = wr := ⟨_, rfl⟩
      subst hwP
      go_wp2_with fail
      go_loopw [6] (fun vv wr => ∃ z : Int, vv = .int .i64 z ∧ -1 ≤ z ∧ z ≤ 71 ∧ Hid (Below w.heap.size w wr)) (fun vv _ => (71 - intOf vv).toNat)
      case atStart => exact ⟨-1, rfl, by omega, by omega, HB⟩
      case round =>
        clear HB
        obtain ⟨z, rfl, hz1, hz2, HB⟩ := hrel
        by_cases hz : z ≤ 70
        · have hz' : decide (z ≤ 70) = true := by simpa using hz
          have m1 : IntKind.i64.wrap (z + 1) = z + 1 := by rw [IntKind.wrap_i64] <;> omega
          have HZ : Hid (-9223372036854775808 ≤ z ∧ z ≤ 9223372036854775807) := Lib.hid (by omega)
          go_wp2_with fail
          refine (gates_law z z wr HZ.out HZ.out).mono ?_
          rintro e wa ⟨rfl, ha⟩
          have HA1 := Lib.hid (HB.out.trans (ha.mono HB.out.size))
          clear ha
          go_wp2_with fail
          refine (hops_law z z wa HZ.out HZ.out).mono ?_
          rintro e wb ⟨rfl, ha⟩
          have HA2 := Lib.hid (HA1.out.trans (ha.mono HA1.out.size))
          clear ha
          go_wp2_with fail
          refine (layers_law z wb HZ.out).mono ?_
          rintro e wc ⟨rfl, ha⟩
          have HA3 := Lib.hid (HA2.out.trans (ha.mono HA2.out.size))
          clear ha
          go_wp2_with fail
          refine (sizes_law z wc HZ.out).mono ?_
          rintro e wd ⟨rfl, ha⟩
          have HA4 := Lib.hid (HA3.out.trans (ha.mono HA3.out.size))
          clear ha
          go_wp2_with fail
          go_roundw
          case rel => exact ⟨z + 1, by simp, by omega, by omega, HA4⟩
          case measure => simp [intOf]; omega
        · have hz' : decide (z ≤ 70) = false := by simpa using hz
          clear hz1 hz2 hz
          have HK : Hid (Blk (wr.alloc (.cells #[.int .i64 (-9223372036854775808), .int .i64 65535, .int .i64 65537, .int .i64 1099511627776, .int .i64 9223372036854775807] 3)) wr.heap.size 3 (prb.map (Value.int .i64))) := Lib.hid (Blk.new wr 3 _)
          have HBA := Lib.hid (HB.out.alloc HB.out.size (.cells #[.int .i64 (-9223372036854775808), .int .i64 65535, .int .i64 65537, .int .i64 1099511627776, .int .i64 9223372036854775807] 3))
          clear HB
          go_upto_region 22 with fail
          generalize wr.alloc (.cells #[.int .i64 (-9223372036854775808), .int .i64 65535, .int .i64 65537, .int .i64 1099511627776, .int .i64 9223372036854775807] 3) = wQ at *
          generalize wr.heap.size = P at *
          go_wp2_with fail
          go_loopw [8] (fun iv wr => ∃ i : Nat, iv = .int .i64 (i : Int) ∧ i ≤ 5 ∧ Hid (Blk wr P 3 (prb.map (Value.int .i64))) ∧ Hid (Below w.heap.size w wr)) (fun iv _ => 5 - (intOf iv).toNat)
          case atStart => exact ⟨0, rfl, by omega, HK, HBA⟩
          case round =>
            clear HK HBA
            obtain ⟨i, rfl, hi, HK, HB⟩ := hrel
            by_cases hi5 : i < 5
            · have hi5' : (i : Int) < 5 := by omega
              have m1 : IntKind.i64.wrap ((i : Int) + 1) = ((i + 1 : Nat) : Int) := by rw [IntKind.wrap_i64] <;> omega
              have HPR := Lib.hid (probes i hi5)
              have HPL : Hid (prb.length = 5) := Lib.hid rfl
              obtain ⟨z, hzz⟩ : ∃ z, z = prb.getD i 0 := ⟨_, rfl⟩
              have hcz : wr.cell? ⟨P, i, none⟩ = some (.int .i64 z) := by rw [HK.out.cell, List.getElem?_map, hzz, List.getD_eq_getElem?_getD, List.getElem?_eq_getElem (by rw [HPL.out]; exact hi5)]; rfl
              have HLT : Hid (P < wr.heap.size) := Lib.hid HK.out.lt
              have HP1 : Hid ((padF z = 0 ∧ z ≠ 65535) ∨ (z = 65535 ∧ padF z = 65536)) := Lib.hid (by rw [hzz]; exact HPR.out.1)
              have HP2 : Hid (gatesF z = [] ∧ layersF z = [] ∧ R64 z) := Lib.hid (by rw [hzz]; exact HPR.out.2)
              clear hzz HPR
              have HPA := Lib.hid (fun W => pad_any z W)
              have HGA : Hid (∀ W, Calls Try.prog 14 #[.int .i64 z] W fun e w' => e = .returned (.int .i64 0) ∧ w' = W) := Lib.hid (fun W => by have h := gates_any z W; rw [HP2.out.1] at h; exact h)
              have HLA : Hid (∀ W, Calls Try.prog 31 #[.int .i64 z] W fun e w' => ∃ A c, e = .returned (.slice A 0 c) ∧ Below W.heap.size W w') := Lib.hid (fun W => (layers_any z W).mono (by
                rintro e w' ⟨v, cs, rfl, hl, hb⟩
                obtain ⟨A, c, hv, -⟩ := hl.rd
                rw [HP2.out.2.1] at hv
                exact ⟨A, c, by rw [hv]; rfl, hb⟩))
              rcases HP1.out with ⟨hp, hne⟩ | ⟨rfl, hp⟩
              · have hpb := HPA.out
                rw [hp] at hpb
                have HPB := Lib.hid hpb
                clear hpb hp
                have hzn : (z != 65535) = true := by simpa using hne
                clear hne
                go_wp2_with fail
                refine (HPB.out wr).mono ?_
                rintro e wa ⟨rfl, ha⟩
                obtain rfl : wr = wa := ha.symm
                go_wp2_with fail
                refine (HGA.out wr).mono ?_
                rintro e wa ⟨rfl, ha⟩
                obtain rfl : wr = wa := ha.symm
                go_wp2_with fail
                refine (HLA.out wr).mono ?_
                rintro e wa ⟨A, c, rfl, ha⟩
                have hcz2 : wa.cell? ⟨P, i, none⟩ = some (.int .i64 z) := (ha.cell (p := ⟨P, i, none⟩) HLT.out).trans hcz
                have HB2 := Lib.hid (HB.out.trans (ha.mono HB.out.size))
                have HK2 := Lib.hid (HK.out.below ha HLT.out)
                clear hcz ha
                set_option maxRecDepth 10000 in
                go_wp2_with fail
                refine (hops_law z 1 wa HP2.out.2.2 (by omega)).mono ?_
                rintro e wb ⟨rfl, ha⟩
                have HB3 := Lib.hid (HB2.out.trans (ha.mono HB2.out.size))
                have HK3 := Lib.hid (HK2.out.below ha HK2.out.lt)
                clear ha
                set_option maxRecDepth 10000 in
                go_wp2_with fail
                go_roundw
                case rel => exact ⟨i + 1, by simp, by omega, HK3, HB3⟩
                case measure => simp [intOf]; omega
              · have hpb := HPA.out
                rw [hp] at hpb
                have HPB := Lib.hid hpb
                clear hpb hp
                set_option maxRecDepth 10000 in
                go_wp2_with fail
                refine (HPB.out wr).mono ?_
                rintro e wa ⟨rfl, ha⟩
                obtain rfl : wr = wa := ha.symm
                set_option maxRecDepth 10000 in
                go_wp2_with fail
                refine (HGA.out wr).mono ?_
                rintro e wa ⟨rfl, ha⟩
                obtain rfl : wr = wa := ha.symm
                set_option maxRecDepth 10000 in
                go_wp2_with fail
                refine (HLA.out wr).mono ?_
                rintro e wa ⟨A, c, rfl, ha⟩
                have hcz2 : wa.cell? ⟨P, i, none⟩ = some (.int .i64 65535) := (ha.cell (p := ⟨P, i, none⟩) HLT.out).trans hcz
                have HB2 := Lib.hid (HB.out.trans (ha.mono HB.out.size))
                have HK2 := Lib.hid (HK.out.below ha HLT.out)
                clear hcz ha
                set_option maxRecDepth 10000 in
                go_wp2_with fail
                go_roundw
                case rel => exact ⟨i + 1, by simp, by omega, HK2, HB2⟩
                case measure => simp [intOf]; omega
            · obtain rfl : i = 5 := by omega
              clear HK
              obtain ⟨wS, hwS⟩ : ∃ wS : World, wS = wr := ⟨_, rfl⟩
              subst hwS
              have HV : Hid (Blk (wS.alloc (.cells #[.int .i64 97, .int .i64 66, .int .i64 99, .int .i64 68, .int .i64 101] 3)) wS.heap.size 3 (([97, 66, 99, 68, 101] : List Int).map (Value.int .i64))) := Lib.hid (Blk.new wS 3 _)
              have HBT := Lib.hid (HB.out.alloc HB.out.size (.cells #[.int .i64 97, .int .i64 66, .int .i64 99, .int .i64 68, .int .i64 101] 3))
              clear HB
              go_wp2_with fail
              generalize wS.alloc (.cells #[.int .i64 97, .int .i64 66, .int .i64 99, .int .i64 68, .int .i64 101] 3) = wT at *
              generalize wS.heap.size = P2 at *
              refine (shift_any 38 #[] (fun k => decide (90 < ([97, 66, 99, 68, 101] : List Int).getD k 0)) (some ⟨P2, 0, none⟩) 5 5 [97, 66, 99, 68, 101] wT (fun _ => False) (fun _ _ _ => True) rfl (RdV.toRd (fun j hj => ⟨P2, 0, rfl, by rw [Nat.zero_add]; exact HV.out.cell j⟩)) (by omega) (fun args w => rfl) (after_asks _ _) (fun _ _ _ => trivial) (fun _ _ h => h)).mono ?_
              rintro e wU ⟨v, hi', rfl, ho, -, hf, -, -⟩
              rw [asked_five] at ho
              obtain ⟨A9, c9, rfl, -, -, hr9, -⟩ := ho.slice
              have HBU := Lib.hid (HBT.out.trans (hf.below (B := w.heap.size) HBT.out.size (fun _ h => h.elim)))
              have HR9 := Lib.hid hr9
              clear ho hf hr9
              have HV2 : Hid (Blk (wU.alloc (.cells #[.int .i64 97, .int .i64 99, .int .i64 101, .int .i64 68, .int .i64 66] 3)) wU.heap.size 3 (([97, 99, 101, 68, 66] : List Int).map (Value.int .i64))) := Lib.hid (Blk.new wU 3 _)
              have HBV := Lib.hid (HBU.out.alloc HBU.out.size (.cells #[.int .i64 97, .int .i64 99, .int .i64 101, .int .i64 68, .int .i64 66] 3))
              have HR8 : Hid (Rd (wU.alloc (.cells #[.int .i64 97, .int .i64 99, .int .i64 101, .int .i64 68, .int .i64 66] 3)) .i64 A9 [97, 99, 101, 68, 66]) := Lib.hid (HR9.out.below ((Below.refl _ wU).alloc (Nat.le_refl _) _))
              go_wp2_with fail
              refine (eqi_same A9 (some ⟨wU.heap.size, 0, none⟩) 5 5 c9 5 [97, 99, 101, 68, 66] _ rfl rfl HR8.out (RdV.toRd (fun j hj => ⟨wU.heap.size, 0, rfl, by rw [Nat.zero_add]; exact HV2.out.cell j⟩)) (by decide)).mono ?_
              rintro e wW ⟨rfl, ha⟩
              have HBW := Lib.hid (HBV.out.trans (ha.out.mono HBV.out.size))
              clear ha
              have HPT : Hid (Calls Try.prog 17 #[.int .i64 65536] wW fun e w' => e = .returned (.int .i64 65536) ∧ w' = wW) := Lib.hid (by have h := pad_any 65536 wW; rw [pad_top] at h; exact h)
              have HGT : Hid (Calls Try.prog 14 #[.int .i64 65536] wW fun e w' => e = .returned (.int .i64 4456448) ∧ w' = wW) := Lib.hid (by have h := gates_any 65536 wW; rw [gates_top] at h; exact h)
              go_wp2_with fail
              refine HPT.out.mono ?_
              rintro e wa ⟨rfl, ha⟩
              obtain rfl : wW = wa := ha.symm
              go_wp2_with fail
              refine HGT.out.mono ?_
              rintro e wa ⟨rfl, ha⟩
              obtain rfl : wW = wa := ha.symm
              go_wp2_with fail
              go_ret
              exact ⟨rfl, HBW.out⟩
end Go.Proofs.Ytpglocgfdonmaaa

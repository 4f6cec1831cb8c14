/-
  Walk: Apart: lists of bytes in blocks of their own are found apart.
-/
import Derived.Test.YtcfbaildcocnhaaAr
import Derived.Test.YtcfbaildcocnhaaHb
import Derived.StillTailTactics
set_option linter.unusedVariables false
set_option linter.unusedSimpArgs false
namespace Go.Proofs.Ytcfbaildcocnhaa
open Go.RowKit

theorem infoBT : (Try.prog.info? 75).map (fun i => (i.zero, i.size, i.bytes)) = some (some (.slice none 0 0), 1, 24) := by kernel_rfl
def rmk (i k : Nat) : Int := IntKind.u8.wrap ((i : Int) * 31 + (k : Int) * 7 + 1)
def mmv : Nat → Nat → Int := rmk
def ggv : Nat → Nat → Nat → Int := fun i n q => rmk i (n + q)

theorem mark_any (i k : Nat) (w : World) (hi : i ≤ 1000000000) (hk : k ≤ 140737488355328) : Calls Try.prog 67 #[.int .i64 i, .int .i64 k] w fun e w' => e = .returned (.int .u8 (rmk i k)) ∧ w' = w := by
  have hw1 : IntKind.i64.wrap ((i : Int) * 31) = (i : Int) * 31 := by simp [IntKind.wrap, IntKind.bits, IntKind.signed]; omega
  have hw2 : IntKind.i64.wrap ((k : Int) * 7) = (k : Int) * 7 := by simp [IntKind.wrap, IntKind.bits, IntKind.signed]; omega
  have hw3 : IntKind.i64.wrap ((i : Int) * 31 + (k : Int) * 7) = (i : Int) * 31 + (k : Int) * 7 := by simp [IntKind.wrap, IntKind.bits, IntKind.signed]; omega
  have hw4 : IntKind.i64.wrap ((i : Int) * 31 + (k : Int) * 7 + 1) = (i : Int) * 31 + (k : Int) * 7 + 1 := by simp [IntKind.wrap, IntKind.bits, IntKind.signed]; omega
  have hw5 : IntKind.u8.wrap ((i : Int) * 31 + (k : Int) * 7 + 1) = rmk i k := rfl
  go_enter Try.func67, Try.ntmps67
  go_wp2_with fail
  go_ret
  exact ⟨rfl, rfl⟩

theorem quiet_at {P : Program} {f : FuncId} {args : Array Value} {w : World} {y x : Nat} {v : Value} (h : Calls P f args (w.drewN (y + x)) fun e w' => e = .returned v ∧ w' = w.drewN (y + x)) :
    Calls P f args (w.drewN (y + x)) fun e w'' => e = .returned v ∧ ∃ n, w'' = w.drewN (y + n) := h.mono fun _ _ ⟨he, hm⟩ => ⟨he, x, hm⟩

set_option maxRecDepth 100000 in
set_option maxHeartbeats 16000000 in
theorem apart_any (base G N c : Nat) (vs : Nat → Value) (len : Nat → Nat) (X : Nat → List Int) (w : World) (hN : N ≤ 1000000000) (hX : ∀ j, j < N → (X j).length = len j) (hR : ∀ j, j < N → Own w base 5 .u8 (vs j) (X j)) (hD : Dist N vs)
    (hG : ∀ j, j < N → (vs j).ownBlock ≠ some G) (hall : ∀ j, j < N → w.cell? ⟨G, j, none⟩ = some (vs j)) (hb : base ≤ w.heap.size) (hlen : ∀ j, j < N → len j + 71 ≤ 140737488355328) :
    Calls Try.prog 42 #[.slice (some ⟨G, 0, none⟩) N c] w fun e w' => e = .returned (.bool true) ∧ Fr (Blks N vs) w w' := by
  have H1 := Lib.hid (Rw1.start (mm := mmv) hX hR)
  have HA := Lib.hid hall
  have HG := Lib.hid hG
  have HD := Lib.hid hD
  have HL := Lib.hid hlen
  have HB := Lib.hid hb
  clear hall hG hD hlen hR hX hb
  go_enter Try.func42, Try.ntmps42
  go_wp2_with fail
  go_loopw [3] (fun i wr => ∃ k : Nat, k ≤ N ∧ i = .int .i64 k ∧ Hid (Rw1 mmv base N vs len w wr k 0)) (fun i _ => N - (intOf i).toNat)
  case atStart => exact ⟨0, Nat.zero_le _, rfl, H1⟩
  case round =>
    clear H1
    obtain ⟨k, hk, rfl, H⟩ := hrel
    by_cases hlt : k < N
    · obtain ⟨A, cc, hv, hlc, hcm⟩ := H.out.row hlt
      have hcell := H.out.all HG.out HA.out hlt
      rw [hv] at hcell
      have HV := Lib.hid hv
      have hlk : len k ≤ 140737488355328 := by have := HL.out k hlt; omega
      clear hv
      go_wp2_with fail
      go_loopw [4] (fun q wx => ∃ p : Nat, p ≤ len k ∧ q = .int .i64 p ∧ Hid (Rw1 mmv base N vs len w wx k p)) (fun q _ => len k - (intOf q).toNat)
      case atStart => exact ⟨0, Nat.zero_le _, rfl, H⟩
      case round =>
        clear hcell
        obtain ⟨p, hp, rfl, HH⟩ := hrel
        by_cases hlp : p < len k
        · obtain ⟨g, c3, y, hv2, hcp, hfz⟩ := HH.out.cell hlt hlp
          have hcell := HH.out.all HG.out HA.out hlt
          rw [hv2] at hcell
          have HV2 := Lib.hid hv2
          have HM := Lib.hid (mark_any k p)
          clear hv2
          go_wp2_with fail
          refine wp_region_still_tail 9 (by kernel_rfl) (by kernel_rfl) ?_
          simp only [List.take_succ_cons, List.take_zero, List.drop_succ_cons, List.drop_zero]
          still_step
          still_step
          still_step
          still_step
          still_step
          still_step
          still_step
          refine wpStill_step (fun K hK => ?_)
          go_simp
          refine ⟨_, HM.out _ (by omega) (by omega), hK _ ?_⟩
          clear hK K
          still_step
          refine wpStill_nil ?_
          change wpList _ _ _ _ _ wr.drew
          have hcp' : wr.drew.cell? ⟨g, p, none⟩ = some (.int .u8 y) := hcp
          have hfz' : wr.drew.frozen? ⟨g, p, none⟩ = false := hfz
          have HS := Lib.hid (HH.out.drew.set HD.out hlt HV2.out hlp)
          clear hcp hfz hcell HH
          revert hcp' hfz' HS
          generalize wr.drew = w2
          intro hcp' hfz' HS
          go_wp2_with fail
          go_roundw
          case rel => exact ⟨p + 1, by omega, by go_num, HS⟩
          case measure => simp [intOf]; omega
        · have HE := Lib.hid (HH.out.next hlt (show p = len k by omega))
          have hcell := HH.out.all HG.out HA.out hlt
          rw [HV.out] at hcell
          have hge : decide ((p : Int) < (len k : Int)) = false := by simp; omega
          go_wp2_with fail
          go_roundw
          case rel => exact ⟨k + 1, by omega, by go_num, HE⟩
          case measure => simp [intOf]; omega
    · have hge : decide ((k : Int) < (N : Int)) = false := by simp; omega
      have h2 := Rw2.start (gg := ggv) 70 75 (show N ≤ k by omega) H.out HB.out vs
      have hfr : Fr (Blks N vs) w wr := by obtain ⟨_, _, _, _, _, h⟩ := H.out; exact h
      have HW1 := Lib.hid hfr
      have H2 := Lib.hid h2
      have HA1 : Hid (∀ j, j < N → wr.cell? ⟨G, j, none⟩ = some (vs j)) := Lib.hid (fun j hj => H.out.all HG.out HA.out hj)
      have HBs : Hid (base ≤ wr.heap.size) := Lib.hid (Nat.le_trans HB.out hfr.size)
      clear h2 hfr H hk
      go_wp2_with fail
      obtain ⟨w1, hw1⟩ : ∃ w1, w1 = wr := ⟨_, rfl⟩
      rw [← hw1] at H2 HA1 HW1 HBs
      have H2' : Hid (Rw2 mmv ggv base N vs len 70 75 w1 wr 0 vs (.slice none 0 0)) := by rw [hw1] at H2 ⊢; exact H2
      clear H2 hw1
      go_loopw [5, 6] (fun long i wx => ∃ (k : Nat) (L : Nat → Value), k ≤ N ∧ i = .int .i64 k ∧ Hid (Rw2 mmv ggv base N vs len 70 75 w1 wx k L long)) (fun _ i _ => N - (intOf i).toNat)
      case atStart => exact ⟨0, vs, Nat.zero_le _, rfl, H2'⟩
      case round =>
        clear H2' hge hlt
        obtain ⟨k, L, hk, rfl, H⟩ := hrel
        by_cases hlt : k < N
        · have hcell : wr.cell? ⟨G, k, none⟩ = some (vs k) := by
            rw [World.cell?_of_block (w := w1) (w' := wr) (H.out.fr.block G (World.block_lt_of_cell? w1 _ (HA1.out k hlt)) (fun ⟨q, hq, he⟩ => HG.out q hq he))]
            exact HA1.out k hlt
          obtain ⟨wi, hwi⟩ : ∃ wi, wi = wr := ⟨_, rfl⟩
          have H3 : Hid (Rw3 mmv ggv base vs len wi wr k 0 (vs k)) := Lib.hid (by rw [hwi]; exact H.out.begin hlt)
          have HI := H
          rw [← hwi] at HI
          have HCI : Hid (wi.cell? ⟨G, k, none⟩ = some (vs k)) := Lib.hid (by rw [hwi]; exact hcell)
          have hlk : len k + 71 ≤ 140737488355328 := HL.out k hlt
          clear hwi H
          go_wp2_with fail
          go_loopw [7, 8] (fun l q wx => ∃ p : Nat, p ≤ 70 ∧ q = .int .i64 p ∧ Hid (Rw3 mmv ggv base vs len wi wx k p l)) (fun _ q _ => 70 - (intOf q).toNat)
          case atStart => exact ⟨0, Nat.zero_le _, rfl, H3⟩
          case round =>
            clear hcell H3
            obtain ⟨p, hp, rfl, HH⟩ := hrel
            by_cases hlp : p < 70
            · have HM := Lib.hid (mark_any k (len k + p))
              obtain ⟨Av, cv, hvj⟩ := HI.out.shp k hlt
              have hcell : wr.cell? ⟨G, k, none⟩ = some (.slice Av (len k) cv) := by
                rw [World.cell?_of_block (w := wi) (w' := wr) (HH.out.fr.block G (World.block_lt_of_cell? wi _ HCI.out) (fun e => HG.out k hlt e)), HCI.out, hvj]
              have hws : IntKind.i64.wrap ((len k : Int) + (p : Int)) = ((len k + p : Nat) : Int) := by simp [IntKind.wrap, IntKind.bits, IntKind.signed]; omega
              clear hvj
              have hby : (((ML mmv k (len k) ++ GL ggv k (len k) p).map (Value.int .u8)).length + 1) * 1 ≤ 140737488355328 := by simp [ML_len, GL_len]; omega
              have hbs : base ≤ wr.heap.size := Nat.le_trans HBs.out (Nat.le_trans HI.out.fr.size HH.out.fr.size)
              have HOV := Lib.hid HH.out.own.toV
              go_wp2_with fail
              refine (HM.out _ (by omega) (by omega)).mono ?_
              rintro e w' ⟨rfl, rfl⟩
              go_wp2_with (first | (at_builtin; refine wpList_pushV _ rfl _ _ 75 rfl base 5 (.int .u8 0) 1 Try.underlying75 info5 rfl _ rfl rfl _ _ rfl rfl HOV.out hby (by decide) hbs ?_; intro v' w2 hown2 hp2))
              have HN : Hid (Rw3 mmv ggv base vs len wi w2 k (p + 1) v') := Lib.hid (HH.out.push hown2.toOwn1 hp2 (fun g hg => Nat.lt_of_lt_of_le (HI.out.low k hlt g hg) HI.out.fr.size))
              clear hown2 hp2
              go_wp2_with fail
              go_roundw
              case rel => exact ⟨p + 1, by omega, by go_num, HN⟩
              case measure => simp [intOf]; omega
            · have hge : decide ((p : Int) < 70) = false := by simp; omega
              have HP : Hid (p = 70) := Lib.hid (by omega)
              obtain ⟨A3, c3, hl3, _⟩ := HH.out.own.slice
              obtain ⟨n3, hn3⟩ : ∃ n, n = (ML mmv k (len k) ++ GL ggv k (len k) p).length := ⟨_, rfl⟩
              rw [← hn3] at hl3
              subst hl3
              clear hn3
              have HLV := Lib.hid (HI.out.lngAt hlt HH.out)
              have hby : (((List.range k).map L).length + 1) * 24 ≤ 140737488355328 := by simp; omega
              have hbs : w1.heap.size ≤ wr.heap.size := Nat.le_trans HI.out.fr.size HH.out.fr.size
              go_wp2_with (first | (at_builtin; refine wpList_pushV _ rfl _ _ 86 rfl w1.heap.size 75 (.slice none 0 0) 24 Try.underlying86 infoBT rfl _ rfl rfl _ _ rfl rfl HLV.out hby (by decide) hbs ?_; intro v' w2 hown2 hp2))
              have HN : Hid (Rw2 mmv ggv base N vs len 70 75 w1 w2 (k + 1) _ v') := Lib.hid (HI.out.next HD.out hlt (by have := HH.out; rw [HP.out] at this; exact this) hown2 hp2)
              clear hown2 hp2
              go_wp2_with fail
              go_roundw
              case rel => exact ⟨k + 1, _, by omega, by go_num, HN⟩
              case measure => simp [intOf]; omega
        · obtain rfl : k = N := by omega
          obtain ⟨Al, cl, hlg, hlc⟩ := H.out.longAt
          subst hlg
          have HLC := Lib.hid hlc
          have hge : decide ((k : Int) < (k : Int)) = false := by simp
          have HAL : Hid (∀ j, j < k → wr.cell? ⟨G, j, none⟩ = some (vs j)) := Lib.hid (fun j hj => by
            rw [World.cell?_of_block (w := w1) (w' := wr) (H.out.fr.block G (World.block_lt_of_cell? w1 _ (HA1.out j hj)) (fun ⟨q, hq, he⟩ => HG.out q hq he))]
            exact HA1.out j hj)
          clear hlc HA1 HA
          go_wp2_with fail
          go_loopw [9] (fun i wx => ∃ j q : Nat, j ≤ k ∧ i = .int .i64 j ∧ wx = wr.drewN q) (fun i _ => k - (intOf i).toNat)
          case atStart => exact ⟨0, 0, Nat.zero_le _, rfl, rfl⟩
          case round =>
            clear hlt hge hk
            obtain ⟨j, q, hj, rfl, rfl⟩ := hrel
            by_cases hlt : j < k
            · obtain ⟨B, cB, hB, hrB⟩ := H.out.newAt hlt
              obtain ⟨b, off, rfl, hc1⟩ := HLC.out j hlt
              rw [hB] at hc1
              have HRB := Lib.hid hrB
              have hlk : len j + 71 ≤ 140737488355328 := HL.out j hlt
              obtain ⟨M, hM⟩ : ∃ M, M = len j + 70 := ⟨_, rfl⟩
              rw [← hM] at hc1
              have HMM := Lib.hid hM
              have hM63 : M ≤ 140737488355328 := by omega
              have HAJ := Lib.hid (HAL.out j hlt)
              have HOJ := Lib.hid (H.out.old j hlt)
              obtain ⟨Av, cv, hvj⟩ := H.out.shp j hlt
              rw [hvj] at HAJ HOJ
              clear hB hrB hM hvj
              go_wp2_with fail
              go_loopw [10] (fun p wx => ∃ x y : Nat, x ≤ M ∧ p = .int .i64 x ∧ wx = wr.drewN y) (fun p _ => M - (intOf p).toNat)
              case atStart => exact ⟨0, q, Nat.zero_le _, rfl, rfl⟩
              case round =>
                obtain ⟨x, y, hx, rfl, rfl⟩ := hrel
                have HMK := Lib.hid (mark_any j x)
                by_cases hlx : x < M
                · obtain ⟨b3, off3, z, rfl, hcz, HZ⟩ := HRB.out.at x (by rw [List.length_append, ML_len, GL_len]; have := HMM.out; omega)
                  have hcA := HAJ.out
                  have h3 : (rmk j x != rmk j x) = false := by simp
                  by_cases hlo : x < len j
                  · obtain ⟨b4, off4, z4, hAv, hc4, HZ4⟩ := HOJ.out.at x (by rw [ML_len]; exact hlo)
                    have hAv2 : Av = some ⟨b4, off4, none⟩ := hAv
                    subst hAv2
                    have e1 : z = rmk j x := by rw [HZ.out, LL_lo hlo]; rfl
                    have e2 : z4 = rmk j x := by rw [HZ4.out, ML_get _ _ _ _ hlo]; rfl
                    subst e1 e2
                    clear hAv
                    go_wp2_with fail
                    go_quiet (first | (go_at_call 67; exact quiet_at (HMK.out _ (by omega) (by omega))))
                    go_wp2_with fail
                    go_roundw
                    case rel => exact ⟨x + 1, _, by omega, by go_num, rfl⟩
                    case measure => simp [intOf]; omega
                  · have e1 : z = rmk j x := by
                      rw [HZ.out, LL_hi hlo (by have := HMM.out; omega)]
                      have e : len j + (x - len j) = x := by omega
                      show rmk j (len j + (x - len j)) = rmk j x
                      rw [e]
                    subst e1
                    go_wp2_with fail
                    go_quiet (first | (go_at_call 67; exact quiet_at (HMK.out _ (by omega) (by omega))))
                    go_wp2_with fail
                    go_roundw
                    case rel => exact ⟨x + 1, _, by omega, by go_num, rfl⟩
                    case measure => simp [intOf]; omega
                · have hge : decide ((x : Int) < (M : Int)) = false := by simp; omega
                  go_wp2_with fail
                  go_roundw
                  case rel => exact ⟨j + 1, _, by omega, by go_num, rfl⟩
                  case measure => simp [intOf]; omega
            · have hge : decide ((j : Int) < (k : Int)) = false := by simp; omega
              go_wp2_with fail
              go_ret
              exact ⟨rfl, (HW1.out.trans H.out.fr).drewN _⟩
end Go.Proofs.Ytcfbaildcocnhaa

/-
  Walk: Apart: lists of whole numbers in blocks of their own are found apart.
-/
import Derived.Test.YtcfbaildcocnhaaAri
import Derived.Test.YtcfbaildcocnhaaSf
import Derived.StillTailTactics
set_option linter.unusedVariables false
set_option linter.unusedSimpArgs false
namespace Go.Proofs.Ytcfbaildcocnhaa.Ints
open Go.RowKit

theorem infoIT : (Try.prog.info? 81).map (fun i => (i.zero, i.size, i.bytes)) = some (some (.slice none 0 0), 1, 24) := by kernel_rfl
def rmkI (i k : Nat) : Int := (i : Int) * 100003 + (k : Int)
def mmvI : Nat → Nat → Int := rmkI
def ggvI : Nat → Nat → Nat → Int := fun i n q => (i : Int) * 100003 + (n : Int) + (q : Int)

set_option maxRecDepth 100000 in
set_option maxHeartbeats 16000000 in
theorem aparti_any (base G N c : Nat) (vs : Nat → Value) (len : Nat → Nat) (X : Nat → List Int) (w : World) (hN : N ≤ 1000000000) (hX : ∀ j, j < N → (X j).length = len j) (hR : ∀ j, j < N → Own w base 3 .i64 (vs j) (X j)) (hD : Dist N vs)
    (hG : ∀ j, j < N → (vs j).ownBlock ≠ some G) (hall : ∀ j, j < N → w.cell? ⟨G, j, none⟩ = some (vs j)) (hb : base ≤ w.heap.size) (hlen : ∀ j, j < N → len j + 71 ≤ 17592186044416) :
    Calls Try.prog 43 #[.slice (some ⟨G, 0, none⟩) N c] w fun e w' => e = .returned (.bool true) ∧ Fr (Blks N vs) w w' := by
  have H1 := Lib.hid (Rw1.start (mm := mmvI) hX hR)
  have HA := Lib.hid hall
  have HG := Lib.hid hG
  have HD := Lib.hid hD
  have HL := Lib.hid hlen
  have HB := Lib.hid hb
  clear hall hG hD hlen hR hX hb
  go_enter Try.func43, Try.ntmps43
  go_wp2_with fail
  go_loopw [3] (fun i wr => ∃ k : Nat, k ≤ N ∧ i = .int .i64 k ∧ Hid (Rw1 mmvI base N vs len w wr k 0)) (fun i _ => N - (intOf i).toNat)
  case atStart => exact ⟨0, Nat.zero_le _, rfl, H1⟩
  case round =>
    clear H1
    obtain ⟨k, hk, rfl, H⟩ := hrel
    by_cases hlt : k < N
    · obtain ⟨A, cc, hv, hlc, hcm⟩ := H.out.row hlt
      have hcell := H.out.all HG.out HA.out hlt
      rw [hv] at hcell
      have HV := Lib.hid hv
      have hlk : len k ≤ 140737488355328 := by have := HL.out k hlt; omega
      clear hv
      go_wp2_with fail
      go_loopw [4] (fun q wx => ∃ p : Nat, p ≤ len k ∧ q = .int .i64 p ∧ Hid (Rw1 mmvI base N vs len w wx k p)) (fun q _ => len k - (intOf q).toNat)
      case atStart => exact ⟨0, Nat.zero_le _, rfl, H⟩
      case round =>
        clear hcell
        obtain ⟨p, hp, rfl, HH⟩ := hrel
        by_cases hlp : p < len k
        · obtain ⟨g, c3, y, hv2, hcp, hfz⟩ := HH.out.cell hlt hlp
          have hcell := HH.out.all HG.out HA.out hlt
          rw [hv2] at hcell
          have HV2 := Lib.hid hv2
          have hcp' : wr.cell? ⟨g, p, none⟩ = some (.int .i64 y) := hcp
          have hfz' : wr.frozen? ⟨g, p, none⟩ = false := hfz
          have HS := Lib.hid (HH.out.set HD.out hlt HV2.out hlp)
          have hw1 : IntKind.i64.wrap ((k : Int) * 100003) = (k : Int) * 100003 := by rw [IntKind.wrap_i64] <;> omega
          have hw2 : IntKind.i64.wrap ((k : Int) * 100003 + (p : Int)) = (k : Int) * 100003 + (p : Int) := by rw [IntKind.wrap_i64] <;> omega
          clear hcp hfz HH hv2
          go_wp2_with fail
          go_roundw
          case rel => exact ⟨p + 1, by omega, by go_num, HS⟩
          case measure => simp [intOf]; omega
        · have HE := Lib.hid (HH.out.next hlt (show p = len k by omega))
          have hcell := HH.out.all HG.out HA.out hlt
          rw [HV.out] at hcell
          have hge : decide ((p : Int) < (len k : Int)) = false := by simp; omega
          go_wp2_with fail
          go_roundw
          case rel => exact ⟨k + 1, by omega, by go_num, HE⟩
          case measure => simp [intOf]; omega
    · have hge : decide ((k : Int) < (N : Int)) = false := by simp; omega
      have h2 := Rw2.start (gg := ggvI) 70 81 (show N ≤ k by omega) H.out HB.out vs
      have hfr : Fr (Blks N vs) w wr := by obtain ⟨_, _, _, _, _, h⟩ := H.out; exact h
      have HW1 := Lib.hid hfr
      have H2 := Lib.hid h2
      have HA1 : Hid (∀ j, j < N → wr.cell? ⟨G, j, none⟩ = some (vs j)) := Lib.hid (fun j hj => H.out.all HG.out HA.out hj)
      have HBs : Hid (base ≤ wr.heap.size) := Lib.hid (Nat.le_trans HB.out hfr.size)
      clear h2 hfr H hk
      go_wp2_with fail
      obtain ⟨w1, hw1⟩ : ∃ w1, w1 = wr := ⟨_, rfl⟩
      rw [← hw1] at H2 HA1 HW1 HBs
      have H2' : Hid (Rw2 mmvI ggvI base N vs len 70 81 w1 wr 0 vs (.slice none 0 0)) := by rw [hw1] at H2 ⊢; exact H2
      clear H2 hw1
      go_loopw [5, 6] (fun long i wx => ∃ (k : Nat) (L : Nat → Value), k ≤ N ∧ i = .int .i64 k ∧ Hid (Rw2 mmvI ggvI base N vs len 70 81 w1 wx k L long)) (fun _ i _ => N - (intOf i).toNat)
      case atStart => exact ⟨0, vs, Nat.zero_le _, rfl, H2'⟩
      case round =>
        clear H2' hge hlt
        obtain ⟨k, L, hk, rfl, H⟩ := hrel
        by_cases hlt : k < N
        · have hcell : wr.cell? ⟨G, k, none⟩ = some (vs k) := by
            rw [World.cell?_of_block (w := w1) (w' := wr) (H.out.fr.block G (World.block_lt_of_cell? w1 _ (HA1.out k hlt)) (fun ⟨q, hq, he⟩ => HG.out q hq he))]
            exact HA1.out k hlt
          obtain ⟨wi, hwi⟩ : ∃ wi, wi = wr := ⟨_, rfl⟩
          have H3 : Hid (Rw3 mmvI ggvI base vs len wi wr k 0 (vs k)) := Lib.hid (by rw [hwi]; exact H.out.begin hlt)
          have HI := H
          rw [← hwi] at HI
          have HCI : Hid (wi.cell? ⟨G, k, none⟩ = some (vs k)) := Lib.hid (by rw [hwi]; exact hcell)
          have hlk : len k + 71 ≤ 17592186044416 := HL.out k hlt
          clear hwi H
          go_wp2_with fail
          go_loopw [7, 8] (fun l q wx => ∃ p : Nat, p ≤ 70 ∧ q = .int .i64 p ∧ Hid (Rw3 mmvI ggvI base vs len wi wx k p l)) (fun _ q _ => 70 - (intOf q).toNat)
          case atStart => exact ⟨0, Nat.zero_le _, rfl, H3⟩
          case round =>
            clear hcell H3
            obtain ⟨p, hp, rfl, HH⟩ := hrel
            by_cases hlp : p < 70
            · skip
              obtain ⟨Av, cv, hvj⟩ := HI.out.shp k hlt
              have hcell : wr.cell? ⟨G, k, none⟩ = some (.slice Av (len k) cv) := by
                rw [World.cell?_of_block (w := wi) (w' := wr) (HH.out.fr.block G (World.block_lt_of_cell? wi _ HCI.out) (fun e => HG.out k hlt e)), HCI.out, hvj]
              have hw1 : IntKind.i64.wrap ((k : Int) * 100003) = (k : Int) * 100003 := by rw [IntKind.wrap_i64] <;> omega
              have hw2 : IntKind.i64.wrap ((k : Int) * 100003 + (len k : Int)) = (k : Int) * 100003 + (len k : Int) := by rw [IntKind.wrap_i64] <;> omega
              have hw3 : IntKind.i64.wrap ((k : Int) * 100003 + (len k : Int) + (p : Int)) = (k : Int) * 100003 + (len k : Int) + (p : Int) := by rw [IntKind.wrap_i64] <;> omega
              clear hvj
              have hby : (((ML mmvI k (len k) ++ GL ggvI k (len k) p).map (Value.int .i64)).length + 1) * 8 ≤ 140737488355328 := by simp [ML_len, GL_len]; omega
              have hbs : base ≤ wr.heap.size := Nat.le_trans HBs.out (Nat.le_trans HI.out.fr.size HH.out.fr.size)
              have HOV := Lib.hid HH.out.own.toV
              go_wp2_with (first | (at_builtin; refine wpList_pushV _ rfl _ _ 81 rfl base 3 (.int .i64 0) 8 Try.underlying81 info3 rfl _ rfl rfl _ _ rfl rfl HOV.out hby (by decide) hbs ?_; intro v' w2 hown2 hp2))
              have HN : Hid (Rw3 mmvI ggvI base vs len wi w2 k (p + 1) v') := Lib.hid (HH.out.push hown2.toOwn1 hp2 (fun g hg => Nat.lt_of_lt_of_le (HI.out.low k hlt g hg) HI.out.fr.size))
              clear hown2 hp2
              go_wp2_with fail
              go_roundw
              case rel => exact ⟨p + 1, by omega, by go_num, HN⟩
              case measure => simp [intOf]; omega
            · have hge : decide ((p : Int) < 70) = false := by simp; omega
              have HP : Hid (p = 70) := Lib.hid (by omega)
              obtain ⟨A3, c3, hl3, _⟩ := HH.out.own.slice
              obtain ⟨n3, hn3⟩ : ∃ n, n = (ML mmvI k (len k) ++ GL ggvI k (len k) p).length := ⟨_, rfl⟩
              rw [← hn3] at hl3
              subst hl3
              clear hn3
              have HLV := Lib.hid (HI.out.lngAt hlt HH.out)
              have hby : (((List.range k).map L).length + 1) * 24 ≤ 140737488355328 := by simp; omega
              have hbs : w1.heap.size ≤ wr.heap.size := Nat.le_trans HI.out.fr.size HH.out.fr.size
              go_wp2_with (first | (at_builtin; refine wpList_pushV _ rfl _ _ 88 rfl w1.heap.size 81 (.slice none 0 0) 24 Try.underlying88 infoIT rfl _ rfl rfl _ _ rfl rfl HLV.out hby (by decide) hbs ?_; intro v' w2 hown2 hp2))
              have HN : Hid (Rw2 mmvI ggvI base N vs len 70 81 w1 w2 (k + 1) _ v') := Lib.hid (HI.out.next HD.out hlt (by have := HH.out; rw [HP.out] at this; exact this) hown2 hp2)
              clear hown2 hp2
              go_wp2_with fail
              go_roundw
              case rel => exact ⟨k + 1, _, by omega, by go_num, HN⟩
              case measure => simp [intOf]; omega
        · obtain rfl : k = N := by omega
          obtain ⟨Al, cl, hlg, hlc⟩ := H.out.longAt
          subst hlg
          have HLC := Lib.hid hlc
          have hge : decide ((k : Int) < (k : Int)) = false := by simp
          have HAL : Hid (∀ j, j < k → wr.cell? ⟨G, j, none⟩ = some (vs j)) := Lib.hid (fun j hj => by
            rw [World.cell?_of_block (w := w1) (w' := wr) (H.out.fr.block G (World.block_lt_of_cell? w1 _ (HA1.out j hj)) (fun ⟨q, hq, he⟩ => HG.out q hq he))]
            exact HA1.out j hj)
          clear hlc HA1 HA
          go_wp2_with fail
          go_loopw [9] (fun i wx => ∃ j q : Nat, j ≤ k ∧ i = .int .i64 j ∧ wx = wr.drewN q) (fun i _ => k - (intOf i).toNat)
          case atStart => exact ⟨0, 0, Nat.zero_le _, rfl, rfl⟩
          case round =>
            clear hlt hge hk
            obtain ⟨j, q, hj, rfl, rfl⟩ := hrel
            by_cases hlt : j < k
            · obtain ⟨B, cB, hB, hrB⟩ := H.out.newAt hlt
              obtain ⟨b, off, rfl, hc1⟩ := HLC.out j hlt
              rw [hB] at hc1
              have HRB := Lib.hid hrB
              have hlk : len j + 71 ≤ 17592186044416 := HL.out j hlt
              obtain ⟨M, hM⟩ : ∃ M, M = len j + 70 := ⟨_, rfl⟩
              rw [← hM] at hc1
              have HMM := Lib.hid hM
              have hM63 : M ≤ 140737488355328 := by omega
              have HAJ := Lib.hid (HAL.out j hlt)
              have HOJ := Lib.hid (H.out.old j hlt)
              obtain ⟨Av, cv, hvj⟩ := H.out.shp j hlt
              rw [hvj] at HAJ HOJ
              clear hB hrB hM hvj
              go_wp2_with fail
              go_loopw [10] (fun p wx => ∃ x y : Nat, x ≤ M ∧ p = .int .i64 x ∧ wx = wr.drewN y) (fun p _ => M - (intOf p).toNat)
              case atStart => exact ⟨0, q, Nat.zero_le _, rfl, rfl⟩
              case round =>
                obtain ⟨x, y, hx, rfl, rfl⟩ := hrel
                by_cases hlx : x < M
                · obtain ⟨b3, off3, z, rfl, hcz, HZ⟩ := HRB.out.at x (by rw [List.length_append, ML_len, GL_len]; have := HMM.out; omega)
                  have hcA := HAJ.out
                  have hw1 : IntKind.i64.wrap ((j : Int) * 100003) = (j : Int) * 100003 := by rw [IntKind.wrap_i64] <;> omega
                  have hw2 : IntKind.i64.wrap ((j : Int) * 100003 + (x : Int)) = (j : Int) * 100003 + (x : Int) := by rw [IntKind.wrap_i64] <;> omega
                  have h3 : ((j : Int) * 100003 + (x : Int) != (j : Int) * 100003 + (x : Int)) = false := by simp
                  by_cases hlo : x < len j
                  · obtain ⟨b4, off4, z4, hAv, hc4, HZ4⟩ := HOJ.out.at x (by rw [ML_len]; exact hlo)
                    have hAv2 : Av = some ⟨b4, off4, none⟩ := hAv
                    subst hAv2
                    have e1 : z = (j : Int) * 100003 + (x : Int) := by rw [HZ.out, LL_lo hlo]; rfl
                    have e2 : z4 = (j : Int) * 100003 + (x : Int) := by rw [HZ4.out, ML_get _ _ _ _ hlo]; rfl
                    subst e1 e2
                    have hlo' : (x : Int) < (len j : Int) := by omega
                    clear hAv
                    go_wp2_with fail
                    go_roundw
                    case rel => exact ⟨x + 1, _, by omega, by go_num, rfl⟩
                    case measure => simp [intOf]; omega
                  · have e1 : z = (j : Int) * 100003 + (x : Int) := by
                      rw [HZ.out, LL_hi hlo (by have := HMM.out; omega)]
                      show (j : Int) * 100003 + (len j : Int) + ((x - len j : Nat) : Int) = _
                      omega
                    have hlo' : ¬ (x : Int) < (len j : Int) := by omega
                    subst e1
                    go_wp2_with fail
                    go_roundw
                    case rel => exact ⟨x + 1, _, by omega, by go_num, rfl⟩
                    case measure => simp [intOf]; omega
                · have hge : decide ((x : Int) < (M : Int)) = false := by simp; omega
                  go_wp2_with fail
                  go_roundw
                  case rel => exact ⟨j + 1, _, by omega, by go_num, rfl⟩
                  case measure => simp [intOf]; omega
            · have hge : decide ((j : Int) < (k : Int)) = false := by simp; omega
              go_wp2_with fail
              go_ret
              exact ⟨rfl, (HW1.out.trans H.out.fr).drewN _⟩
end Go.Proofs.Ytcfbaildcocnhaa.Ints

/-
  The iterator of the gates: its contract.
-/
import Derived.Test.YtpglocgfdonmaaaHi
import Derived.Test.YtpglocgfdonmaaaGs
import Derived.Scope
import Derived.Deep.RegionHeld
import Derived.WalkMore
set_option linter.unusedVariables false
set_option linter.unusedSimpArgs false
namespace Go.Proofs.Ytpglocgfdonmaaa
open Go.RowKit Go.Shelf
attribute [local go_sem] Oper.semAt_some

theorem gates_no {N : Int} (h : sizeB N = false) : gatesF N = [] := by unfold gatesF layersF; rw [h]; rfl
theorem gates_yes {N : Int} (h : sizeB N = true) : gatesF N = (rowsK N.toNat 17 2).flatten := by unfold gatesF layersF; rw [h]; rfl
theorem abide_alloc {β : Type} {B : Nat} {J : β → World → Prop} (h : AbidesFrom B J) {s : β} {W : World} (o : Obj) (hs : J s W) : J s (W.alloc o) :=
  h s W _ none hs (World.grownBy_alloc W o none) (fun r e => by cases e)

set_option maxRecDepth 100000 in
set_option maxHeartbeats 8000000 in
theorem gates_stops (n : Nat) (hn : 1 ≤ n) (Bn n₀ : Nat) (N : Int) (w : World) (hlt : Bn < n₀) (hle : n₀ ≤ w.heap.size) (hc : w.cell? ⟨Bn, 0, none⟩ = some (.int .i64 N)) :
    SeqStopsK Fence.wide n Try.prog 42 #[.pointer (some ⟨Bn, 0, none⟩)] encH (Below n₀) (fun xs => xs = gatesF N) (fun pre => pre <+: gatesF N) 20000000 w := fun l J Jx W hW hJ hJx hY h0 => by
  have hcW : W.cell? ⟨Bn, 0, none⟩ = some (.int .i64 N) := (hW.cell (p := ⟨Bn, 0, none⟩) (by simp; omega)).trans hc
  clear hc
  refine callsIn_of_wp Try.func42 rfl trivial ?_ rfl
  simp only [Try.ntmps42, List.size_toArray, List.length_cons, List.length_nil, Nat.reduceAdd, Nat.reduceSub, Array.replicate_succ, Array.replicate_zero, List.push_toArray, List.append_toArray, List.nil_append, List.cons_append]
  refine wpIn_wide.2 (wp_scope_straight ((wpIn_wide (n := n)).1 ?_))
  have hsa := fun w => size_any N w
  cases hsz : sizeB N
  · rw [hsz] at hsa
    have HG := Lib.hid (gates_no hsz)
    have HS := Lib.hid hsa
    clear hsz hsa
    gi_wp2_with (refine ⟨trivial, ?_⟩; gi_at_call 40; refine (callsIn_wide.2 (HS.out _)).mono ?_; rintro e w' ⟨rfl, rfl⟩)
    try rw [Exit.noGoto_ret]
    refine bodyPost_ret (results_none rfl _ _ _) rfl ?_
    exact ⟨⟨_, rfl⟩, .inl ⟨[], HG.out.symm, h0⟩⟩
  · rw [hsz] at hsa
    have HG := Lib.hid (gates_yes hsz)
    have HL := Lib.hid (gates_len N).1
    have HS := Lib.hid hsa
    clear hsa
    obtain ⟨e, he, rfl⟩ := size_pow hsz
    have hp1 : 1 ≤ 2 ^ e := Nat.one_le_two_pow
    have hp2 : 2 ^ e ≤ 2 ^ 16 := Nat.pow_le_pow_right (by omega) he
    have hpb : 2 ^ e ≤ 65536 := hp2
    have HPE : Hid (∀ k, 2 ^ k ≤ 2 ^ e → k ≤ e) := Lib.hid (fun k hk => by
      rcases Nat.lt_or_ge e k with h | h
      · have : 2 ^ (e + 1) ≤ 2 ^ k := Nat.pow_le_pow_right (by omega) h
        rw [Nat.pow_succ] at this
        omega
      · exact h)
    rw [Int.toNat_natCast] at HG
    generalize 2 ^ e = p at *
    clear hp2 hsz
    gi_wp2_with (first
      | (refine ⟨trivial, ?_⟩; gi_at_call 40; refine (callsIn_wide.2 (HS.out _)).mono ?_; rintro e' w' ⟨rfl, rfl⟩)
      | (refine wpIn_label ?_))
    gi_loopw [3] (fun kv wr => ∃ (m : Nat) (pre : List (Int × Int)), kv = .int .i64 ((2 ^ m : Nat) : Int) ∧ 1 ≤ m ∧ m ≤ 17 ∧ Hid (gatesF (p : Int) = pre ++ (rowsK p (18 - m) (2 ^ m)).flatten) ∧ J pre wr ∧ wr.cell? ⟨Bn, 0, none⟩ = some (.int .i64 (p : Int))) (fun kv wr => ((p : Int) + 1 - intOf kv).toNat)
    case atStart => exact ⟨1, [], rfl, by omega, by omega, Lib.hid HG.out, h0, hcW⟩
    case round =>
      obtain ⟨m, pre, rfl, hm1, hm17, HPRE, hj, hcr⟩ := hrel
      obtain ⟨k, hk⟩ : ∃ k, k = 2 ^ m := ⟨_, rfl⟩
      have hk1 : 2 ≤ k := by rw [hk]; have : 2 ^ 1 ≤ 2 ^ m := Nat.pow_le_pow_right (by omega) hm1; omega
      have HK := Lib.hid hk
      rw [← hk] at HPRE ⊢
      clear hk
      by_cases hkn : k ≤ p
      · have hkn' : (k : Int) ≤ (p : Int) := by omega
        have hm16 : m ≤ 16 := by have := HPE.out m (by rw [← HK.out]; exact hkn); omega
        have HGO : Hid (gatesF (p : Int) = pre ++ ((rowsJ p k 17 (k / 2)).flatten ++ (rowsK p (18 - (m + 1)) (2 * k)).flatten)) := Lib.hid (by
          rw [HPRE.out, show 18 - m = (18 - (m + 1)) + 1 from by omega]
          simp only [rowsK]
          rw [if_pos hkn, List.flatten_append])
        have hk2 : k / 2 = 2 ^ (m - 1) := by
          rw [HK.out, show m = (m - 1) + 1 from by omega, Nat.pow_succ]; simp
        have HK2 := Lib.hid hk2
        clear HPRE hk2
        obtain ⟨w0, rfl⟩ : ∃ w0 : World, w0 = wr := ⟨_, rfl⟩
        gi_wp2
        generalize hRK : (rowsK p (18 - (m + 1)) (2 * k)).flatten = RK at HGO
        have HRKE := Lib.hid hRK
        clear hRK
        gi_loopw [4] (fun jv wr => ∃ (f j : Nat) (pre : List (Int × Int)), jv = .int .i64 (j : Int) ∧ (j = 0 ∨ ∃ b, j = 2 ^ b ∧ b + 1 ≤ f ∧ b ≤ 15) ∧ Hid (gatesF (p : Int) = pre ++ ((rowsJ p k f j).flatten ++ RK)) ∧ J pre wr ∧ wr.cell? ⟨Bn, 0, none⟩ = some (.int .i64 (p : Int))) (fun jv _ => (intOf jv).toNat)
        case atStart => exact ⟨17, k / 2, pre, by simp, .inr ⟨m - 1, HK2.out, by omega, by omega⟩, HGO, hj, hcr⟩
        case round =>
          clear hj hcr HGO
          obtain ⟨f, j, pre2, rfl, hjb, HP2, hj2, hcr2⟩ := hrel
          by_cases hj0 : j = 0
          · subst hj0
            have HE : Hid (gatesF (p : Int) = pre2 ++ RK) := Lib.hid (by rw [HP2.out, rowsJ_stop]; rfl)
            have m2 : IntKind.i64.wrap ((k : Int) * 2) = ((2 * k : Nat) : Int) := by rw [IntKind.wrap_i64] <;> omega
            have h2k : 2 * k = 2 ^ (m + 1) := by rw [HK.out, Nat.pow_succ, Nat.mul_comm]
            have H2K := Lib.hid h2k
            clear HP2 h2k
            gi_wp2
            go_roundw
            case rel => exact ⟨m + 1, pre2, by rw [← H2K.out]; simp, by omega, by omega, by rw [← H2K.out, HRKE.out]; exact HE, hj2, hcr2⟩
            case measure => simp [intOf]; omega
          · obtain ⟨b, hb, hbf, hb15⟩ := hjb.resolve_left hj0
            have HB := Lib.hid hb
            have hj1 : 0 < j := by omega
            have hjle : j ≤ 32768 := by
              rw [hb]
              have : 2 ^ b ≤ 2 ^ 15 := Nat.pow_le_pow_right (by omega) hb15
              omega
            obtain ⟨f', rfl⟩ : ∃ f', f = f' + 1 := ⟨f - 1, by omega⟩
            have HP2' : Hid (gatesF (p : Int) = pre2 ++ (rowG k j p 0 ++ ((rowsJ p k f' (j / 2)).flatten ++ RK))) := Lib.hid (by
              rw [HP2.out]; simp only [rowsJ]; rw [if_pos hj1, List.flatten_cons, List.append_assoc])
            have HJ2 : Hid (j / 2 = 0 ∨ ∃ b, j / 2 = 2 ^ b ∧ b + 1 ≤ f' ∧ b ≤ 15) := Lib.hid (by
              rw [HB.out]
              cases b with
              | zero => exact .inl rfl
              | succ b => exact .inr ⟨b, by rw [Nat.pow_succ]; simp, by omega, by omega⟩)
            generalize hRJ : (rowsJ p k f' (j / 2)).flatten ++ RK = RJ at HP2'
            have HRJ := Lib.hid hRJ
            clear HP2 hjb hb hRJ
            obtain ⟨w1, rfl⟩ : ∃ w1 : World, w1 = wr := ⟨_, rfl⟩
            gi_wp2
            gi_loopw [22] (fun iv wr => ∃ (i : Nat) (pre : List (Int × Int)), iv = .int .i64 (i : Int) ∧ i ≤ p ∧ Hid (gatesF (p : Int) = pre ++ (rowG k j (p - i) i ++ RJ)) ∧ J pre wr ∧ wr.cell? ⟨Bn, 0, none⟩ = some (.int .i64 (p : Int))) (fun iv _ => ((p : Int) - intOf iv).toNat)
            case atStart => exact ⟨0, pre2, rfl, by omega, HP2', hj2, hcr2⟩
            case round =>
              clear hj2 hcr2 HP2'
              obtain ⟨i, pre3, rfl, hip, HP3, hj3, hcr3⟩ := hrel
              by_cases hin : i < p
              · have hin' : (i : Int) < (p : Int) := by omega
                have m2 : IntKind.i64.wrap ((i : Int) + 1) = ((i + 1 : Nat) : Int) := by rw [IntKind.wrap_i64] <;> omega
                obtain ⟨w2, rfl⟩ : ∃ w2 : World, w2 = wr := ⟨_, rfl⟩
                by_cases hij : i / j % 2 = 1
                · have bj : bits .and .i64 (i : Int) (j : Int) = (j : Int) := by rw [i64_and_nat i j (by omega) (by omega), HB.out, and_pow, if_pos (by rw [← HB.out]; exact hij)]
                  have HG2 : Hid (gatesF (p : Int) = pre3 ++ (rowG k j (p - (i + 1)) (i + 1) ++ RJ)) := Lib.hid (by
                    rw [HP3.out, show p - i = (p - (i + 1)) + 1 from by omega]; simp only [rowG]; rw [if_pos hij])
                  have hjne : ((j : Int) != 0) = true := by simp; omega
                  clear hij HP3
                  gi_wp2
                  go_roundw
                  case rel => exact ⟨i + 1, _, rfl, by omega, HG2, hj3, hcr3⟩
                  case measure => simp [intOf]; omega
                · have bj : bits .and .i64 (i : Int) (j : Int) = 0 := by rw [i64_and_nat i j (by omega) (by omega), HB.out, and_pow, if_neg (by rw [← HB.out]; exact hij)]; rfl
                  have bo : bits .or .i64 (i : Int) (j : Int) = (i : Int) + (j : Int) := by rw [i64_or_nat i j (by omega) (by omega), HB.out, or_pow (by rw [← HB.out]; exact hij)]; simp
                  have HP3' : Hid (gatesF (p : Int) = pre3 ++ (gate k j i :: rowG k j (p - (i + 1)) (i + 1) ++ RJ)) := Lib.hid (by
                    rw [HP3.out, show p - i = (p - (i + 1)) + 1 from by omega]; simp only [rowG]; rw [if_neg hij])
                  have hlp : pre3.length < 20000000 := by
                    have := congrArg List.length HP3'.out
                    rw [List.length_append] at this
                    have := HL.out
                    omega
                  clear hij HP3
                  have HP3 := HP3'
                  clear HP3'
                  by_cases hik : i / k % 2 = 1
                  · have hkne : ((k : Int) != 0) = true := by simp; omega
                    have hgt : gate k j i = ((i : Int) + (j : Int), (i : Int)) := by unfold gate; rw [if_pos hik]; simp
                    have HG2 : Hid (gatesF (p : Int) = (pre3 ++ [((i : Int) + (j : Int), (i : Int))]) ++ (rowG k j (p - (i + 1)) (i + 1) ++ RJ)) := Lib.hid (by rw [← hgt, HP3.out]; simp)
                    have bk : bits .and .i64 (i : Int) (k : Int) = (k : Int) := by rw [i64_and_nat i k (by omega) (by omega), HK.out, and_pow, if_pos (by rw [← HK.out]; exact hik)]
                    obtain ⟨fn, tmps, assign, body, hy, hR⟩ := hY pre3 ((i : Int) + (j : Int), (i : Int)) (w2.alloc (.cells #[.int .i64 ((i : Int) + (j : Int)), .int .i64 ((i : Int))] 38)) (abide_alloc hJ _ hj3) hlp
                    dsimp only [encH] at hy
                    clear hgt HP3 hik
                    gi_wp2
                    refine hR.mono ?_
                    rintro e3 W3 (⟨rfl, hJ3, hk3⟩ | ⟨rfl, hJx3⟩)
                    · have hc3 : W3.cell? ⟨Bn, 0, none⟩ = some (.int .i64 (p : Int)) := (hk3.cell (p := ⟨Bn, 0, none⟩) hlt).trans ((World.cell?_alloc_some _ _ _ (by rw [hcr3]; rfl)).trans hcr3)
                      gi_wp2
                      go_roundw
                      case rel => exact ⟨i + 1, _, rfl, by omega, HG2, hJ3, hc3⟩
                      case measure => simp [intOf]; omega
                    · gi_wp2
                      try rw [Exit.noGoto_normal]
                      first | go_end0 | (refine bodyPost_ret (results_none rfl _ _ _) rfl ?_)
                      exact ⟨⟨_, rfl⟩, .inr ⟨_, ⟨_, HG2.out.symm⟩, hJx3⟩⟩
                  · have hgt : gate k j i = ((i : Int), (i : Int) + (j : Int)) := by unfold gate; rw [if_neg hik]; simp
                    have HG2 : Hid (gatesF (p : Int) = (pre3 ++ [((i : Int), (i : Int) + (j : Int))]) ++ (rowG k j (p - (i + 1)) (i + 1) ++ RJ)) := Lib.hid (by rw [← hgt, HP3.out]; simp)
                    have bk : bits .and .i64 (i : Int) (k : Int) = 0 := by rw [i64_and_nat i k (by omega) (by omega), HK.out, and_pow, if_neg (by rw [← HK.out]; exact hik)]; rfl
                    obtain ⟨fn, tmps, assign, body, hy, hR⟩ := hY pre3 ((i : Int), (i : Int) + (j : Int)) (w2.alloc (.cells #[.int .i64 ((i : Int)), .int .i64 ((i : Int) + (j : Int))] 38)) (abide_alloc hJ _ hj3) hlp
                    dsimp only [encH] at hy
                    clear hgt HP3 hik
                    gi_wp2
                    refine hR.mono ?_
                    rintro e3 W3 (⟨rfl, hJ3, hk3⟩ | ⟨rfl, hJx3⟩)
                    · have hc3 : W3.cell? ⟨Bn, 0, none⟩ = some (.int .i64 (p : Int)) := (hk3.cell (p := ⟨Bn, 0, none⟩) hlt).trans ((World.cell?_alloc_some _ _ _ (by rw [hcr3]; rfl)).trans hcr3)
                      gi_wp2
                      go_roundw
                      case rel => exact ⟨i + 1, _, rfl, by omega, HG2, hJ3, hc3⟩
                      case measure => simp [intOf]; omega
                    · gi_wp2
                      try rw [Exit.noGoto_normal]
                      first | go_end0 | (refine bodyPost_ret (results_none rfl _ _ _) rfl ?_)
                      exact ⟨⟨_, rfl⟩, .inr ⟨_, ⟨_, HG2.out.symm⟩, hJx3⟩⟩
              · have HE : Hid (gatesF (p : Int) = pre3 ++ ((rowsJ p k f' (j / 2)).flatten ++ RK)) := Lib.hid (by rw [HP3.out, show p - i = 0 from by omega, HRJ.out]; rfl)
                clear HP3
                gi_wp2
                go_roundw
                case rel => exact ⟨f', j / 2, pre3, by simp, HJ2.out, HE, hj3, hcr3⟩
                case measure => simp [intOf]; omega
      · have HE : Hid (gatesF (p : Int) = pre) := Lib.hid (by rw [HPRE.out, rowsK_stop (by omega)]; simp)
        clear HPRE
        gi_wp2
        try rw [Exit.noGoto_normal]
        first | go_end0 | (refine bodyPost_ret (results_none rfl _ _ _) rfl ?_)
        first | exact ⟨⟨_, rfl⟩, .inl ⟨pre, HE.out.symm, hj⟩⟩ | exact ⟨⟨_, rfl⟩, .inl (HE.out ▸ hj)⟩
end Go.Proofs.Ytpglocgfdonmaaa

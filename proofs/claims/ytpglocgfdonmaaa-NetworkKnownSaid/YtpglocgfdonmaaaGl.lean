/-
  Walks: the document's Size, Layers, Gates.
-/
import Derived.Test.YtpglocgfdonmaaaHr
import Derived.Test.YtpglocgfdonmaaaGp
import Derived.Test.YtpglocgfdonmaaaOw
set_option linter.unusedVariables false
set_option linter.unusedSimpArgs false
namespace Go.Proofs.Ytpglocgfdonmaaa
open Go.RowKit

theorem rsize_any (N : Int) (w : World) : Calls Try.prog 44 #[.int .i64 N] w fun e w' => e = .returned (.bool (sizeB N)) ∧ w' = w := by
  go_enter Try.func44, Try.ntmps44
  go_wp2_with fail
  go_loopw [3] (fun sv wr => ∃ k : Nat, sv = .int .i64 ((2 ^ k : Nat) : Int) ∧ k ≤ 17 ∧ Hid (∀ j, j < k → N ≠ ((2 ^ j : Nat) : Int)) ∧ wr = w) (fun sv _ => (131072 - intOf sv).toNat)
  case atStart => exact ⟨0, rfl, by omega, Lib.hid (fun j hj => by omega), rfl⟩
  case round =>
    obtain ⟨k, rfl, hk, HN, rfl⟩ := hrel
    have hp1 : 1 ≤ 2 ^ k := Nat.one_le_two_pow
    have hp2 : 2 ^ (k + 1) = 2 * 2 ^ k := by rw [Nat.pow_succ, Nat.mul_comm]
    by_cases hk17 : k < 17
    · have hb : 2 ^ k ≤ 65536 := by
        have : 2 ^ k ≤ 2 ^ 16 := Nat.pow_le_pow_right (by omega) (by omega)
        omega
      by_cases he : N = ((2 ^ k : Nat) : Int)
      · have HS : Hid (sizeB N = true) := Lib.hid (by rw [he]; exact pow_mem hb)
        have hq : (((2 ^ k : Nat) : Int) == N) = true := by simp [he]
        clear he
        generalize 2 ^ k = s at *
        have hb' : (s : Int) ≤ 65536 := by omega
        go_wp2_with fail
        go_ret
        exact ⟨by rw [HS.out]; rfl, rfl⟩
      · have HN2 : Hid (∀ j, j < k + 1 → N ≠ ((2 ^ j : Nat) : Int)) := Lib.hid (fun j hj => by
          rcases Nat.lt_or_ge j k with h | h
          · exact HN.out j h
          · obtain rfl : j = k := by omega
            exact he)
        have hq : (((2 ^ k : Nat) : Int) == N) = false := by simp; exact fun h => he (by rw [← h]; simp)
        have HP2 := Lib.hid hp2
        clear he hp2
        generalize hs : 2 ^ k = s at *
        clear hs
        have hb' : (s : Int) ≤ 65536 := by omega
        have m2 : IntKind.i64.wrap (2 * (s : Int)) = ((2 * s : Nat) : Int) := by rw [IntKind.wrap_i64] <;> omega
        go_wp2_with fail
        go_roundw
        case rel => exact ⟨k + 1, by rw [HP2.out]; simp, by omega, HN2, by first | rfl | trivial⟩
        case measure => simp [intOf]; omega
    · obtain rfl : k = 17 := by omega
      have HS : Hid (sizeB N = false) := Lib.hid (by
        cases h : sizeB N
        · rfl
        · obtain ⟨e, he, hN⟩ := size_pow h
          exact absurd hN (HN.out e (by omega)))
      go_wp2_with fail
      go_ret
      exact ⟨by rw [HS.out]; rfl, rfl⟩

/-- Rows of pairs, each of its own; none is empty. -/
def Lay (w : World) (base : Nat) (ov : Value) (rows : List (List (Int × Int))) : Prop :=
  ∃ cs, OwnV w base 32 ov cs ∧ cs.length = rows.length ∧ (∀ i, i < rows.length → OwnP w base 38 (cs.getD i undef) (rows.getD i [])) ∧ ∀ r ∈ rows, r ≠ []
theorem OwnP.below {w w' : World} {base : Nat} {T : TypeId} {v : Value} {xs : List (Int × Int)} (h : OwnP w base T v xs) (hb : Below w.heap.size w w') : OwnP w' base T v xs := h.fr (S := fun _ => False) (Fr.of_below hb _) (fun _ _ h => h)
theorem OwnP.lower {w : World} {base base' : Nat} {T : TypeId} {v : Value} {xs : List (Int × Int)} (h : OwnP w base T v xs) (hb : base' ≤ base) : OwnP w base' T v xs := by
  refine ⟨h.1, ?_⟩
  rcases h.2 with hn | ⟨g, cap, cur, rfl, h1, rest⟩
  · exact .inl hn
  · exact .inr ⟨g, cap, cur, rfl, by omega, rest⟩
theorem Lay.below {w w' : World} {base : Nat} {ov : Value} {rows : List (List (Int × Int))} (h : Lay w base ov rows) (hb : Below w.heap.size w w') : Lay w' base ov rows := by
  obtain ⟨cs, h1, h2, h3, h4⟩ := h
  exact ⟨cs, h1.below hb, h2, fun i hi => (h3 i hi).below hb, h4⟩
theorem Lay.nil (w : World) (base : Nat) : Lay w base (.slice none 0 0) [] := ⟨[], OwnV.nil _ _ _, rfl, fun i hi => by simp at hi, fun r hr => by simp at hr⟩
theorem own_ne {w : World} {base base' : Nat} {v v' : Value} {xs : List (Int × Int)} {cs : List Value} (h : OwnP w base 38 v xs) (h' : OwnV w base' 32 v' cs) : ∀ g, v.ownBlock = some g → v'.ownBlock ≠ some g := by
  intro g hg hg'
  rcases h.2 with ⟨rfl, _⟩ | ⟨g1, cap, cur, rfl, _, hb, _⟩
  · simp [Value.ownBlock] at hg
  · rcases h'.2 with ⟨rfl, _⟩ | ⟨g2, cap2, cur2, rfl, _, hb2, _⟩
    · simp [Value.ownBlock] at hg'
    · simp [Value.ownBlock] at hg hg'
      subst hg hg'
      rw [hb] at hb2
      injection hb2 with e
      injection e with _ e2 _
      cases e2
theorem Lay.push {w w' : World} {base : Nat} {ov ov' rv : Value} {rows : List (List (Int × Int))} {r : List (Int × Int)} (cs : List Value) (h1 : OwnV w base 32 ov cs) (h2 : cs.length = rows.length) (h3 : ∀ i, i < rows.length → OwnP w base 38 (cs.getD i undef) (rows.getD i []))
    (h4 : ∀ r ∈ rows, r ≠ []) (hr : OwnP w base 38 rv r) (hne : r ≠ []) (ho : OwnV w' base 32 ov' (cs ++ [rv])) (hf : Fr (fun g => ov.ownBlock = some g) w w') : Lay w' base ov' (rows ++ [r]) := by
  refine ⟨cs ++ [rv], ho, by simp [h2], fun i hi => ?_, fun x hx => ?_⟩
  · by_cases hi2 : i < rows.length
    · have hp := h3 i hi2
      have e1 : (cs ++ [rv]).getD i undef = cs.getD i undef := by simp [List.getD, List.getElem?_append_left (by omega : i < cs.length)]
      have e2 : (rows ++ [r]).getD i [] = rows.getD i [] := by simp [List.getD, List.getElem?_append_left hi2]
      rw [e1, e2]
      exact hp.fr hf (fun g hg => own_ne hp h1 g hg)
    · have hi3 : i = rows.length := by simp at hi; omega
      subst hi3
      have e1 : (cs ++ [rv]).getD rows.length undef = rv := by rw [← h2]; simp
      have e2 : (rows ++ [r]).getD rows.length [] = r := by simp
      rw [e1, e2]
      exact hr.fr hf (fun g hg => own_ne hr h1 g hg)
  · rcases List.mem_append.1 hx with h | h
    · exact h4 x h
    · simp at h; subst h; exact hne
theorem info38 : (Try.prog.info? 38).map (fun i => (i.zero, i.size, i.bytes)) = some (some (.agg #[.int .i64 0, .int .i64 0]), 2, 16) := by kernel_rfl
theorem info32 : (Try.prog.info? 32).map (fun i => (i.zero, i.size, i.bytes)) = some (some (.slice none 0 0), 1, 24) := by kernel_rfl
theorem rowG_ne {k j p : Nat} (hp : 0 < p) : rowG k j p 0 ≠ [] := by
  obtain ⟨q, rfl⟩ : ∃ q, p = q + 1 := ⟨p - 1, by omega⟩
  simp [rowG]
theorem wrap_nat (n : Nat) (h : n < 4294967296) : IntKind.i64.wrap (n : Int) = n := by rw [IntKind.wrap_i64] <;> omega
theorem tog_is {i j : Nat} (h : i ≤ 65536) : (wrap64 ((i : Int) / (j : Int))).tmod 2 = ((i / j % 2 : Nat) : Int) := by
  rw [← Int.natCast_ediv, IntWalk.wrap64_in _ (by have := Nat.div_le_self i j; generalize i / j = q at *; omega), Int.tmod_eq_emod_of_nonneg (Int.natCast_nonneg _)]
  simp
theorem tog_yes {i j : Nat} (h : i ≤ 65536) (hq : i / j % 2 = 1) : ((wrap64 ((i : Int) / (j : Int))).tmod 2 == 1) = true := by rw [tog_is h, hq]; rfl
theorem tog_no {i j : Nat} (h : i ≤ 65536) (hq : ¬ i / j % 2 = 1) : ((wrap64 ((i : Int) / (j : Int))).tmod 2 == 1) = false := by
  rw [tog_is h]
  have : i / j % 2 < 2 := Nat.mod_lt _ (by omega)
  generalize i / j % 2 = q at *
  obtain rfl : q = 0 := by omega
  rfl
theorem layers_no {N : Int} (h : sizeB N = false) : layersF N = [] := by unfold layersF; rw [h]; rfl
theorem layers_yes {N : Int} (h : sizeB N = true) : layersF N = rowsK N.toNat 17 2 := by unfold layersF; rw [h]; rfl

set_option maxRecDepth 100000 in
set_option maxHeartbeats 8000000 in
theorem rlayers_any (N : Int) (w : World) : Calls Try.prog 30 #[.int .i64 N] w fun e w' => ∃ v, e = .returned v ∧ Lay w' w.heap.size v (layersF N) ∧ Below w.heap.size w w' := by
  have hsa := fun w => rsize_any N w
  cases hsz : sizeB N
  · rw [hsz] at hsa
    have HG := Lib.hid (layers_no hsz)
    have HS := Lib.hid hsa
    clear hsz hsa
    go_enter Try.func30, Try.ntmps30
    go_wp2_with fail
    refine (HS.out _).mono ?_
    rintro e w' ⟨rfl, rfl⟩
    go_wp2_with fail
    go_ret
    exact ⟨_, rfl, by rw [HG.out]; exact Lay.nil _ _, Below.refl _ _⟩
  · rw [hsz] at hsa
    have HG := Lib.hid (layers_yes hsz)
    have HLL := Lib.hid (gates_len N).2
    have HS := Lib.hid hsa
    clear hsa
    obtain ⟨e, he, rfl⟩ := size_pow hsz
    have hp1 : 1 ≤ 2 ^ e := Nat.one_le_two_pow
    have hp2 : 2 ^ e ≤ 2 ^ 16 := Nat.pow_le_pow_right (by omega) he
    have hpb : 2 ^ e ≤ 65536 := hp2
    have HPE : Hid (∀ k, 2 ^ k ≤ 2 ^ e → k ≤ e) := Lib.hid (fun k hk => by
      rcases Nat.lt_or_ge e k with h | h
      · have : 2 ^ (e + 1) ≤ 2 ^ k := Nat.pow_le_pow_right (by omega) h
        rw [Nat.pow_succ] at this
        omega
      · exact h)
    rw [Int.toNat_natCast] at HG
    generalize 2 ^ e = p at *
    clear hp2 hsz
    go_enter Try.func30, Try.ntmps30
    go_wp2_with fail
    refine (HS.out _).mono ?_
    rintro e' w' ⟨rfl, rfl⟩
    clear HS
    have B0 : Hid (Below w'.heap.size w' w') := Lib.hid (Below.refl _ _)
    obtain ⟨base, hbase⟩ : ∃ b, b = w'.heap.size := ⟨_, rfl⟩
    go_wp2_with fail
    go_loopw [3, 4] (fun ov kv wr => ∃ (m : Nat) (rows : List (List (Int × Int))), kv = .int .i64 ((2 ^ m : Nat) : Int) ∧ 1 ≤ m ∧ m ≤ 17 ∧ Hid (layersF (p : Int) = rows ++ rowsK p (18 - m) (2 ^ m)) ∧ Hid (Lay wr w'.heap.size ov rows) ∧ Hid (Below w'.heap.size w' wr)) (fun _ kv _ => ((p : Int) + 1 - intOf kv).toNat)
    case atStart => exact ⟨1, [], rfl, by omega, by omega, Lib.hid HG.out, Lib.hid (Lay.nil _ _), B0⟩
    case round =>
      clear B0
      obtain ⟨m, rows, rfl, hm1, hm17, HPRE, HLY, HB⟩ := hrel
      obtain ⟨k, hk⟩ : ∃ k, k = 2 ^ m := ⟨_, rfl⟩
      have hk1 : 2 ≤ k := by rw [hk]; have : 2 ^ 1 ≤ 2 ^ m := Nat.pow_le_pow_right (by omega) hm1; omega
      have HK := Lib.hid hk
      rw [← hk] at HPRE ⊢
      clear hk
      by_cases hkn : k ≤ p
      · have hkn' : (k : Int) ≤ (p : Int) := by omega
        have hm16 : m ≤ 16 := by have := HPE.out m (by rw [← HK.out]; exact hkn); omega
        have HGO : Hid (layersF (p : Int) = rows ++ (rowsJ p k 17 (k / 2) ++ rowsK p (18 - (m + 1)) (2 * k))) := Lib.hid (by
          rw [HPRE.out, show 18 - m = (18 - (m + 1)) + 1 from by omega]
          simp only [rowsK]
          rw [if_pos hkn])
        have hk2 : k / 2 = 2 ^ (m - 1) := by
          rw [HK.out, show m = (m - 1) + 1 from by omega, Nat.pow_succ]; simp
        have HK2 := Lib.hid hk2
        clear HPRE hk2
        generalize hRK : rowsK p (18 - (m + 1)) (2 * k) = RK at HGO
        have HRKE := Lib.hid hRK
        clear hRK
        obtain ⟨w0, rfl⟩ : ∃ w0 : World, w0 = wr := ⟨_, rfl⟩
        have t1 : Int.tdiv (k : Int) 2 = ((k / 2 : Nat) : Int) := by rw [Int.tdiv_eq_ediv_of_nonneg (by omega)]; simp
        have t2 : IntKind.i64.wrap ((k / 2 : Nat) : Int) = ((k / 2 : Nat) : Int) := by rw [IntKind.wrap_i64] <;> omega
        go_wp2_with fail
        go_loopw [3, 5] (fun ov jv wr => ∃ (f j : Nat) (rows : List (List (Int × Int))), jv = .int .i64 (j : Int) ∧ (j = 0 ∨ ∃ b, j = 2 ^ b ∧ b + 1 ≤ f ∧ b ≤ 15) ∧ Hid (layersF (p : Int) = rows ++ (rowsJ p k f j ++ RK)) ∧ Hid (Lay wr w'.heap.size ov rows) ∧ Hid (Below w'.heap.size w' wr)) (fun _ jv _ => (intOf jv).toNat)
        case atStart => exact ⟨17, k / 2, rows, rfl, .inr ⟨m - 1, HK2.out, by omega, by omega⟩, HGO, HLY, HB⟩
        case round =>
          clear HLY HB HGO
          obtain ⟨f, j, rows2, rfl, hjb, HP2, HLY, HB⟩ := hrel
          by_cases hj0 : j = 0
          · subst hj0
            have HE : Hid (layersF (p : Int) = rows2 ++ RK) := Lib.hid (by rw [HP2.out, rowsJ_stop]; rfl)
            have m2 : IntKind.i64.wrap (2 * (k : Int)) = ((2 * k : Nat) : Int) := by rw [IntKind.wrap_i64] <;> omega
            have h2k : 2 * k = 2 ^ (m + 1) := by rw [HK.out, Nat.pow_succ, Nat.mul_comm]
            have H2K := Lib.hid h2k
            clear HP2 h2k
            go_wp2_with fail
            go_roundw
            case rel => exact ⟨m + 1, rows2, by rw [← H2K.out]; simp, by omega, by omega, by rw [← H2K.out, HRKE.out]; exact HE, HLY, HB⟩
            case measure => simp [intOf]; omega
          · obtain ⟨b, hb, hbf, hb15⟩ := hjb.resolve_left hj0
            have hj1 : 0 < j := by omega
            have hjle : j ≤ 32768 := by
              rw [hb]
              have : 2 ^ b ≤ 2 ^ 15 := Nat.pow_le_pow_right (by omega) hb15
              omega
            obtain ⟨f', rfl⟩ : ∃ f', f = f' + 1 := ⟨f - 1, by omega⟩
            have HP2' : Hid (layersF (p : Int) = (rows2 ++ [rowG k j p 0]) ++ (rowsJ p k f' (j / 2) ++ RK)) := Lib.hid (by
              rw [HP2.out]; simp only [rowsJ]; rw [if_pos hj1]; simp)
            have HJ2 : Hid (j / 2 = 0 ∨ ∃ b, j / 2 = 2 ^ b ∧ b + 1 ≤ f' ∧ b ≤ 15) := Lib.hid (by
              rw [hb]
              cases b with
              | zero => exact .inl rfl
              | succ b => exact .inr ⟨b, by rw [Nat.pow_succ]; simp, by omega, by omega⟩)
            clear HP2 hjb hb
            obtain ⟨w1, rfl⟩ : ∃ w1 : World, w1 = wr := ⟨_, rfl⟩
            go_wp2_with fail
            go_loopw [6, 7] (fun rv iv wx => ∃ (i : Nat) (pre : List (Int × Int)), iv = .int .i64 (i : Int) ∧ i ≤ p ∧ Hid (rowG k j p 0 = pre ++ rowG k j (p - i) i) ∧ Hid (OwnP wx w1.heap.size 38 rv pre) ∧ Hid (Below w1.heap.size w1 wx)) (fun _ iv _ => ((p : Int) - intOf iv).toNat)
            case atStart => exact ⟨0, [], rfl, by omega, Lib.hid rfl, Lib.hid (World.ownsRow_nil _ _ _ _), Lib.hid (Below.refl _ _)⟩
            case round =>
              obtain ⟨i, pre, rfl, hip, HPR, HO, HW⟩ := hrel
              by_cases hin : i < p
              · have hin' : (i : Int) < (p : Int) := by omega
                have m2 : IntKind.i64.wrap ((i : Int) + 1) = ((i + 1 : Nat) : Int) := by rw [IntKind.wrap_i64] <;> omega
                obtain ⟨w2, rfl⟩ : ∃ w2 : World, w2 = wr := ⟨_, rfl⟩
                by_cases hij : i / j % 2 = 1
                · have HG2 : Hid (rowG k j p 0 = pre ++ rowG k j (p - (i + 1)) (i + 1)) := Lib.hid (by
                    rw [HPR.out, show p - i = (p - (i + 1)) + 1 from by omega]; simp only [rowG]; rw [if_pos hij])
                  have q5 : ((wrap64 ((i : Int) / (j : Int))).tmod 2 == 1) = true := tog_yes (by omega) hij
                  clear HPR hij
                  go_wp2_with fail
                  go_roundw
                  case rel => exact ⟨i + 1, _, rfl, by omega, HG2, HO, HW⟩
                  case measure => simp [intOf]; omega
                · have q5 : ((wrap64 ((i : Int) / (j : Int))).tmod 2 == 1) = false := tog_no (by omega) hij
                  have m3 : IntKind.i64.wrap ((i : Int) + (j : Int)) = (i : Int) + (j : Int) := by rw [IntKind.wrap_i64] <;> omega
                  have HPR' : Hid (rowG k j p 0 = (pre ++ [gate k j i]) ++ rowG k j (p - (i + 1)) (i + 1)) := Lib.hid (by
                    rw [HPR.out, show p - i = (p - (i + 1)) + 1 from by omega]; simp only [rowG]; rw [if_neg hij]; simp)
                  have hlp : pre.length ≤ 4000000 := by
                    have := congrArg List.length HPR.out
                    have h2 := rowG_len k j p 0
                    rw [List.length_append] at this
                    omega
                  clear hij HPR
                  by_cases hik : i / k % 2 = 1
                  · have q10 : ((wrap64 ((i : Int) / (k : Int))).tmod 2 == 1) = true := tog_yes (by omega) hik
                    have hgt : gate k j i = ((i : Int) + (j : Int), (i : Int)) := by unfold gate; rw [if_pos hik]; simp
                    rw [hgt] at HPR'
                    clear hgt hik
                    obtain ⟨w2g, hw2g⟩ : ∃ g, g = w2.alloc (.cells #[.int .i64 ((i : Int) + (j : Int)), .int .i64 ((i : Int))] 38) := ⟨_, rfl⟩
                    have HOg : Hid (OwnP w2g w1.heap.size 38 u6 pre) := Lib.hid (by rw [hw2g]; exact World.ownsRow.alloc HO.out _)
                    have HWg : Hid (Below w1.heap.size w1 w2g) := Lib.hid (by rw [hw2g]; exact HW.out.alloc HW.out.size _)
                    have HEg := Lib.hid hw2g
                    clear hw2g
                    go_wp2_with (show wpList _ _ _ ({ dst := some 51, op := _, type := _, pos := _, after := _, guard := _ } :: _) _ _; refine wpList_pushP w2g rfl _ _ 32 rfl w1.heap.size 38 _ rfl Try.underlying32 info38 ((i : Int) + (j : Int), (i : Int)) (by rw [HEg.out]) _ pre rfl (by rw [HEg.out]; first | rfl | (show Value.slice (some ⟨w2.heap.size + 1, 0, none⟩) 1 1 = _; simp)) HOg.out hlp HWg.out.size ?_; intro v' w4 ho hf; have HO2 := Lib.hid ho; have HW2 : Hid (Below w1.heap.size w1 w4) := Lib.hid (HWg.out.trans (hf.below (B := w1.heap.size) HWg.out.size (fun j hj => (World.ownsRow.lt HOg.out j hj).1))); clear ho hf)
                    go_roundw
                    case rel => exact ⟨i + 1, _, rfl, by omega, HPR', HO2, HW2⟩
                    case measure => simp [intOf]; omega
                  · have q10 : ((wrap64 ((i : Int) / (k : Int))).tmod 2 == 1) = false := tog_no (by omega) hik
                    have hgt : gate k j i = ((i : Int), (i : Int) + (j : Int)) := by unfold gate; rw [if_neg hik]; simp
                    rw [hgt] at HPR'
                    clear hgt hik
                    obtain ⟨w2g, hw2g⟩ : ∃ g, g = w2.alloc (.cells #[.int .i64 ((i : Int)), .int .i64 ((i : Int) + (j : Int))] 38) := ⟨_, rfl⟩
                    have HOg : Hid (OwnP w2g w1.heap.size 38 u6 pre) := Lib.hid (by rw [hw2g]; exact World.ownsRow.alloc HO.out _)
                    have HWg : Hid (Below w1.heap.size w1 w2g) := Lib.hid (by rw [hw2g]; exact HW.out.alloc HW.out.size _)
                    have HEg := Lib.hid hw2g
                    clear hw2g
                    go_wp2_with (show wpList _ _ _ ({ dst := some 51, op := _, type := _, pos := _, after := _, guard := _ } :: _) _ _; refine wpList_pushP w2g rfl _ _ 32 rfl w1.heap.size 38 _ rfl Try.underlying32 info38 ((i : Int), (i : Int) + (j : Int)) (by rw [HEg.out]) _ pre rfl (by rw [HEg.out]; first | rfl | (show Value.slice (some ⟨w2.heap.size + 1, 0, none⟩) 1 1 = _; simp)) HOg.out hlp HWg.out.size ?_; intro v' w4 ho hf; have HO2 := Lib.hid ho; have HW2 : Hid (Below w1.heap.size w1 w4) := Lib.hid (HWg.out.trans (hf.below (B := w1.heap.size) HWg.out.size (fun j hj => (World.ownsRow.lt HOg.out j hj).1))); clear ho hf)
                    go_roundw
                    case rel => exact ⟨i + 1, _, rfl, by omega, HPR', HO2, HW2⟩
                    case measure => simp [intOf]; omega
              · have HE : Hid (rowG k j p 0 = pre) := Lib.hid (by rw [HPR.out, show p - i = 0 from by omega]; simp [rowG])
                clear HPR
                obtain ⟨A, c, rfl, _⟩ := HO.out.slice
                obtain ⟨w3, rfl⟩ : ∃ w3 : World, w3 = wr := ⟨_, rfl⟩
                have HL3 := Lib.hid (HLY.out.below HW.out)
                have HB3 : Hid (Below w'.heap.size w' w3) := Lib.hid (HB.out.trans (HW.out.mono HB.out.size))
                have hbase3 : w'.heap.size ≤ w3.heap.size := HB3.out.size
                have hne : Hid (pre ≠ []) := Lib.hid (by rw [← HE.out]; exact rowG_ne hp1)
                have HP3 : Hid (layersF (p : Int) = (rows2 ++ [pre]) ++ (rowsJ p k f' (j / 2) ++ RK)) := Lib.hid (by rw [HP2'.out, HE.out])
                have HRW : Hid (OwnP w3 w'.heap.size 38 (.slice A pre.length c) pre) := Lib.hid (HO.out.lower HB.out.size)
                have hlr : rows2.length ≤ 289 := by
                  have := congrArg List.length HP3.out
                  have h2 := HLL.out
                  rw [List.length_append, List.length_append] at this
                  omega
                obtain ⟨cs, hc1, hc2, hc3, hc4⟩ := HL3.out
                have HC1 := Lib.hid hc1
                have HC3 := Lib.hid hc3
                have HC4 := Lib.hid hc4
                have hby : (cs.length + 1) * 24 ≤ 140737488355328 := by omega
                clear hc1 hc3 hc4 HP2' HO HLY
                go_wp2_with (show wpList _ _ _ ({ dst := some 55, op := _, type := _, pos := _, after := _, guard := _ } :: _) _ _; refine wpList_pushV w3 rfl _ _ 61 rfl w'.heap.size 32 (.slice none 0 0) 24 Try.underlying61 info32 rfl _ rfl rfl u3 cs rfl rfl HC1.out hby (by decide) hbase3 ?_; intro v' w4 ho hp; have HL4 : Hid (Lay w4 w'.heap.size v' (rows2 ++ [pre])) := Lib.hid (Lay.push cs HC1.out hc2 HC3.out HC4.out HRW.out hne.out ho hp.fr); have HB4 : Hid (Below w'.heap.size w' w4) := Lib.hid (HB3.out.trans (hp.fr.below (B := w'.heap.size) hbase3 (fun j hj => (HC1.out.base_le hj).1))); clear ho hp)
                go_roundw
                case rel => exact ⟨f', j / 2, _, by simp, HJ2.out, HP3, HL4, HB4⟩
                case measure => simp [intOf]; omega
      · have HE : Hid (layersF (p : Int) = rows) := Lib.hid (by rw [HPRE.out, rowsK_stop (by omega)]; simp)
        clear HPRE
        go_wp2_with fail
        go_ret
        exact ⟨_, rfl, by rw [HE.out]; exact HLY.out, HB.out⟩
end Go.Proofs.Ytpglocgfdonmaaa

/-
  Walk: Block: the document's.
-/
import Derived.Test.YtcfbaildcocnhaaBl
import Derived.Test.YtcfbaildcocnhaaSd
import Derived.Test.YtcfbaildcocnhaaRq
import Derived.Deep.Cut
import Derived.Deep.DeepCutAuto
set_option linter.unusedVariables false
set_option linter.unusedSimpArgs false
namespace Go.Proofs.Ytcfbaildcocnhaa
open Go.RowKit

def plN : List Nat := [0, 4, 8, 12, 1, 5, 9, 13, 2, 6, 10, 14, 3, 7, 11, 15, 0, 5, 10, 15, 1, 6, 11, 12, 2, 7, 8, 13, 3, 4, 9, 14]
def plL : List Int := plN.map (fun x : Nat => (x : Int))
theorem info3 : (Try.prog.info? 3).map (fun i => (i.zero, i.size, i.bytes)) = some (some (.int .i64 0), 1, 8) := by kernel_rfl
theorem places_any (w : World) : Calls Try.prog 87 #[] w (Made 3 .i64 plL w) := by
  go_enter Try.func87, Try.ntmps87
  go_wp2_with fail
  go_ret
  exact ⟨_, rfl, Own.mk (rest := []) (Nat.le_refl _) (by rw [List.append_nil]; exact Blk.new w 3 (plL.map (Value.int .i64))) rfl (by decide), (Below.refl _ w).alloc (Nat.le_refl _) _⟩
/-- The places of the j-th quarter. -/
theorem step_places (L : List Nat) (j : Nat) (hj : j < 8) : twTo L (j + 1) = qst (twTo L j) (plN.getD (4 * j) 0) (plN.getD (4 * j + 1) 0) (plN.getD (4 * j + 2) 0) (plN.getD (4 * j + 3) 0) := by
  rw [twTo_succ]
  have : j = 0 ∨ j = 1 ∨ j = 2 ∨ j = 3 ∨ j = 4 ∨ j = 5 ∨ j = 6 ∨ j = 7 := by omega
  rcases this with rfl | rfl | rfl | rfl | rfl | rfl | rfl | rfl <;> rfl
theorem plN_lt (m : Nat) : plN.getD m 0 < 16 := by
  by_cases h : m < 32
  · have : ∀ m, m < 32 → plN.getD m 0 < 16 := by decide
    exact this m h
  · rw [List.getD_eq_getElem?_getD, List.getElem?_eq_none (by show 32 ≤ m; omega)]; decide
/-- Words as cells of the document's. -/
def V64 (L : List Nat) : List Value := L.map (fun x : Nat => Value.int .u64 (x : Int))
theorem V64_at {w : World} {g T : Nat} {L : List Nat} {r : List Value} (h : Blk w g T (V64 L ++ r)) (i : Nat) (hi : i < L.length) : w.cell? ⟨g, i, none⟩ = some (.int .u64 ((L.getD i 0 : Nat) : Int)) := by
  rw [h.cell i, List.getElem?_append_left (by simpa [V64] using hi)]
  unfold V64
  rw [List.getElem?_map, List.getD_eq_getElem?_getD, List.getElem?_eq_getElem hi]
  rfl
theorem V64_set {w : World} {g T : Nat} {L : List Nat} {r : List Value} (h : Blk w g T (V64 L ++ r)) (i x : Nat) (hi : i < L.length) : Blk (w.setCell ⟨g, i, none⟩ (.int .u64 (x : Int))) g T (V64 (L.set i x) ++ r) := by
  have := Blk.set h i (.int .u64 (x : Int))
  rw [List.set_append_left _ _ (by simpa [V64] using hi)] at this
  unfold V64 at this ⊢
  rw [List.map_set]
  exact this
theorem V64_state (ks ns : List Int) (c : Nat) : (stD ks ns c).map (Value.int .u64) = V64 (stL ks ns c) := by
  rw [stD_eq]; simp [V64]
theorem pl_at {w : World} {g : Nat} {r : List Value} (h : Blk w g 3 (plL.map (Value.int .i64) ++ r)) (m : Nat) (hm : m < 32) : w.cell? ⟨g, m, none⟩ = some (.int .i64 ((plN.getD m 0 : Nat) : Int)) := by
  rw [h.cell m, List.getElem?_append_left (by show m < 32; exact hm)]
  unfold plL
  rw [List.getElem?_map, List.getElem?_map, List.getD_eq_getElem?_getD, List.getElem?_eq_getElem (show m < plN.length from hm)]
  rfl
/-- A row of 16 that was made: its block. -/
theorem made_blk {w : World} {base T : Nat} {k : IntKind} {v : Value} {xs : List Int} (h : Own w base T k v xs) (h0 : 0 < xs.length) : ∃ g c r, v = .slice (some ⟨g, 0, none⟩) xs.length c ∧ base ≤ g ∧ Blk w g T (xs.map (Value.int k) ++ r) ∧ xs.length ≤ c ∧ c ≤ maxLen := by
  rcases h.form with ⟨rfl, rfl⟩ | ⟨g, c, rest, rfl, hg, hB, hc, hm⟩
  · simp at h0
  · exact ⟨g, c, rest, rfl, hg, hB, by omega, hm⟩
/-- A quarter of a state laid back, n places of it. -/
def qsN (L : List Nat) (q : Q4) (a b c d : Nat) : Nat → List Nat
  | 0 => L
  | 1 => L.set a q.a
  | 2 => (L.set a q.a).set b q.b
  | 3 => ((L.set a q.a).set b q.b).set c q.c
  | _ => (((L.set a q.a).set b q.b).set c q.c).set d q.d
theorem one4 (a b c d : Int) : (#[Value.int .u64 a, .int .u64 b, .int .u64 c, .int .u64 d]).all (·.oneCell') = true := by
  rw [← Array.all_toList]; rfl
theorem info27 : (Try.prog.info? 133).map (·.size) = some 4 := by kernel_rfl
def qn (q : Q4) : Nat → Nat
  | 0 => q.a
  | 1 => q.b
  | 2 => q.c
  | _ => q.d
theorem qsN_succ (L : List Nat) (q : Q4) (m n : Nat) (hn : n < 4) : qsN L q (plN.getD m 0) (plN.getD (m + 1) 0) (plN.getD (m + 2) 0) (plN.getD (m + 3) 0) (n + 1) = (qsN L q (plN.getD m 0) (plN.getD (m + 1) 0) (plN.getD (m + 2) 0) (plN.getD (m + 3) 0) n).set (plN.getD (m + n) 0) (qn q n) := by
  have : n = 0 ∨ n = 1 ∨ n = 2 ∨ n = 3 := by omega
  rcases this with rfl | rfl | rfl | rfl <;> rfl
theorem qsN_len (L : List Nat) (q : Q4) (a b c d n : Nat) : (qsN L q a b c d n).length = L.length := by
  unfold qsN; split <;> simp
theorem q4s_at {w : World} {g T : Nat} {q : Q4} (h : Blk w g T (q4s q)) (n : Nat) (hn : n < 4) : w.cell? ⟨g, n, none⟩ = some (.int .u64 ((qn q n : Nat) : Int)) := by
  have : n = 0 ∨ n = 1 ∨ n = 2 ∨ n = 3 := by omega
  rcases this with rfl | rfl | rfl | rfl
  · exact h.cell 0
  · exact h.cell 1
  · exact h.cell 2
  · exact h.cell 3
/-- The first m bytes laid. -/
def ocL (T S : List Nat) (m : Nat) : List Int := (outW T S 16).take m ++ List.replicate (64 - m) 0
theorem ocL_len (T S : List Nat) (m : Nat) (hm : m ≤ 64) : (ocL T S m).length = 64 := by
  rw [ocL, List.length_append, List.length_take, outW_len, List.length_replicate]; omega
theorem outW_at (T S : List Nat) (n i k : Nat) (hi : i < n) (hk : k < 4) : (outW T S n).getD (4 * i + k) 0 = (leN (add32 (T.getD i 0) (S.getD i 0)) 4).getD k 0 := by
  induction n with
  | zero => omega
  | succ n ih =>
    rw [outW_succ]
    by_cases h : i < n
    · rw [← ih h, List.getD_eq_getElem?_getD, List.getElem?_append_left (by rw [outW_len]; omega), ← List.getD_eq_getElem?_getD]
    · obtain rfl : i = n := by omega
      rw [List.getD_eq_getElem?_getD, List.getElem?_append_right (by rw [outW_len]; omega), outW_len, Nat.add_sub_cancel_left, ← List.getD_eq_getElem?_getD]
theorem ocL_set (T S : List Nat) (i k : Nat) (hi : i < 16) (hk : k < 4) : (ocL T S (4 * i + k)).set (4 * i + k) ((leN (add32 (T.getD i 0) (S.getD i 0)) 4).getD k 0) = ocL T S (4 * i + k + 1) := by
  have hl : (outW T S 16).length = 64 := outW_len T S 16
  have ht : ((outW T S 16).take (4 * i + k)).length = 4 * i + k := by rw [List.length_take]; omega
  unfold ocL
  rw [List.set_append_right _ _ (by omega), ht, Nat.sub_self, take_snocI _ _ (by omega), outW_at T S 16 i k hi hk]
  rw [show 64 - (4 * i + k) = (64 - (4 * i + k + 1)) + 1 from by omega, List.replicate_succ, List.set_cons_zero, List.append_assoc, List.singleton_append]
theorem ocL_all (T S : List Nat) : ocL T S 64 = outL T S 16 := by
  unfold ocL outL
  rw [List.take_of_length_le (by rw [outW_len]; omega)]

set_option maxRecDepth 100000 in
set_option maxHeartbeats 16000000 in
theorem rblock_any (ks ns : List Int) (c : Nat) (w : World) (hk : ks.length = 32) (hn : ns.length = 12) (bk : B8 ks) (bn : B8 ns) (hc : c < 4294967296) :
    Calls Try.prog 78 #[.agg (AY .u8 ks), .int .u32 (c : Int), .agg (AY .u8 ns)] w fun e w' => e = .returned (.agg (AY .u8 (blkL ks ns c))) ∧ Below w.heap.size w w' := by
  have HCS : Hid (∀ W, Calls Try.prog 86 #[.agg (AY .u8 ks), .int .u32 (c : Int), .agg (AY .u8 ns)] W (Made 62 .u64 (stD ks ns c) W)) := Lib.hid (fun W => rstate_any ks ns c W hk hn bk bn hc)
  have HWS : Hid (W16 (stL ks ns c)) := Lib.hid (W16_stL bk bn hc)
  have I31 : Hid ((Try.prog.info? 53).map (·.size) = some (AY .u8 ks).size) := Lib.hid (by rw [info31, AY_size, hk])
  have I33 : Hid ((Try.prog.info? 121).map (·.size) = some (AY .u8 ns).size) := Lib.hid (by rw [info33, AY_size, hn])
  have HVS : Hid ((stD ks ns c).map (Value.int .u64) = V64 (stL ks ns c)) := Lib.hid (V64_state ks ns c)
  have HSD : Hid ((stD ks ns c).length = 16) := Lib.hid (stD_len ks ns c)
  clear bk bn hk hn
  go_enter Try.func78, Try.ntmps78
  go_upto_region 1 with fail
  generalize hG : w.heap.size = G
  generalize hW3 : ((w.alloc _).alloc _).alloc _ = w3
  have K3 : Hid (w3.heap[G]? = some (.cells (AY .u8 ks) 53 (0, 0))) := Lib.hid (blk_AY (by rw [← hW3]; exact ((AY_new_at .u8 w 53 ks hG.symm).alloc _).alloc _))
  have N3 : Hid (w3.heap[G + 1]? = some (.cells (AY .u8 ns) 121 (0, 0))) := Lib.hid (blk_AY (by rw [← hW3]; exact (AY_new_at .u8 _ 121 ns (by rw [← hG]; simp)).alloc _))
  have R3 : Hid (Blk w3 (G + 1 + 1) 103 (Z64.map (Value.int .u8))) := Lib.hid (by rw [← hW3]; exact Blk.new_at _ 103 (Z64.map (Value.int .u8)) (by rw [← hG]; simp))
  have F3 : Hid (Below G w w3) := Lib.hid (by rw [← hW3]; exact (((Below.refl _ w).alloc (by omega) _).alloc (by simp; omega) _).alloc (by simp; omega) _)
  have HGE := Lib.hid hG
  clear hG hW3
  go_wp2_with (first
    | (show wpList _ _ _ ({ dst := some 18, op := _, type := _, pos := _, after := _, guard := _ } :: _) _ _; refine wpList_load_row rfl 53 _ rfl G rfl 53 (AY .u8 ks) (0, 0) _ K3.out Try.underlying53 rfl I31.out ?_)
    | (show wpList _ _ _ ({ dst := some 20, op := _, type := _, pos := _, after := _, guard := _ } :: _) _ _; refine wpList_load_row rfl 121 _ rfl (G + 1) rfl 121 (AY .u8 ns) (0, 0) _ N3.out Try.underlying121 rfl I33.out ?_))
  refine (HCS.out w3).mono ?_
  rintro e w4 ⟨v4, rfl, o4, b4⟩
  have K4 : Hid (w4.heap[G]? = some (.cells (AY .u8 ks) 53 (0, 0))) := Lib.hid ((b4.block _ (Array.getElem?_eq_some_iff.1 K3.out).1).trans K3.out)
  have N4 : Hid (w4.heap[G + 1]? = some (.cells (AY .u8 ns) 121 (0, 0))) := Lib.hid ((b4.block _ (Array.getElem?_eq_some_iff.1 N3.out).1).trans N3.out)
  have R4 : Hid (Blk w4 (G + 1 + 1) 103 (Z64.map (Value.int .u8))) := Lib.hid (R3.out.below b4 R3.out.lt)
  have F4 : Hid (Below G w w4) := Lib.hid (F3.out.trans (b4.mono (by have := R3.out.lt; omega)))
  obtain ⟨gF, cF, rF, hv4, hgF, hBF, hcF, -⟩ := made_blk o4 (by rw [HSD.out]; decide)
  rw [HSD.out] at hv4 hcF
  rw [HVS.out] at hBF
  subst hv4
  have BF4 := Lib.hid hBF
  have HGF : Hid (G + 1 + 1 < gF) := Lib.hid (by have := R3.out.lt; omega)
  clear o4 b4 K3 N3 R3 F3 hBF hgF
  go_wp2_with (first
    | (show wpList _ _ _ ({ dst := some 22, op := _, type := _, pos := _, after := _, guard := _ } :: _) _ _; refine wpList_load_row rfl 53 _ rfl G rfl 53 (AY .u8 ks) (0, 0) _ K4.out Try.underlying53 rfl I31.out ?_)
    | (show wpList _ _ _ ({ dst := some 24, op := _, type := _, pos := _, after := _, guard := _ } :: _) _ _; refine wpList_load_row rfl 121 _ rfl (G + 1) rfl 121 (AY .u8 ns) (0, 0) _ N4.out Try.underlying121 rfl I33.out ?_))
  refine (HCS.out w4).mono ?_
  rintro e w5 ⟨v5, rfl, o5, b5⟩
  have R5 : Hid (Blk w5 (G + 1 + 1) 103 (Z64.map (Value.int .u8))) := Lib.hid (R4.out.below b5 R4.out.lt)
  have BF5 : Hid (Blk w5 gF 62 (V64 (stL ks ns c) ++ rF)) := Lib.hid (BF4.out.below b5 BF4.out.lt)
  have F5 : Hid (Below G w w5) := Lib.hid (F4.out.trans (b5.mono (by have := R4.out.lt; omega)))
  obtain ⟨gL, cL, rL, hv5, hgL, hBL, hcL, -⟩ := made_blk o5 (by rw [HSD.out]; decide)
  rw [HSD.out] at hv5 hcL
  rw [HVS.out] at hBL
  subst hv5
  have BL5 := Lib.hid hBL
  have HGL : Hid (gF < gL) := Lib.hid (by have := BF4.out.lt; omega)
  clear o5 b5 K4 N4 R4 F4 BF4 hBL hgL HCS
  go_wp2_with fail
  refine (places_any w5).mono ?_
  rintro e w6 ⟨v6, rfl, o6, b6⟩
  have R6 : Hid (Blk w6 (G + 1 + 1) 103 (Z64.map (Value.int .u8))) := Lib.hid (R5.out.below b6 R5.out.lt)
  have BF6 : Hid (Blk w6 gF 62 (V64 (stL ks ns c) ++ rF)) := Lib.hid (BF5.out.below b6 BF5.out.lt)
  have BL6 : Hid (Blk w6 gL 62 (V64 (rndC (stL ks ns c) 0) ++ rL)) := Lib.hid (BL5.out.below b6 BL5.out.lt)
  have F6 : Hid (Below G w w6) := Lib.hid (F5.out.trans (b6.mono (by have := R5.out.lt; omega)))
  obtain ⟨gP, cP, rP, hv6, hgP, hBP, hcP, -⟩ := made_blk o6 (by decide)
  replace hv6 : v6 = .slice (some ⟨gP, 0, none⟩) 32 cP := hv6
  replace hcP : 32 ≤ cP := hcP
  subst hv6
  have BP6 := Lib.hid hBP
  have HGP : Hid (gL < gP) := Lib.hid (by have := BL5.out.lt; omega)
  have HRES0 : Hid (∀ S, stL ks ns c = S → blkL ks ns c = outL (rndC S 10) S 16) := Lib.hid (fun S hS => by rw [blkL_eq, hS])
  clear o6 b6 R5 F5 BF5 BL5 hBP hgP HVS HSD I31 I33
  generalize stL ks ns c = S0 at *
  have HRES : Hid (blkL ks ns c = outL (rndC S0 10) S0 16) := Lib.hid (HRES0.out S0 rfl)
  clear HRES0
  go_wp2_with fail
  go_loopw [10] (fun iv wr => ∃ i : Nat, i ≤ 10 ∧ iv = .int .i64 i ∧ Hid (Blk wr gL 62 (V64 (rndC S0 i) ++ rL)) ∧ Hid (Fr (fun j => j = gL) w6 wr)) (fun iv _ => 10 - (intOf iv).toNat)
  case atStart => exact ⟨0, Nat.zero_le _, rfl, BL6, Lib.hid (Fr.refl _ _)⟩
  case round =>
    clear BL6
    obtain ⟨i, hi, rfl, HBL, HF⟩ := hrel
    by_cases hlt : i < 10
    · have hd1 : decide ((i : Int) < 10) = true := by simp; omega
      have HWR : Hid (W16 (rndC S0 i)) := Lib.hid (HWS.out.rndC i)
      have HNX : Hid (rndC S0 (i + 1) = twTo (rndC S0 i) 8) := Lib.hid (by rw [rndC_succ, tw8_eq])
      generalize rndC S0 i = R at *
      go_wp2_with fail
      go_loopw [11] (fun iv wr => ∃ j M : Nat, j ≤ 8 ∧ Hid (M = 4 * j) ∧ iv = .int .i64 (M : Int) ∧ Hid (Blk wr gL 62 (V64 (twTo R j) ++ rL)) ∧ Hid (Fr (fun j => j = gL) w6 wr)) (fun iv _ => 32 - (intOf iv).toNat)
      case atStart => exact ⟨0, 0, Nat.zero_le _, Lib.hid rfl, rfl, HBL, HF⟩
      case round =>
        clear HBL HF
        obtain ⟨j, M, hj, HM, rfl, HBL, HF⟩ := hrel
        by_cases hlt2 : j < 8
        · have HWV : Hid (W16 (twTo R j)) := Lib.hid (HWR.out.tw j)
          have HSQ : Hid (twTo R (j + 1) = qst (twTo R j) (plN.getD (4 * j) 0) (plN.getD (4 * j + 1) 0) (plN.getD (4 * j + 2) 0) (plN.getD (4 * j + 3) 0)) := Lib.hid (step_places R j hlt2)
          have HJ1 : Hid (∀ Z, twTo R (j + 1) = Z → Hid (Blk wr gL 62 (V64 Z ++ rL)) → Hid (Blk wr gL 62 (V64 (twTo R (j + 1)) ++ rL))) := Lib.hid (fun Z h k => by rw [h]; exact k)
          clear HJ1
          generalize hV : twTo R j = V at *
          clear hV
          have hM32 : M + 3 < 32 := by have := HM.out; omega
          rw [← HM.out] at HSQ
          obtain ⟨pa, hpa⟩ : ∃ x, x = plN.getD M 0 := ⟨_, rfl⟩
          obtain ⟨pb, hpb⟩ : ∃ x, x = plN.getD (M + 1) 0 := ⟨_, rfl⟩
          obtain ⟨pc, hpc⟩ : ∃ x, x = plN.getD (M + 2) 0 := ⟨_, rfl⟩
          obtain ⟨pd, hpd⟩ : ∃ x, x = plN.getD (M + 3) 0 := ⟨_, rfl⟩
          have HPS : Hid (pa = plN.getD M 0 ∧ pb = plN.getD (M + 1) 0 ∧ pc = plN.getD (M + 2) 0 ∧ pd = plN.getD (M + 3) 0) := Lib.hid ⟨hpa, hpb, hpc, hpd⟩
          have la : pa < 16 := by rw [hpa]; exact plN_lt _
          have lb : pb < 16 := by rw [hpb]; exact plN_lt _
          have lc : pc < 16 := by rw [hpc]; exact plN_lt _
          have ld : pd < 16 := by rw [hpd]; exact plN_lt _
          rw [← hpa, ← hpb, ← hpc, ← hpd] at HSQ
          have HBP : Hid (Blk wr gP 3 (plL.map (Value.int .i64) ++ rP)) := Lib.hid (BP6.out.fr HF.out (by have := HGP.out; omega))
          have Pa : Hid (wr.cell? ⟨gP, M, none⟩ = some (.int .i64 (pa : Int))) := Lib.hid (by rw [hpa]; exact pl_at HBP.out M (by omega))
          have Pb : Hid (wr.cell? ⟨gP, M + 1, none⟩ = some (.int .i64 (pb : Int))) := Lib.hid (by rw [hpb]; exact pl_at HBP.out _ (by omega))
          have Pc : Hid (wr.cell? ⟨gP, M + 2, none⟩ = some (.int .i64 (pc : Int))) := Lib.hid (by rw [hpc]; exact pl_at HBP.out _ (by omega))
          have Pd : Hid (wr.cell? ⟨gP, M + 3, none⟩ = some (.int .i64 (pd : Int))) := Lib.hid (by rw [hpd]; exact pl_at HBP.out _ (by omega))
          clear hpa hpb hpc hpd
          have hq4 : (Q4.mk (V.getD pa 0) (V.getD pb 0) (V.getD pc 0) (V.getD pd 0)).ok := ⟨HWV.out.lt _, HWV.out.lt _, HWV.out.lt _, HWV.out.lt _⟩
          have Xa : Hid (wr.cell? ⟨gL, pa, none⟩ = some (.int .u64 ((V.getD pa 0 : Nat) : Int))) := Lib.hid (V64_at HBL.out pa (by rw [HWV.out.len]; exact la))
          have Xb : Hid (wr.cell? ⟨gL, pb, none⟩ = some (.int .u64 ((V.getD pb 0 : Nat) : Int))) := Lib.hid (V64_at HBL.out pb (by rw [HWV.out.len]; exact lb))
          have Xc : Hid (wr.cell? ⟨gL, pc, none⟩ = some (.int .u64 ((V.getD pc 0 : Nat) : Int))) := Lib.hid (V64_at HBL.out pc (by rw [HWV.out.len]; exact lc))
          have Xd : Hid (wr.cell? ⟨gL, pd, none⟩ = some (.int .u64 ((V.getD pd 0 : Nat) : Int))) := Lib.hid (V64_at HBL.out pd (by rw [HWV.out.len]; exact ld))
          have HSQ2 : Hid (twTo R (j + 1) = qsN V (quarter ⟨V.getD pa 0, V.getD pb 0, V.getD pc 0, V.getD pd 0⟩) pa pb pc pd 4) := Lib.hid HSQ.out
          clear HSQ
          obtain ⟨xa, hxa⟩ : ∃ x, x = V.getD pa 0 := ⟨_, rfl⟩
          obtain ⟨xb, hxb⟩ : ∃ x, x = V.getD pb 0 := ⟨_, rfl⟩
          obtain ⟨xc, hxc⟩ : ∃ x, x = V.getD pc 0 := ⟨_, rfl⟩
          obtain ⟨xd, hxd⟩ : ∃ x, x = V.getD pd 0 := ⟨_, rfl⟩
          rw [← hxa, ← hxb, ← hxc, ← hxd] at HSQ2 hq4
          rw [← hxa] at Xa
          rw [← hxb] at Xb
          rw [← hxc] at Xc
          rw [← hxd] at Xd
          have HRQ : Hid (∀ W, Calls Try.prog 88 #[.agg #[.int .u64 xa, .int .u64 xb, .int .u64 xc, .int .u64 xd]] W fun e w' => e = .returned (.agg #[.int .u64 (quarter ⟨xa, xb, xc, xd⟩).a, .int .u64 (quarter ⟨xa, xb, xc, xd⟩).b, .int .u64 (quarter ⟨xa, xb, xc, xd⟩).c, .int .u64 (quarter ⟨xa, xb, xc, xd⟩).d]) ∧ Below W.heap.size W w') := Lib.hid (fun W => rquarter_any ⟨xa, xb, xc, xd⟩ W hq4)
          clear hxa hxb hxc hxd hq4
          generalize quarter ⟨xa, xb, xc, xd⟩ = q at *
          have hwM1 : IntKind.i64.wrap ((M : Int) + 1) = (M : Int) + 1 := by simp [IntKind.wrap, IntKind.bits, IntKind.signed]; omega
          have hwM2 : IntKind.i64.wrap ((M : Int) + 2) = (M : Int) + 2 := by simp [IntKind.wrap, IntKind.bits, IntKind.signed]; omega
          have hwM3 : IntKind.i64.wrap ((M : Int) + 3) = (M : Int) + 3 := by simp [IntKind.wrap, IntKind.bits, IntKind.signed]; omega
          have hM0 : (M : Int) < 32 := by omega
          have hd2 : decide ((M : Int) < 32) = true := by simp; omega
          go_upto_region 10 with fail
          go_cut [12] (fun qv wx => ∃ Q, qv = .pointer (some ⟨Q, 0, none⟩) ∧ Hid (wr.heap.size ≤ Q) ∧ Hid (Blk wx Q 133 (q4s q)) ∧ Hid (Below wr.heap.size wr wx))
          case first =>
            have hM1 : (M : Int) + 1 < 32 := by omega
            have hM2 : (M : Int) + 2 < 32 := by omega
            have hM3 : (M : Int) + 3 < 32 := by omega
            have hM4 : (0 : Int) ≤ (M : Int) + 1 := by omega
            have hM5 : (0 : Int) ≤ (M : Int) + 2 := by omega
            have hM6 : (0 : Int) ≤ (M : Int) + 3 := by omega
            have hM7 : ((M : Int) + 1).toNat = M + 1 := by omega
            have hM8 : ((M : Int) + 2).toNat = M + 2 := by omega
            have hM9 : ((M : Int) + 3).toNat = M + 3 := by omega
            have la' : (pa : Int) < 16 := by omega
            have lb' : (pb : Int) < 16 := by omega
            have lc' : (pc : Int) < 16 := by omega
            have ld' : (pd : Int) < 16 := by omega
            have IQ : Hid ((Try.prog.info? 133).map (·.size) = some (#[Value.int .u64 q.a, .int .u64 q.b, .int .u64 q.c, .int .u64 q.d]).size) := Lib.hid (by rw [info27]; rfl)
            refine wp_region_held_drew (S := fun w' => w'.heap[gP]? = wr.heap[gP]? ∧ w'.heap[gL]? = wr.heap[gL]?) (by kernel_rfl) (⟨rfl, rfl⟩) (fun hHeld => ?_)
            have HHd := Lib.hid hHeld
            clear hHeld
            have HPD : Hid (gP < wr.heap.size ∧ gL < wr.heap.size) := Lib.hid ⟨HBP.out.lt, HBL.out.lt⟩
            refine wpAnyH_take (i := 0) (oi := ⟨some 37, _, _, _, _, _⟩) (v := (.slice (some ⟨gL, 0, none⟩) 16 cL)) rfl (by kernel_rfl) (by kernel_rfl) (by kernel_rfl) (fun _ _ _ h => h) (Or.inl ⟨by rfl, ?_⟩) HHd.out ?_
            · intro w' hS; go_simp; try with_reducible rfl
            simp only [Act.put, List.setIfInBounds_toArray, List.set_cons_zero, List.set_cons_succ]
            refine wpAnyH_take (i := 1) (oi := ⟨some 38, _, _, _, _, _⟩) (v := (.slice (some ⟨gP, 0, none⟩) 32 cP)) rfl (by kernel_rfl) (by kernel_rfl) (by kernel_rfl) (fun _ _ _ h => h) (Or.inl ⟨by rfl, ?_⟩) HHd.out ?_
            · intro w' hS; go_simp; try with_reducible rfl
            simp only [Act.put, List.setIfInBounds_toArray, List.set_cons_zero, List.set_cons_succ]
            refine wpAnyH_take (i := 2) (oi := ⟨some 39, _, _, _, _, _⟩) (v := (.int .i64 ((M : Int) : Int))) rfl (by kernel_rfl) (by kernel_rfl) (by kernel_rfl) (fun _ _ _ h => h) (Or.inl ⟨by rfl, ?_⟩) HHd.out ?_
            · intro w' hS; go_simp; try with_reducible rfl
            simp only [Act.put, List.setIfInBounds_toArray, List.set_cons_zero, List.set_cons_succ]
            refine wpAnyH_take (i := 3) (oi := ⟨some 40, _, _, _, _, _⟩) (v := (.pointer (some ⟨gP, M, none⟩))) rfl (by kernel_rfl) (by kernel_rfl) (by kernel_rfl) (fun _ _ _ h => h) (Or.inl ⟨by rfl, ?_⟩) HHd.out ?_
            · intro w' hS; go_simp; try with_reducible rfl
            simp only [Act.put, List.setIfInBounds_toArray, List.set_cons_zero, List.set_cons_succ]
            refine wpAnyH_take (i := 4) (oi := ⟨some 41, _, _, _, _, _⟩) (v := (.int .i64 (pa : Int))) rfl (by kernel_rfl) (by kernel_rfl) (by kernel_rfl) (fun _ _ _ h => h) (Or.inl ⟨by rfl, ?_⟩) HHd.out ?_
            · intro w' hS; have z0 : w'.cell? ⟨gP, M, none⟩ = some (.int .i64 (pa : Int)) := (World.cell?_of_block (w := wr) (w' := w') hS.1).trans Pa.out; go_simp; try with_reducible rfl
            simp only [Act.put, List.setIfInBounds_toArray, List.set_cons_zero, List.set_cons_succ]
            refine wpAnyH_take (i := 5) (oi := ⟨some 42, _, _, _, _, _⟩) (v := (.pointer (some ⟨gL, pa, none⟩))) rfl (by kernel_rfl) (by kernel_rfl) (by kernel_rfl) (fun _ _ _ h => h) (Or.inl ⟨by rfl, ?_⟩) HHd.out ?_
            · intro w' hS; go_simp; try with_reducible rfl
            simp only [Act.put, List.setIfInBounds_toArray, List.set_cons_zero, List.set_cons_succ]
            refine wpAnyH_take (i := 6) (oi := ⟨some 43, _, _, _, _, _⟩) (v := (.int .u64 (xa : Int))) rfl (by kernel_rfl) (by kernel_rfl) (by kernel_rfl) (fun _ _ _ h => h) (Or.inl ⟨by rfl, ?_⟩) HHd.out ?_
            · intro w' hS; have z0 : w'.cell? ⟨gL, pa, none⟩ = some (.int .u64 (xa : Int)) := (World.cell?_of_block (w := wr) (w' := w') hS.2).trans Xa.out; go_simp; try with_reducible rfl
            simp only [Act.put, List.setIfInBounds_toArray, List.set_cons_zero, List.set_cons_succ]
            refine wpAnyH_take (i := 7) (oi := ⟨some 44, _, _, _, _, _⟩) (v := (.slice (some ⟨gL, 0, none⟩) 16 cL)) rfl (by kernel_rfl) (by kernel_rfl) (by kernel_rfl) (fun _ _ _ h => h) (Or.inl ⟨by rfl, ?_⟩) HHd.out ?_
            · intro w' hS; go_simp; try with_reducible rfl
            simp only [Act.put, List.setIfInBounds_toArray, List.set_cons_zero, List.set_cons_succ]
            refine wpAnyH_take (i := 8) (oi := ⟨some 45, _, _, _, _, _⟩) (v := (.slice (some ⟨gP, 0, none⟩) 32 cP)) rfl (by kernel_rfl) (by kernel_rfl) (by kernel_rfl) (fun _ _ _ h => h) (Or.inl ⟨by rfl, ?_⟩) HHd.out ?_
            · intro w' hS; go_simp; try with_reducible rfl
            simp only [Act.put, List.setIfInBounds_toArray, List.set_cons_zero, List.set_cons_succ]
            refine wpAnyH_take (i := 9) (oi := ⟨some 46, _, _, _, _, _⟩) (v := (.int .i64 ((M : Int) : Int))) rfl (by kernel_rfl) (by kernel_rfl) (by kernel_rfl) (fun _ _ _ h => h) (Or.inl ⟨by rfl, ?_⟩) HHd.out ?_
            · intro w' hS; go_simp; try with_reducible rfl
            simp only [Act.put, List.setIfInBounds_toArray, List.set_cons_zero, List.set_cons_succ]
            refine wpAnyH_take (i := 10) (oi := ⟨some 47, _, _, _, _, _⟩) (v := (.int .i64 ((M : Int) + 1))) rfl (by kernel_rfl) (by kernel_rfl) (by kernel_rfl) (fun _ _ _ h => h) (Or.inl ⟨by rfl, ?_⟩) HHd.out ?_
            · intro w' hS; go_simp; try with_reducible rfl
            simp only [Act.put, List.setIfInBounds_toArray, List.set_cons_zero, List.set_cons_succ]
            refine wpAnyH_take (i := 11) (oi := ⟨some 48, _, _, _, _, _⟩) (v := (.pointer (some ⟨gP, M + 1, none⟩))) rfl (by kernel_rfl) (by kernel_rfl) (by kernel_rfl) (fun _ _ _ h => h) (Or.inl ⟨by rfl, ?_⟩) HHd.out ?_
            · intro w' hS; go_simp; try with_reducible rfl
            simp only [Act.put, List.setIfInBounds_toArray, List.set_cons_zero, List.set_cons_succ]
            refine wpAnyH_take (i := 12) (oi := ⟨some 49, _, _, _, _, _⟩) (v := (.int .i64 (pb : Int))) rfl (by kernel_rfl) (by kernel_rfl) (by kernel_rfl) (fun _ _ _ h => h) (Or.inl ⟨by rfl, ?_⟩) HHd.out ?_
            · intro w' hS; have z0 : w'.cell? ⟨gP, M + 1, none⟩ = some (.int .i64 (pb : Int)) := (World.cell?_of_block (w := wr) (w' := w') hS.1).trans Pb.out; go_simp; try with_reducible rfl
            simp only [Act.put, List.setIfInBounds_toArray, List.set_cons_zero, List.set_cons_succ]
            refine wpAnyH_take (i := 13) (oi := ⟨some 50, _, _, _, _, _⟩) (v := (.pointer (some ⟨gL, pb, none⟩))) rfl (by kernel_rfl) (by kernel_rfl) (by kernel_rfl) (fun _ _ _ h => h) (Or.inl ⟨by rfl, ?_⟩) HHd.out ?_
            · intro w' hS; go_simp; try with_reducible rfl
            simp only [Act.put, List.setIfInBounds_toArray, List.set_cons_zero, List.set_cons_succ]
            refine wpAnyH_take (i := 14) (oi := ⟨some 51, _, _, _, _, _⟩) (v := (.int .u64 (xb : Int))) rfl (by kernel_rfl) (by kernel_rfl) (by kernel_rfl) (fun _ _ _ h => h) (Or.inl ⟨by rfl, ?_⟩) HHd.out ?_
            · intro w' hS; have z0 : w'.cell? ⟨gL, pb, none⟩ = some (.int .u64 (xb : Int)) := (World.cell?_of_block (w := wr) (w' := w') hS.2).trans Xb.out; go_simp; try with_reducible rfl
            simp only [Act.put, List.setIfInBounds_toArray, List.set_cons_zero, List.set_cons_succ]
            refine wpAnyH_take (i := 15) (oi := ⟨some 52, _, _, _, _, _⟩) (v := (.slice (some ⟨gL, 0, none⟩) 16 cL)) rfl (by kernel_rfl) (by kernel_rfl) (by kernel_rfl) (fun _ _ _ h => h) (Or.inl ⟨by rfl, ?_⟩) HHd.out ?_
            · intro w' hS; go_simp; try with_reducible rfl
            simp only [Act.put, List.setIfInBounds_toArray, List.set_cons_zero, List.set_cons_succ]
            refine wpAnyH_take (i := 16) (oi := ⟨some 53, _, _, _, _, _⟩) (v := (.slice (some ⟨gP, 0, none⟩) 32 cP)) rfl (by kernel_rfl) (by kernel_rfl) (by kernel_rfl) (fun _ _ _ h => h) (Or.inl ⟨by rfl, ?_⟩) HHd.out ?_
            · intro w' hS; go_simp; try with_reducible rfl
            simp only [Act.put, List.setIfInBounds_toArray, List.set_cons_zero, List.set_cons_succ]
            refine wpAnyH_take (i := 17) (oi := ⟨some 54, _, _, _, _, _⟩) (v := (.int .i64 ((M : Int) : Int))) rfl (by kernel_rfl) (by kernel_rfl) (by kernel_rfl) (fun _ _ _ h => h) (Or.inl ⟨by rfl, ?_⟩) HHd.out ?_
            · intro w' hS; go_simp; try with_reducible rfl
            simp only [Act.put, List.setIfInBounds_toArray, List.set_cons_zero, List.set_cons_succ]
            refine wpAnyH_take (i := 18) (oi := ⟨some 55, _, _, _, _, _⟩) (v := (.int .i64 ((M : Int) + 2))) rfl (by kernel_rfl) (by kernel_rfl) (by kernel_rfl) (fun _ _ _ h => h) (Or.inl ⟨by rfl, ?_⟩) HHd.out ?_
            · intro w' hS; go_simp; try with_reducible rfl
            simp only [Act.put, List.setIfInBounds_toArray, List.set_cons_zero, List.set_cons_succ]
            refine wpAnyH_take (i := 19) (oi := ⟨some 56, _, _, _, _, _⟩) (v := (.pointer (some ⟨gP, M + 2, none⟩))) rfl (by kernel_rfl) (by kernel_rfl) (by kernel_rfl) (fun _ _ _ h => h) (Or.inl ⟨by rfl, ?_⟩) HHd.out ?_
            · intro w' hS; go_simp; try with_reducible rfl
            simp only [Act.put, List.setIfInBounds_toArray, List.set_cons_zero, List.set_cons_succ]
            refine wpAnyH_take (i := 20) (oi := ⟨some 57, _, _, _, _, _⟩) (v := (.int .i64 (pc : Int))) rfl (by kernel_rfl) (by kernel_rfl) (by kernel_rfl) (fun _ _ _ h => h) (Or.inl ⟨by rfl, ?_⟩) HHd.out ?_
            · intro w' hS; have z0 : w'.cell? ⟨gP, M + 2, none⟩ = some (.int .i64 (pc : Int)) := (World.cell?_of_block (w := wr) (w' := w') hS.1).trans Pc.out; go_simp; try with_reducible rfl
            simp only [Act.put, List.setIfInBounds_toArray, List.set_cons_zero, List.set_cons_succ]
            refine wpAnyH_take (i := 21) (oi := ⟨some 58, _, _, _, _, _⟩) (v := (.pointer (some ⟨gL, pc, none⟩))) rfl (by kernel_rfl) (by kernel_rfl) (by kernel_rfl) (fun _ _ _ h => h) (Or.inl ⟨by rfl, ?_⟩) HHd.out ?_
            · intro w' hS; go_simp; try with_reducible rfl
            simp only [Act.put, List.setIfInBounds_toArray, List.set_cons_zero, List.set_cons_succ]
            refine wpAnyH_take (i := 22) (oi := ⟨some 59, _, _, _, _, _⟩) (v := (.int .u64 (xc : Int))) rfl (by kernel_rfl) (by kernel_rfl) (by kernel_rfl) (fun _ _ _ h => h) (Or.inl ⟨by rfl, ?_⟩) HHd.out ?_
            · intro w' hS; have z0 : w'.cell? ⟨gL, pc, none⟩ = some (.int .u64 (xc : Int)) := (World.cell?_of_block (w := wr) (w' := w') hS.2).trans Xc.out; go_simp; try with_reducible rfl
            simp only [Act.put, List.setIfInBounds_toArray, List.set_cons_zero, List.set_cons_succ]
            refine wpAnyH_take (i := 23) (oi := ⟨some 60, _, _, _, _, _⟩) (v := (.slice (some ⟨gL, 0, none⟩) 16 cL)) rfl (by kernel_rfl) (by kernel_rfl) (by kernel_rfl) (fun _ _ _ h => h) (Or.inl ⟨by rfl, ?_⟩) HHd.out ?_
            · intro w' hS; go_simp; try with_reducible rfl
            simp only [Act.put, List.setIfInBounds_toArray, List.set_cons_zero, List.set_cons_succ]
            refine wpAnyH_take (i := 24) (oi := ⟨some 61, _, _, _, _, _⟩) (v := (.slice (some ⟨gP, 0, none⟩) 32 cP)) rfl (by kernel_rfl) (by kernel_rfl) (by kernel_rfl) (fun _ _ _ h => h) (Or.inl ⟨by rfl, ?_⟩) HHd.out ?_
            · intro w' hS; go_simp; try with_reducible rfl
            simp only [Act.put, List.setIfInBounds_toArray, List.set_cons_zero, List.set_cons_succ]
            refine wpAnyH_take (i := 25) (oi := ⟨some 62, _, _, _, _, _⟩) (v := (.int .i64 ((M : Int) : Int))) rfl (by kernel_rfl) (by kernel_rfl) (by kernel_rfl) (fun _ _ _ h => h) (Or.inl ⟨by rfl, ?_⟩) HHd.out ?_
            · intro w' hS; go_simp; try with_reducible rfl
            simp only [Act.put, List.setIfInBounds_toArray, List.set_cons_zero, List.set_cons_succ]
            refine wpAnyH_take (i := 26) (oi := ⟨some 63, _, _, _, _, _⟩) (v := (.int .i64 ((M : Int) + 3))) rfl (by kernel_rfl) (by kernel_rfl) (by kernel_rfl) (fun _ _ _ h => h) (Or.inl ⟨by rfl, ?_⟩) HHd.out ?_
            · intro w' hS; go_simp; try with_reducible rfl
            simp only [Act.put, List.setIfInBounds_toArray, List.set_cons_zero, List.set_cons_succ]
            refine wpAnyH_take (i := 27) (oi := ⟨some 64, _, _, _, _, _⟩) (v := (.pointer (some ⟨gP, M + 3, none⟩))) rfl (by kernel_rfl) (by kernel_rfl) (by kernel_rfl) (fun _ _ _ h => h) (Or.inl ⟨by rfl, ?_⟩) HHd.out ?_
            · intro w' hS; go_simp; try with_reducible rfl
            simp only [Act.put, List.setIfInBounds_toArray, List.set_cons_zero, List.set_cons_succ]
            refine wpAnyH_take (i := 28) (oi := ⟨some 65, _, _, _, _, _⟩) (v := (.int .i64 (pd : Int))) rfl (by kernel_rfl) (by kernel_rfl) (by kernel_rfl) (fun _ _ _ h => h) (Or.inl ⟨by rfl, ?_⟩) HHd.out ?_
            · intro w' hS; have z0 : w'.cell? ⟨gP, M + 3, none⟩ = some (.int .i64 (pd : Int)) := (World.cell?_of_block (w := wr) (w' := w') hS.1).trans Pd.out; go_simp; try with_reducible rfl
            simp only [Act.put, List.setIfInBounds_toArray, List.set_cons_zero, List.set_cons_succ]
            refine wpAnyH_take (i := 29) (oi := ⟨some 66, _, _, _, _, _⟩) (v := (.pointer (some ⟨gL, pd, none⟩))) rfl (by kernel_rfl) (by kernel_rfl) (by kernel_rfl) (fun _ _ _ h => h) (Or.inl ⟨by rfl, ?_⟩) HHd.out ?_
            · intro w' hS; go_simp; try with_reducible rfl
            simp only [Act.put, List.setIfInBounds_toArray, List.set_cons_zero, List.set_cons_succ]
            refine wpAnyH_take (i := 30) (oi := ⟨some 67, _, _, _, _, _⟩) (v := (.int .u64 (xd : Int))) rfl (by kernel_rfl) (by kernel_rfl) (by kernel_rfl) (fun _ _ _ h => h) (Or.inl ⟨by rfl, ?_⟩) HHd.out ?_
            · intro w' hS; have z0 : w'.cell? ⟨gL, pd, none⟩ = some (.int .u64 (xd : Int)) := (World.cell?_of_block (w := wr) (w' := w') hS.2).trans Xd.out; go_simp; try with_reducible rfl
            simp only [Act.put, List.setIfInBounds_toArray, List.set_cons_zero, List.set_cons_succ]
            refine wpAnyH_take (i := 31) (oi := ⟨some 68, _, _, _, _, _⟩) (v := (.agg #[.int .u64 (xa : Int), .int .u64 (xb : Int), .int .u64 (xc : Int), .int .u64 (xd : Int)])) rfl (by kernel_rfl) (by kernel_rfl) (by kernel_rfl) (fun _ _ _ h => h) (Or.inl ⟨by rfl, ?_⟩) HHd.out ?_
            · intro w' hS; go_simp; try with_reducible rfl
            simp only [Act.put, List.setIfInBounds_toArray, List.set_cons_zero, List.set_cons_succ]
            clear la' lb' lc' ld' Pa Pb Pc Pd Xa Xb Xc Xd hM0 hM1 hM2 hM3 hM4 hM5 hM6 hM7 hM8 hM9 hwM1 hwM2 hwM3
            refine wpAnyH_ready (rs := [32, 33]) (by kernel_rfl) (by simp) ?_
            refine AllReadyH.cons (o := ⟨some 69, _, _, _, _, _⟩) rfl (fun K hK => ?_) (AllReadyH.cons (o := ⟨some 12, _, _, _, _, _⟩) rfl (fun K hK => ?_) AllReadyH.nil)
            · rw [if_pos (by rfl)]
              go_simp
              refine (HRQ.out _).mono ?_
              rintro e w1 ⟨rfl, b1⟩
              (try simp only [Act.put, List.setIfInBounds_toArray, List.set_cons_zero, List.set_cons_succ])
              refine hK.out _ _ ⟨(b1.block gP HPD.out.1).trans HHd.out.1, (b1.block gL HPD.out.2).trans HHd.out.2⟩ (fun hHeld => ?_)
              clear hK K
              have HH1 := Lib.hid hHeld
              clear hHeld HHd
              have HB1 : Hid (Below wr.heap.size wr w1) := Lib.hid ((⟨rfl, rfl, rfl, Nat.le_refl _, fun _ _ => rfl⟩ : Below wr.heap.size wr wr.drew).trans b1)
              clear b1
              refine wpAnyH_ready (rs := [33]) (by kernel_rfl) (by simp) ?_
              refine AllReadyH.cons (o := ⟨some 12, _, _, _, _, _⟩) rfl (fun K hK => ?_) AllReadyH.nil
              rw [if_pos (by rfl)]
              go_simp
              refine hK.out _ _ ⟨(Below.heap_alloc _ _ _ (by have := HPD.out.1; have := HB1.out.size; omega)).trans HH1.out.1, (Below.heap_alloc _ _ _ (by have := HPD.out.2; have := HB1.out.size; omega)).trans HH1.out.2⟩ (fun hHeld => ?_)
              clear hK K
              have HH2 := Lib.hid hHeld
              clear hHeld HH1
              have HQ2 : Hid ((w1.alloc (.cells #[.int .u64 0, .int .u64 0, .int .u64 0, .int .u64 0] 133)).heap[w1.heap.size]? = some (.cells #[.int .u64 0, .int .u64 0, .int .u64 0, .int .u64 0] 133 (0, 0))) := Lib.hid (heap_alloc_new _ _)
              have HB2 : Hid (Below wr.heap.size wr (w1.alloc (.cells #[.int .u64 0, .int .u64 0, .int .u64 0, .int .u64 0] 133))) := Lib.hid (HB1.out.alloc HB1.out.size _)
              refine wpAnyH_ready (rs := [34]) (by kernel_rfl) (by simp) ?_
              refine AllReadyH.cons (o := ⟨none, _, _, _, _, _⟩) rfl (fun K hK => ?_) AllReadyH.nil
              rw [if_pos (by rfl)]
              refine wp_store_row 133 _ _ rfl w1.heap.size #[Value.int .u64 q.a, .int .u64 q.b, .int .u64 q.c, .int .u64 q.d] rfl rfl 133 _ HQ2.out IQ.out rfl (one4 _ _ _ _) ?_
              (try simp only [Act.put, List.setIfInBounds_toArray, List.set_cons_zero, List.set_cons_succ])
              refine hK.out _ _ ⟨(setRow_other _ _ _ _ (by have := HPD.out.1; have := HB1.out.size; omega)).trans HH2.out.1, (setRow_other _ _ _ _ (by have := HPD.out.2; have := HB1.out.size; omega)).trans HH2.out.2⟩ (fun hHeld => ?_)
              clear hK K hHeld
              refine wpAnyH_done (by kernel_rfl) ?_ _
              have hfin : Hid (wr.heap.size ≤ w1.heap.size) ∧ Hid (Blk ((w1.alloc (.cells #[.int .u64 0, .int .u64 0, .int .u64 0, .int .u64 0] 133)).setRow w1.heap.size #[Value.int .u64 q.a, .int .u64 q.b, .int .u64 q.c, .int .u64 q.d]) w1.heap.size 133 (q4s q)) ∧ Hid (Below wr.heap.size wr ((w1.alloc (.cells #[.int .u64 0, .int .u64 0, .int .u64 0, .int .u64 0] 133)).setRow w1.heap.size #[Value.int .u64 q.a, .int .u64 q.b, .int .u64 q.c, .int .u64 q.d])) := ⟨Lib.hid HB1.out.size, Lib.hid (setRow_heap _ _ _ _ _ _ HQ2.out), Lib.hid (below_setRow HB2.out HB1.out.size _)⟩
              have HFIN := Lib.hid hfin
              clear hfin
              go_wp2_with fail
              go_meet
              exact ⟨_, rfl, HFIN.out⟩
            · rw [if_pos (by rfl)]
              go_simp
              refine hK.out _ _ ⟨(Below.heap_alloc _ _ _ (by have := HPD.out.1; show gP < wr.heap.size; omega)).trans HHd.out.1, (Below.heap_alloc _ _ _ (by have := HPD.out.2; show gL < wr.heap.size; omega)).trans HHd.out.2⟩ (fun hHeld => ?_)
              clear hK K
              have HH1 := Lib.hid hHeld
              clear hHeld HHd
              have HQ1 : Hid ((wr.drew.alloc (.cells #[.int .u64 0, .int .u64 0, .int .u64 0, .int .u64 0] 133)).heap[wr.heap.size]? = some (.cells #[.int .u64 0, .int .u64 0, .int .u64 0, .int .u64 0] 133 (0, 0))) := Lib.hid (heap_alloc_new wr.drew _)
              have HB1 : Hid (Below wr.heap.size wr (wr.drew.alloc (.cells #[.int .u64 0, .int .u64 0, .int .u64 0, .int .u64 0] 133))) := Lib.hid ((⟨rfl, rfl, rfl, Nat.le_refl _, fun _ _ => rfl⟩ : Below wr.heap.size wr wr.drew).alloc (Nat.le_refl _) _)
              have HLT : Hid (wr.heap.size < (wr.drew.alloc (.cells #[.int .u64 0, .int .u64 0, .int .u64 0, .int .u64 0] 133)).heap.size) := Lib.hid (Array.getElem?_eq_some_iff.1 HQ1.out).1
              refine wpAnyH_ready (rs := [32]) (by kernel_rfl) (by simp) ?_
              refine AllReadyH.cons (o := ⟨some 69, _, _, _, _, _⟩) rfl (fun K hK => ?_) AllReadyH.nil
              rw [if_pos (by rfl)]
              go_simp
              refine (HRQ.out _).mono ?_
              rintro e w1 ⟨rfl, b1⟩
              (try simp only [Act.put, List.setIfInBounds_toArray, List.set_cons_zero, List.set_cons_succ])
              refine hK.out _ _ ⟨(b1.block gP (Nat.lt_trans HPD.out.1 HLT.out)).trans HH1.out.1, (b1.block gL (Nat.lt_trans HPD.out.2 HLT.out)).trans HH1.out.2⟩ (fun hHeld => ?_)
              clear hK K
              have HH2 := Lib.hid hHeld
              clear hHeld HH1
              have HQ2 : Hid (w1.heap[wr.heap.size]? = some (.cells #[.int .u64 0, .int .u64 0, .int .u64 0, .int .u64 0] 133 (0, 0))) := Lib.hid ((b1.block _ HLT.out).trans HQ1.out)
              have HB2 : Hid (Below wr.heap.size wr w1) := Lib.hid (HB1.out.trans (b1.mono (Nat.le_of_lt HLT.out)))
              clear b1
              refine wpAnyH_ready (rs := [34]) (by kernel_rfl) (by simp) ?_
              refine AllReadyH.cons (o := ⟨none, _, _, _, _, _⟩) rfl (fun K hK => ?_) AllReadyH.nil
              rw [if_pos (by rfl)]
              refine wp_store_row 133 _ _ rfl wr.heap.size #[Value.int .u64 q.a, .int .u64 q.b, .int .u64 q.c, .int .u64 q.d] rfl rfl 133 _ HQ2.out IQ.out rfl (one4 _ _ _ _) ?_
              (try simp only [Act.put, List.setIfInBounds_toArray, List.set_cons_zero, List.set_cons_succ])
              refine hK.out _ _ ⟨(setRow_other _ _ _ _ (by have := HPD.out.1; omega)).trans HH2.out.1, (setRow_other _ _ _ _ (by have := HPD.out.2; omega)).trans HH2.out.2⟩ (fun hHeld => ?_)
              clear hK K hHeld
              refine wpAnyH_done (by kernel_rfl) ?_ _
              have hfin : Hid (wr.heap.size ≤ wr.heap.size) ∧ Hid (Blk (w1.setRow wr.heap.size #[Value.int .u64 q.a, .int .u64 q.b, .int .u64 q.c, .int .u64 q.d]) wr.heap.size 133 (q4s q)) ∧ Hid (Below wr.heap.size wr (w1.setRow wr.heap.size #[Value.int .u64 q.a, .int .u64 q.b, .int .u64 q.c, .int .u64 q.d])) := ⟨Lib.hid (Nat.le_refl _), Lib.hid (setRow_heap _ _ _ _ _ _ HQ2.out), Lib.hid (below_setRow HB2.out (Nat.le_refl _) _)⟩
              have HFIN := Lib.hid hfin
              clear hfin
              go_wp2_with fail
              go_meet
              exact ⟨_, rfl, HFIN.out⟩
          case rest =>
            obtain ⟨Q, rfl, HQS, HQB, HWX⟩ := hcut
            have BLc : Hid (Blk wc gL 62 (V64 (qsN V q pa pb pc pd 0) ++ rL)) := Lib.hid (HBL.out.below HWX.out HBL.out.lt)
            have BPc : Hid (Blk wc gP 3 (plL.map (Value.int .i64) ++ rP)) := Lib.hid (HBP.out.below HWX.out HBP.out.lt)
            have Fc : Hid (Fr (fun j => j = gL) w6 wc) := Lib.hid (HF.out.trans (Fr.of_below HWX.out _))
            have HQG : Hid (gL < Q ∧ gP < Q) := Lib.hid ⟨Nat.lt_of_lt_of_le HBL.out.lt HQS.out, Nat.lt_of_lt_of_le HBP.out.lt HQS.out⟩
            clear HBL HBP HF HWX Pa Pb Pc Pd Xa Xb Xc Xd HRQ hwM1 hwM2 hwM3 la lb lc ld
            go_wp2_with fail
            go_loopw [13] (fun iv wr => ∃ n : Nat, n ≤ 4 ∧ iv = .int .i64 n ∧ Hid (Blk wr gL 62 (V64 (qsN V q pa pb pc pd n) ++ rL)) ∧ Hid (Fr (fun j => j = gL) wc wr)) (fun iv _ => 4 - (intOf iv).toNat)
            case atStart => exact ⟨0, Nat.zero_le _, rfl, BLc, Lib.hid (Fr.refl _ _)⟩
            case round =>
              clear BLc
              obtain ⟨n, hn, rfl, HBN, HFN⟩ := hrel
              by_cases hlt3 : n < 4
              · have hwn : IntKind.i64.wrap ((M : Int) + (n : Int)) = (M : Int) + (n : Int) := by simp [IntKind.wrap, IntKind.bits, IntKind.signed]; omega
                have hn1 : (0 : Int) ≤ (M : Int) + (n : Int) := by omega
                have hn2 : (M : Int) + (n : Int) < 32 := by omega
                have hn3 : ((M : Int) + (n : Int)).toNat = M + n := by omega
                have hn4 : (n : Int) < 4 := by omega
                obtain ⟨pn, hpn⟩ : ∃ x, x = plN.getD (M + n) 0 := ⟨_, rfl⟩
                have hp16 : pn < 16 := by rw [hpn]; exact plN_lt _
                have hp16' : (pn : Int) < 16 := by omega
                have HBP : Hid (Blk wr gP 3 (plL.map (Value.int .i64) ++ rP)) := Lib.hid (BPc.out.fr HFN.out (by have := HGP.out; omega))
                have Pn : Hid (wr.cell? ⟨gP, M + n, none⟩ = some (.int .i64 (pn : Int))) := Lib.hid (by rw [hpn]; exact pl_at HBP.out _ (by omega))
                have HQN : Hid (Blk wr Q 133 (q4s q)) := Lib.hid (HQB.out.fr HFN.out (by have := HQG.out; omega))
                have Qn : Hid (wr.cell? ⟨Q, n, none⟩ = some (.int .u64 ((qn q n : Nat) : Int))) := Lib.hid (q4s_at HQN.out n hlt3)
                have HSN : Hid (qsN V q pa pb pc pd (n + 1) = (qsN V q pa pb pc pd n).set pn (qn q n)) := Lib.hid (by rw [hpn, HPS.out.1, HPS.out.2.1, HPS.out.2.2.1, HPS.out.2.2.2]; exact qsN_succ V q M n hlt3)
                have HLN : Hid ((qsN V q pa pb pc pd n).length = 16) := Lib.hid (by rw [qsN_len, HWV.out.len])
                clear hpn
                generalize qn q n = x at *
                go_upto_region 14 with fail
                refine wp_region_held_drew (S := fun w' => w'.heap[gP]? = wr.heap[gP]? ∧ w'.heap[Q]? = wr.heap[Q]?) (by kernel_rfl) (⟨rfl, rfl⟩) (fun hHeld => ?_)
                have HHd := Lib.hid hHeld
                clear hHeld
                refine wpAnyH_take (i := 0) (oi := ⟨some 74, _, _, _, _, _⟩) (v := (.slice (some ⟨gL, 0, none⟩) 16 cL)) rfl (by kernel_rfl) (by kernel_rfl) (by kernel_rfl) (fun _ _ _ h => h) (Or.inl ⟨by rfl, ?_⟩) HHd.out ?_
                · intro w' hS; go_simp; try with_reducible rfl
                simp only [Act.put, List.setIfInBounds_toArray, List.set_cons_zero, List.set_cons_succ]
                refine wpAnyH_take (i := 1) (oi := ⟨some 75, _, _, _, _, _⟩) (v := (.slice (some ⟨gP, 0, none⟩) 32 cP)) rfl (by kernel_rfl) (by kernel_rfl) (by kernel_rfl) (fun _ _ _ h => h) (Or.inl ⟨by rfl, ?_⟩) HHd.out ?_
                · intro w' hS; go_simp; try with_reducible rfl
                simp only [Act.put, List.setIfInBounds_toArray, List.set_cons_zero, List.set_cons_succ]
                refine wpAnyH_take (i := 2) (oi := ⟨some 76, _, _, _, _, _⟩) (v := (.int .i64 (M : Int))) rfl (by kernel_rfl) (by kernel_rfl) (by kernel_rfl) (fun _ _ _ h => h) (Or.inl ⟨by rfl, ?_⟩) HHd.out ?_
                · intro w' hS; go_simp; try with_reducible rfl
                simp only [Act.put, List.setIfInBounds_toArray, List.set_cons_zero, List.set_cons_succ]
                refine wpAnyH_take (i := 3) (oi := ⟨some 77, _, _, _, _, _⟩) (v := (.int .i64 (n : Int))) rfl (by kernel_rfl) (by kernel_rfl) (by kernel_rfl) (fun _ _ _ h => h) (Or.inl ⟨by rfl, ?_⟩) HHd.out ?_
                · intro w' hS; go_simp; try with_reducible rfl
                simp only [Act.put, List.setIfInBounds_toArray, List.set_cons_zero, List.set_cons_succ]
                refine wpAnyH_take (i := 4) (oi := ⟨some 78, _, _, _, _, _⟩) (v := (.int .i64 ((M : Int) + (n : Int)))) rfl (by kernel_rfl) (by kernel_rfl) (by kernel_rfl) (fun _ _ _ h => h) (Or.inl ⟨by rfl, ?_⟩) HHd.out ?_
                · intro w' hS; go_simp; try with_reducible rfl
                simp only [Act.put, List.setIfInBounds_toArray, List.set_cons_zero, List.set_cons_succ]
                refine wpAnyH_take (i := 5) (oi := ⟨some 79, _, _, _, _, _⟩) (v := (.pointer (some ⟨gP, M + n, none⟩))) rfl (by kernel_rfl) (by kernel_rfl) (by kernel_rfl) (fun _ _ _ h => h) (Or.inl ⟨by rfl, ?_⟩) HHd.out ?_
                · intro w' hS; go_simp; try with_reducible rfl
                simp only [Act.put, List.setIfInBounds_toArray, List.set_cons_zero, List.set_cons_succ]
                refine wpAnyH_take (i := 6) (oi := ⟨some 80, _, _, _, _, _⟩) (v := (.int .i64 (pn : Int))) rfl (by kernel_rfl) (by kernel_rfl) (by kernel_rfl) (fun _ _ _ h => h) (Or.inl ⟨by rfl, ?_⟩) HHd.out ?_
                · intro w' hS; have z0 : w'.cell? ⟨gP, M + n, none⟩ = some (.int .i64 (pn : Int)) := (World.cell?_of_block (w := wr) (w' := w') hS.1).trans Pn.out; go_simp; try with_reducible rfl
                simp only [Act.put, List.setIfInBounds_toArray, List.set_cons_zero, List.set_cons_succ]
                refine wpAnyH_take (i := 7) (oi := ⟨some 81, _, _, _, _, _⟩) (v := (.int .i64 (n : Int))) rfl (by kernel_rfl) (by kernel_rfl) (by kernel_rfl) (fun _ _ _ h => h) (Or.inl ⟨by rfl, ?_⟩) HHd.out ?_
                · intro w' hS; go_simp; try with_reducible rfl
                simp only [Act.put, List.setIfInBounds_toArray, List.set_cons_zero, List.set_cons_succ]
                refine wpAnyH_take (i := 8) (oi := ⟨some 82, _, _, _, _, _⟩) (v := (.pointer (some ⟨Q, n, none⟩))) rfl (by kernel_rfl) (by kernel_rfl) (by kernel_rfl) (fun _ _ _ h => h) (Or.inl ⟨by rfl, ?_⟩) HHd.out ?_
                · intro w' hS; go_simp; try with_reducible rfl
                simp only [Act.put, List.setIfInBounds_toArray, List.set_cons_zero, List.set_cons_succ]
                refine wpAnyH_take (i := 9) (oi := ⟨some 83, _, _, _, _, _⟩) (v := (.int .u64 (x : Int))) rfl (by kernel_rfl) (by kernel_rfl) (by kernel_rfl) (fun _ _ _ h => h) (Or.inl ⟨by rfl, ?_⟩) HHd.out ?_
                · intro w' hS; have z0 : w'.cell? ⟨Q, n, none⟩ = some (.int .u64 (x : Int)) := (World.cell?_of_block (w := wr) (w' := w') hS.2).trans Qn.out; go_simp; try with_reducible rfl
                simp only [Act.put, List.setIfInBounds_toArray, List.set_cons_zero, List.set_cons_succ]
                refine wpAnyH_take (i := 10) (oi := ⟨some 84, _, _, _, _, _⟩) (v := (.pointer (some ⟨gL, pn, none⟩))) rfl (by kernel_rfl) (by kernel_rfl) (by kernel_rfl) (fun _ _ _ h => h) (Or.inl ⟨by rfl, ?_⟩) HHd.out ?_
                · intro w' hS; go_simp; try with_reducible rfl
                simp only [Act.put, List.setIfInBounds_toArray, List.set_cons_zero, List.set_cons_succ]
                refine wpAnyH_ready (rs := [11]) (by kernel_rfl) (by simp) ?_
                refine AllReadyH.cons (o := ⟨none, _, _, _, _, _⟩) rfl (fun K hK => ?_) AllReadyH.nil
                rw [if_pos (by rfl)]
                have f1 : wr.drew.frozen? ⟨gL, pn, none⟩ = false := HBN.out.frozen pn
                have g1 : wr.drew.cell? ⟨gL, pn, none⟩ = some (.int .u64 (((qsN V q pa pb pc pd n).getD pn 0 : Nat) : Int)) := V64_at HBN.out pn (by rw [HLN.out]; exact hp16)
                go_simp
                refine hK.out _ _ ⟨Below.heap_setCell wr.drew ⟨gL, pn, none⟩ _ gP (by have := HGP.out; show gP ≠ gL; omega), Below.heap_setCell wr.drew ⟨gL, pn, none⟩ _ Q (by have := HQG.out; show Q ≠ gL; omega)⟩ (fun hHeld => ?_)
                clear hK K f1 g1 hHeld
                have HB2 : Hid (Blk (wr.setCell ⟨gL, pn, none⟩ (.int .u64 (x : Int))).drew gL 62 (V64 (qsN V q pa pb pc pd (n + 1)) ++ rL)) := Lib.hid (by rw [HSN.out]; exact V64_set (w := wr.drew) HBN.out pn x (by rw [HLN.out]; exact hp16))
                have HF2 : Hid (Fr (fun j => j = gL) wc (wr.setCell ⟨gL, pn, none⟩ (.int .u64 (x : Int))).drew) := Lib.hid (HFN.out.drew.setCell (p := ⟨gL, pn, none⟩) (.inl rfl) _)
                generalize (wr.setCell ⟨gL, pn, none⟩ (.int .u64 (x : Int))).drew = wz at *
                refine wpAnyH_done (by kernel_rfl) ?_ _
                go_wp2_with fail
                go_roundw
                case rel => exact ⟨n + 1, by omega, by go_num, HB2, HF2⟩
                case measure => simp [intOf]; omega
              · have HN4 : Hid (n = 4) := Lib.hid (by omega)
                have hge : decide ((n : Int) < 4) = false := by simp; omega
                have hwM : IntKind.i64.wrap ((M : Int) + 4) = ((M + 4 : Nat) : Int) := by simp [IntKind.wrap, IntKind.bits, IntKind.signed]; omega
                go_wp2_with fail
                go_roundw
                case rel => exact ⟨j + 1, M + 4, by omega, Lib.hid (by have := HM.out; omega), by go_num, Lib.hid (by rw [HSQ2.out]; have h := HBN.out; rw [HN4.out] at h; exact h), Lib.hid (Fc.out.trans HFN.out)⟩
                case measure => simp [intOf]; omega
        · have HJ : Hid (j = 8) := Lib.hid (by omega)
          have hge : decide ((M : Int) < 32) = false := by have := HM.out; simp; omega
          go_wp2_with fail
          go_roundw
          case rel => exact ⟨i + 1, by omega, by go_num, Lib.hid (by rw [HNX.out, ← HJ.out]; exact HBL.out), HF⟩
          case measure => simp [intOf]; omega
    · have HK : Hid (i = 10) := Lib.hid (by omega)
      have hge : decide ((i : Int) < 10) = false := by simp; omega
      have HWT : Hid (W16 (rndC S0 10)) := Lib.hid (HWS.out.rndC 10)
      have L7 : Hid (Blk wr gL 62 (V64 (rndC S0 10) ++ rL)) := Lib.hid (by have h := HBL.out; rw [HK.out] at h; exact h)
      have S7 : Hid (Blk wr gF 62 (V64 S0 ++ rF)) := Lib.hid (BF6.out.fr HF.out (by have := HGL.out; omega))
      have R7 : Hid (Blk wr (G + 1 + 1) 103 (Z64.map (Value.int .u8))) := Lib.hid (R6.out.fr HF.out (by have := HGL.out; have := HGF.out; omega))
      have F7 : Hid (Below G w wr) := Lib.hid (F6.out.trans (HF.out.below (by have := R6.out.lt; omega) (fun k hk => by have := HGL.out; have := HGF.out; omega)))
      clear HBL HF BF6 R6 F6 BP6
      generalize rndC S0 10 = T0 at *
      go_upto_region 16 with fail
      generalize hC : wr.heap.size = C
      generalize hW8 : wr.alloc _ = w8
      have C8 : Hid (Blk w8 C 103 ((ocL T0 S0 (4 * 0)).map (Value.int .u8))) := Lib.hid (by rw [← hW8]; exact Blk.new_at _ 103 _ hC.symm)
      have L8 : Hid (Blk w8 gL 62 (V64 T0 ++ rL)) := Lib.hid (by rw [← hW8]; exact L7.out.alloc _)
      have S8 : Hid (Blk w8 gF 62 (V64 S0 ++ rF)) := Lib.hid (by rw [← hW8]; exact S7.out.alloc _)
      have R8 : Hid (Blk w8 (G + 1 + 1) 103 (Z64.map (Value.int .u8))) := Lib.hid (by rw [← hW8]; exact R7.out.alloc _)
      have F8 : Hid (Below G w w8) := Lib.hid (by rw [← hW8]; exact F7.out.alloc (by have := R7.out.lt; omega) _)
      have HC : Hid (gF < C ∧ gL < C ∧ G + 1 + 1 < C) := Lib.hid (by have h1 := L7.out.lt; have h2 := S7.out.lt; have h3 := R7.out.lt; omega)
      clear hC hW8 R7 F7 L7 S7 hlt hi
      go_wp2_with fail
      go_loopw [15] (fun iv wr => ∃ i2 : Nat, i2 ≤ 16 ∧ iv = .int .i64 i2 ∧ Hid (Blk wr C 103 ((ocL T0 S0 (4 * i2)).map (Value.int .u8))) ∧ Hid (Fr (fun j => j = C) w8 wr)) (fun iv _ => 16 - (intOf iv).toNat)
      case atStart => exact ⟨0, Nat.zero_le _, rfl, C8, Lib.hid (Fr.refl _ _)⟩
      case round =>
        clear C8
        obtain ⟨i2, hi2, rfl, HO, HF⟩ := hrel
        by_cases hlt : i2 < 16
        · have hd3 : decide ((i2 : Int) < 16) = true := by simp; omega
          have hi16 : (i2 : Int) < 16 := by omega
          have L9 : Hid (Blk wr gL 62 (V64 T0 ++ rL)) := Lib.hid (L8.out.fr HF.out (by have := HC.out; omega))
          have S9 : Hid (Blk wr gF 62 (V64 S0 ++ rF)) := Lib.hid (S8.out.fr HF.out (by have := HC.out; omega))
          have Cx : Hid (wr.cell? ⟨gL, i2, none⟩ = some (.int .u64 ((T0.getD i2 0 : Nat) : Int))) := Lib.hid (V64_at L9.out i2 (by rw [HWT.out.len]; exact hlt))
          have Cy : Hid (wr.cell? ⟨gF, i2, none⟩ = some (.int .u64 ((S0.getD i2 0 : Nat) : Int))) := Lib.hid (V64_at S9.out i2 (by rw [HWS.out.len]; exact hlt))
          have HSET : Hid (∀ k, k < 4 → (ocL T0 S0 (4 * i2 + k)).set (4 * i2 + k) ((leN (add32 (T0.getD i2 0) (S0.getD i2 0)) 4).getD k 0) = ocL T0 S0 (4 * i2 + k + 1)) := Lib.hid (fun k hk => ocL_set T0 S0 i2 k hlt hk)
          have HXL : Hid (T0.getD i2 0 < 4294967296 ∧ S0.getD i2 0 < 4294967296) := Lib.hid ⟨HWT.out.lt _, HWS.out.lt _⟩
          have HLC : Hid (gL < wr.heap.size ∧ gF < wr.heap.size ∧ C < wr.heap.size) := Lib.hid ⟨L9.out.lt, S9.out.lt, HO.out.lt⟩
          generalize T0.getD i2 0 = x at *
          generalize S0.getD i2 0 = y at *
          have HPL : Hid (∀ W, Calls Try.prog 90 #[.int .u64 x, .int .u64 y] W fun e w' => e = .returned (.int .u64 (add32 x y : Nat)) ∧ W = w') := Lib.hid (fun W => plus_any x y W HXL.out.1 HXL.out.2)
          have HBY : Hid (∀ W, Calls Try.prog 89 #[.int .u64 (add32 x y : Nat), .int .i64 (4 : Nat)] W (Made 5 .u8 (leN (add32 x y) 4) W)) := Lib.hid (fun W => bytes_any (add32 x y) 4 W (Nat.lt_trans (add32_lt _ _) (by decide)) (by decide))
          generalize add32 x y = X at *
          clear HXL
          go_upto_region 19 with fail
          refine wp_region_held_drew (S := fun w' => w'.heap[gL]? = wr.heap[gL]? ∧ w'.heap[gF]? = wr.heap[gF]?) (by kernel_rfl) (⟨rfl, rfl⟩) (fun hHeld => ?_)
          have HHd := Lib.hid hHeld
          clear hHeld
          refine wpAnyH_take (i := 0) (oi := ⟨some 89, _, _, _, _, _⟩) (v := (.slice (some ⟨gL, 0, none⟩) 16 cL)) rfl (by kernel_rfl) (by kernel_rfl) (by kernel_rfl) (fun _ _ _ h => h) (Or.inl ⟨by rfl, ?_⟩) HHd.out ?_
          · intro w' hS; go_simp; try with_reducible rfl
          simp only [Act.put, List.setIfInBounds_toArray, List.set_cons_zero, List.set_cons_succ]
          refine wpAnyH_take (i := 1) (oi := ⟨some 90, _, _, _, _, _⟩) (v := (.int .i64 (i2 : Int))) rfl (by kernel_rfl) (by kernel_rfl) (by kernel_rfl) (fun _ _ _ h => h) (Or.inl ⟨by rfl, ?_⟩) HHd.out ?_
          · intro w' hS; go_simp; try with_reducible rfl
          simp only [Act.put, List.setIfInBounds_toArray, List.set_cons_zero, List.set_cons_succ]
          refine wpAnyH_take (i := 2) (oi := ⟨some 91, _, _, _, _, _⟩) (v := (.pointer (some ⟨gL, i2, none⟩))) rfl (by kernel_rfl) (by kernel_rfl) (by kernel_rfl) (fun _ _ _ h => h) (Or.inl ⟨by rfl, ?_⟩) HHd.out ?_
          · intro w' hS; go_simp; try with_reducible rfl
          simp only [Act.put, List.setIfInBounds_toArray, List.set_cons_zero, List.set_cons_succ]
          refine wpAnyH_take (i := 3) (oi := ⟨some 92, _, _, _, _, _⟩) (v := (.int .u64 (x : Int))) rfl (by kernel_rfl) (by kernel_rfl) (by kernel_rfl) (fun _ _ _ h => h) (Or.inl ⟨by rfl, ?_⟩) HHd.out ?_
          · intro w' hS; have z0 : w'.cell? ⟨gL, i2, none⟩ = some (.int .u64 (x : Int)) := (World.cell?_of_block (w := wr) (w' := w') hS.1).trans Cx.out; go_simp; try with_reducible rfl
          simp only [Act.put, List.setIfInBounds_toArray, List.set_cons_zero, List.set_cons_succ]
          refine wpAnyH_take (i := 4) (oi := ⟨some 93, _, _, _, _, _⟩) (v := (.slice (some ⟨gF, 0, none⟩) 16 cF)) rfl (by kernel_rfl) (by kernel_rfl) (by kernel_rfl) (fun _ _ _ h => h) (Or.inl ⟨by rfl, ?_⟩) HHd.out ?_
          · intro w' hS; go_simp; try with_reducible rfl
          simp only [Act.put, List.setIfInBounds_toArray, List.set_cons_zero, List.set_cons_succ]
          refine wpAnyH_take (i := 5) (oi := ⟨some 94, _, _, _, _, _⟩) (v := (.int .i64 (i2 : Int))) rfl (by kernel_rfl) (by kernel_rfl) (by kernel_rfl) (fun _ _ _ h => h) (Or.inl ⟨by rfl, ?_⟩) HHd.out ?_
          · intro w' hS; go_simp; try with_reducible rfl
          simp only [Act.put, List.setIfInBounds_toArray, List.set_cons_zero, List.set_cons_succ]
          refine wpAnyH_take (i := 6) (oi := ⟨some 95, _, _, _, _, _⟩) (v := (.pointer (some ⟨gF, i2, none⟩))) rfl (by kernel_rfl) (by kernel_rfl) (by kernel_rfl) (fun _ _ _ h => h) (Or.inl ⟨by rfl, ?_⟩) HHd.out ?_
          · intro w' hS; go_simp; try with_reducible rfl
          simp only [Act.put, List.setIfInBounds_toArray, List.set_cons_zero, List.set_cons_succ]
          refine wpAnyH_take (i := 7) (oi := ⟨some 96, _, _, _, _, _⟩) (v := (.int .u64 (y : Int))) rfl (by kernel_rfl) (by kernel_rfl) (by kernel_rfl) (fun _ _ _ h => h) (Or.inl ⟨by rfl, ?_⟩) HHd.out ?_
          · intro w' hS; have z0 : w'.cell? ⟨gF, i2, none⟩ = some (.int .u64 (y : Int)) := (World.cell?_of_block (w := wr) (w' := w') hS.2).trans Cy.out; go_simp; try with_reducible rfl
          simp only [Act.put, List.setIfInBounds_toArray, List.set_cons_zero, List.set_cons_succ]
          refine wpAnyH_ready (rs := [8]) (by kernel_rfl) (by simp) ?_
          refine AllReadyH.cons (o := ⟨some 97, _, _, _, _, _⟩) rfl (fun K hK => ?_) AllReadyH.nil
          rw [if_pos (by rfl)]
          go_simp
          refine (HPL.out _).mono ?_
          rintro e w1 ⟨rfl, rfl⟩
          (try simp only [Act.put, List.setIfInBounds_toArray, List.set_cons_zero, List.set_cons_succ])
          refine hK.out _ _ HHd.out (fun hHeld => ?_)
          clear hK K hHeld
          refine wpAnyH_ready (rs := [9]) (by kernel_rfl) (by simp) ?_
          refine AllReadyH.cons (o := ⟨some 98, _, _, _, _, _⟩) rfl (fun K hK => ?_) AllReadyH.nil
          rw [if_pos (by rfl)]
          go_simp
          refine (HBY.out _).mono ?_
          rintro e w1 ⟨v1, rfl, o1, b1⟩
          (try simp only [Act.put, List.setIfInBounds_toArray, List.set_cons_zero, List.set_cons_succ])
          refine hK.out _ _ ⟨(b1.block gL HLC.out.1).trans HHd.out.1, (b1.block gF HLC.out.2.1).trans HHd.out.2⟩ (fun hHeld => ?_)
          clear hK K
          have HH1 := Lib.hid hHeld
          clear hHeld HHd
          obtain ⟨gB, cB, rB, hv1, hgB, hBB, hcB, -⟩ := made_blk o1 (by rw [leN_len]; decide)
          rw [leN_len] at hv1 hcB
          subst hv1
          have BB1 := Lib.hid hBB
          have HGB : Hid (C < gB) := Lib.hid (Nat.lt_of_lt_of_le HLC.out.2.2 hgB)
          have HO1 : Hid (Blk w1 C 103 ((ocL T0 S0 (4 * i2 + 0)).map (Value.int .u8))) := Lib.hid ((show Blk wr.drew C 103 _ from HO.out).below b1 HO.out.lt)
          have HF1 : Hid (Fr (fun j => j = C) w8 w1) := Lib.hid (HF.out.drew.trans (Fr.of_below b1 _))
          clear o1 b1 hBB hgB HO HF
          refine wpAnyH_take (i := 10) (oi := ⟨some 16, _, _, _, _, _⟩) (v := (.slice (some ⟨gB, 0, none⟩) 4 cB)) rfl (by kernel_rfl) (by kernel_rfl) (by kernel_rfl) (fun _ _ _ h => h) (Or.inl ⟨by rfl, ?_⟩) HH1.out ?_
          · intro w' hS; go_simp; try with_reducible rfl
          simp only [Act.put, List.setIfInBounds_toArray, List.set_cons_zero, List.set_cons_succ]
          refine wpAnyH_done (by kernel_rfl) ?_ _
          obtain ⟨N, hN⟩ : ∃ N, N = 4 * i2 := ⟨_, rfl⟩
          have HN := Lib.hid hN
          have hN60 : N ≤ 60 := by omega
          rw [← hN] at HO1 HSET
          clear hN
          go_wp2_with fail
          go_loopw [17] (fun iv wr => ∃ k : Nat, k ≤ 4 ∧ iv = .int .i64 k ∧ Hid (Blk wr C 103 ((ocL T0 S0 (N + k)).map (Value.int .u8))) ∧ Hid (Fr (fun j => j = C) w1 wr)) (fun iv _ => 4 - (intOf iv).toNat)
          case atStart => exact ⟨0, Nat.zero_le _, rfl, HO1, Lib.hid (Fr.refl _ _)⟩
          case round =>
            clear HO1
            obtain ⟨k, hk, rfl, HOk, HFk⟩ := hrel
            by_cases hlt4 : k < 4
            · have hw1 : IntKind.i64.wrap (4 * (i2 : Int)) = (N : Int) := by have := HN.out; simp [IntKind.wrap, IntKind.bits, IntKind.signed]; omega
              have hw0 : 4 * (i2 : Int) = (N : Int) := by have := HN.out; omega
              have hw2 : IntKind.i64.wrap ((N : Int) + (k : Int)) = (N : Int) + (k : Int) := by simp [IntKind.wrap, IntKind.bits, IntKind.signed]; omega
              have hn1 : (0 : Int) ≤ (N : Int) + (k : Int) := by omega
              have hn2 : (N : Int) + (k : Int) < 64 := by omega
              have hn3 : ((N : Int) + (k : Int)).toNat = N + k := by omega
              have hk4 : (k : Int) < 4 := by omega
              obtain ⟨z, hz⟩ : ∃ z, z = (leN X 4).getD k 0 := ⟨_, rfl⟩
              have Bk : Hid (wr.cell? ⟨gB, k, none⟩ = some (.int .u8 z)) := Lib.hid (by
                have hb := BB1.out.fr HFk.out (by have := HGB.out; omega)
                rw [hb.cell k, hz, List.getElem?_append_left (by rw [List.length_map, leN_len]; exact hlt4), List.getElem?_map, List.getD_eq_getElem?_getD, List.getElem?_eq_getElem (by rw [leN_len]; exact hlt4)]
                rfl)
              have HS1 : Hid ((ocL T0 S0 (N + k)).set (N + k) z = ocL T0 S0 (N + k + 1)) := Lib.hid (by rw [hz]; exact HSET.out k hlt4)
              have HOC : Hid (∃ u, wr.cell? ⟨C, N + k, none⟩ = some (.int .u8 u) ∧ wr.frozen? ⟨C, N + k, none⟩ = false) := Lib.hid ⟨(ocL T0 S0 (N + k)).getD (N + k) 0, by
                rw [HOk.out.cell, List.getElem?_map, List.getD_eq_getElem?_getD, List.getElem?_eq_getElem (by rw [ocL_len _ _ _ (by omega)]; omega)]
                rfl, HOk.out.frozen _⟩
              clear hz
              have HNB : Hid (Blk (wr.setCell ⟨C, N + k, none⟩ (.int .u8 z)) C 103 ((ocL T0 S0 (N + (k + 1))).map (Value.int .u8))) := Lib.hid (by
                have h := HOk.out.set (N + k) (.int .u8 z)
                rw [← List.map_set, HS1.out] at h
                exact h)
              obtain ⟨u, hcu, hfu⟩ := HOC.out
              have hcz := Bk.out
              go_wp2_with fail
              go_roundw
              case rel => exact ⟨k + 1, by omega, by go_num, HNB, Lib.hid (HFk.out.setCell (p := ⟨C, N + k, none⟩) (.inl rfl) _)⟩
              case measure => simp [intOf]; omega
            · have HK4 : Hid (k = 4) := Lib.hid (by omega)
              have hge4 : decide ((k : Int) < 4) = false := by simp; omega
              go_wp2_with fail
              go_roundw
              case rel => exact ⟨i2 + 1, by omega, by go_num, Lib.hid (by have h := HOk.out; rw [HK4.out, HN.out] at h; exact h), Lib.hid (HF1.out.trans HFk.out)⟩
              case measure => simp [intOf]; omega
        · have HK : Hid (i2 = 16) := Lib.hid (by omega)
          have hge : decide ((i2 : Int) < 16) = false := by simp; omega
          have OE : Hid (wr.heap[C]? = some (.cells (AY .u8 (outL T0 S0 16)) 103 (0, 0))) := Lib.hid (blk_AY (by have h := HO.out; rw [HK.out] at h; rw [← ocL_all]; exact h))
          have RE : Hid (Blk wr (G + 1 + 1) 103 (Z64.map (Value.int .u8))) := Lib.hid (R8.out.fr HF.out (by have := HC.out; omega))
          have FE : Hid (Below G w wr) := Lib.hid (F8.out.trans (HF.out.below (by have := R8.out.lt; omega) (fun k hk => by have := HC.out; omega)))
          have IE : Hid ((Try.prog.info? 103).map (·.size) = some (AY .u8 (outL T0 S0 16)).size) := Lib.hid (by rw [info36, AY_size, outL_len _ _ _ (Nat.le_refl _)])
          have ZE : Hid (((Z64.map (Value.int .u8)).toArray).size = (AY .u8 (outL T0 S0 16)).size) := Lib.hid (by rw [AY_size, outL_len _ _ _ (Nat.le_refl _)]; rfl)
          clear HO HF R8 F8 L8 S8
          go_wp2_with (first
            | (show wpList _ _ _ ({ dst := some 112, op := _, type := _, pos := _, after := _, guard := _ } :: _) _ _; refine wpList_load_row rfl 103 _ rfl C rfl 103 (AY .u8 (outL T0 S0 16)) (0, 0) _ OE.out Try.underlying103 rfl IE.out ?_)
            | (show wpList _ _ _ ({ dst := none, op := _, type := _, pos := _, after := _, guard := _ } :: _) _ _; refine wpList_store_row rfl 103 _ _ rfl (G + 1 + 1) (AY .u8 (outL T0 S0 16)) rfl rfl 103 _ RE.out IE.out ZE.out (AY_one _ _) ?_))
          refine bodyPost_ret (results_cell_row rfl _ _ (G + 1 + 1) 103 (AY .u8 (outL T0 S0 16)) (0, 0) _ rfl (setRow_heap _ _ _ _ _ _ RE.out) Try.underlying103 rfl IE.out) rfl ⟨?_, below_setRow (by rw [HGE.out]; exact FE.out) (by rw [HGE.out]; omega) _⟩
          rw [HRES.out]
end Go.Proofs.Ytcfbaildcocnhaa

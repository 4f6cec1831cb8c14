/-
  Walk: the state of a block, of a key, a counter and a nonce: the program's.
-/
import Derived.Test.YtcfbaildcocnhaaTp
import Derived.Test.YtcfbaildcocnhaaWo
set_option linter.unusedVariables false
set_option linter.unusedSimpArgs false
namespace Go.Proofs.Ytcfbaildcocnhaa
open Go.RowKit

/-- Numbers as an array's cells, under one name. -/
def AY (k : IntKind) (L : List Int) : Array Value := (L.map (Value.int k)).toArray
theorem AY_size (k : IntKind) (L : List Int) : (AY k L).size = L.length := by simp [AY]
theorem AY_eq (k : IntKind) (L : List Int) : AY k L = (L.map (Value.int k)).toArray := rfl
theorem blk_AY {k : IntKind} {w : World} {g T : Nat} {L : List Int} (h : Blk w g T (L.map (Value.int k))) : w.heap[g]? = some (.cells (AY k L) T (0, 0)) := h
theorem AY_blk {k : IntKind} {w : World} {g T : Nat} {L : List Int} (h : w.heap[g]? = some (.cells (AY k L) T (0, 0))) : Blk w g T (L.map (Value.int k)) := h
theorem AY_new (k : IntKind) (w : World) (T : Nat) (L : List Int) : Blk (w.alloc (.cells (AY k L) T)) w.heap.size T (L.map (Value.int k)) := Blk.new w T _
theorem AY_new_at (k : IntKind) (w : World) (T : Nat) (L : List Int) {g : Nat} (hg : g = w.heap.size) : Blk (w.alloc (.cells (AY k L) T)) g T (L.map (Value.int k)) := hg ▸ Blk.new w T _
theorem AY_cells (k : IntKind) (L : List Int) : (Value.agg (AY k L)).cells = AY k L := rfl
theorem AY_one (k : IntKind) (L : List Int) : (AY k L).all (·.oneCell') = true := by simp [AY, Array.all_eq_true]; intros; rfl
attribute [irreducible] AY

/-- The i-th word of bytes. -/
def wdN (xs : List Int) (i : Nat) : Nat := leV ((xs.drop (4 * i)).take 4) 4
def Z16 : List Nat := List.replicate 16 0
def st0 : List Nat := [1634760805, 857760878, 2036477234, 1797285236, 0, 0, 0, 0, 0, 0, 0, 0, 0, 0, 0, 0]
def stK (ks : List Int) (k : Nat) : List Nat := (List.range k).foldl (fun L i => L.set (4 + i) (wdN ks i)) st0
def stN (ks ns : List Int) (c k : Nat) : List Nat := (List.range k).foldl (fun L i => L.set (13 + i) (wdN ns i)) ((stK ks 8).set 12 c)
/-- The state. -/
def stL (ks ns : List Int) (c : Nat) : List Nat := stN ks ns c 3
theorem stL_eq (ks ns : List Int) (c : Nat) : stL ks ns c = stN ks ns c 3 := rfl
theorem stK_succ (ks : List Int) (k : Nat) : stK ks (k + 1) = (stK ks k).set (4 + k) (wdN ks k) := by simp [stK, List.range_succ]
theorem stN_succ (ks ns : List Int) (c k : Nat) : stN ks ns c (k + 1) = (stN ks ns c k).set (13 + k) (wdN ns k) := by simp [stN, List.range_succ]
theorem B8.take {xs : List Int} (h : B8 xs) (k : Nat) : B8 (xs.take k) := fun i => by
  by_cases hi : i < k
  · have e : (xs.take k).getD i 0 = xs.getD i 0 := by simp [List.getD, hi]
    rw [e]; exact h _
  · have e : (xs.take k).getD i 0 = 0 := by rw [List.getD_eq_getElem?_getD, List.getElem?_eq_none (by simp; omega)]; rfl
    rw [e]; omega
theorem wdN_lt {xs : List Int} (h : B8 xs) (i : Nat) : wdN xs i < 4294967296 := leV_lt ((h.drop _).take _) 4
theorem W16_st0 : W16 st0 := ⟨rfl, fun i => by
  by_cases h : i < 16
  · have : i = 0 ∨ i = 1 ∨ i = 2 ∨ i = 3 ∨ i = 4 ∨ i = 5 ∨ i = 6 ∨ i = 7 ∨ i = 8 ∨ i = 9 ∨ i = 10 ∨ i = 11 ∨ i = 12 ∨ i = 13 ∨ i = 14 ∨ i = 15 := by omega
    rcases this with rfl | rfl | rfl | rfl | rfl | rfl | rfl | rfl | rfl | rfl | rfl | rfl | rfl | rfl | rfl | rfl <;> decide
  · have : st0.getD i 0 = 0 := by rw [List.getD_eq_getElem?_getD, List.getElem?_eq_none (by show 16 ≤ i; omega)]; rfl
    rw [this]; decide⟩
theorem W16_stK {ks : List Int} (h : B8 ks) : ∀ k, W16 (stK ks k)
  | 0 => W16_st0
  | k + 1 => by rw [stK_succ]; exact (W16_stK h k).set _ _ (wdN_lt h _)
theorem W16_stN {ks ns : List Int} {c : Nat} (h : B8 ks) (hn : B8 ns) (hc : c < 4294967296) : ∀ k, W16 (stN ks ns c k)
  | 0 => (W16_stK h 8).set _ _ hc
  | k + 1 => by rw [stN_succ]; exact (W16_stN h hn hc k).set _ _ (wdN_lt hn _)
theorem U_set' {w : World} {g T : Nat} {L M : List Nat} (h : Blk w g T (U L)) (i x : Nat) (hM : M = L.set i x) : Blk (w.setCell ⟨g, i, none⟩ (.int .u32 (x : Int))) g T (U M) := hM ▸ U_set h i x
theorem Rd.cut {w : World} {k : IntKind} {g : Nat} {xs : List Int} (h : Rd w k (some ⟨g, 0, none⟩) xs) (i n : Nat) : Rd w k (some ⟨g, i, none⟩) ((xs.drop i).take n) :=
  (h.drop i (A' := some ⟨g, i, none⟩) (fun b off hA _ => by cases hA; rw [Nat.zero_add])).take n

theorem W16_stL {ks ns : List Int} {c : Nat} (h : B8 ks) (hn : B8 ns) (hc : c < 4294967296) : W16 (stL ks ns c) := W16_stN h hn hc 3
attribute [irreducible] stL

set_option maxRecDepth 100000 in
set_option maxHeartbeats 8000000 in
theorem state_any (ks ns : List Int) (c : Nat) (w : World) (hk : ks.length = 32) (hn : ns.length = 12) (bk : B8 ks) (bn : B8 ns) (hc : c < 4294967296) :
    Calls Try.prog 82 #[.agg (AY .u8 ks), .int .u32 (c : Int), .agg (AY .u8 ns)] w fun e w' => e = .returned (.agg (A16 (stL ks ns c))) ∧ Below w.heap.size w w' := by
  have BK := Lib.hid bk
  have BN := Lib.hid bn
  have HK := Lib.hid hk
  have HN := Lib.hid hn
  clear bk bn hk hn
  go_enter Try.func82, Try.ntmps82
  go_upto_region 1 with fail
  generalize hG : w.heap.size = G
  have K3 : Hid (Blk (((w.alloc (.cells (AY .u8 ks) 53)).alloc (.cells (AY .u8 ns) 121)).alloc (.cells #[.int .u32 0, .int .u32 0, .int .u32 0, .int .u32 0, .int .u32 0, .int .u32 0, .int .u32 0, .int .u32 0, .int .u32 0, .int .u32 0, .int .u32 0, .int .u32 0, .int .u32 0, .int .u32 0, .int .u32 0, .int .u32 0] 125)) G 53 (ks.map (Value.int .u8))) := Lib.hid (((AY_new_at .u8 w 53 ks hG.symm).alloc _).alloc _)
  have N3 : Hid (Blk (((w.alloc (.cells (AY .u8 ks) 53)).alloc (.cells (AY .u8 ns) 121)).alloc (.cells #[.int .u32 0, .int .u32 0, .int .u32 0, .int .u32 0, .int .u32 0, .int .u32 0, .int .u32 0, .int .u32 0, .int .u32 0, .int .u32 0, .int .u32 0, .int .u32 0, .int .u32 0, .int .u32 0, .int .u32 0, .int .u32 0] 125)) (G + 1) 121 (ns.map (Value.int .u8))) := Lib.hid ((AY_new_at .u8 _ 121 ns (by rw [← hG]; simp)).alloc _)
  have R3 : Hid (Blk (((w.alloc (.cells (AY .u8 ks) 53)).alloc (.cells (AY .u8 ns) 121)).alloc (.cells #[.int .u32 0, .int .u32 0, .int .u32 0, .int .u32 0, .int .u32 0, .int .u32 0, .int .u32 0, .int .u32 0, .int .u32 0, .int .u32 0, .int .u32 0, .int .u32 0, .int .u32 0, .int .u32 0, .int .u32 0, .int .u32 0] 125)) (G + 1 + 1) 125 [.int .u32 0, .int .u32 0, .int .u32 0, .int .u32 0, .int .u32 0, .int .u32 0, .int .u32 0, .int .u32 0, .int .u32 0, .int .u32 0, .int .u32 0, .int .u32 0, .int .u32 0, .int .u32 0, .int .u32 0, .int .u32 0]) := Lib.hid (Blk.new_at _ 125 [.int .u32 0, .int .u32 0, .int .u32 0, .int .u32 0, .int .u32 0, .int .u32 0, .int .u32 0, .int .u32 0, .int .u32 0, .int .u32 0, .int .u32 0, .int .u32 0, .int .u32 0, .int .u32 0, .int .u32 0, .int .u32 0] (by rw [← hG]; simp))
  have F3 : Hid (Below G w (((w.alloc (.cells (AY .u8 ks) 53)).alloc (.cells (AY .u8 ns) 121)).alloc (.cells #[.int .u32 0, .int .u32 0, .int .u32 0, .int .u32 0, .int .u32 0, .int .u32 0, .int .u32 0, .int .u32 0, .int .u32 0, .int .u32 0, .int .u32 0, .int .u32 0, .int .u32 0, .int .u32 0, .int .u32 0, .int .u32 0] 125))) := Lib.hid ((((Below.refl _ w).alloc (by omega) _).alloc (by simp; omega) _).alloc (by simp; omega) _)
  have HGE := Lib.hid hG
  clear hG
  generalize (((w.alloc (.cells (AY .u8 ks) 53)).alloc (.cells (AY .u8 ns) 121)).alloc (.cells #[.int .u32 0, .int .u32 0, .int .u32 0, .int .u32 0, .int .u32 0, .int .u32 0, .int .u32 0, .int .u32 0, .int .u32 0, .int .u32 0, .int .u32 0, .int .u32 0, .int .u32 0, .int .u32 0, .int .u32 0, .int .u32 0] 125)) = w3 at *
  have I77 : Hid ((Try.prog.info? 125).map (·.size) = some (#[.int .u32 1634760805, .int .u32 857760878, .int .u32 2036477234, .int .u32 1797285236, .int .u32 0, .int .u32 0, .int .u32 0, .int .u32 0, .int .u32 0, .int .u32 0, .int .u32 0, .int .u32 0, .int .u32 0, .int .u32 0, .int .u32 0, .int .u32 0] : Array Value).size) := Lib.hid (by rw [info77]; rfl)
  go_wp2_with (first
    | (show wpList _ _ _ ({ dst := none, op := _, type := _, pos := _, after := _, guard := _ } :: _) _ _; refine wpList_store_row rfl 125 _ _ rfl w3.heap.size #[.int .u32 1634760805, .int .u32 857760878, .int .u32 2036477234, .int .u32 1797285236, .int .u32 0, .int .u32 0, .int .u32 0, .int .u32 0, .int .u32 0, .int .u32 0, .int .u32 0, .int .u32 0, .int .u32 0, .int .u32 0, .int .u32 0, .int .u32 0] rfl rfl 125 _ (Blk.new w3 125 [.int .u32 0, .int .u32 0, .int .u32 0, .int .u32 0, .int .u32 0, .int .u32 0, .int .u32 0, .int .u32 0, .int .u32 0, .int .u32 0, .int .u32 0, .int .u32 0, .int .u32 0, .int .u32 0, .int .u32 0, .int .u32 0]) I77.out rfl (by decide) ?_))
  generalize hS : w3.heap.size = S
  have K4 : Hid (Blk (w3.alloc (.cells #[.int .u32 1634760805, .int .u32 857760878, .int .u32 2036477234, .int .u32 1797285236, .int .u32 0, .int .u32 0, .int .u32 0, .int .u32 0, .int .u32 0, .int .u32 0, .int .u32 0, .int .u32 0, .int .u32 0, .int .u32 0, .int .u32 0, .int .u32 0] 125)) G 53 (ks.map (Value.int .u8))) := Lib.hid (K3.out.alloc _)
  have N4 : Hid (Blk (w3.alloc (.cells #[.int .u32 1634760805, .int .u32 857760878, .int .u32 2036477234, .int .u32 1797285236, .int .u32 0, .int .u32 0, .int .u32 0, .int .u32 0, .int .u32 0, .int .u32 0, .int .u32 0, .int .u32 0, .int .u32 0, .int .u32 0, .int .u32 0, .int .u32 0] 125)) (G + 1) 121 (ns.map (Value.int .u8))) := Lib.hid (N3.out.alloc _)
  have R4 : Hid (Blk (w3.alloc (.cells #[.int .u32 1634760805, .int .u32 857760878, .int .u32 2036477234, .int .u32 1797285236, .int .u32 0, .int .u32 0, .int .u32 0, .int .u32 0, .int .u32 0, .int .u32 0, .int .u32 0, .int .u32 0, .int .u32 0, .int .u32 0, .int .u32 0, .int .u32 0] 125)) (G + 1 + 1) 125 [.int .u32 0, .int .u32 0, .int .u32 0, .int .u32 0, .int .u32 0, .int .u32 0, .int .u32 0, .int .u32 0, .int .u32 0, .int .u32 0, .int .u32 0, .int .u32 0, .int .u32 0, .int .u32 0, .int .u32 0, .int .u32 0]) := Lib.hid (R3.out.alloc _)
  have S4 : Hid (Blk (w3.alloc (.cells #[.int .u32 1634760805, .int .u32 857760878, .int .u32 2036477234, .int .u32 1797285236, .int .u32 0, .int .u32 0, .int .u32 0, .int .u32 0, .int .u32 0, .int .u32 0, .int .u32 0, .int .u32 0, .int .u32 0, .int .u32 0, .int .u32 0, .int .u32 0] 125)) S 125 (U (stK ks 0))) := Lib.hid (Blk.new_at w3 125 [.int .u32 1634760805, .int .u32 857760878, .int .u32 2036477234, .int .u32 1797285236, .int .u32 0, .int .u32 0, .int .u32 0, .int .u32 0, .int .u32 0, .int .u32 0, .int .u32 0, .int .u32 0, .int .u32 0, .int .u32 0, .int .u32 0, .int .u32 0] hS.symm)
  have F4 : Hid (Below G w (w3.alloc (.cells #[.int .u32 1634760805, .int .u32 857760878, .int .u32 2036477234, .int .u32 1797285236, .int .u32 0, .int .u32 0, .int .u32 0, .int .u32 0, .int .u32 0, .int .u32 0, .int .u32 0, .int .u32 0, .int .u32 0, .int .u32 0, .int .u32 0, .int .u32 0] 125))) := Lib.hid (F3.out.alloc (by have := R3.out.lt; omega) _)
  have HSG : Hid (G + 1 + 1 < S) := Lib.hid (by have := R3.out.lt; omega)
  clear hS K3 N3 R3 F3 I77
  generalize (w3.alloc (.cells #[.int .u32 1634760805, .int .u32 857760878, .int .u32 2036477234, .int .u32 1797285236, .int .u32 0, .int .u32 0, .int .u32 0, .int .u32 0, .int .u32 0, .int .u32 0, .int .u32 0, .int .u32 0, .int .u32 0, .int .u32 0, .int .u32 0, .int .u32 0] 125)) = w4 at *
  generalize (Value.agg #[.int .u32 1634760805, .int .u32 857760878, .int .u32 2036477234, .int .u32 1797285236, .int .u32 0, .int .u32 0, .int .u32 0, .int .u32 0, .int .u32 0, .int .u32 0, .int .u32 0, .int .u32 0, .int .u32 0, .int .u32 0, .int .u32 0, .int .u32 0]) = dead
  go_loopw [11] (fun iv wr => ∃ k : Nat, k ≤ 8 ∧ iv = .int .i64 k ∧ Hid (Blk wr S 125 (U (stK ks k))) ∧ Hid (Fr (fun j => j = S) w4 wr)) (fun iv _ => 8 - (intOf iv).toNat)
  case atStart => exact ⟨0, Nat.zero_le _, rfl, S4, Lib.hid (Fr.refl _ _)⟩
  case round =>
    obtain ⟨k, hk, rfl, HB, HF⟩ := hrel
    clear S4
    by_cases hlt : k < 8
    · have hw1 : IntKind.i64.wrap (4 + (k : Int)) = ((4 + k : Nat) : Int) := by simp [IntKind.wrap, IntKind.bits, IntKind.signed]; omega
      have hw2 : IntKind.i64.wrap (4 * (k : Int)) = ((4 * k : Nat) : Int) := by simp [IntKind.wrap, IntKind.bits, IntKind.signed]; omega
      have hw3 : IntKind.i64.wrap (((4 * k : Nat) : Int) + 4) = ((4 * k + 4 : Nat) : Int) := by simp [IntKind.wrap, IntKind.bits, IntKind.signed]; omega
      have KR : Hid (Blk wr G 53 (ks.map (Value.int .u8))) := Lib.hid (K4.out.fr HF.out (by have := HSG.out; omega))
      have hs1 : (0 : Int) ≤ 4 * (k : Int) := by omega
      have hs2 : 4 * (k : Int) ≤ 4 * (k : Int) + 4 := by omega
      have hs3 : 4 * (k : Int) + 4 ≤ 32 := by omega
      have hs4 : (4 * (k : Int)).toNat = 4 * k := by omega
      have hs5 : (4 * (k : Int) + 4).toNat = 4 * k + 4 := by omega
      have hi1 : (0 : Int) ≤ 4 + (k : Int) := by omega
      have hi2 : 4 + (k : Int) < 16 := by omega
      have hi3 : (4 + (k : Int)).toNat = 4 + k := by omega
      have HC : Hid (wr.cell? ⟨S, 4 + k, none⟩ = some (.int .u32 (((stK ks k).getD (4 + k) 0 : Nat) : Int)) ∧ wr.frozen? ⟨S, 4 + k, none⟩ = false) := Lib.hid ⟨U_at HB.out (4 + k) (by rw [(W16_stK BK.out k).len]; omega), HB.out.frozen _⟩
      have HWD : Hid (stK ks (k + 1) = (stK ks k).set (4 + k) (wdN ks k)) := Lib.hid (stK_succ ks k)
      go_wp2_with fail
      refine (word_any _ 4 _ ((ks.drop (4 * k)).take 4) wr (by have := HK.out; simp; omega) rfl ((blk_rd0 KR.out).cut (4 * k) 4) ((BK.out.drop _).take _)).mono ?_
      rintro e w' ⟨rfl, hww⟩
      obtain rfl : w' = wr := hww
      have hcc := HC.out.1
      have hcf := HC.out.2
      rw [show leV ((ks.drop (4 * k)).take 4) 4 = wdN ks k from rfl]
      go_wp2_with fail
      go_roundw
      case rel => exact ⟨k + 1, by omega, by go_num, Lib.hid (U_set' HB.out _ _ HWD.out), Lib.hid (HF.out.setCell (p := ⟨S, 4 + k, none⟩) (.inl rfl) _)⟩
      case measure => simp [intOf]; omega
    · have HK8 : Hid (k = 8) := Lib.hid (by omega)
      have hge : decide ((k : Int) < 8) = false := by simp; omega
      have hcc : wr.cell? ⟨S, 12, none⟩ = some (.int .u32 (((stK ks k).getD 12 0 : Nat) : Int)) := U_at HB.out 12 (by rw [(W16_stK BK.out k).len]; omega)
      have hcf : wr.frozen? ⟨S, 12, none⟩ = false := HB.out.frozen 12
      have S5 : Hid (Blk (wr.setCell ⟨S, 12, none⟩ (.int .u32 (c : Int))) S 125 (U (stN ks ns c 0))) := Lib.hid (U_set' HB.out 12 c (by rw [HK8.out]; rfl))
      have F5 : Hid (Fr (fun j => j = S) w4 (wr.setCell ⟨S, 12, none⟩ (.int .u32 (c : Int)))) := Lib.hid (HF.out.setCell (p := ⟨S, 12, none⟩) (.inl rfl) _)
      clear HB HF hk hlt
      go_wp2_with fail
      clear hcc hcf hge
      have S4 := S5
      clear S5
      generalize wr.setCell ⟨S, 12, none⟩ (.int .u32 (c : Int)) = w5 at *
      clear HK8
      go_loopw [27] (fun iv wr => ∃ k : Nat, k ≤ 3 ∧ iv = .int .i64 k ∧ Hid (Blk wr S 125 (U (stN ks ns c k))) ∧ Hid (Fr (fun j => j = S) w4 wr)) (fun iv _ => 3 - (intOf iv).toNat)
      case atStart => exact ⟨0, Nat.zero_le _, rfl, S4, F5⟩
      case round =>
        obtain ⟨k, hk, rfl, HB, HF⟩ := hrel
        clear S4
        by_cases hlt : k < 3
        · have hw1 : IntKind.i64.wrap (13 + (k : Int)) = ((13 + k : Nat) : Int) := by simp [IntKind.wrap, IntKind.bits, IntKind.signed]; omega
          have hw2 : IntKind.i64.wrap (4 * (k : Int)) = ((4 * k : Nat) : Int) := by simp [IntKind.wrap, IntKind.bits, IntKind.signed]; omega
          have hw3 : IntKind.i64.wrap (((4 * k : Nat) : Int) + 4) = ((4 * k + 4 : Nat) : Int) := by simp [IntKind.wrap, IntKind.bits, IntKind.signed]; omega
          have KR : Hid (Blk wr (G + 1) 121 (ns.map (Value.int .u8))) := Lib.hid (N4.out.fr HF.out (by have := HSG.out; omega))
          have hs1 : (0 : Int) ≤ 4 * (k : Int) := by omega
          have hs2 : 4 * (k : Int) ≤ 4 * (k : Int) + 4 := by omega
          have hs3 : 4 * (k : Int) + 4 ≤ 12 := by omega
          have hs4 : (4 * (k : Int)).toNat = 4 * k := by omega
          have hs5 : (4 * (k : Int) + 4).toNat = 4 * k + 4 := by omega
          have hi1 : (0 : Int) ≤ 13 + (k : Int) := by omega
          have hi2 : 13 + (k : Int) < 16 := by omega
          have hi3 : (13 + (k : Int)).toNat = 13 + k := by omega
          have HC : Hid (wr.cell? ⟨S, 13 + k, none⟩ = some (.int .u32 (((stN ks ns c k).getD (13 + k) 0 : Nat) : Int)) ∧ wr.frozen? ⟨S, 13 + k, none⟩ = false) := Lib.hid ⟨U_at HB.out (13 + k) (by rw [(W16_stN BK.out BN.out hc k).len]; omega), HB.out.frozen _⟩
          have HWD : Hid (stN ks ns c (k + 1) = (stN ks ns c k).set (13 + k) (wdN ns k)) := Lib.hid (stN_succ ks ns c k)
          go_wp2_with fail
          refine (word_any _ 4 _ ((ns.drop (4 * k)).take 4) wr (by have := HN.out; simp; omega) rfl ((blk_rd0 KR.out).cut (4 * k) 4) ((BN.out.drop _).take _)).mono ?_
          rintro e w' ⟨rfl, hww⟩
          obtain rfl : w' = wr := hww
          have hcc := HC.out.1
          have hcf := HC.out.2
          rw [show leV ((ns.drop (4 * k)).take 4) 4 = wdN ns k from rfl]
          go_wp2_with fail
          go_roundw
          case rel => exact ⟨k + 1, by omega, by go_num, Lib.hid (U_set' HB.out _ _ HWD.out), Lib.hid (HF.out.setCell (p := ⟨S, 13 + k, none⟩) (.inl rfl) _)⟩
          case measure => simp [intOf]; omega
        · have HK8 : Hid (k = 3) := Lib.hid (by omega)
          have hge : decide ((k : Int) < 3) = false := by simp; omega
          have H8 : Hid (W16 (stL ks ns c)) := Lib.hid (W16_stL BK.out BN.out hc)
          have HB2 : Hid (Blk wr S 125 (U (stL ks ns c))) := Lib.hid (by have h := HB.out; rw [HK8.out] at h; rw [stL_eq]; exact h)
          have BF : Hid (wr.heap[S]? = some (.cells (A16 (stL ks ns c)) 125 (0, 0))) := Lib.hid (blk_A16 HB2.out)
          have RF : Hid (Blk wr (G + 1 + 1) 125 [.int .u32 0, .int .u32 0, .int .u32 0, .int .u32 0, .int .u32 0, .int .u32 0, .int .u32 0, .int .u32 0, .int .u32 0, .int .u32 0, .int .u32 0, .int .u32 0, .int .u32 0, .int .u32 0, .int .u32 0, .int .u32 0]) := Lib.hid (R4.out.fr HF.out (by have := HSG.out; omega))
          have FF : Hid (Below w.heap.size w wr) := Lib.hid (by rw [HGE.out]; exact F4.out.trans (HF.out.below (B := G) (by have := R4.out.lt; omega) (fun k hk => by have := HSG.out; omega)))
          clear HB HB2 HF R4 F4 F5 K4 N4
          have hsz : (Try.prog.info? 125).map (·.size) = some (A16 (stL ks ns c)).size := by rw [info77, A16_size, H8.out.len]
          have HSZ := Lib.hid hsz
          clear hsz
          go_wp2_with (first
            | (show wpList _ _ _ ({ dst := some 41, op := _, type := _, pos := _, after := _, guard := _ } :: _) _ _; refine wpList_load_row rfl 125 _ rfl S rfl 125 (A16 (stL ks ns c)) (0, 0) _ BF.out Try.underlying125 rfl HSZ.out ?_)
            | (show wpList _ _ _ ({ dst := none, op := _, type := _, pos := _, after := _, guard := _ } :: _) _ _; refine wpList_store_row rfl 125 _ _ rfl (G + 1 + 1) (A16 (stL ks ns c)) rfl rfl 125 _ RF.out HSZ.out (by rw [A16_size, H8.out.len]; rfl) (A16_one (stL ks ns c)) ?_))
          refine bodyPost_ret (results_cell_row rfl _ _ (G + 1 + 1) 125 (A16 (stL ks ns c)) (0, 0) _ rfl (setRow_heap _ _ _ _ _ _ RF.out) Try.underlying125 rfl HSZ.out) rfl ⟨rfl, below_setRow FF.out (by rw [HGE.out]; omega) _⟩
end Go.Proofs.Ytcfbaildcocnhaa

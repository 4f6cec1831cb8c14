/-
  Walk: Block: the program's.
-/
import Derived.Test.YtcfbaildcocnhaaTw
import Derived.Test.YtcfbaildcocnhaaIx
import Derived.Deep.RegionHeld
set_option linter.unusedVariables false
set_option linter.unusedSimpArgs false
namespace Go.Proofs.Ytcfbaildcocnhaa
open Go.RowKit

theorem info31 : (Try.prog.info? 53).map (·.size) = some 32 := by kernel_rfl
theorem info33 : (Try.prog.info? 121).map (·.size) = some 12 := by kernel_rfl
theorem info36 : (Try.prog.info? 103).map (·.size) = some 64 := by kernel_rfl
def Z64 : List Int := List.replicate 64 0
/-- k double rounds. -/
def rndC (S : List Nat) (k : Nat) : List Nat := (List.range k).foldl (fun L _ => tw8 L) S
theorem rndC_succ (S : List Nat) (k : Nat) : rndC S (k + 1) = tw8 (rndC S k) := by simp [rndC, List.range_succ]
theorem W16.rndC {S : List Nat} (h : W16 S) : ∀ k, W16 (rndC S k)
  | 0 => h
  | k + 1 => by rw [rndC_succ]; exact (h.rndC k).tw8
theorem Fr.setRow {S : Nat → Prop} {a w : World} {g : Nat} (h : Fr S a w) (hg : S g) (cs : Array Value) : Fr S a (w.setRow g cs) :=
  h.trans ⟨rfl, rfl, rfl, by simp [World.setRow], fun j hj hs => setRow_other w g j cs (fun e => hs (e ▸ hg))⟩
/-- What is written after k words. -/
def outW (T S : List Nat) (k : Nat) : List Int := (List.range k).flatMap (fun i => leN (add32 (T.getD i 0) (S.getD i 0)) 4)
def outL (T S : List Nat) (k : Nat) : List Int := outW T S k ++ List.replicate (64 - 4 * k) 0
theorem outW_succ (T S : List Nat) (k : Nat) : outW T S (k + 1) = outW T S k ++ leN (add32 (T.getD k 0) (S.getD k 0)) 4 := by simp [outW, List.range_succ]
theorem outW_len (T S : List Nat) : ∀ k, (outW T S k).length = 4 * k
  | 0 => rfl
  | k + 1 => by rw [outW_succ, List.length_append, outW_len T S k, leN_len]; omega
theorem outL_len (T S : List Nat) (k : Nat) (hk : k ≤ 16) : (outL T S k).length = 64 := by rw [outL, List.length_append, outW_len, List.length_replicate]; omega
theorem outL_step (T S : List Nat) (k : Nat) (hk : k < 16) : (outL T S k).take (4 * k) ++ (leN (add32 (T.getD k 0) (S.getD k 0)) 4 ++ (outL T S k).drop (4 * k + (leN (add32 (T.getD k 0) (S.getD k 0)) 4).length)) = outL T S (k + 1) := by
  have hl := outW_len T S k
  unfold outL
  rw [leN_len, outW_succ, List.take_append_of_le_length (by omega), List.take_of_length_le (by omega), List.drop_append]
  rw [List.drop_of_length_le (by omega), List.nil_append, hl, List.drop_replicate, List.append_assoc]
  congr 3
  omega

/-- A block. -/
def blkL (ks ns : List Int) (c : Nat) : List Int := outL (rndC (stL ks ns c) 10) (stL ks ns c) 16
theorem blkL_eq (ks ns : List Int) (c : Nat) : blkL ks ns c = outL (rndC (stL ks ns c) 10) (stL ks ns c) 16 := rfl
theorem blkL_len (ks ns : List Int) (c : Nat) : (blkL ks ns c).length = 64 := outL_len _ _ 16 (Nat.le_refl _)
attribute [irreducible] blkL
theorem A16_blk' {w : World} {g T : Nat} {L : List Nat} (h : w.heap[g]? = some (.cells (A16 L) T (0, 0))) : Blk w g T (U L) := by
  unfold Blk; rw [h, A16_eq]
theorem A16_get (L : List Nat) (k : Nat) (h : k < L.length) : (A16 L)[k]? = some (.int .u32 ((L.getD k 0 : Nat) : Int)) := by
  rw [A16_eq]; unfold U
  simp [List.getD, h]
theorem info22 : (Try.prog.info? 119).map (·.size) = some 1 := by kernel_rfl

set_option maxRecDepth 100000 in
set_option maxHeartbeats 8000000 in
theorem block_any (ks ns : List Int) (c : Nat) (w : World) (hk : ks.length = 32) (hn : ns.length = 12) (bk : B8 ks) (bn : B8 ns) (hc : c < 4294967296) :
    Calls Try.prog 76 #[.agg (AY .u8 ks), .int .u32 (c : Int), .agg (AY .u8 ns)] w fun e w' => e = .returned (.agg (AY .u8 (blkL ks ns c))) ∧ Below w.heap.size w w' := by
  have HCS : Hid (∀ W, Calls Try.prog 82 #[.agg (AY .u8 ks), .int .u32 (c : Int), .agg (AY .u8 ns)] W fun e w' => e = .returned (.agg (A16 (stL ks ns c))) ∧ Below W.heap.size W w') := Lib.hid (fun W => state_any ks ns c W hk hn bk bn hc)
  have HWS : Hid (W16 (stL ks ns c)) := Lib.hid (W16_stL bk bn hc)
  have I31 : Hid ((Try.prog.info? 53).map (·.size) = some (AY .u8 ks).size) := Lib.hid (by rw [info31, AY_size, hk])
  have I33 : Hid ((Try.prog.info? 121).map (·.size) = some (AY .u8 ns).size) := Lib.hid (by rw [info33, AY_size, hn])
  clear bk bn hk hn
  go_enter Try.func76, Try.ntmps76
  go_upto_region 1 with fail
  generalize hG : w.heap.size = G
  generalize hW3 : ((w.alloc _).alloc _).alloc _ = w3
  have K3 : Hid (w3.heap[G]? = some (.cells (AY .u8 ks) 53 (0, 0))) := Lib.hid (blk_AY (by rw [← hW3]; exact ((AY_new_at .u8 w 53 ks hG.symm).alloc _).alloc _))
  have N3 : Hid (w3.heap[G + 1]? = some (.cells (AY .u8 ns) 121 (0, 0))) := Lib.hid (blk_AY (by rw [← hW3]; exact (AY_new_at .u8 _ 121 ns (by rw [← hG]; simp)).alloc _))
  have R3 : Hid (Blk w3 (G + 1 + 1) 103 (Z64.map (Value.int .u8))) := Lib.hid (by rw [← hW3]; exact Blk.new_at _ 103 (Z64.map (Value.int .u8)) (by rw [← hG]; simp))
  have F3 : Hid (Below G w w3) := Lib.hid (by rw [← hW3]; exact (((Below.refl _ w).alloc (by omega) _).alloc (by simp; omega) _).alloc (by simp; omega) _)
  have HGE := Lib.hid hG
  clear hG hW3
  go_wp2_with (first
    | (show wpList _ _ _ ({ dst := some 12, op := _, type := _, pos := _, after := _, guard := _ } :: _) _ _; refine wpList_load_row rfl 53 _ rfl G rfl 53 (AY .u8 ks) (0, 0) _ K3.out Try.underlying53 rfl I31.out ?_)
    | (show wpList _ _ _ ({ dst := some 14, op := _, type := _, pos := _, after := _, guard := _ } :: _) _ _; refine wpList_load_row rfl 121 _ rfl (G + 1) rfl 121 (AY .u8 ns) (0, 0) _ N3.out Try.underlying121 rfl I33.out ?_))
  refine (HCS.out w3).mono ?_
  rintro e w4 ⟨rfl, b4⟩
  have R4 : Hid (Blk w4 (G + 1 + 1) 103 (Z64.map (Value.int .u8))) := Lib.hid (R3.out.below b4 R3.out.lt)
  have F4 : Hid (Below G w w4) := Lib.hid (F3.out.trans (b4.mono (by have := R3.out.lt; omega)))
  clear b4 R3 F3 K3 N3 HCS
  have I77 : Hid ((Try.prog.info? 125).map (·.size) = some (A16 (stL ks ns c)).size) := Lib.hid (by rw [info77, A16_size, HWS.out.len])
  have HRS0 : Hid (∀ S, stL ks ns c = S → blkL ks ns c = outL (rndC S 10) S 16) := Lib.hid (fun S hS => by rw [blkL_eq, hS])
  generalize hS0 : stL ks ns c = S0 at *
  have HRS : Hid (blkL ks ns c = outL (rndC S0 10) S0 16) := Lib.hid (HRS0.out S0 rfl)
  clear HRS0 hS0
  go_upto_region 2 with (first
    | (show wpList _ _ _ ({ dst := none, op := _, type := _, pos := _, after := _, guard := _ } :: _) _ _; refine wpList_store_row rfl 125 _ _ rfl w4.heap.size (A16 S0) rfl rfl 125 _ (heap_alloc_new _ _) I77.out (by rw [A16_size, HWS.out.len]; rfl) (A16_one S0) ?_))
  -- GEN
  simp only [Act.put]
  generalize hA : w4.heap.size = A
  generalize hW5 : (w4.alloc _).setRow A (A16 S0) = w5
  have A5 : Hid (w5.heap[A]? = some (.cells (A16 S0) 125 (0, 0))) := Lib.hid (by rw [← hW5, ← hA]; exact setRow_heap _ _ _ _ _ _ (heap_alloc_new _ _))
  have R5 : Hid (Blk w5 (G + 1 + 1) 103 (Z64.map (Value.int .u8))) := Lib.hid (by rw [← hW5]; exact (setRow_other _ _ _ _ (by have := R4.out.lt; omega)).trans (R4.out.alloc _))
  have F5 : Hid (Below G w w5) := Lib.hid (by rw [← hW5]; exact below_setRow (F4.out.alloc (by have := R4.out.lt; omega) _) (by have := R4.out.lt; omega) _)
  have HA : Hid (G + 1 + 1 < A) := Lib.hid (by have := R4.out.lt; omega)
  have HA5 : Hid (A < w5.heap.size) := Lib.hid (Array.getElem?_eq_some_iff.1 A5.out).1
  clear hA hW5 R4 F4
  go_upto_region 3 with (first
    | (show wpList _ _ _ ({ dst := some 16, op := _, type := _, pos := _, after := _, guard := _ } :: _) _ _; refine wpList_load_row rfl 125 _ rfl A rfl 125 (A16 S0) (0, 0) _ A5.out Try.underlying125 rfl I77.out ?_)
    | (show wpList _ _ _ ({ dst := none, op := _, type := _, pos := _, after := _, guard := _ } :: _) _ _; refine wpList_store_row rfl 125 _ _ rfl w5.heap.size (A16 S0) rfl rfl 125 _ (heap_alloc_new _ _) I77.out (by rw [A16_size, HWS.out.len]; rfl) (A16_one S0) ?_))
  simp only [Act.put]
  generalize hB : w5.heap.size = B
  generalize hW6 : (w5.alloc _).setRow B (A16 S0) = w6
  have B6 : Hid (w6.heap[B]? = some (.cells (A16 (rndC S0 0)) 125 (0, 0))) := Lib.hid (by rw [← hW6, ← hB]; exact setRow_heap _ _ _ _ _ _ (heap_alloc_new _ _))
  have A6 : Hid (w6.heap[A]? = some (.cells (A16 S0) 125 (0, 0))) := Lib.hid (by rw [← hW6]; exact (setRow_other _ _ _ _ (by have := HA5.out; omega)).trans ((Below.heap_alloc _ _ _ HA5.out).trans A5.out))
  have R6 : Hid (Blk w6 (G + 1 + 1) 103 (Z64.map (Value.int .u8))) := Lib.hid (by rw [← hW6]; exact (setRow_other _ _ _ _ (by have := HA5.out; have := HA.out; omega)).trans (R5.out.alloc _))
  have F6 : Hid (Below G w w6) := Lib.hid (by rw [← hW6]; exact below_setRow (F5.out.alloc (by have := R5.out.lt; omega) _) (by have := R5.out.lt; omega) _)
  have HB : Hid (A < B) := Lib.hid (by have := HA5.out; omega)
  clear hB hW6 R5 F5 A5 HA5
  go_wp2_with fail
  go_loopw [17] (fun iv wr => ∃ k : Nat, k ≤ 10 ∧ iv = .int .i64 k ∧ Hid (wr.heap[B]? = some (.cells (A16 (rndC S0 k)) 125 (0, 0))) ∧ Hid (Fr (fun j => j = B) w6 wr)) (fun iv _ => 10 - (intOf iv).toNat)
  case atStart => exact ⟨0, Nat.zero_le _, rfl, B6, Lib.hid (Fr.refl _ _)⟩
  case round =>
    clear B6
    obtain ⟨k, hk, rfl, HBR, HF⟩ := hrel
    by_cases hlt : k < 10
    · have HWR : Hid (W16 (rndC S0 k)) := Lib.hid (HWS.out.rndC k)
      have HNX : Hid (tw8 (rndC S0 k) = rndC S0 (k + 1)) := Lib.hid (rndC_succ S0 k).symm
      have I1 : Hid ((Try.prog.info? 125).map (·.size) = some (A16 (rndC S0 k)).size) := Lib.hid (by rw [info77, A16_size, HWR.out.len])
      have I2 : Hid ((Try.prog.info? 125).map (·.size) = some (A16 (rndC S0 (k + 1))).size) := Lib.hid (by rw [info77, A16_size, (HWS.out.rndC (k + 1)).len])
      have I3 : Hid ((A16 (rndC S0 k)).size = (A16 (rndC S0 (k + 1))).size) := Lib.hid (by rw [A16_size, HWR.out.len, A16_size, (HWS.out.rndC (k + 1)).len])
      have HTW : Hid (∀ W, Calls Try.prog 83 #[.agg (A16 (rndC S0 k))] W fun e w' => e = .returned (.agg (A16 (rndC S0 (k + 1)))) ∧ Below W.heap.size W w') := Lib.hid (fun W => by rw [← HNX.out]; exact twice_any _ W HWR.out)
      have HBL : Hid (B < wr.heap.size) := Lib.hid (Array.getElem?_eq_some_iff.1 HBR.out).1
      go_wp2_with (first
        | (show wpList _ _ _ ({ dst := some 19, op := _, type := _, pos := _, after := _, guard := _ } :: _) _ _; refine wpList_load_row rfl 125 _ rfl B rfl 125 (A16 (rndC S0 k)) (0, 0) _ HBR.out Try.underlying125 rfl I1.out ?_))
      refine (HTW.out wr).mono ?_
      rintro e w' ⟨rfl, b'⟩
      have HB2 : Hid (w'.heap[B]? = some (.cells (A16 (rndC S0 k)) 125 (0, 0))) := Lib.hid ((b'.block B HBL.out).trans HBR.out)
      have HF2 : Hid (Fr (fun j => j = B) w6 w') := Lib.hid (HF.out.trans (Fr.of_below b' _))
      clear b' HTW HNX
      go_wp2_with (first
        | (show wpList _ _ _ ({ dst := none, op := _, type := _, pos := _, after := _, guard := _ } :: _) _ _; refine wpList_store_row rfl 125 _ _ rfl B (A16 (rndC S0 (k + 1))) rfl rfl 125 _ HB2.out I2.out I3.out (A16_one _) ?_))
      go_roundw
      case rel => exact ⟨k + 1, by omega, by go_num, Lib.hid (setRow_heap _ _ _ _ _ _ HB2.out), Lib.hid (HF2.out.setRow rfl _)⟩
      case measure => simp [intOf]; omega
    · have HK : Hid (k = 10) := Lib.hid (by omega)
      have hge : decide ((k : Int) < 10) = false := by simp; omega
      have HWT : Hid (W16 (rndC S0 10)) := Lib.hid (HWS.out.rndC 10)
      have B7 : Hid (wr.heap[B]? = some (.cells (A16 (rndC S0 10)) 125 (0, 0))) := Lib.hid (by have h := HBR.out; rw [HK.out] at h; exact h)
      have A7 : Hid (wr.heap[A]? = some (.cells (A16 S0) 125 (0, 0))) := Lib.hid ((HF.out.block A (Array.getElem?_eq_some_iff.1 A6.out).1 (by have := HB.out; omega)).trans A6.out)
      have R7 : Hid (Blk wr (G + 1 + 1) 103 (Z64.map (Value.int .u8))) := Lib.hid (R6.out.fr HF.out (by have := HB.out; have := HA.out; omega))
      have F7 : Hid (Below G w wr) := Lib.hid (F6.out.trans (HF.out.below (by have := R6.out.lt; omega) (fun k hk => by have := HB.out; have := HA.out; omega)))
      clear HBR HF A6 R6 F6
      have HSL : Hid (S0.length = 16) := Lib.hid HWS.out.len
      have HRES0 : Hid (∀ T, rndC S0 10 = T → blkL ks ns c = outL T S0 16) := Lib.hid (fun T hT => by rw [HRS.out, hT])
      generalize hT0 : rndC S0 10 = T0 at *
      have HRES : Hid (blkL ks ns c = outL T0 S0 16) := Lib.hid (HRES0.out T0 rfl)
      clear HRES0 hT0
      go_upto_region 8 with fail
      generalize hC : wr.heap.size = C
      generalize hW8 : wr.alloc _ = w8
      have C8 : Hid (Blk w8 C 103 ((outL T0 S0 0).map (Value.int .u8))) := Lib.hid (by rw [← hW8]; exact Blk.new_at _ 103 _ hC.symm)
      have B8' : Hid (w8.heap[B]? = some (.cells (A16 T0) 125 (0, 0))) := Lib.hid (by rw [← hW8]; exact (Below.heap_alloc _ _ _ (Array.getElem?_eq_some_iff.1 B7.out).1).trans B7.out)
      have A8 : Hid (w8.heap[A]? = some (.cells (A16 S0) 125 (0, 0))) := Lib.hid (by rw [← hW8]; exact (Below.heap_alloc _ _ _ (Array.getElem?_eq_some_iff.1 A7.out).1).trans A7.out)
      have R8 : Hid (Blk w8 (G + 1 + 1) 103 (Z64.map (Value.int .u8))) := Lib.hid (by rw [← hW8]; exact R7.out.alloc _)
      have F8 : Hid (Below G w w8) := Lib.hid (by rw [← hW8]; exact F7.out.alloc (by have := R7.out.lt; omega) _)
      have HC : Hid (A < C ∧ G + 1 + 1 < C) := Lib.hid (by have h1 := (Array.getElem?_eq_some_iff.1 A7.out).1; have h2 := R7.out.lt; omega)
      have IT : Hid ((Try.prog.info? 125).map (·.size) = some (A16 T0).size) := Lib.hid (by rw [info77, A16_size, HWT.out.len])
      clear hC hW8 R7 F7 A7 B7
      go_wp2_with (first
        | (show wpList _ _ _ ({ dst := some 22, op := _, type := _, pos := _, after := _, guard := _ } :: _) _ _; refine wpList_load_row rfl 125 _ rfl B rfl 125 (A16 T0) (0, 0) _ B8'.out Try.underlying125 rfl IT.out ?_))
      clear hge hlt hk HK
      go_loopw [23] (fun iv wr => ∃ k : Nat, k ≤ 16 ∧ iv = .int .i64 k ∧ Hid (Blk wr C 103 ((outL T0 S0 k).map (Value.int .u8))) ∧ Hid (Fr (fun j => j = C) w8 wr)) (fun iv _ => 16 - (intOf iv).toNat)
      case atStart => exact ⟨0, Nat.zero_le _, rfl, C8, Lib.hid (Fr.refl _ _)⟩
      case round =>
        clear C8
        obtain ⟨k, hk, rfl, HO, HF⟩ := hrel
        by_cases hlt : k < 16
        · have HWA : Hid (wr.heap[A]? = some (.cells (A16 S0) 125 (0, 0))) := Lib.hid ((HF.out.block A (Array.getElem?_eq_some_iff.1 A8.out).1 (by have := HC.out; omega)).trans A8.out)
          have HAB : Hid (Blk wr A 125 (U S0)) := Lib.hid (A16_blk' HWA.out)
          have HWB := HWA
          obtain ⟨x, hx⟩ : ∃ x, x = T0.getD k 0 := ⟨_, rfl⟩
          obtain ⟨y, hy⟩ : ∃ y, y = S0.getD k 0 := ⟨_, rfl⟩
          have HIX : Hid (∀ W, (Instr.index 125 (.agg (A16 T0)) (.int .i64 (k : Int))).run Try.prog W = .ok (.int .u32 (x : Int)) W) := Lib.hid (fun W => run_index_one 125 119 16 _ .i64 k _ W .u32 Try.underlying125 Try.underlying119 hlt info22 (by rw [hx]; exact A16_get T0 k (by rw [HWT.out.len]; exact hlt)))
          have HCE : Hid (wr.cell? ⟨A, k, none⟩ = some (.int .u32 (y : Int))) := Lib.hid (by rw [hy]; exact U_at HAB.out k (by rw [HSL.out]; exact hlt))
          have HNXT : Hid ((outL T0 S0 k).take (4 * k) ++ (leN (add32 x y) 4 ++ (outL T0 S0 k).drop (4 * k + (leN (add32 x y) 4).length)) = outL T0 S0 (k + 1)) := Lib.hid (by rw [hx, hy]; exact outL_step T0 S0 k hlt)
          have HXY : Hid (add32 x y < 4294967296) := Lib.hid (add32_lt _ _)
          have HOL : Hid ((outL T0 S0 k).length = 64) := Lib.hid (outL_len T0 S0 k (by omega))
          have HAD : Hid (IntKind.u32.wrap ((x : Int) + (y : Int)) = ((add32 x y : Nat) : Int)) := Lib.hid (by simp [IntKind.wrap, IntKind.bits, IntKind.signed, add32])
          generalize add32 x y = X at *
          clear hx hy HAB HWA
          have hix := HIX.out
          go_upto_region 11 with fail
          clear hix
          have hw2 : IntKind.i64.wrap (4 * (k : Int)) = 4 * (k : Int) := by simp [IntKind.wrap, IntKind.bits, IntKind.signed]; omega
          have hs1 : (0 : Int) ≤ 4 * (k : Int) := by omega
          have hs2 : 4 * (k : Int) ≤ 64 := by omega
          have hs4 : (4 * (k : Int)).toNat = 4 * k := by omega
          have hs5 : ¬ (64 = 4 * k) := by omega
          have hk0 : (0 : Int) ≤ (k : Int) := by omega
          have hk16 : (k : Int) < 16 := by omega
          have HSD : Hid ((fun w' : World => w'.heap[A]? = wr.heap[A]?) wr.drew) := Lib.hid rfl
          refine wp_region_held_drew (S := fun w' => w'.heap[A]? = wr.heap[A]?) (by kernel_rfl) (rfl) (fun hHeld => ?_)
          have HHd := Lib.hid hHeld
          clear hHeld
          refine wpAnyH_take (i := 0) (oi := ⟨some 27, _, _, _, _, _⟩) (v := (.int .i64 (k : Int))) rfl (by kernel_rfl) (by kernel_rfl) (by kernel_rfl) (fun _ _ _ h => h) (Or.inl ⟨by rfl, ?_⟩) HHd.out ?_
          · intro w' hS; go_simp; try with_reducible rfl
          simp only [Act.put, List.setIfInBounds_toArray, List.set_cons_zero, List.set_cons_succ]
          refine wpAnyH_take (i := 1) (oi := ⟨some 28, _, _, _, _, _⟩) (v := (.int .i64 (4 * (k : Int)))) rfl (by kernel_rfl) (by kernel_rfl) (by kernel_rfl) (fun _ _ _ h => h) (Or.inl ⟨by rfl, ?_⟩) HHd.out ?_
          · intro w' hS; go_simp; try with_reducible rfl
          simp only [Act.put, List.setIfInBounds_toArray, List.set_cons_zero, List.set_cons_succ]
          refine wpAnyH_take (i := 2) (oi := ⟨some 29, _, _, _, _, _⟩) (v := (.slice (some ⟨C, 4 * k, none⟩) (64 - 4 * k) (64 - 4 * k))) rfl (by kernel_rfl) (by kernel_rfl) (by kernel_rfl) (fun _ _ _ h => h) (Or.inl ⟨by rfl, ?_⟩) HHd.out ?_
          · intro w' hS; go_simp; try with_reducible rfl
          simp only [Act.put, List.setIfInBounds_toArray, List.set_cons_zero, List.set_cons_succ]
          refine wpAnyH_take (i := 3) (oi := ⟨some 30, _, _, _, _, _⟩) (v := (.int .u32 (x : Int))) rfl (by kernel_rfl) (by kernel_rfl) (by kernel_rfl) (fun _ _ _ h => h) (Or.inl ⟨by rfl, ?_⟩) HHd.out ?_
          · intro w' hS; go_simp; try with_reducible rfl
          simp only [Act.put, List.setIfInBounds_toArray, List.set_cons_zero, List.set_cons_succ]
          refine wpAnyH_take (i := 4) (oi := ⟨some 31, _, _, _, _, _⟩) (v := (.int .i64 (k : Int))) rfl (by kernel_rfl) (by kernel_rfl) (by kernel_rfl) (fun _ _ _ h => h) (Or.inl ⟨by rfl, ?_⟩) HHd.out ?_
          · intro w' hS; go_simp; try with_reducible rfl
          simp only [Act.put, List.setIfInBounds_toArray, List.set_cons_zero, List.set_cons_succ]
          refine wpAnyH_take (i := 5) (oi := ⟨some 32, _, _, _, _, _⟩) (v := (.pointer (some ⟨A, k, none⟩))) rfl (by kernel_rfl) (by kernel_rfl) (by kernel_rfl) (fun _ _ _ h => h) (Or.inl ⟨by rfl, ?_⟩) HHd.out ?_
          · intro w' hS; go_simp; try with_reducible rfl
          simp only [Act.put, List.setIfInBounds_toArray, List.set_cons_zero, List.set_cons_succ]
          refine wpAnyH_take (i := 6) (oi := ⟨some 33, _, _, _, _, _⟩) (v := (.int .u32 (y : Int))) rfl (by kernel_rfl) (by kernel_rfl) (by kernel_rfl) (fun _ _ _ h => h) (Or.inl ⟨by rfl, ?_⟩) HHd.out ?_
          · intro w' hS; have z0 : w'.cell? ⟨A, k, none⟩ = some (.int .u32 (y : Int)) := (World.cell?_of_block (w := wr) (w' := w') hS).trans HCE.out; go_simp; try with_reducible rfl
          simp only [Act.put, List.setIfInBounds_toArray, List.set_cons_zero, List.set_cons_succ]
          refine wpAnyH_take (i := 7) (oi := ⟨some 34, _, _, _, _, _⟩) (v := (.int .u32 (X : Int))) rfl (by kernel_rfl) (by kernel_rfl) (by kernel_rfl) (fun _ _ _ h => h) (Or.inl ⟨by rfl, ?_⟩) HHd.out ?_
          · intro w' hS; have ha := HAD.out; go_simp; try with_reducible rfl
          simp only [Act.put, List.setIfInBounds_toArray, List.set_cons_zero, List.set_cons_succ]
          refine wpAnyH_ready (rs := [8]) (by kernel_rfl) (by simp) ?_
          refine AllReadyH.cons (o := ⟨some 35, _, _, _, _, _⟩) rfl (fun K hK => ?_) AllReadyH.nil
          rw [if_pos (by rfl)]
          go_simp
          refine (pl32_any none 0 0 [] X _ rfl (Rd.nil _ _ _) (by simp) HXY.out).mono ?_
          rintro e w1 ⟨v1, rfl, o1, b1⟩
          (try simp only [Act.put, List.setIfInBounds_toArray, List.set_cons_zero, List.set_cons_succ])
          refine hK.out _ _ ((b1.block A (Array.getElem?_eq_some_iff.1 (HHd.out.trans HWB.out)).1).trans HHd.out) (fun hHeld => ?_)
          clear hK K
          have HH1 := Lib.hid hHeld
          clear hHeld HHd
          obtain ⟨A1, n1, c1, hv1⟩ : ∃ A n c, v1 = .slice A n c := by obtain ⟨A, c, h, _⟩ := o1.slice; exact ⟨A, _, c, h⟩
          have HR1 : Hid (n1 = (leN X 4).length ∧ Rd w1 .u8 A1 (leN X 4)) := Lib.hid (by
            obtain ⟨A', c', h, _, _, hr, _⟩ := o1.slice
            rw [hv1] at h
            injection h with h1 h2 h3
            subst h1 h2
            exact ⟨rfl, hr⟩)
          subst hv1
          have HO1 : Hid (Blk w1 C 103 ((outL T0 S0 k).map (Value.int .u8))) := Lib.hid ((show Blk wr.drew C 103 _ from HO.out).below b1 HO.out.lt)
          have HF1 : Hid (Fr (fun j => j = C) w8 w1) := Lib.hid (HF.out.drew.trans (Fr.of_below b1 _))
          clear o1 b1
          refine wpAnyH_ready (rs := [9]) (by kernel_rfl) (by simp) ?_
          refine AllReadyH.cons (o := ⟨some 36, _, _, _, _, _⟩) rfl (fun K hK => ?_) AllReadyH.nil
          refine step_copy_mid w1 rfl (.tmp 29) (.tmp 35) 75 75 rfl 5 Try.underlying75 size5' C (4 * k) (64 - 4 * k) (64 - 4 * k) A1 n1 c1 rfl rfl .u8 103 (outL T0 S0 k) (leN X 4) HO1.out HR1.out.2 HR1.out.1 (by rw [leN_len]; omega) (by rw [leN_len, HOL.out]; omega) ?_
          intro w2 hb2 hf2
          (try simp only [Act.put, List.setIfInBounds_toArray, List.set_cons_zero, List.set_cons_succ])
          refine hK.out _ _ ((hf2.block A (Array.getElem?_eq_some_iff.1 (HH1.out.trans HWB.out)).1 (by have := HC.out; omega)).trans HH1.out) (fun hHeld => ?_)
          clear hK K hHeld
          have HO2 : Hid (Blk w2 C 103 ((outL T0 S0 (k + 1)).map (Value.int .u8))) := Lib.hid (by rw [← HNXT.out]; exact hb2)
          have HF2 : Hid (Fr (fun j => j = C) w8 w2) := Lib.hid (HF1.out.trans hf2)
          clear hb2 hf2 HO1 HF1 HR1
          refine wpAnyH_done (by kernel_rfl) ?_ _
          go_wp2_with fail
          go_roundw
          case rel => exact ⟨k + 1, by omega, by go_num, HO2, HF2⟩
          case measure => simp [intOf]; omega
        · have HK : Hid (k = 16) := Lib.hid (by omega)
          have hge : decide ((k : Int) < 16) = false := by simp; omega
          have OE : Hid (wr.heap[C]? = some (.cells (AY .u8 (outL T0 S0 16)) 103 (0, 0))) := Lib.hid (blk_AY (by have h := HO.out; rw [HK.out] at h; exact h))
          have RE : Hid (Blk wr (G + 1 + 1) 103 (Z64.map (Value.int .u8))) := Lib.hid (R8.out.fr HF.out (by have := HC.out; omega))
          have FE : Hid (Below G w wr) := Lib.hid (F8.out.trans (HF.out.below (by have := R8.out.lt; omega) (fun k hk => by have := HC.out; omega)))
          have IE : Hid ((Try.prog.info? 103).map (·.size) = some (AY .u8 (outL T0 S0 16)).size) := Lib.hid (by rw [info36, AY_size, outL_len _ _ _ (Nat.le_refl _)])
          have ZE : Hid (((Z64.map (Value.int .u8)).toArray).size = (AY .u8 (outL T0 S0 16)).size) := Lib.hid (by rw [AY_size, outL_len _ _ _ (Nat.le_refl _)]; rfl)
          clear HO HF R8 F8 A8 B8'
          go_wp2_with (first
            | (show wpList _ _ _ ({ dst := some 38, op := _, type := _, pos := _, after := _, guard := _ } :: _) _ _; refine wpList_load_row rfl 103 _ rfl C rfl 103 (AY .u8 (outL T0 S0 16)) (0, 0) _ OE.out Try.underlying103 rfl IE.out ?_)
            | (show wpList _ _ _ ({ dst := none, op := _, type := _, pos := _, after := _, guard := _ } :: _) _ _; refine wpList_store_row rfl 103 _ _ rfl (G + 1 + 1) (AY .u8 (outL T0 S0 16)) rfl rfl 103 _ RE.out IE.out ZE.out (AY_one _ _) ?_))
          refine bodyPost_ret (results_cell_row rfl _ _ (G + 1 + 1) 103 (AY .u8 (outL T0 S0 16)) (0, 0) _ rfl (setRow_heap _ _ _ _ _ _ RE.out) Try.underlying103 rfl IE.out) rfl ⟨?_, below_setRow (by rw [HGE.out]; exact FE.out) (by rw [HGE.out]; omega) _⟩
          rw [HRES.out]
end Go.Proofs.Ytcfbaildcocnhaa

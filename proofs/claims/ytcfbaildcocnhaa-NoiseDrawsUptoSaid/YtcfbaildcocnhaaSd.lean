/-
  Walks: the document's words, state, places.
-/
import Derived.Test.YtcfbaildcocnhaaSt
set_option linter.unusedVariables false
set_option linter.unusedSimpArgs false
namespace Go.Proofs.Ytcfbaildcocnhaa
open Go.RowKit

theorem info26 : (Try.prog.info? 62).map (fun i => (i.zero, i.size, i.bytes)) = some (some (.int .u64 0), 1, 8) := by kernel_rfl
/-- The first m words. -/
def wl (xs : List Int) (m : Nat) : List Int := (List.range m).map (fun i => (wdN xs i : Int))
theorem wl_len (xs : List Int) (m : Nat) : (wl xs m).length = m := by simp [wl]
theorem wl_succ (xs : List Int) (m : Nat) : wl xs (m + 1) = wl xs m ++ [(wdN xs m : Int)] := by simp [wl, List.range_succ]

set_option maxHeartbeats 2000000 in
theorem words_any (b m n : Nat) (xs : List Int) (w : World) (hn : n = xs.length) (hm : n = 4 * m) (hm8 : m ≤ 8) (hr : Rd w .u8 (some ⟨b, 0, none⟩) xs) (hB : B8 xs) :
    Calls Try.prog 97 #[.slice (some ⟨b, 0, none⟩) n n] w (Made 62 .u64 (wl xs m) w) := by
  have HR := Lib.hid hr
  have HN := Lib.hid hn
  have HB := Lib.hid hB
  have HM := Lib.hid hm
  have hn32 : n ≤ 32 := by omega
  clear hr hn hB hm
  go_enter Try.func97, Try.ntmps97
  go_wp2_with fail
  go_loopw [3, 4] (fun v iv wr => ∃ k : Nat, k ≤ m ∧ iv = .int .i64 ((4 * k : Nat) : Int) ∧ Hid (Own wr w.heap.size 62 .u64 v (wl xs k)) ∧ Hid (Below w.heap.size w wr)) (fun _ iv _ => 4 * m - (intOf iv).toNat)
  case atStart => exact ⟨0, Nat.zero_le _, rfl, Lib.hid (Own.nil _ _ _ _), Lib.hid (Below.refl _ _)⟩
  case round =>
    obtain ⟨k, hk, rfl, HO, HW⟩ := hrel
    have hw1 : IntKind.i64.wrap (4 * (k : Int) + 4) = 4 * (k : Int) + 4 := by simp [IntKind.wrap, IntKind.bits, IntKind.signed]; omega
    by_cases hlt : k < m
    · have hle : decide (4 * (k : Int) + 4 ≤ (n : Int)) = true := by have := HM.out; simp; omega
      have hs1 : (0 : Int) ≤ 4 * (k : Int) := by omega
      have hs2 : 4 * (k : Int) ≤ 4 * (k : Int) + 4 := by omega
      have hs3 : 4 * (k : Int) + 4 ≤ (n : Int) := by have := HM.out; omega
      have hs4 : (4 * (k : Int)).toNat = 4 * k := by omega
      have hs5 : (4 * (k : Int) + 4).toNat = 4 * k + 4 := by omega
      have hs6 : ¬ (n = 4 * k) := by have := HM.out; omega
      have hsz := HW.out.size
      have hl4 : ((xs.drop (4 * k)).take 4).length = 4 := by have := HM.out; have := HN.out; simp; omega
      have HL4 := Lib.hid hl4
      clear hl4
      go_wp2_with fail
      refine (num_any _ 4 _ ((xs.drop (4 * k)).take 4) wr HL4.out.symm rfl ((HR.out.below HW.out).cut (4 * k) 4) ((HB.out.drop _).take _)).mono ?_
      rintro e w' ⟨rfl, hww⟩
      obtain rfl : w' = wr := hww
      rw [show leV ((xs.drop (4 * k)).take 4) 4 = wdN xs k from rfl]
      have hc1 : ((wl xs k).length + 1) * 8 ≤ 140737488355328 := by rw [wl_len]; omega
      go_wp2_with (first | (at_builtin; refine wpList_push w' rfl _ _ 130 rfl w.heap.size 62 .u64 8 Try.underlying130 info26 _ rfl _ _ rfl rfl HO.out hc1 (by decide) hsz ?_; intro v' w1 hown1 hfr1))
      have HO1 : Hid (Own w1 w.heap.size 62 .u64 v' (wl xs (k + 1))) := Lib.hid (by rw [wl_succ]; exact hown1)
      have HW1 := Lib.hid (HW.out.trans (hfr1.below hsz (fun g hg => (HO.out.base_le hg).1)))
      clear hown1 hfr1 hc1
      go_wp2_with fail
      go_roundw
      case rel => exact ⟨k + 1, by omega, by congr 1, HO1, HW1⟩
      case measure => simp [intOf]; omega
    · have HK : Hid (k = m) := Lib.hid (by omega)
      have hle : decide (4 * (k : Int) + 4 ≤ (n : Int)) = false := by have := HM.out; simp; omega
      go_wp2_with fail
      go_ret
      have ho := HO.out
      rw [HK.out] at ho
      exact ⟨_, rfl, ho, HW.out⟩

def cst : List Int := [1634760805, 857760878, 2036477234, 1797285236]
/-- The document's state. -/
def stD (ks ns : List Int) (c : Nat) : List Int := cst ++ wl ks 8 ++ [(c : Int)] ++ wl ns 3
theorem stD_len (ks ns : List Int) (c : Nat) : (stD ks ns c).length = 16 := by simp [stD, cst, wl_len]
theorem stD_eq (ks ns : List Int) (c : Nat) : stD ks ns c = (stL ks ns c).map (fun x : Nat => (x : Int)) := by
  rw [stL_eq]
  simp [stD, cst, wl, stN, stK, st0, List.range_succ]

set_option maxHeartbeats 2000000 in
theorem rstate_any (ks ns : List Int) (c : Nat) (w : World) (hk : ks.length = 32) (hn : ns.length = 12) (bk : B8 ks) (bn : B8 ns) (hc : c < 4294967296) :
    Calls Try.prog 86 #[.agg (AY .u8 ks), .int .u32 (c : Int), .agg (AY .u8 ns)] w (Made 62 .u64 (stD ks ns c) w) := by
  have BK := Lib.hid bk
  have BN := Lib.hid bn
  have HK := Lib.hid hk
  have HN := Lib.hid hn
  clear bk bn hk hn
  go_enter Try.func86, Try.ntmps86
  go_upto_region 1 with fail
  generalize hG : w.heap.size = G
  generalize hW2 : (w.alloc _).alloc _ = w2
  have K2 : Hid (Blk w2 G 53 (ks.map (Value.int .u8))) := Lib.hid (by rw [← hW2]; exact (AY_new_at .u8 w 53 ks hG.symm).alloc _)
  have N2 : Hid (Blk w2 (G + 1) 121 (ns.map (Value.int .u8))) := Lib.hid (by rw [← hW2]; exact (AY_new_at .u8 _ 121 ns (by rw [← hG]; simp)))
  have F2 : Hid (Below G w w2) := Lib.hid (by rw [← hW2]; exact ((Below.refl _ w).alloc (by omega) _).alloc (by simp; omega) _)
  have HGE := Lib.hid hG
  clear hG hW2
  go_upto_region 2 with fail
  generalize hA : w2.heap.size = A
  generalize hW3 : w2.alloc _ = w3
  have HA : Hid (G + 1 < A) := Lib.hid (by have := N2.out.lt; omega)
  have O3 : Hid (Own w3 G 62 .u64 (.slice (some ⟨A, 0, none⟩) 4 4) cst) := Lib.hid (Own.mk (rest := []) (by have := HA.out; omega) (by rw [← hW3, List.append_nil]; exact Blk.new_at _ 62 _ hA.symm) rfl (by decide))
  have K3 : Hid (Blk w3 G 53 (ks.map (Value.int .u8))) := Lib.hid (by rw [← hW3]; exact K2.out.alloc _)
  have N3 : Hid (Blk w3 (G + 1) 121 (ns.map (Value.int .u8))) := Lib.hid (by rw [← hW3]; exact N2.out.alloc _)
  have F3 : Hid (Below G w w3) := Lib.hid (by rw [← hW3]; exact F2.out.alloc (by have := HA.out; omega) _)
  clear hA hW3 K2 N2 F2
  go_wp2_with fail
  refine (words_any G 8 32 ks w3 HK.out.symm rfl (by decide) (blk_rd0 K3.out) BK.out).mono ?_
  rintro e w4 ⟨v4, rfl, o4, b4⟩
  have K4 : Hid (Blk w4 (G + 1) 121 (ns.map (Value.int .u8))) := Lib.hid (N3.out.below b4 N3.out.lt)
  have O4 : Hid (Own w4 G 62 .u64 (.slice (some ⟨A, 0, none⟩) 4 4) cst) := Lib.hid (O3.out.below b4)
  have F4 : Hid (Below G w w4) := Lib.hid (F3.out.trans (b4.mono (by have := K3.out.lt; omega)))
  obtain ⟨A4, n4, c4, hv4⟩ : ∃ A n c, v4 = .slice A n c := by obtain ⟨A, c, h, _⟩ := o4.slice; exact ⟨A, _, c, h⟩
  have R4 : Hid (n4 = (wl ks 8).length ∧ Rd w4 .u64 A4 (wl ks 8)) := Lib.hid (by
    obtain ⟨A', c', h, _, _, hr, _⟩ := o4.slice
    rw [hv4] at h
    injection h with h1 h2 h3
    subst h1 h2
    exact ⟨rfl, hr⟩)
  subst hv4
  have hc4 : (cst.length + (wl ks 8).length) * 8 ≤ 140737488355328 := by rw [wl_len]; simp [cst]
  have hs4 : G ≤ w4.heap.size := by have := K4.out.lt; omega
  clear o4 b4 K3 N3 O3 F3
  go_upto_region 3 with (first | (at_builtin; refine wpList_pushes_any w4 rfl _ _ 130 rfl G 62 .u64 8 Try.underlying130 info26 _ cst rfl O4.out A4 n4 c4 (wl ks 8) rfl R4.out.1 R4.out.2 hc4 (by decide) hs4 ?_; intro v5 w5 hown5 hfr5))
  have O5 : Hid (Own w5 G 62 .u64 v5 (cst ++ wl ks 8)) := Lib.hid hown5
  have K5 : Hid (Blk w5 (G + 1) 121 (ns.map (Value.int .u8))) := Lib.hid (K4.out.fr hfr5 (fun h => by have := HA.out; have h1 : A = G + 1 := Option.some.inj h; omega))
  have F5 : Hid (Below G w w5) := Lib.hid (F4.out.trans (hfr5.below hs4 (fun k h => by have := HA.out; have h1 : A = k := Option.some.inj h; omega)))
  have HNE5 : Hid (v5.ownBlock ≠ some (G + 1)) := Lib.hid (fun h => by
    rcases O5.out.form with ⟨rfl, _⟩ | ⟨g, cc, rest, rfl, _, hB, _⟩
    · cases h
    · injection h with h
      subst h
      exact hB.ne K5.out (by decide) rfl)
  have hs5 : G ≤ w5.heap.size := by have := K5.out.lt; omega
  have hc5 : ((cst ++ wl ks 8).length + 1) * 8 ≤ 140737488355328 := by rw [List.length_append, wl_len]; simp [cst]
  clear hown5 hfr5 O4 K4 F4 hc4 hs4 R4
  go_upto_region 4 with (first | (at_builtin; refine wpList_push w5 rfl _ _ 130 rfl G 62 .u64 8 Try.underlying130 info26 _ rfl _ _ rfl rfl O5.out hc5 (by decide) hs5 ?_; intro v6 w6 hown6 hfr6))
  have O6 : Hid (Own w6 G 62 .u64 v6 (cst ++ wl ks 8 ++ [(c : Int)])) := Lib.hid hown6
  have K6 : Hid (Blk w6 (G + 1) 121 (ns.map (Value.int .u8))) := Lib.hid (K5.out.fr hfr6 HNE5.out)
  have F6 : Hid (Below G w w6) := Lib.hid (F5.out.trans (hfr6.below hs5 (fun k h => (O5.out.base_le h).1)))
  have hs6 : G ≤ w6.heap.size := by have := K6.out.lt; omega
  clear hown6 hfr6 O5 K5 F5 hc5 hs5 HNE5
  go_wp2_with fail
  refine (words_any (G + 1) 3 12 ns w6 HN.out.symm rfl (by decide) (blk_rd0 K6.out) BN.out).mono ?_
  rintro e w7 ⟨v7, rfl, o7, b7⟩
  have O7 : Hid (Own w7 G 62 .u64 v6 (cst ++ wl ks 8 ++ [(c : Int)])) := Lib.hid (O6.out.below b7)
  have F7 : Hid (Below G w w7) := Lib.hid (F6.out.trans (b7.mono hs6))
  obtain ⟨A7, n7, c7, hv7⟩ : ∃ A n c, v7 = .slice A n c := by obtain ⟨A, c, h, _⟩ := o7.slice; exact ⟨A, _, c, h⟩
  have R7 : Hid (n7 = (wl ns 3).length ∧ Rd w7 .u64 A7 (wl ns 3)) := Lib.hid (by
    obtain ⟨A', c', h, _, _, hr, _⟩ := o7.slice
    rw [hv7] at h
    injection h with h1 h2 h3
    subst h1 h2
    exact ⟨rfl, hr⟩)
  subst hv7
  have hc7 : ((cst ++ wl ks 8 ++ [(c : Int)]).length + (wl ns 3).length) * 8 ≤ 140737488355328 := by rw [List.length_append, List.length_append, wl_len, wl_len]; simp [cst]
  have hs7 : G ≤ w7.heap.size := by have := b7.size; omega
  clear o7 b7 K6 O6 F6 hs6
  go_wp2_with (first | (at_builtin; refine wpList_pushes_any w7 rfl _ _ 130 rfl G 62 .u64 8 Try.underlying130 info26 _ (cst ++ wl ks 8 ++ [(c : Int)]) rfl O7.out A7 n7 c7 (wl ns 3) rfl R7.out.1 R7.out.2 hc7 (by decide) hs7 ?_; intro v8 w8 hown8 hfr8))
  go_ret
  have hown9 : Own w8 w.heap.size 62 .u64 v8 (stD ks ns c) := by rw [HGE.out]; exact hown8
  have hbel9 : Below w.heap.size w w8 := by rw [HGE.out]; exact F7.out.trans (hfr8.below hs7 (fun k h => (O7.out.base_le h).1))
  exact ⟨_, rfl, hown9, hbel9⟩
end Go.Proofs.Ytcfbaildcocnhaa

/-
  Walk: the law StreamTells.
-/
import Derived.Test.YtldbmjkecmmmjaaTi
set_option linter.unusedVariables false
set_option linter.unusedSimpArgs false
namespace Go.Proofs.Ytldbmjkecmmmjaa
open Go.RowKit

theorem at_law (k : Int) (n : Nat) (w : World) (hk : -9223372036854775808 ≤ k ∧ k ≤ 9223372036854775807) (hn : 1 ≤ n) (hn2 : n ≤ 1000) :
    Calls Try.prog 30 #[.int .i64 k, .int .i64 (n : Int)] w fun e w' => ∃ r : Nat, r < n ∧ e = .returned (.int .i64 (r : Int)) ∧ w = w' := by
  have h1 := Int.tmod_lt_of_pos k (b := (n : Int)) (by omega)
  have h2 : -(n : Int) < Int.tmod k n := by
    have h3 := Int.tmod_lt_of_pos (-k) (b := (n : Int)) (by omega)
    rw [Int.neg_tmod] at h3
    omega
  have hn0 : ((n : Int) == 0) = false := by simp; omega
  obtain ⟨t, ht⟩ : ∃ t, t = Int.tmod k n := ⟨_, rfl⟩
  have HT := Lib.hid ht
  rw [← ht] at h1 h2
  clear ht
  have hwt : IntKind.i64.wrap t = t := by simp [IntKind.wrap, IntKind.bits, IntKind.signed]; omega
  by_cases h0 : t < 0
  · have hd : decide (t < 0) = true := by simpa using h0
    obtain ⟨r, hr⟩ : ∃ r : Nat, (r : Int) = t + n := ⟨(t + n).toNat, by omega⟩
    have hwr : IntKind.i64.wrap (t + (n : Int)) = (r : Int) := by rw [hr]; simp [IntKind.wrap, IntKind.bits, IntKind.signed]; omega
    have HR : Hid (r < n) := Lib.hid (by omega)
    have htt := HT.out.symm
    clear hr
    go_enter Try.func30, Try.ntmps30
    go_wp2_with fail
    go_ret
    exact ⟨r, HR.out, rfl, rfl⟩
  · have hd : decide (t < 0) = false := by simpa using h0
    obtain ⟨r, hr⟩ : ∃ r : Nat, (r : Int) = t := ⟨t.toNat, by omega⟩
    subst hr
    have HR : Hid (r < n) := Lib.hid (by omega)
    have htt := HT.out.symm
    go_enter Try.func30, Try.ntmps30
    go_wp2_with fail
    go_ret
    exact ⟨r, HR.out, rfl, rfl⟩

theorem made_bk {w : World} {base T : Nat} {k : IntKind} {v : Value} {xs : List Int} (h : Own w base T k v xs) (h0 : 0 < xs.length) : ∃ g c r, v = .slice (some ⟨g, 0, none⟩) xs.length c ∧ base ≤ g ∧ Blk w g T (xs.map (Value.int k) ++ r) ∧ xs.length ≤ c ∧ c ≤ maxLen := by
  rcases h.form with ⟨rfl, rfl⟩ | ⟨g, c, rest, rfl, hg, hB, hc, hm⟩
  · simp at h0
  · exact ⟨g, c, rest, rfl, hg, hB, by omega, hm⟩
/-- make([]T, n) at a step of a region that draws. -/
theorem step_make_blk {P : Program} (w : World) {ops : Array Oper} {o : Oper} {a : Act} {K : Act → World → Prop} {Q : Exit → Act → World → Prop} {E : Prop}
    (hg : o.guard = none) (l c : Operand) (t : TypeId) (hop : o.op = Op.makeSlice t l c)
    (e : TypeId) (k : IntKind) (bytes : Nat) (ht : P.underlying t = some (.slice e)) (hinfo : (P.info? e).map (fun i => (i.zero, i.size, i.bytes)) = some (some (.int k 0), 1, bytes))
    (kl kc : IntKind) (n : Nat) (hl : a.eval l = .int kl (n : Int)) (hc : a.eval c = .int kc (n : Int)) (hbytes : bytes * n ≤ 281474976710656) (h63 : n ≤ 9223372036854775807)
    (h : ∀ w', Blk w' w.heap.size e ((List.replicate n (0 : Int)).map (Value.int k)) → Fr (fun _ => False) w w' → K (a.put o.dst (.slice (some ⟨w.heap.size, 0, none⟩) n n)) w') :
    if Region.wanted o (yielded ops a.tmps) = true then Oper.wp P o a w K Q else E := by
  have hw : Region.wanted o (yielded ops a.tmps) = true := by simp [Region.wanted, hg]
  rw [if_pos hw]
  obtain ⟨i0, hi, hz0, hz1, hz2⟩ := info_parts hinfo
  have hb2 : (i0.bytes : Int) * (n : Int) ≤ 281474976710656 := by
    have h : ((bytes * n : Nat) : Int) ≤ 281474976710656 := by omega
    rw [hz2]
    rwa [Int.natCast_mul] at h
  have hrun := run_make (P := P) w t e i0 (.int k 0) ht hi hz0 kl kc (n : Int) (n : Int) (by omega) (by omega) hb2 (by omega)
  simp only [Int.toNat_natCast, hz1, Nat.mul_one] at hrun
  unfold Oper.wp
  simp [execOp, hop, hl, hc, hrun, Result.andThen]
  refine h _ ?_ ((Fr.refl _ w).alloc _)
  have := Blk.new w e (List.replicate n (Value.int k 0))
  rw [show (Value.int k 0).cells = #[Value.int k 0] from rfl, madeCells_one]
  simpa using this
theorem B8_rep (n : Nat) : B8 (List.replicate n 0) := B8_zero n
theorem xb_zero {k : Int} (h : 0 ≤ k) : xb 0 k = k := by
  unfold xb
  rw [show (0 : Int).toNat = 0 from rfl, Nat.zero_xor]; omega
/-- Noughts laid over tell the blocks. -/
theorem lay_zero (ks ns : List Int) (c i N : Nat) (hN : 64 * i + 64 ≤ N) (hc : c + i < 4294967296) : ((lay ks ns (64 * c) (List.replicate N 0)).drop (64 * i)).take 64 = blkL ks ns (c + i) := by
  have hlen : (lay ks ns (64 * c) (List.replicate N 0)).length = N := by rw [lay_len, List.length_replicate]
  apply list_ext0
  · rw [List.length_take, List.length_drop, hlen, blkL_len]; omega
  · intro j hj
    rw [List.length_take, List.length_drop, hlen] at hj
    have hj64 : j < 64 := by omega
    rw [List.getD_eq_getElem?_getD, List.getElem?_take_of_lt hj64, List.getElem?_drop, ← List.getD_eq_getElem?_getD, lay_at _ _ _ _ _ (by rw [List.length_replicate]; omega)]
    have h0 : (List.replicate N (0 : Int)).getD (64 * i + j) 0 = 0 := by
      rw [List.getD_eq_getElem?_getD, List.getElem?_replicate]; split <;> rfl
    rw [h0, xb_zero (kst_B8 _ _ _).1]
    have h1 := kst_blk ks ns (64 * (c + i)) 0 j (by omega) (by omega)
    rw [show 64 * c + (64 * i + j) = 64 * (c + i) + j from by omega, h1, show 64 * (c + i) / 64 % 4294967296 = c + i from by omega, Nat.zero_add]
theorem lay_zero64 (ks ns : List Int) (c : Nat) (hc : c < 4294967296) : lay ks ns (64 * c) (List.replicate 64 0) = blkL ks ns c := by
  have h := lay_zero ks ns c 0 64 (by omega) (by omega)
  rw [Nat.mul_zero, List.drop_zero, List.take_of_length_le (by rw [lay_len, List.length_replicate]; exact Nat.le_refl _)] at h
  exact h
def Z64' : List Int := List.replicate 64 0
theorem place_mul (c n : Nat) : 64 * c + 64 * n = 64 * (c + n) := by omega

set_option maxRecDepth 100000 in
set_option maxHeartbeats 16000000 in
theorem tells_law (bl sk : Int) (ks ns : List Int) (c : Nat) (w : World) (hbl : -9223372036854775808 ≤ bl ∧ bl ≤ 9223372036854775807) (hsk : -9223372036854775808 ≤ sk ∧ sk ≤ 9223372036854775807)
    (hk : ks.length = 32) (hns : ns.length = 12) (bk : B8 ks) (bn : B8 ns) (hc : c < 4294967296) (OC : ∀ d, d < 4294967296 → OurC ks ns d) :
    Calls Try.prog 9 #[.agg (BG ks ns c), .int .i64 bl, .int .i64 sk] w fun e w' => e = .returned (.bool true) ∧ Below w.heap.size w w' := by
  have HOC := Lib.hid OC
  have HBLK : Hid (∀ d W, d < 4294967296 → Calls Try.prog 15 #[.agg (AY .u8 ks), .int .u32 ((d : Nat) : Int), .agg (AY .u8 ns)] W fun e w' => e = .returned (.agg (AY .u8 (blkL ks ns d))) ∧ Below W.heap.size W w') := Lib.hid (fun d W hd => block_any ks ns d W hk hns bk bn hd)
  have HNEW : Hid (∀ W, Calls Try.prog 27 #[.agg (AY .u8 ks), .agg (AY .u8 ns), .int .u32 (c : Int)] W fun e w' => ∃ g, e = .returned (.pointer (some ⟨g, 0, none⟩)) ∧ W.heap.size ≤ g ∧ Blk w' g 87 (SGl ks ns (64 * c)) ∧ Below W.heap.size W w') := Lib.hid (fun W => new_any ks ns c W hk hns hc)
  have HSKP : Hid (∀ g (z : Nat) W, z ≤ 1000 → Blk W g 87 (SGl ks ns (64 * c)) → z ≤ 274877906944 - 64 * c → Calls Try.prog 31 #[.pointer (some ⟨g, 0, none⟩), .int .i64 (z : Int)] W fun e w' => e = .returned (.int .i64 0) ∧ Blk w' g 87 (SGl ks ns (64 * c + z)) ∧ Fr (fun j => j = g) W w') := Lib.hid (fun g z W hz hg hf => (skip_any g z ks ns (64 * c) W (by omega) hg (by omega) hk hns).mono (fun e w' h => by
    obtain ⟨h1, h2, h3⟩ := h
    have e1 : skE (64 * c) (z : Int) = 0 := by unfold skE; rw [if_neg (by omega), if_neg (by omega)]
    have e2 : skP (64 * c) (z : Int) = 64 * c + z := by unfold skP; rw [if_neg (by omega), if_neg (by omega)]; simp
    rw [e1] at h1; rw [e2] at h2
    exact ⟨h1, h2, h3⟩))
  have HXOR : Hid (∀ g (A : Option Addr) cap W p, Rd W .u8 A Z64' → (∀ a, A = some a → a.block ≠ g) → Blk W g 87 (SGl ks ns p) → p + 64 ≤ 274877906944 → Calls Try.prog 28 #[.pointer (some ⟨g, 0, none⟩), .slice A 64 cap] W fun e w' => ∃ v, e = .returned (.tuple #[v, .int .i64 0]) ∧ Own w' W.heap.size 5 .u8 v (lay ks ns p Z64') ∧ Fr (fun j => j = g) W w') := Lib.hid (fun g A cap W p hr hA hg hp => (xor_any g A 64 cap Z64' ks ns p W rfl hr (B8_zero 64) (fun _ => hA) (by decide) hg (by omega) hk hns bk bn).mono (fun e w' h => by
    rcases h with ⟨h1, _⟩ | ⟨_, v, h1, h2, _, h4⟩
    · exact absurd h1 (by show ¬ 274877906944 - p < 64; omega)
    · exact ⟨v, h1, h2, h4⟩))
  have I31 : Hid ((Try.prog.info? 31).map (·.size) = some ks.length) := Lib.hid (by rw [info31, hk])
  have I33 : Hid ((Try.prog.info? 33).map (·.size) = some ns.length) := Lib.hid (by rw [info33, hns])
  obtain ⟨D, hD⟩ : ∃ D, D = w.heap.size := ⟨_, rfl⟩
  have HR3 : Hid (∀ W, Blk W D 35 (BGl ks ns c) → W.rangeAt D 0 (ks.map (Value.int .u8)) ∧ W.rangeAt D 32 (ns.map (Value.int .u8)) ∧ W.cell? ⟨D, 44, none⟩ = some (.int .u32 (c : Int))) := Lib.hid (fun W h => BGl_range h hk hns)
  obtain ⟨w0, hw0⟩ : ∃ w0, w0 = w.alloc (.cells (BG ks ns c) 35) := ⟨_, rfl⟩
  have HXw0 : Hid (Blk w0 D 35 (BGl ks ns c)) := Lib.hid (by rw [hw0, hD, BG_eq]; exact Blk.new w 35 _)
  have B0 : Hid (Below D w w0) := Lib.hid (by rw [hw0, hD]; exact (Below.refl _ w).alloc (Nat.le_refl _) _)
  have HDE := Lib.hid hD
  clear hk hns OC bk bn
  go_enter Try.func9, Try.ntmps9
  go_upto_region 1 with fail
  rw [← hD, ← hw0]
  clear hD hw0
  go_wp2_with fail
  refine (awake_any w0).mono ?_
  rintro e w1 ⟨rfl, b1⟩
  have HXw1 : Hid (Blk w1 D 35 (BGl ks ns c)) := Lib.hid (HXw0.out.below b1 HXw0.out.lt)
  have B1 : Hid (Below D w w1) := Lib.hid (B0.out.trans (b1.mono (Nat.le_of_lt HXw0.out.lt)))
  clear b1 HXw0 B0
  go_wp2_with fail
  refine (at_law bl 4 w1 hbl (by decide) (by decide)).mono ?_
  rintro e w' ⟨r, hr4, rfl, rfl⟩
  obtain ⟨b, hb⟩ : ∃ b, b = 1 + r := ⟨_, rfl⟩
  have hwb : IntKind.i64.wrap (1 + (r : Int)) = (b : Int) := by rw [hb]; simp [IntKind.wrap, IntKind.bits, IntKind.signed]; omega
  have hwb0 : 1 + (r : Int) = (b : Int) := by omega
  have hb1 : 1 ≤ b := by omega
  have hb4 : b ≤ 4 := by omega
  clear hb hr4
  obtain ⟨N, hN⟩ : ∃ N, N = 64 * b := ⟨_, rfl⟩
  have HNE := Lib.hid hN
  have hwN : IntKind.i64.wrap (64 * (b : Int)) = (N : Int) := by rw [hN]; simp [IntKind.wrap, IntKind.bits, IntKind.signed]; omega
  have hwN0 : 64 * (b : Int) = (N : Int) := by omega
  have hN256 : N ≤ 256 := by omega
  clear hN
  go_upto_region 5 with (first
    | (refine wpList_make_blk w1 rfl _ _ 39 rfl 5 .u8 1 Try.underlying39 info5 .i64 .i64 N rfl rfl (by omega) (by omega) ?_; intro w2 hb0 hfr0; have BZ := Lib.hid hb0; have F0 := Lib.hid hfr0; clear hb0 hfr0))
  have HXw2 : Hid (Blk w2 D 35 (BGl ks ns c)) := Lib.hid (HXw1.out.fr F0.out (fun h => h))
  have B2 : Hid (Below D w w2) := Lib.hid (B1.out.trans (F0.out.below (Nat.le_of_lt HXw1.out.lt) (fun _ h => h.elim)))
  clear F0 B1 HXw1
  have hcx : w2.cell? ⟨D, 44, none⟩ = some (.int .u32 (c : Int)) := (HR3.out w2 HXw2.out).2.2
  go_wp2_with (first
    | (show wpList _ _ _ ({ dst := some 28, op := _, type := _, pos := _, after := _, guard := _ } :: _) _ _; refine wpList_load_AY rfl 31 _ rfl D 0 rfl .u8 ks _ (HR3.out w2 HXw2.out).1 Try.underlying31 rfl I31.out ?_)
    | (show wpList _ _ _ ({ dst := some 30, op := _, type := _, pos := _, after := _, guard := _ } :: _) _ _; refine wpList_load_AY rfl 33 _ rfl D 32 rfl .u8 ns _ (HR3.out w2 HXw2.out).2.1 Try.underlying33 rfl I33.out ?_))
  refine ((HOC.out c hc).one _ N N (List.replicate N 0) w2 (by rw [List.length_replicate]) (blk_rd0 BZ.out) (B8_zero N) (by rw [List.length_replicate]; omega)).mono ?_
  rintro e w3 ⟨v3, rfl, o3, b3⟩
  rw [List.length_replicate]
  have HXw3 : Hid (Blk w3 D 35 (BGl ks ns c)) := Lib.hid (HXw2.out.below b3 HXw2.out.lt)
  have B3 : Hid (Below D w w3) := Lib.hid (B2.out.trans (b3.mono (Nat.le_of_lt HXw2.out.lt)))
  have O3 : Hid (Own w3 w2.heap.size 5 .u8 v3 (ansL ks ns (64 * c) (List.replicate N 0))) := Lib.hid o3
  clear hcx o3 b3 B2 HXw2 BZ
  obtain ⟨A3, n3, c3, hv3⟩ : ∃ A n c, v3 = .slice A n c := by obtain ⟨A, c, h, _⟩ := O3.out.slice; exact ⟨A, _, c, h⟩
  subst hv3
  have hcx : w3.cell? ⟨D, 44, none⟩ = some (.int .u32 (c : Int)) := (HR3.out w3 HXw3.out).2.2
  have hwc : IntKind.u64.wrap (c : Int) = (c : Int) := by simp [IntKind.wrap, IntKind.bits, IntKind.signed]; omega
  have hwbb : IntKind.u64.wrap (b : Int) = (b : Int) := by simp [IntKind.wrap, IntKind.bits, IntKind.signed]; omega
  have hwcb : IntKind.u64.wrap ((c : Int) + (b : Int)) = (c : Int) + (b : Int) := by simp [IntKind.wrap, IntKind.bits, IntKind.signed]; omega
  by_cases hfit : 4294967296 < c + b
  · have hd : decide ((4294967296 : Int) < (c : Int) + (b : Int)) = true := by simp; omega
    have hE : ansE (64 * c) N = 50 := by unfold ansE; rw [if_neg (by have := HNE.out; omega)]
    have hL : ansL ks ns (64 * c) (List.replicate N 0) = [] := by unfold ansL; rw [if_neg (by rw [List.length_replicate]; have := HNE.out; omega)]
    rw [hE]
    rw [hL] at O3
    have hn0 : n3 = 0 := by rw [(own_rd O3.out).2]; rfl
    subst hn0
    clear hE hL
    go_wp2_with fail
    go_ret
    exact ⟨rfl, by rw [← HDE.out]; exact B3.out⟩
  · have hd : decide ((4294967296 : Int) < (c : Int) + (b : Int)) = false := by simp; omega
    have hE : ansE (64 * c) N = 0 := by unfold ansE; rw [if_pos (by have := HNE.out; omega)]
    have hL : ansL ks ns (64 * c) (List.replicate N 0) = lay ks ns (64 * c) (List.replicate N 0) := by unfold ansL; rw [if_pos (by rw [List.length_replicate]; have := HNE.out; omega)]
    rw [hE]
    rw [hL] at O3
    have hn3 : n3 = N := by rw [(own_rd O3.out).2, lay_len, List.length_replicate]
    subst hn3
    have HLZ : Hid (∀ i, i < b → ((lay ks ns (64 * c) (List.replicate n3 0)).drop (64 * i)).take 64 = blkL ks ns (c + i)) := Lib.hid (fun i hi => lay_zero ks ns c i n3 (by have := HNE.out; omega) (by omega))
    have HLL : Hid ((lay ks ns (64 * c) (List.replicate n3 0)).length = n3) := Lib.hid (by rw [lay_len, List.length_replicate])
    generalize lay ks ns (64 * c) (List.replicate n3 0) = L at *
    obtain ⟨ga, ca, ra, hva, hga, BA, -, -⟩ := made_bk O3.out (by rw [HLL.out]; have := HNE.out; omega)
    rw [HLL.out] at hva
    injection hva with hva1 hva2 hva3
    subst hva1 hva3
    have HBA := Lib.hid BA
    have HRA : Hid (Rd w3 .u8 (some ⟨ga, 0, none⟩) L) := Lib.hid (own_rd O3.out).1
    have hc3 : n3 ≤ c3 := by
      obtain ⟨A', c', h, h1, _⟩ := O3.out.slice
      injection h with h2 h3 h4
      rw [HLL.out] at h1
      omega
    have hc363 : c3 ≤ 9223372036854775807 := by
      obtain ⟨A', c', h, _, h1, _⟩ := O3.out.slice
      injection h with h2 h3 h4
      unfold maxLen at h1
      omega
    clear BA hga hE hL O3
    have hnn : (n3 != n3) = false := by simp
    have hnn2 : ((n3 : Int) != (n3 : Int)) = false := by simp
    go_wp2_with fail
    clear hnn hnn2 hd hwb hwb0 hwcb hwbb hwc hcx
    go_loopw [10] (fun iv wr => ∃ i : Nat, i ≤ b ∧ iv = .int .i64 i ∧ Hid (Below w3.heap.size w3 wr)) (fun iv _ => b - (intOf iv).toNat)
    case atStart => exact ⟨0, Nat.zero_le _, rfl, Lib.hid (Below.refl _ _)⟩
    case round =>
      obtain ⟨i, hib, rfl, HW⟩ := hrel
      have HXwr : Hid (Blk wr D 35 (BGl ks ns c)) := Lib.hid (HXw3.out.below HW.out HXw3.out.lt)
      have hcx : wr.cell? ⟨D, 44, none⟩ = some (.int .u32 (c : Int)) := (HR3.out wr HXwr.out).2.2
      by_cases hlt : i < b
      · have hdi : decide ((i : Int) < (b : Int)) = true := by simp; omega
        obtain ⟨d, hd⟩ : ∃ d, d = c + i := ⟨_, rfl⟩
        have hd32 : d < 4294967296 := by omega
        have hwi : IntKind.u32.wrap (i : Int) = (i : Int) := by simp [IntKind.wrap, IntKind.bits, IntKind.signed]; omega
        have hwd : IntKind.u32.wrap ((c : Int) + (i : Int)) = (d : Int) := by rw [hd]; simp [IntKind.wrap, IntKind.bits, IntKind.signed]; omega
        have HZI : Hid ((L.drop (64 * i)).take 64 = blkL ks ns d) := Lib.hid (by rw [hd]; exact HLZ.out i hlt)
        have HCB : Hid (∀ W, Calls Try.prog 15 #[.agg (AY .u8 ks), .int .u32 (d : Int), .agg (AY .u8 ns)] W fun e w' => e = .returned (.agg (AY .u8 (blkL ks ns d))) ∧ Below W.heap.size W w') := Lib.hid (fun W => HBLK.out d W hd32)
        have I36 : Hid ((Try.prog.info? 36).map (·.size) = some (AY .u8 (blkL ks ns d)).size) := Lib.hid (by rw [info36, AY_size, blkL_len])
        have ZE : Hid (((Z64.map (Value.int .u8)).toArray).size = (AY .u8 (blkL ks ns d)).size) := Lib.hid (by rw [AY_size, blkL_len]; rfl)
        have HBLL : Hid ((blkL ks ns d).length = 64) := Lib.hid (blkL_len _ _ _)
        generalize blkL ks ns d = BL at *
        clear hd
        go_wp2_with (first
          | (show wpList _ _ _ ({ dst := some 66, op := _, type := _, pos := _, after := _, guard := _ } :: _) _ _; refine wpList_load_AY rfl 31 _ rfl D 0 rfl .u8 ks _ (HR3.out wr HXwr.out).1 Try.underlying31 rfl I31.out ?_)
          | (show wpList _ _ _ ({ dst := some 73, op := _, type := _, pos := _, after := _, guard := _ } :: _) _ _; refine wpList_load_AY rfl 33 _ rfl D 32 rfl .u8 ns _ (HR3.out wr HXwr.out).2.1 Try.underlying33 rfl I33.out ?_))
        refine (HCB.out wr).mono ?_
        rintro e w4 ⟨rfl, b4⟩
        have HW4 : Hid (Below w3.heap.size w3 w4) := Lib.hid (HW.out.trans (b4.mono HW.out.size))
        clear b4
        clear hcx
        go_upto_region 14 with (first
          | (show wpList _ _ _ ({ dst := none, op := _, type := _, pos := _, after := _, guard := _ } :: _) _ _; refine wpList_store_row rfl 36 _ _ rfl w4.heap.size (AY .u8 BL) rfl rfl 36 _ (heap_alloc_new _ _) I36.out ZE.out (AY_one _ _) ?_))
        simp only [Act.put]
        generalize hS : w4.heap.size = S
        generalize hW5 : (w4.alloc _).setRow S (AY .u8 BL) = w5
        have S5 : Hid (Blk w5 S 36 (BL.map (Value.int .u8))) := Lib.hid (by rw [← hW5, ← hS]; exact AY_blk (setRow_heap _ _ _ _ _ _ (heap_alloc_new _ _)))
        have HW5 : Hid (Below w3.heap.size w3 w5) := Lib.hid (by rw [← hW5]; have := HW4.out.size; exact below_setRow (HW4.out.alloc (by omega) _) (by omega) _)
        have HRA5 : Hid (Rd w5 .u8 (some ⟨ga, 0, none⟩) L) := Lib.hid (HRA.out.below HW5.out)
        clear hS hW5 HW4
        obtain ⟨J, hJ⟩ : ∃ J, J = 64 * i := ⟨_, rfl⟩
        have HJ := Lib.hid hJ
        have hj1 : J + 64 ≤ n3 := by have := HNE.out; omega
        have hwJ : IntKind.i64.wrap (64 * (i : Int)) = (J : Int) := by rw [hJ]; simp [IntKind.wrap, IntKind.bits, IntKind.signed]; omega
        have hwJ0 : 64 * (i : Int) = (J : Int) := by omega
        have hwJ2 : IntKind.i64.wrap ((J : Int) + 64) = (J : Int) + 64 := by simp [IntKind.wrap, IntKind.bits, IntKind.signed]; omega
        have hwJJ : IntKind.i64.wrap (J : Int) = (J : Int) := by simp [IntKind.wrap, IntKind.bits, IntKind.signed]; omega
        have hs1 : (0 : Int) ≤ (J : Int) := by omega
        have hs2 : (J : Int) ≤ (J : Int) + 64 := by omega
        have hs3 : (J : Int) + 64 ≤ (c3 : Int) := by omega
        have hs4 : ((J : Int) + 64).toNat = J + 64 := by omega
        have hs5 : ¬ (c3 = J) := by omega
        rw [← hJ] at HZI
        clear hJ
        refine wp_region_held_drew (S := fun _ => True) (by kernel_rfl) (trivial) (fun hHeld => ?_)
        clear hHeld
        refine wpAnyH_take (i := 0) (oi := ⟨some 75, _, _, _, _, _⟩) (v := (.slice (some ⟨ga, 0, none⟩) n3 c3)) rfl (by kernel_rfl) (by kernel_rfl) (by kernel_rfl) (fun _ _ _ h => h) (Or.inl ⟨by rfl, ?_⟩) trivial ?_
        · intro w' hS; go_simp; try with_reducible rfl
        simp only [Act.put, List.setIfInBounds_toArray, List.set_cons_zero, List.set_cons_succ]
        refine wpAnyH_take (i := 1) (oi := ⟨some 76, _, _, _, _, _⟩) (v := (.int .i64 (i : Int))) rfl (by kernel_rfl) (by kernel_rfl) (by kernel_rfl) (fun _ _ _ h => h) (Or.inl ⟨by rfl, ?_⟩) trivial ?_
        · intro w' hS; go_simp; try with_reducible rfl
        simp only [Act.put, List.setIfInBounds_toArray, List.set_cons_zero, List.set_cons_succ]
        refine wpAnyH_take (i := 2) (oi := ⟨some 77, _, _, _, _, _⟩) (v := (.int .i64 (J : Int))) rfl (by kernel_rfl) (by kernel_rfl) (by kernel_rfl) (fun _ _ _ h => h) (Or.inl ⟨by rfl, ?_⟩) trivial ?_
        · intro w' hS; go_simp; try with_reducible rfl
        simp only [Act.put, List.setIfInBounds_toArray, List.set_cons_zero, List.set_cons_succ]
        refine wpAnyH_take (i := 3) (oi := ⟨some 78, _, _, _, _, _⟩) (v := (.int .i64 (i : Int))) rfl (by kernel_rfl) (by kernel_rfl) (by kernel_rfl) (fun _ _ _ h => h) (Or.inl ⟨by rfl, ?_⟩) trivial ?_
        · intro w' hS; go_simp; try with_reducible rfl
        simp only [Act.put, List.setIfInBounds_toArray, List.set_cons_zero, List.set_cons_succ]
        refine wpAnyH_take (i := 4) (oi := ⟨some 79, _, _, _, _, _⟩) (v := (.int .i64 (J : Int))) rfl (by kernel_rfl) (by kernel_rfl) (by kernel_rfl) (fun _ _ _ h => h) (Or.inl ⟨by rfl, ?_⟩) trivial ?_
        · intro w' hS; go_simp; try with_reducible rfl
        simp only [Act.put, List.setIfInBounds_toArray, List.set_cons_zero, List.set_cons_succ]
        refine wpAnyH_take (i := 5) (oi := ⟨some 80, _, _, _, _, _⟩) (v := (.int .i64 ((J : Int) + 64))) rfl (by kernel_rfl) (by kernel_rfl) (by kernel_rfl) (fun _ _ _ h => h) (Or.inl ⟨by rfl, ?_⟩) trivial ?_
        · intro w' hS; go_simp; try with_reducible rfl
        simp only [Act.put, List.setIfInBounds_toArray, List.set_cons_zero, List.set_cons_succ]
        refine wpAnyH_take (i := 6) (oi := ⟨some 81, _, _, _, _, _⟩) (v := (.slice (some ⟨ga, J, none⟩) 64 (c3 - J))) rfl (by kernel_rfl) (by kernel_rfl) (by kernel_rfl) (fun _ _ _ h => h) (Or.inl ⟨by rfl, ?_⟩) trivial ?_
        · intro w' hS; go_simp; try with_reducible rfl
        simp only [Act.put, List.setIfInBounds_toArray, List.set_cons_zero, List.set_cons_succ]
        refine wpAnyH_take (i := 7) (oi := ⟨some 82, _, _, _, _, _⟩) (v := (.slice (some ⟨S, 0, none⟩) 64 64)) rfl (by kernel_rfl) (by kernel_rfl) (by kernel_rfl) (fun _ _ _ h => h) (Or.inl ⟨by rfl, ?_⟩) trivial ?_
        · intro w' hS; go_simp; try with_reducible rfl
        simp only [Act.put, List.setIfInBounds_toArray, List.set_cons_zero, List.set_cons_succ]
        refine wpAnyH_ready (rs := [8]) (by kernel_rfl) (by simp) ?_
        refine AllReadyH.cons (o := ⟨some 83, _, _, _, _, _⟩) rfl (fun K hK => ?_) AllReadyH.nil
        rw [if_pos (by rfl)]
        go_simp
        refine (same_any (some ⟨ga, J, none⟩) (some ⟨S, 0, none⟩) 64 64 (c3 - J) 64 ((L.drop J).take 64) BL w5.drew (by rw [HZI.out, HBLL.out]) HBLL.out.symm (HRA5.out.cut J 64) (blk_rd0 S5.out) (by rw [HZI.out, HBLL.out]; decide) (by rw [HBLL.out]; decide)).mono ?_
        rintro e w6 ⟨q, rfl, hw6⟩
        rw [decide_eq_true HZI.out]
        (try simp only [Act.put, List.setIfInBounds_toArray, List.set_cons_zero, List.set_cons_succ])
        refine hK.out _ _ trivial (fun _ => ?_)
        clear hK K
        have HW6 : Hid (Below w3.heap.size w3 w6) := Lib.hid (by rw [hw6]; exact belowN (show Below w3.heap.size w3 w5.drew from ⟨HW5.out.os, HW5.out.tape, HW5.out.output, HW5.out.size, HW5.out.block⟩) _)
        clear hw6
        refine wpAnyH_take (i := 9) (oi := ⟨some 84, _, _, _, _, _⟩) (v := (.bool false)) rfl (by kernel_rfl) (by kernel_rfl) (by kernel_rfl) (fun _ _ _ h => h) (Or.inl ⟨by rfl, ?_⟩) trivial ?_
        · intro w' hS; go_simp; try with_reducible rfl
        simp only [Act.put, List.setIfInBounds_toArray, List.set_cons_zero, List.set_cons_succ]
        refine wpAnyH_done (by kernel_rfl) ?_ _
        go_wp2_with fail
        go_roundw
        case rel => exact ⟨i + 1, by omega, by go_num, HW6⟩
        case measure => simp [intOf]; omega
      · have HIB : Hid (i = b) := Lib.hid (by omega)
        have hge : decide ((i : Int) < (b : Int)) = false := by simp; omega
        go_wp2_with fail
        refine (at_law sk b wr hsk hb1 (by omega)).mono ?_
        rintro e w' ⟨n, hnb, rfl, rfl⟩
        have HXq : Hid (Blk wr D 35 (BGl ks ns c)) := HXwr
        clear hcx hge
        have hcx : wr.cell? ⟨D, 44, none⟩ = some (.int .u32 (c : Int)) := (HR3.out wr HXwr.out).2.2
        go_wp2_with (first
          | (show wpList _ _ _ ({ dst := some 89, op := _, type := _, pos := _, after := _, guard := _ } :: _) _ _; refine wpList_load_AY rfl 31 _ rfl D 0 rfl .u8 ks _ (HR3.out wr HXq.out).1 Try.underlying31 rfl I31.out ?_)
          | (show wpList _ _ _ ({ dst := some 91, op := _, type := _, pos := _, after := _, guard := _ } :: _) _ _; refine wpList_load_AY rfl 33 _ rfl D 32 rfl .u8 ns _ (HR3.out wr HXq.out).2.1 Try.underlying33 rfl I33.out ?_))
        clear hcx
        refine (HNEW.out wr).mono ?_
        rintro e w7 ⟨g, rfl, hg, hbg, b7⟩
        have HW7 : Hid (Below w3.heap.size w3 w7) := Lib.hid (HW.out.trans (b7.mono HW.out.size))
        have HGS := Lib.hid hbg
        have HG3 : Hid (w3.heap.size ≤ g) := Lib.hid (Nat.le_trans HW.out.size hg)
        obtain ⟨d, hd⟩ : ∃ d, d = c + n := ⟨_, rfl⟩
        have hd32 : d < 4294967296 := by omega
        have HDN := Lib.hid hd
        obtain ⟨J, hJ⟩ : ∃ J, J = 64 * n := ⟨_, rfl⟩
        have HJ := Lib.hid hJ
        have hj1 : J + 64 ≤ n3 := by have := HNE.out; omega
        have hjp : 64 * c + J = 64 * d := by omega
        have hwJ : IntKind.i64.wrap (64 * (n : Int)) = (J : Int) := by rw [hJ]; simp [IntKind.wrap, IntKind.bits, IntKind.signed]; omega
        have hwJ0 : 64 * (n : Int) = (J : Int) := by omega
        have hwJJ : IntKind.i64.wrap (J : Int) = (J : Int) := by simp [IntKind.wrap, IntKind.bits, IntKind.signed]; omega
        have HZI : Hid ((L.drop J).take 64 = blkL ks ns d) := Lib.hid (by rw [hJ, hd]; exact HLZ.out n hnb)
        have HLY : Hid (lay ks ns (64 * d) Z64' = blkL ks ns d) := Lib.hid (lay_zero64 ks ns d hd32)
        have HANS : Hid (ansL ks ns (64 * d) Z64' = blkL ks ns d ∧ ansE (64 * d) Z64'.length = 0) := Lib.hid ⟨by unfold ansL; rw [if_pos (by show 64 ≤ 274877906944 - 64 * d; omega)]; exact HLY.out, by unfold ansE; rw [if_pos (by show 64 ≤ 274877906944 - 64 * d; omega)]⟩
        have HBLL : Hid ((blkL ks ns d).length = 64) := Lib.hid (blkL_len _ _ _)
        clear hJ hd hg hbg b7
        generalize blkL ks ns d = BL at *
        go_wp2_with fail
        refine (HSKP.out g J w7 (by omega) HGS.out (by omega)).mono ?_
        rintro e w8 ⟨rfl, hb8, f8⟩
        have HW8 : Hid (Below w3.heap.size w3 w8) := Lib.hid (HW7.out.trans (f8.below HW7.out.size (fun j hj => by have := HG3.out; omega)))
        have HG8 : Hid (Blk w8 g 87 (SGl ks ns (64 * d))) := Lib.hid (by rw [← hjp]; exact hb8)
        clear hb8 f8 HW7 HGS
        go_upto_region 20 with fail
        go_wp2_with (first
          | (refine wpList_make_blk w8 rfl _ _ 39 rfl 5 .u8 1 Try.underlying39 info5 .i64 .i64 64 rfl rfl (by decide) (by decide) ?_; intro w9 hb0 hfr0; have BZ := Lib.hid hb0; have F0 := Lib.hid hfr0; clear hb0 hfr0))
        have HW9 : Hid (Below w3.heap.size w3 w9) := Lib.hid (HW8.out.trans (F0.out.below HW8.out.size (fun _ h => h.elim)))
        have HG9 : Hid (Blk w9 g 87 (SGl ks ns (64 * d))) := Lib.hid (HG8.out.fr F0.out (fun h => h))
        have HGN : Hid (g < w8.heap.size) := Lib.hid HG8.out.lt
        refine (HXOR.out g _ 64 w9 (64 * d) (blk_rd0 BZ.out) (fun a ha he => by
          injection ha with ha
          subst ha
          have h1 := HGN.out
          simp at he
          omega) HG9.out (by omega)).mono ?_
        rintro e wa ⟨va, rfl, oa, fa⟩
        rw [HLY.out] at oa
        have HWa : Hid (Below w3.heap.size w3 wa) := Lib.hid (HW9.out.trans (fa.below HW9.out.size (fun j hj => by have := HG3.out; omega)))
        have OA : Hid (Own wa w9.heap.size 5 .u8 va BL) := Lib.hid oa
        clear oa fa HW9 HG9 BZ F0 HW8 HG8
        obtain ⟨Aa, na, cca, hva⟩ : ∃ A n c, va = .slice A n c := by obtain ⟨A, c, h, _⟩ := OA.out.slice; exact ⟨A, _, c, h⟩
        subst hva
        have HXwa : Hid (Blk wa D 35 (BGl ks ns c)) := Lib.hid (HXw3.out.below HWa.out HXw3.out.lt)
        go_upto_region 21 with fail
        have hwn : IntKind.u32.wrap (n : Int) = (n : Int) := by simp [IntKind.wrap, IntKind.bits, IntKind.signed]; omega
        have hwd : IntKind.u32.wrap ((c : Int) + (n : Int)) = (d : Int) := by rw [HDN.out]; simp [IntKind.wrap, IntKind.bits, IntKind.signed]; omega
        refine wp_region_held_drew (S := fun w' => w'.heap[D]? = wa.heap[D]?) (by kernel_rfl) (rfl) (fun hHeld => ?_)
        have HHd := Lib.hid hHeld
        clear hHeld
        refine wpAnyH_take (i := 0) (oi := ⟨some 111, _, _, _, _, _⟩) (v := (.pointer (some ⟨D, 0, none⟩))) rfl (by kernel_rfl) (by kernel_rfl) (by kernel_rfl) (fun _ _ _ h => h) (Or.inl ⟨by rfl, ?_⟩) HHd.out ?_
        · intro w' hS; go_simp; try with_reducible rfl
        simp only [Act.put, List.setIfInBounds_toArray, List.set_cons_zero, List.set_cons_succ]
        refine wpAnyH_take (i := 1) (oi := ⟨some 112, _, _, _, _, _⟩) (v := (.agg (AY .u8 ks))) rfl (by kernel_rfl) (by kernel_rfl) (by kernel_rfl) (fun _ _ _ h => h) (Or.inl ⟨by rfl, ?_⟩) HHd.out ?_
        · intro w' hS; exact exec_load_AY 31 _ rfl D 0 (by rfl) .u8 ks _ (range_of_block (HR3.out wa HXwa.out).1 hS) Try.underlying31 rfl I31.out
        simp only [Act.put, List.setIfInBounds_toArray, List.set_cons_zero, List.set_cons_succ]
        refine wpAnyH_take (i := 2) (oi := ⟨some 113, _, _, _, _, _⟩) (v := (.pointer (some ⟨D, 32, none⟩))) rfl (by kernel_rfl) (by kernel_rfl) (by kernel_rfl) (fun _ _ _ h => h) (Or.inl ⟨by rfl, ?_⟩) HHd.out ?_
        · intro w' hS; go_simp; try with_reducible rfl
        simp only [Act.put, List.setIfInBounds_toArray, List.set_cons_zero, List.set_cons_succ]
        refine wpAnyH_take (i := 3) (oi := ⟨some 114, _, _, _, _, _⟩) (v := (.agg (AY .u8 ns))) rfl (by kernel_rfl) (by kernel_rfl) (by kernel_rfl) (fun _ _ _ h => h) (Or.inl ⟨by rfl, ?_⟩) HHd.out ?_
        · intro w' hS; exact exec_load_AY 33 _ rfl D 32 (by rfl) .u8 ns _ (range_of_block (HR3.out wa HXwa.out).2.1 hS) Try.underlying33 rfl I33.out
        simp only [Act.put, List.setIfInBounds_toArray, List.set_cons_zero, List.set_cons_succ]
        refine wpAnyH_take (i := 4) (oi := ⟨some 115, _, _, _, _, _⟩) (v := (.pointer (some ⟨D, 44, none⟩))) rfl (by kernel_rfl) (by kernel_rfl) (by kernel_rfl) (fun _ _ _ h => h) (Or.inl ⟨by rfl, ?_⟩) HHd.out ?_
        · intro w' hS; go_simp; try with_reducible rfl
        simp only [Act.put, List.setIfInBounds_toArray, List.set_cons_zero, List.set_cons_succ]
        refine wpAnyH_take (i := 5) (oi := ⟨some 116, _, _, _, _, _⟩) (v := (.int .u32 (c : Int))) rfl (by kernel_rfl) (by kernel_rfl) (by kernel_rfl) (fun _ _ _ h => h) (Or.inl ⟨by rfl, ?_⟩) HHd.out ?_
        · intro w' hS; have z0 : w'.cell? ⟨D, 44, none⟩ = some (.int .u32 (c : Int)) := (World.cell?_of_block (w := wa) (w' := w') hS).trans (HR3.out wa HXwa.out).2.2; go_simp; try with_reducible rfl
        simp only [Act.put, List.setIfInBounds_toArray, List.set_cons_zero, List.set_cons_succ]
        refine wpAnyH_take (i := 6) (oi := ⟨some 117, _, _, _, _, _⟩) (v := (.int .i64 (n : Int))) rfl (by kernel_rfl) (by kernel_rfl) (by kernel_rfl) (fun _ _ _ h => h) (Or.inl ⟨by rfl, ?_⟩) HHd.out ?_
        · intro w' hS; go_simp; try with_reducible rfl
        simp only [Act.put, List.setIfInBounds_toArray, List.set_cons_zero, List.set_cons_succ]
        refine wpAnyH_take (i := 7) (oi := ⟨some 118, _, _, _, _, _⟩) (v := (.int .u32 (n : Int))) rfl (by kernel_rfl) (by kernel_rfl) (by kernel_rfl) (fun _ _ _ h => h) (Or.inl ⟨by rfl, ?_⟩) HHd.out ?_
        · intro w' hS; go_simp; try with_reducible rfl
        simp only [Act.put, List.setIfInBounds_toArray, List.set_cons_zero, List.set_cons_succ]
        refine wpAnyH_take (i := 8) (oi := ⟨some 119, _, _, _, _, _⟩) (v := (.int .u32 (d : Int))) rfl (by kernel_rfl) (by kernel_rfl) (by kernel_rfl) (fun _ _ _ h => h) (Or.inl ⟨by rfl, ?_⟩) HHd.out ?_
        · intro w' hS; go_simp; try with_reducible rfl
        simp only [Act.put, List.setIfInBounds_toArray, List.set_cons_zero, List.set_cons_succ]
        refine wpAnyH_ready (rs := [9]) (by kernel_rfl) (by simp) ?_
        refine AllReadyH.cons (o := ⟨some 120, _, _, _, _, _⟩) rfl (fun K hK => ?_) AllReadyH.nil
        refine step_make_blk wa.drew rfl _ _ 39 rfl 5 .u8 1 Try.underlying39 info5 .i64 .i64 64 rfl rfl (by decide) (by decide) ?_
        intro wb hbb hfb
        (try simp only [Act.put, List.setIfInBounds_toArray, List.set_cons_zero, List.set_cons_succ])
        refine hK.out _ _ ((hfb.block D HXwa.out.lt (fun h => h)).trans HHd.out) (fun hHeld => ?_)
        clear hK K
        have HH1 := Lib.hid hHeld
        clear hHeld HHd
        have HBZ := Lib.hid hbb
        have HFb : Hid (Fr (fun _ => False) wa wb) := Lib.hid ((Fr.refl _ wa).drew.trans hfb)
        clear hbb hfb
        refine wpAnyH_ready (rs := [10]) (by kernel_rfl) (by simp) ?_
        refine AllReadyH.cons (o := ⟨some 121, _, _, _, _, _⟩) rfl (fun K hK => ?_) AllReadyH.nil
        rw [if_pos (by rfl)]
        go_simp
        refine ((HOC.out d hd32).one _ 64 64 Z64' wb rfl (blk_rd0 HBZ.out) (B8_zero 64) (by decide)).mono ?_
        rintro e wc ⟨vc, rfl, oc, bc⟩
        (try simp only [Act.put, List.setIfInBounds_toArray, List.set_cons_zero, List.set_cons_succ])
        refine hK.out _ _ ((bc.block D (Nat.lt_of_lt_of_le HXwa.out.lt HFb.out.size)).trans HH1.out) (fun hHeld => ?_)
        clear hK K
        have HH2 := Lib.hid hHeld
        clear hHeld HH1
        rw [HANS.out.1] at oc
        rw [HANS.out.2]
        have OC2 : Hid (Own wc wb.heap.size 5 .u8 vc BL) := Lib.hid oc
        have HFac : Hid (Fr (fun _ => False) wa wc) := Lib.hid (HFb.out.trans (Fr.of_below bc _))
        clear oc bc HFb HBZ
        obtain ⟨Ac, nc, ccc, hvc⟩ : ∃ A n c, vc = .slice A n c := by obtain ⟨A, c, h, _⟩ := OC2.out.slice; exact ⟨A, _, c, h⟩
        subst hvc
        refine wpAnyH_take (i := 11) (oi := ⟨some 110, _, _, _, _, _⟩) (v := (.tuple #[(.slice Ac nc ccc), .int .i64 0])) rfl (by kernel_rfl) (by kernel_rfl) (by kernel_rfl) (fun _ _ _ h => h) (Or.inl ⟨by rfl, ?_⟩) HH2.out ?_
        · intro w' hS; go_simp; try with_reducible rfl
        simp only [Act.put, List.setIfInBounds_toArray, List.set_cons_zero, List.set_cons_succ]
        refine wpAnyH_take (i := 12) (oi := ⟨some 122, _, _, _, _, _⟩) (v := (.slice Ac nc ccc)) rfl (by kernel_rfl) (by kernel_rfl) (by kernel_rfl) (fun _ _ _ h => h) (Or.inl ⟨by rfl, ?_⟩) HH2.out ?_
        · intro w' hS; go_simp; try with_reducible rfl
        simp only [Act.put, List.setIfInBounds_toArray, List.set_cons_zero, List.set_cons_succ]
        refine wpAnyH_take (i := 13) (oi := ⟨some 123, _, _, _, _, _⟩) (v := (.int .i64 0)) rfl (by kernel_rfl) (by kernel_rfl) (by kernel_rfl) (fun _ _ _ h => h) (Or.inl ⟨by rfl, ?_⟩) HH2.out ?_
        · intro w' hS; go_simp; try with_reducible rfl
        simp only [Act.put, List.setIfInBounds_toArray, List.set_cons_zero, List.set_cons_succ]
        refine wpAnyH_take (i := 14) (oi := ⟨some 16, _, _, _, _, _⟩) (v := (.slice Ac nc ccc)) rfl (by kernel_rfl) (by kernel_rfl) (by kernel_rfl) (fun _ _ _ h => h) (Or.inl ⟨by rfl, ?_⟩) HH2.out ?_
        · intro w' hS; go_simp; try with_reducible rfl
        simp only [Act.put, List.setIfInBounds_toArray, List.set_cons_zero, List.set_cons_succ]
        refine wpAnyH_take (i := 15) (oi := ⟨some 17, _, _, _, _, _⟩) (v := (.int .i64 0)) rfl (by kernel_rfl) (by kernel_rfl) (by kernel_rfl) (fun _ _ _ h => h) (Or.inl ⟨by rfl, ?_⟩) HH2.out ?_
        · intro w' hS; go_simp; try with_reducible rfl
        simp only [Act.put, List.setIfInBounds_toArray, List.set_cons_zero, List.set_cons_succ]
        refine wpAnyH_done (by kernel_rfl) ?_ _
        have OA2 : Hid (Own wc w9.heap.size 5 .u8 (.slice Aa na cca) BL) := Lib.hid (OA.out.fr HFac.out (fun _ _ h => h))
        have HRAc : Hid (Rd wc .u8 (some ⟨ga, 0, none⟩) L) := Lib.hid ((HRA.out.below HWa.out).fr HFac.out (fun _ _ h => h))
        have HWc : Hid (Below w3.heap.size w3 wc) := Lib.hid (HWa.out.trans (HFac.out.below HWa.out.size (fun _ h => h.elim)))
        clear OA HWa HFac
        have hs1 : (0 : Int) ≤ (J : Int) := by omega
        have hs2 : (J : Int) ≤ (J : Int) + 64 := by omega
        have hs3 : (J : Int) + 64 ≤ (c3 : Int) := by omega
        have hs4 : ((J : Int) + 64).toNat = J + 64 := by omega
        have hs5 : ¬ (c3 = J) := by omega
        have hwJ2 : IntKind.i64.wrap ((J : Int) + 64) = (J : Int) + 64 := by simp [IntKind.wrap, IntKind.bits, IntKind.signed]; omega
        go_wp2_with fail
        refine (same_any Aa Ac na nc cca ccc BL BL wc (own_rd OA2.out).2 (own_rd OC2.out).2 (own_rd OA2.out).1 (own_rd OC2.out).1 (by rw [HBLL.out]; decide) (by rw [HBLL.out]; decide)).mono ?_
        rintro e w' ⟨q1, rfl, rfl⟩
        rw [show decide (BL = BL) = true from by simp]
        go_wp2_with fail
        refine (same_any Aa (some ⟨ga, J, none⟩) na 64 cca (c3 - J) BL ((L.drop J).take 64) _ (own_rd OA2.out).2 (by rw [HZI.out, HBLL.out]) ((own_rd OA2.out).1.draws _) ((HRAc.out.cut J 64).draws _) (by rw [HBLL.out]; decide) (by rw [HZI.out, HBLL.out]; decide)).mono ?_
        rintro e w' ⟨q2, rfl, rfl⟩
        rw [decide_eq_true HZI.out.symm]
        go_wp2_with fail
        go_ret
        exact ⟨rfl, by rw [← HDE.out]; exact belowN (B3.out.trans (HWc.out.mono (Nat.le_of_lt HXw3.out.lt))) _⟩
end Go.Proofs.Ytldbmjkecmmmjaa

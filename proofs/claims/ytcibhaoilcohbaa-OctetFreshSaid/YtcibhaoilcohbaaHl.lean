/-
  Walk: the law OctetHexes.
-/
import Derived.Test.YtcibhaoilcohbaaUy
import Derived.Test.YtcibhaoilcohbaaTw
import Derived.Test.YtcibhaoilcohbaaLn
set_option linter.unusedVariables false
set_option linter.unusedSimpArgs false
namespace Go.Proofs.Ytcibhaoilcohbaa
open Go.RowKit

theorem uL_len (s : ByteArray) : (uL s).length ≤ s.size := by
  unfold uL
  split
  · rw [upairs_len]; omega
  · simp
theorem own_rd {w : World} {base T : Nat} {k : IntKind} {A : Option Addr} {c : Nat} {xs : List Int} (h : Own w base T k (.slice A xs.length c) xs) : Rd w k A xs := by
  obtain ⟨A', c', e, _, _, r, _⟩ := h.slice
  injection e with e1 _ _
  subst e1
  exact r

set_option maxRecDepth 100000 in
set_option maxHeartbeats 8000000 in
theorem hexes_any (A : Option Addr) (n c : Nat) (xs : List Int) (s : ByteArray) (w : World) (hn : n = xs.length) (hx : Rd w .u8 A xs) (hB : B8 xs) (hl : xs.length ≤ 2000000) (hs : s.size ≤ 2000000) :
    Calls Try.prog 4 #[.slice A n c, .string s] w fun e w' => e = .returned (.bool true) ∧ Below w.heap.size w w' := by
  have HX := Lib.hid hx
  have HN := Lib.hid hn
  have HB := Lib.hid hB
  have HS := Lib.hid hs
  have hn2 : n ≤ 2000000 := by omega
  clear hx hn hB hs
  go_enter Try.func4, Try.ntmps4
  go_wp2_with fail
  refine (lent_any A n c xs w HN.out HX.out (by omega)).mono ?_
  rintro e w1 ⟨G, cg, rest, rfl, hGw, L1, b1⟩
  have HGW := Lib.hid hGw
  have LL1 := Lib.hid L1
  have W1 := Lib.hid b1
  clear hGw L1 b1
  go_wp2_with fail
  refine (hex_any (some ⟨G, 0, none⟩) n cg xs w1 HN.out LL1.out.rd HB.out (by omega)).mono ?_
  rintro e w2 ⟨rfl, b2⟩
  have LL2 := Lib.hid (LL1.out.below b2)
  have W2 := Lib.hid (W1.out.trans (b2.mono W1.out.size))
  clear b2 LL1 W1
  go_wp2_with fail
  refine (rhex_any A n c xs w2 HN.out (HX.out.below W2.out) HB.out (by omega)).mono ?_
  rintro e w3 ⟨rfl, b3⟩
  have LL3 := Lib.hid (LL2.out.below b3)
  have W3 := Lib.hid (W2.out.trans (b3.mono W2.out.size))
  clear b3 LL2 W2
  go_wp2_with fail
  refine (still_any A G cg c n n xs rest w3 HN.out HN.out LL3.out (HX.out.below W3.out)).mono ?_
  rintro e w' ⟨q1, rfl, rfl⟩
  have W4 := Lib.hid (belowN W3.out q1)
  have LL4 := Lib.hid (LL3.out.drewN q1)
  generalize w3.drewN q1 = w4 at W4 LL4
  clear W3 LL3
  go_wp2_with fail
  refine (unhex_any s w4 (by have := HS.out; omega)).mono ?_
  rintro e w5 ⟨va, rfl, oa, b5⟩
  obtain ⟨Aa, ca, rfl, -, -, -, -⟩ := oa.slice
  have OA := Lib.hid oa
  have S4 := Lib.hid W4.out.size
  have S45 := Lib.hid b5.size
  have B45 := Lib.hid b5
  have LG : Hid (G < w4.heap.size) := Lib.hid LL4.out.blk.lt
  clear oa b5
  go_wp2_with fail
  refine (unhex_any s w5 (by have := HS.out; omega)).mono ?_
  rintro e w6 ⟨vb, rfl, ob, b6⟩
  obtain ⟨Ab, cb, rfl, -, -, -, -⟩ := ob.slice
  have HNE : Hid (∀ g, (Value.slice Aa (uL s).length ca).ownBlock = some g → (Value.slice Ab (uL s).length cb).ownBlock ≠ some g) := Lib.hid (fun g h1 h2 => by have := (OA.out.base_le h1).2; have := (ob.base_le h2).1; omega)
  have OB := Lib.hid (ob.lower S45.out)
  have OA6 := Lib.hid (OA.out.below b6)
  have S46 : Hid (w4.heap.size ≤ w6.heap.size) := Lib.hid (Nat.le_trans S45.out b6.size)
  have B46 : Hid (Below w4.heap.size w4 w6) := Lib.hid (B45.out.trans (b6.mono S45.out))
  clear ob b6 OA B45 S45
  go_wp2_with fail
  refine (runhex_any s w6 (by have := HS.out; omega)).mono ?_
  rintro e w7 ⟨vr, rfl, orr, b7⟩
  obtain ⟨Ar, cr, rfl, -, -, -, -⟩ := orr.slice
  have ORR : Hid (Own w7 w6.heap.size 5 .u8 (.slice Ar (uL s).length cr) (uL s)) := Lib.hid orr
  have OA7 := Lib.hid (OA6.out.below b7)
  have OB7 := Lib.hid (OB.out.below b7)
  have B47 : Hid (Below w4.heap.size w4 w7) := Lib.hid (B46.out.trans (b7.mono B46.out.size))
  have S67 : Hid (w6.heap.size ≤ w7.heap.size) := Lib.hid b7.size
  have HNR : Hid (∀ a, Ar = some a → w6.heap.size ≤ a.block) := Lib.hid (fun a h => by subst h; exact (orr.base_le (g := a.block) rfl).1)
  have HOA6 : Hid (∀ g, (Value.slice Aa (uL s).length ca).ownBlock = some g → g < w6.heap.size) := Lib.hid (fun g h => (OA6.out.base_le h).2)
  have HOB6 : Hid (∀ g, (Value.slice Ab (uL s).length cb).ownBlock = some g → g < w6.heap.size) := Lib.hid (fun g h => (OB.out.base_le h).2)
  have HUL : Hid ((uL s).length ≤ 9223372036854775807 ∧ (uL s).length + 101 ≤ 140737488355328 ∧ (uL s).length ≤ 140737488355000) := Lib.hid (by have := uL_len s; have := HS.out; omega)
  clear orr b7 OA6 OB B46
  go_wp2_with fail
  refine (same_any Aa Ar _ _ ca cr (uL s) (uL s) w7 rfl rfl (own_rd OA7.out) (own_rd ORR.out) HUL.out.1 HUL.out.1).mono ?_
  rintro e w' ⟨q2, rfl, rfl⟩
  rw [show decide (uL s = uL s) = true from by simp]
  go_wp2_with fail
  refine (same_any Ab Ar _ _ cb cr (uL s) (uL s) _ rfl rfl ((own_rd OB7.out).draws _) ((own_rd ORR.out).draws _) HUL.out.1 HUL.out.1).mono ?_
  rintro e w' ⟨q3, rfl, rfl⟩
  rw [show decide (uL s = uL s) = true from by simp]
  go_wp2_with fail
  refine (apart_two_fr (OA7.out.drewN _) (OB7.out.drewN _) HNE.out B47.out.size HUL.out.2.1 HUL.out.2.1).mono ?_
  rintro e w8 ⟨rfl, hf⟩
  have F8 : Hid (Fr (fun g => (Value.slice Aa (uL s).length ca).ownBlock = some g ∨ (Value.slice Ab (uL s).length cb).ownBlock = some g) w7 w8) := Lib.hid ((Fr.refl _ w7).drewN _ |>.trans hf)
  have B48 : Hid (Below w4.heap.size w4 w8) := Lib.hid (B47.out.trans (F8.out.below B47.out.size (fun k hk => by rcases hk with h | h; exact (OA7.out.base_le h).1; exact (OB7.out.base_le h).1)))
  have RW8 : Hid (Rd w8 .u8 Ar (uL s)) := Lib.hid ((own_rd ORR.out).fr F8.out (fun a ha hk => by
    have h1 := HNR.out a ha
    rcases hk with h | h
    · have := HOA6.out _ h; omega
    · have := HOB6.out _ h; omega))
  have LL8 := Lib.hid (LL4.out.fr (Fr.of_below B48.out (fun _ => False)) (fun h => h))
  have W8 := Lib.hid (W4.out.trans (B48.out.mono S4.out))
  have HGR : Hid (∀ a, Ar = some a → a.block ≠ G) := Lib.hid (fun a h => by have := HNR.out a h; have := LG.out; have := S46.out; omega)
  clear hf F8 OA7 OB7 ORR B47 S67 HNR HOA6 HOB6 HNE LL4
  go_wp2_with fail
  refine (unhex_any s w8 (by have := HS.out; omega)).mono ?_
  rintro e w9 ⟨vn, rfl, on, b9⟩
  obtain ⟨An, cn, rfl, -, -, -, -⟩ := on.slice
  have RN9 := Lib.hid (own_rd on)
  have RW9 := Lib.hid (RW8.out.below b9)
  have LL9 := Lib.hid (LL8.out.below b9)
  have W9 := Lib.hid (W8.out.trans (b9.mono W8.out.size))
  have HGA : Hid (∀ a, An = some a → a.block ≠ G) := Lib.hid (fun a h => by subst h; have := (on.base_le (g := a.block) rfl).1; have := LL8.out.blk.lt; omega)
  clear on b9 RW8 LL8 W8 B48
  go_wp2_with fail
  go_loopw [15] (fun z wr => ∃ (k : Nat) (zs : List Int), k ≤ n ∧ z = .int .i64 k ∧ Hid (n = zs.length) ∧ Hid (B8 zs) ∧ Hid (Lent wr G cg zs rest) ∧ Hid (Fr (fun j => j = G) w9 wr)) (fun z _ => n - (intOf z).toNat)
  case atStart => exact ⟨0, xs, Nat.zero_le _, rfl, HN, HB, LL9, Lib.hid (Fr.refl _ _)⟩
  case round =>
    obtain ⟨k, zs, hk, rfl, HZ, HBZ, HLZ, HF⟩ := hrel
    by_cases hlt : k < n
    · obtain ⟨b, off, y, hA, hc, HYK⟩ := HLZ.out.rd.at k (by have := HZ.out; omega)
      cases hA
      rw [Nat.zero_add] at hc
      obtain ⟨Y, hY⟩ : ∃ Y : Nat, y = (Y : Int) := ⟨y.toNat, by have := HBZ.out k; have := HYK.out; omega⟩
      have hY8 : Y < 256 := by have := HBZ.out k; have := HYK.out; omega
      subst hY
      have hfz := HLZ.out.blk.frozen k
      obtain ⟨Z, hZ⟩ : ∃ Z, Z = (Y + 1) % 256 := ⟨_, rfl⟩
      have hZ8 : Z < 256 := by omega
      have hw2 : IntKind.u8.wrap ((Y : Int) + 1) = (Z : Int) := by rw [hZ]; simp [IntKind.wrap, IntKind.bits, IntKind.signed]
      clear hZ
      go_wp2_with fail
      go_roundw
      case rel => exact ⟨k + 1, zs.set k (Z : Int), by omega, by go_num, Lib.hid (by rw [List.length_set]; exact HZ.out), Lib.hid (HBZ.out.set k ⟨by omega, by omega⟩), Lib.hid (HLZ.out.set (by have := HZ.out; omega) _), Lib.hid (HF.out.setCell (p := ⟨G, k, none⟩) (.inl rfl) _)⟩
      case measure => simp [intOf]; omega
    · have hge : decide ((k : Int) < (n : Int)) = false := by simp; omega
      have WR := Lib.hid (W9.out.trans (HF.out.below W9.out.size (fun j hj => by have := HGW.out; omega)))
      have RNR := Lib.hid (RN9.out.fr HF.out (fun a ha => HGA.out a ha))
      have RWR := Lib.hid (RW9.out.fr HF.out (fun a ha => HGR.out a ha))
      have hzl : zs.length ≤ 2000000 := by have := HZ.out; omega
      go_wp2_with fail
      refine (same_any An Ar _ _ cn cr (uL s) (uL s) wr rfl rfl RNR.out RWR.out HUL.out.1 HUL.out.1).mono ?_
      rintro e w' ⟨q4, rfl, rfl⟩
      rw [show decide (uL s = uL s) = true from by simp]
      go_wp2_with fail
      have WQ := Lib.hid (belowN WR.out q4)
      have LQ := Lib.hid (HLZ.out.drewN q4)
      generalize wr.drewN q4 = wq at WQ LQ
      clear WR HLZ RNR RWR HF
      refine (hex_any (some ⟨G, 0, none⟩) n cg zs wq HZ.out LQ.out.rd HBZ.out (by omega)).mono ?_
      rintro e wa ⟨rfl, ba⟩
      have LA := Lib.hid (LQ.out.below ba)
      have WA := Lib.hid (WQ.out.trans (ba.mono WQ.out.size))
      clear ba LQ WQ
      go_wp2_with fail
      refine (copied_any (some ⟨G, 0, none⟩) n cg zs wa HZ.out LA.out.rd (by omega)).mono ?_
      rintro e wb ⟨vk, rfl, ok, bb⟩
      obtain ⟨Ak, ck, rfl, -, -, -, -⟩ := ok.slice
      have RK := Lib.hid (own_rd ok)
      have WB := Lib.hid (WA.out.trans (bb.mono WA.out.size))
      clear ok bb LA WA
      rw [← HZ.out]
      go_wp2_with fail
      refine (rhex_any Ak n ck zs wb HZ.out RK.out HBZ.out (by omega)).mono ?_
      rintro e wd ⟨rfl, bd⟩
      have WD := Lib.hid (WB.out.trans (bd.mono WB.out.size))
      clear bd RK WB
      go_wp2_with fail
      go_ret
      exact ⟨rfl, WD.out⟩
end Go.Proofs.Ytcibhaoilcohbaa

/-
  Walks: a reader of the program.
-/
import Derived.Test.YtcibhaoilcohbaaRn
import Derived.Test.YtcibhaoilcohbaaOw
import Derived.Test.YtcibhaoilcohbaaSl
import Derived.Test.YtcibhaoilcohbaaNl
set_option linter.unusedVariables false
set_option linter.unusedSimpArgs false
namespace Go.Proofs.Ytcibhaoilcohbaa
open Go.RowKit

/-- A reader at p with these bytes left, in block g, and that error. -/
def Rdr (w : World) (p g : Nat) (xs : List Int) (e : Int) : Prop :=
  ∃ A c, Blk w p 105 [.slice A xs.length c, .int .i64 e] ∧ xs.length ≤ c ∧ c ≤ 9223372036854775807 ∧ Rd w .u8 A xs ∧ (∀ a, A = some a → a.block = g) ∧ g ≠ p ∧ g < w.heap.size
theorem Rdr.lt {w : World} {p g : Nat} {xs : List Int} {e : Int} (h : Rdr w p g xs e) : p < w.heap.size := by
  obtain ⟨A, c, hB, _⟩ := h
  exact hB.lt
theorem Rdr.fr {S : Nat → Prop} {w w' : World} {p g : Nat} {xs : List Int} {e : Int} (h : Rdr w p g xs e) (hf : Fr S w w') (hp : ¬ S p) (hg : ¬ S g) : Rdr w' p g xs e := by
  obtain ⟨A, c, hB, h1, h2, hr, hn, h3, h4⟩ := h
  exact ⟨A, c, hB.fr hf hp, h1, h2, hr.fr hf (fun a ha hk => hg (hn a ha ▸ hk)), hn, h3, Nat.lt_of_lt_of_le h4 hf.size⟩
theorem Rdr.below {w w' : World} {p g : Nat} {xs : List Int} {e : Int} (h : Rdr w p g xs e) (hb : Below w.heap.size w w') : Rdr w' p g xs e :=
  h.fr (S := fun _ => False) (Fr.of_below hb _) (fun h => h) (fun h => h)
theorem Rdr.drewN {w : World} {p g : Nat} {xs : List Int} {e : Int} (h : Rdr w p g xs e) (q : Nat) : Rdr (w.drewN q) p g xs e := h
theorem fr_set (w : World) (p j : Nat) (u : Value) : Fr (fun i => i = p) w (w.setCell ⟨p, j, none⟩ u) := Fr.setCell (S := fun i => i = p) (Fr.refl _ w) (p := ⟨p, j, none⟩) (Or.inl rfl) u
/-- What take hands out, what is left, and the error. -/
def tkL (xs : List Int) (n : Int) (e : Int) : List Int := if e = 0 ∧ 0 ≤ n ∧ n ≤ xs.length then xs.take n.toNat else []
def rsL (xs : List Int) (n : Int) (e : Int) : List Int := if e = 0 ∧ 0 ≤ n ∧ n ≤ xs.length then xs.drop n.toNat else xs
def erR (xs : List Int) (n : Int) (e : Int) : Int := if e = 0 then (if n < 0 then 2 else if (xs.length : Int) < n then 20 else 0) else e
theorem tkL_len (xs : List Int) (n e : Int) : (tkL xs n e).length ≤ xs.length := by
  unfold tkL
  split
  · simp; omega
  · simp

set_option maxHeartbeats 1000000 in
theorem take_any (p g : Nat) (n : Int) (xs : List Int) (e : Int) (w : World) (h : Rdr w p g xs e) (hn : -9223372036854775808 ≤ n ∧ n ≤ 9223372036854775807) :
    Calls Try.prog 87 #[.pointer (some ⟨p, 0, none⟩), .int .i64 n] w fun e' w' => ∃ A m c, e' = .returned (.slice A m c) ∧ Hid (m = (tkL xs n e).length ∧ m ≤ c ∧ c ≤ 9223372036854775807) ∧ Hid (Rd w' .u8 A (tkL xs n e)) ∧ Hid (Rdr w' p g (rsL xs n e) (erR xs n e)) ∧ Hid (Fr (fun j => j = p) w w') := by
  obtain ⟨A, c, hB, h1, h2, hr, hng, hgp, hgl⟩ := h
  have hne : ∀ a, A = some a → a.block ≠ p := fun a ha => by rw [hng a ha]; exact hgp
  have HNG := Lib.hid hng
  have HGP := Lib.hid (show g ≠ p ∧ g < w.heap.size from ⟨hgp, hgl⟩)
  clear hng hgp hgl
  have c0 : w.cell? ⟨p, 0, none⟩ = some (.slice A xs.length c) := hB.cell 0
  have c1 : w.cell? ⟨p, 1, none⟩ = some (.int .i64 e) := hB.cell 1
  have z0 := hB.frozen 0
  have z1 := hB.frozen 1
  have HR := Lib.hid hr
  have HB := Lib.hid hB
  have HNE := Lib.hid hne
  obtain ⟨l, hl⟩ : ∃ l, l = xs.length := ⟨_, rfl⟩
  have HL := Lib.hid hl
  rw [← hl] at c0 h1
  clear hr hB hne hl
  by_cases he : e = 0
  · subst he
    by_cases hn0 : n < 0
    · have e1 : Hid (tkL xs n 0 = [] ∧ rsL xs n 0 = xs ∧ erR xs n 0 = 2) := Lib.hid ⟨by unfold tkL; rw [if_neg (by omega)], by unfold rsL; rw [if_neg (by omega)], by unfold erR; rw [if_pos rfl, if_pos hn0]⟩
      go_enter Try.func87, Try.ntmps87
      go_wp2_with fail
      go_ret
      rw [e1.out.1, e1.out.2.1, e1.out.2.2]
      have hf : Fr (fun j => j = p) w (w.setCell ⟨p, 1, none⟩ (.int .i64 2)) := fr_set w p 1 _
      have hb2 := HB.out.set 1 (.int .i64 2)
      exact ⟨none, 0, 0, rfl, Lib.hid ⟨rfl, by decide, by decide⟩, Lib.hid (Rd.nil _ _ _), Lib.hid ⟨A, c, hb2, by have := HL.out; omega, h2, HR.out.fr hf (fun a ha hk => HNE.out a ha hk), HNG.out, HGP.out.1, Nat.lt_of_lt_of_le HGP.out.2 hf.size⟩, Lib.hid hf⟩
    · have hn1 : 0 ≤ n := by omega
      by_cases hlt : (l : Int) < n
      · have e1 : Hid (tkL xs n 0 = [] ∧ rsL xs n 0 = xs ∧ erR xs n 0 = 20) := Lib.hid ⟨by unfold tkL; rw [if_neg (by have := HL.out; omega)], by unfold rsL; rw [if_neg (by have := HL.out; omega)], by unfold erR; rw [if_pos rfl, if_neg hn0, if_pos (by have := HL.out; omega)]⟩
        clear hn0
        go_enter Try.func87, Try.ntmps87
        go_wp2_with fail
        go_ret
        rw [e1.out.1, e1.out.2.1, e1.out.2.2]
        have hf : Fr (fun j => j = p) w (w.setCell ⟨p, 1, none⟩ (.int .i64 20)) := fr_set w p 1 _
        have hb2 := HB.out.set 1 (.int .i64 20)
        exact ⟨none, 0, 0, rfl, Lib.hid ⟨rfl, by decide, by decide⟩, Lib.hid (Rd.nil _ _ _), Lib.hid ⟨A, c, hb2, by have := HL.out; omega, h2, HR.out.fr hf (fun a ha hk => HNE.out a ha hk), HNG.out, HGP.out.1, Nat.lt_of_lt_of_le HGP.out.2 hf.size⟩, Lib.hid hf⟩
      · obtain ⟨k, rfl⟩ := Int.eq_ofNat_of_zero_le hn1
        have hkl : k ≤ l := by omega
        have hkl2 : (k : Int) ≤ (l : Int) := by omega
        have e1 : Hid (tkL xs k 0 = xs.take k ∧ rsL xs k 0 = xs.drop k ∧ erR xs k 0 = 0) := Lib.hid ⟨by unfold tkL; rw [if_pos (by have := HL.out; omega), Int.toNat_natCast], by unfold rsL; rw [if_pos (by have := HL.out; omega), Int.toNat_natCast], by unfold erR; rw [if_pos rfl, if_neg hn0, if_neg (by have := HL.out; omega)]⟩
        have hs1 := fun W => run_cut_upto_max (P := Try.prog) W 22 5 Try.underlying22 size5' A l c k k .i64 .i64 k k rfl rfl (Nat.le_refl _) (by omega)
        have hs2 := fun W => run_cut_from (P := Try.prog) W 22 5 Try.underlying22 size5' A l c k .i64 k rfl hkl
        clear hn0 hlt
        go_enter Try.func87, Try.ntmps87
        go_wp2_with fail
        go_ret
        rw [e1.out.1, e1.out.2.1, e1.out.2.2]
        have hf : Fr (fun j => j = p) w (w.setCell ⟨p, 0, none⟩ (.slice (cutA A k c) (l - k) (c - k))) := fr_set w p 0 _
        have hb2 := HB.out.set 0 (.slice (cutA A k c) (l - k) (c - k))
        have hx' := HR.out.fr hf (fun a ha hk => HNE.out a ha hk)
        have hx2 := hx'.take k
        have hx3 := hx'.cutA k c (by have := HL.out; omega)
        exact ⟨A, k, k, rfl, Lib.hid ⟨by rw [List.length_take, ← HL.out]; omega, Nat.le_refl _, by omega⟩, Lib.hid hx2, Lib.hid ⟨cutA A k c, c - k, by rw [List.length_drop, ← HL.out]; exact hb2, by rw [List.length_drop, ← HL.out]; omega, by omega, hx3, (fun a ha => by
          obtain ⟨a', ha', hb'⟩ := cutA_block ha
          rw [← hb']; exact HNG.out a' ha'), HGP.out.1, Nat.lt_of_lt_of_le HGP.out.2 hf.size⟩, Lib.hid hf⟩
  · have e1 : Hid (tkL xs n e = [] ∧ rsL xs n e = xs ∧ erR xs n e = e) := Lib.hid ⟨by unfold tkL; rw [if_neg (by omega)], by unfold rsL; rw [if_neg (by omega)], by unfold erR; rw [if_neg he]⟩
    have hb : (e == 0) = false := by simpa using he
    have hb' : (e != 0) = true := by simpa using he
    go_enter Try.func87, Try.ntmps87
    go_wp2_with fail
    go_ret
    rw [e1.out.1, e1.out.2.1, e1.out.2.2]
    exact ⟨none, 0, 0, rfl, Lib.hid ⟨rfl, by decide, by decide⟩, Lib.hid (Rd.nil _ _ _), Lib.hid ⟨A, c, HL.out ▸ HB.out, HL.out ▸ h1, h2, HR.out, HNG.out, HGP.out⟩, Lib.hid (Fr.refl _ _)⟩

set_option maxRecDepth 100000 in
set_option maxHeartbeats 1000000 in
theorem newReader_any (A : Option Addr) (n c : Nat) (xs : List Int) (w : World) (hn : n = xs.length) (hr : Rd w .u8 A xs) (hl : xs.length ≤ 140737488355328) :
    Calls Try.prog 32 #[.slice A n c] w fun e w' => ∃ p g, e = .returned (.pointer (some ⟨p, 0, none⟩)) ∧ Hid (w.heap.size ≤ p ∧ w.heap.size ≤ g) ∧ Hid (Rdr w' p g xs 0) ∧ Hid (Below w.heap.size w w') := by
  have hm1 : 1 * n ≤ 281474976710656 := by omega
  have hm2 : n ≤ 9223372036854775807 := by omega
  have HR := Lib.hid hr
  have HN := Lib.hid hn
  have hle : xs.length ≤ n := by omega
  have hda : n ≤ (List.replicate n (0 : Int)).length := by simp
  clear hr hn
  go_enter Try.func32, Try.ntmps32
  go_wp2_with (first
    | (refine wpList_make_blk w rfl _ _ 22 rfl 5 .u8 1 Try.underlying22 info5 .i64 .i64 n rfl rfl hm1 hm2 ?_; intro w1 hb0 hfr0; have B0 := Lib.hid hb0; have F0 := Lib.hid hfr0; have R0 := Lib.hid (HR.out.below (hfr0.below (Nat.le_refl _) (fun k h => h.elim))); clear hb0 hfr0)
    | (refine wpList_copy_rd w1 rfl _ _ 22 22 rfl 5 Try.underlying22 size5' w.heap.size n n A n c rfl rfl .u8 5 (List.replicate n (0 : Int)) xs [] (by rw [List.append_nil]; exact B0.out) R0.out HN.out hle hda ?_; intro w2 hb2 hf2))
  go_ret
  have hx : xs ++ (List.replicate n (0 : Int)).drop xs.length = xs := by rw [← HN.out]; simp
  rw [hx, List.append_nil] at hb2
  have F2 : Fr (fun j => j = w.heap.size) w w2 := (F0.out.mono (fun _ h => h.elim)).trans hf2
  have hb3 := Blk.new w2 105 [.slice (some ⟨w.heap.size, 0, none⟩) n n, .int .i64 0]
  have hgl : w.heap.size < w2.heap.size := Nat.lt_of_lt_of_le B0.out.lt hf2.size
  have bel : Below w.heap.size w w2 := F2.below (Nat.le_refl _) (fun k hk => by omega)
  refine ⟨w2.heap.size, w.heap.size, rfl, Lib.hid ⟨bel.size, Nat.le_refl _⟩, Lib.hid ⟨some ⟨w.heap.size, 0, none⟩, n, by rw [← HN.out]; exact hb3, by omega, by omega, ?_, fun a ha => by cases ha; rfl, by omega, by simp; omega⟩, Lib.hid (bel.alloc bel.size _)⟩
  exact (blk_rd0 hb2).below ((Below.refl _ w2).alloc (Nat.le_refl _) _)

theorem left_any (p g : Nat) (xs : List Int) (e : Int) (w : World) (h : Rdr w p g xs e) : Calls Try.prog 37 #[.pointer (some ⟨p, 0, none⟩)] w fun e' w' => e' = .returned (.int .i64 xs.length) ∧ w' = w := by
  obtain ⟨A, c, hB, h1, h2, hr, hng, hgp, hgl⟩ := h
  have c0 : w.cell? ⟨p, 0, none⟩ = some (.slice A xs.length c) := hB.cell 0
  have HL : Hid (xs.length ≤ 9223372036854775807) := Lib.hid (by omega)
  clear hB hr hng
  go_enter Try.func37, Try.ntmps37
  go_wp2_with fail
  go_ret
  exact ⟨rfl, rfl⟩
theorem rerr_any (p g : Nat) (xs : List Int) (e : Int) (w : World) (h : Rdr w p g xs e) : Calls Try.prog 56 #[.pointer (some ⟨p, 0, none⟩)] w fun e' w' => e' = .returned (.int .i64 e) ∧ w' = w := by
  obtain ⟨A, c, hB, h1, h2, hr, hng, hgp, hgl⟩ := h
  have c1 : w.cell? ⟨p, 1, none⟩ = some (.int .i64 e) := hB.cell 1
  clear hB hr hng
  go_enter Try.func56, Try.ntmps56
  go_wp2_with fail
  go_ret
  exact ⟨rfl, rfl⟩
def enR (xs : List Int) (e : Int) : Int := if e = 0 then (if xs.length = 0 then 0 else 21) else e
theorem rend_any (p g : Nat) (xs : List Int) (e : Int) (w : World) (h : Rdr w p g xs e) : Calls Try.prog 35 #[.pointer (some ⟨p, 0, none⟩)] w fun e' w' => e' = .returned (.int .i64 (enR xs e)) ∧ w' = w := by
  have h' := h
  obtain ⟨A, c, hB, h1, h2, hr, hng, hgp, hgl⟩ := h
  have c0 : w.cell? ⟨p, 0, none⟩ = some (.slice A xs.length c) := hB.cell 0
  have HC := Lib.hid c0
  have H := Lib.hid h'
  clear hB hr hng c0 h'
  by_cases he : e = 0
  · subst he
    by_cases hz : xs.length = 0
    · have e1 : Hid (enR xs 0 = 0) := Lib.hid (by unfold enR; rw [if_pos rfl, if_pos hz])
      go_enter Try.func35, Try.ntmps35
      go_wp2_with fail
      refine (rerr_any p g xs 0 w H.out).mono ?_
      rintro e w' ⟨rfl, rfl⟩
      have c0 := HC.out
      rw [hz] at c0
      go_wp2_with fail
      go_ret
      exact ⟨by rw [e1.out]; rfl, rfl⟩
    · have e1 : Hid (enR xs 0 = 21) := Lib.hid (by unfold enR; rw [if_pos rfl, if_neg hz])
      have hp : 0 < xs.length := by omega
      go_enter Try.func35, Try.ntmps35
      go_wp2_with fail
      refine (rerr_any p g xs 0 w H.out).mono ?_
      rintro e w' ⟨rfl, rfl⟩
      have c0 := HC.out
      go_wp2_with fail
      go_ret
      exact ⟨by rw [e1.out]; rfl, rfl⟩
  · have e1 : Hid (enR xs e = e) := Lib.hid (by unfold enR; rw [if_neg he])
    have hb' : (e != 0) = true := by simpa using he
    go_enter Try.func35, Try.ntmps35
    go_wp2_with fail
    refine (rerr_any p g xs e w H.out).mono ?_
    rintro e' w' ⟨rfl, rfl⟩
    go_wp2_with fail
    go_ret
    exact ⟨by rw [e1.out]; rfl, rfl⟩

theorem rbytes_any (p g : Nat) (n : Int) (xs : List Int) (e : Int) (w : World) (h : Rdr w p g xs e) (hn : -9223372036854775808 ≤ n ∧ n ≤ 9223372036854775807) (hl : xs.length ≤ 140737488355328) :
    Calls Try.prog 47 #[.pointer (some ⟨p, 0, none⟩), .int .i64 n] w fun e' w' => ∃ v, e' = .returned v ∧ Hid (Own w' w.heap.size 5 .u8 v (tkL xs n e)) ∧ Hid (Rdr w' p g (rsL xs n e) (erR xs n e)) ∧ Hid (Fr (fun j => j = p) w w') := by
  have H := Lib.hid h
  have HL : Hid ((([] : List Int).length + (tkL xs n e).length) * 1 ≤ 140737488355328) := Lib.hid (by have := tkL_len xs n e; simp; omega)
  clear h
  go_enter Try.func47, Try.ntmps47
  go_wp2_with fail
  refine (take_any p g n xs e w H.out hn).mono ?_
  rintro e' w1 ⟨A, m, c, rfl, HM, HR, HD, HF⟩
  have O0 : Hid (Own w1 w1.heap.size 5 .u8 (.slice none 0 0) []) := Lib.hid (Own.nil _ _ _ _)
  go_wp2_with (first | (refine wpList_pushes_any w1 rfl _ _ 22 rfl w1.heap.size 5 .u8 1 Try.underlying22 info5 (.slice none 0 0) [] rfl O0.out A m c (tkL xs n e) rfl HM.out.1 HR.out HL.out (by decide) (Nat.le_refl _) ?_; intro v2 w2 hown hfr))
  go_ret
  have f2 : Fr (fun _ => False) w1 w2 := hfr.mono (fun k hk => by cases hk)
  exact ⟨v2, rfl, Lib.hid (hown.lower HF.out.size), Lib.hid (HD.out.fr f2 (fun h => h) (fun h => h)), Lib.hid (HF.out.trans (f2.mono (fun _ h => h.elim)))⟩
end Go.Proofs.Ytcibhaoilcohbaa

/-
  Walk: the program's Row.
-/
import Derived.Test.YtmmmmabfnnblfaaRk
set_option linter.unusedVariables false
set_option linter.unusedSimpArgs false
namespace Go.Proofs.Ytmmmmabfnnblfaa
open Go.RowKit

theorem B8.getD {xs : List Int} (h : B8 xs) : ∀ i, i < xs.length → 0 ≤ xs.getD i 0 ∧ xs.getD i 0 ≤ 255 := fun i hi => by
  have : xs.getD i 0 = xs[i] := by simp [List.getD, hi]
  rw [this]
  exact h _ (List.getElem_mem hi)
theorem B8.zeros (n : Nat) : B8 (List.replicate n 0) := fun x hx => by
  obtain rfl := (List.mem_replicate.1 hx).2
  omega
/-- What Row has copied behind k rows. -/
def accR (xss : Nat → List Int) (p k : Nat) : List Int := if p < k then xss p else List.replicate (xss 0).length 0
theorem accR_len {xss : Nat → List Int} {n p k : Nat} (hl : ∀ i, i < n → (xss i).length = (xss 0).length) (hp : p < n) : (accR xss p k).length = (xss 0).length := by
  unfold accR
  split
  · exact hl p hp
  · simp
theorem accR_b8 {xss : Nat → List Int} {n p k : Nat} (hb : ∀ i, i < n → B8 (xss i)) (hp : p < n) : B8 (accR xss p k) := by
  unfold accR
  split
  · exact hb p hp
  · exact B8.zeros _
theorem accR_step {xss : Nat → List Int} {n p k : Nat} (hl : ∀ i, i < n → (xss i).length = (xss 0).length) (hb : ∀ i, i < n → B8 (xss i)) (hp : p < n) (hk : k < n) :
    List.zipWith (fun x y => ch8 (mk (decide ((k : Int) = (p : Int)))) y x) (accR xss p k) (xss k) = accR xss p (k + 1) := by
  have e : (accR xss p k).length = (xss k).length := (accR_len hl hp).trans (hl k hk).symm
  by_cases h : k = p
  · subst h
    have hm : mk (decide ((k : Int) = (k : Int))) = 18446744073709551615 := by simp [mk]
    rw [hm, z2 _ _ _ e (accR_b8 hb hp) (hb k hk) (fun x y hx hy => ch8_all hx hy)]
    unfold accR
    rw [if_pos (by omega)]
  · have hm : mk (decide ((k : Int) = (p : Int))) = 0 := by
      have : decide ((k : Int) = (p : Int)) = false := decide_eq_false (by omega)
      rw [this]; rfl
    rw [hm, z1 _ _ _ e (accR_b8 hb hp) (hb k hk) (fun x y hx hy => ch8_none hx hy)]
    unfold accR
    by_cases h1 : p < k
    · rw [if_pos h1, if_pos (by omega)]
    · rw [if_neg h1, if_neg (by omega)]
theorem copy_at (m : Int) (v1 : Value) (A : Option Addr) (n2 c2 : Nat) (xs ys : List Int) (B : Nat) (w : World) (hn : n2 = ys.length) (h1 : Own w B 5 .u8 v1 xs) (h2 : Rd w .u8 A ys) (hA : ∀ g a, v1.ownBlock = some g → A = some a → a.block ≠ g)
    (hl : xs.length = ys.length) (wx : ∀ i, i < xs.length → 0 ≤ xs.getD i 0 ∧ xs.getD i 0 ≤ 255) (wy : ∀ i, i < ys.length → 0 ≤ ys.getD i 0 ∧ ys.getD i 0 ≤ 255) :
    Calls Try.prog 34 #[.int .u64 m, v1, .slice A n2 c2] w fun e w' => e = .returned (.int .i64 0) ∧ Own w' B 5 .u8 v1 (List.zipWith (fun x y => ch8 m y x) xs ys) ∧ Fr (fun k => v1.ownBlock = some k) w w' := by
  subst hn
  exact copy_own m v1 A c2 xs ys B w h1 h2 hA hl wx wy

set_option maxHeartbeats 1600000 in
theorem row_any (L : Option Addr) (n c : Nat) (hs : Nat → Hd) (xss : Nat → List Int) (a : Int) (w : World) (hr : RdH w L hs n) (hc : CtH w hs xss n) (hlt : ∀ i, i < n → ∀ x, (hs i).A = some x → x.block < w.heap.size) (hb : ∀ i, i < n → B8 (xss i))
    (hn : n ≤ 1048576) (hx : ∀ i, i < n → (xss i).length ≤ 1048576) (ha : -9223372036854775808 ≤ a ∧ a ≤ 9223372036854775807) :
    Calls Try.prog 44 #[.slice L n c, .int .i64 a] w (RowAns xss n a w) := by
  have HR := Lib.hid hr
  have HC := Lib.hid hc
  have HX := Lib.hid hx
  have HL := Lib.hid hlt
  have HBB := Lib.hid hb
  clear hr hc hx hlt hb
  by_cases h0 : a < 0
  · have HQ := Lib.hid (row_out (xss := xss) (n := n) (a := a) (by omega))
    go_enter Try.func44, Try.ntmps44
    go_wp2
    go_ret2
    exact ⟨_, by rw [HQ.out.1]; rfl, by rw [HQ.out.2]; exact Own.nil _ _ _ _, Below.refl _ _⟩
  · obtain ⟨p, rfl⟩ : ∃ p : Nat, a = p := ⟨a.toNat, by omega⟩
    by_cases h1 : n ≤ p
    · have HQ := Lib.hid (row_out (xss := xss) (n := n) (a := p) (by omega))
      go_enter Try.func44, Try.ntmps44
      go_wp2
      go_ret2
      exact ⟨_, by rw [HQ.out.1]; rfl, by rw [HQ.out.2]; exact Own.nil _ _ _ _, Below.refl _ _⟩
    · have hp : p < n := by omega
      clear h0 h1
      obtain ⟨b, off, rfl, hb0, hc0⟩ := HR.out 0 (by omega)
      have hc0' : w.cell? ⟨b, off, none⟩ = some (.slice (hs 0).A (hs 0).m (hs 0).c) := hc0
      have hm0 := (HC.out 0 (by omega)).1
      rw [hm0] at hc0'
      clear hc0 hb0 hm0
      have d0 : decide ((p : Int) < 0) = false := by simp
      have d1 : decide (n ≤ p) = false := decide_eq_false (by omega)
      go_enter Try.func44, Try.ntmps44
      go_wp2
      go_loopw [7, 21] (fun r i wr => ∃ k : Nat, k ≤ n ∧ i = .int .i64 k ∧ Hid (∀ i, i < k → (xss i).length = (xss 0).length) ∧ w = wr) (fun _ i _ => n - (intOf i).toNat)
      case atStart => exact ⟨0, Nat.zero_le _, rfl, Lib.hid (fun i hi => absurd hi (Nat.not_lt_zero _)), rfl⟩
      case round =>
        obtain ⟨k, hk, rfl, HT, rfl⟩ := hrel
        by_cases hlt : k < n
        · obtain ⟨b2, off2, he, _, hck⟩ := HR.out k hlt
          injection he with he
          injection he with he1 he2
          subst he1 he2
          have hmk := (HC.out k hlt).1
          rw [hmk] at hck
          clear hmk
          have hl0 := HX.out 0 (by omega)
          have hlk := HX.out k hlt
          by_cases hl : (xss k).length = (xss 0).length
          · have hne : (((xss k).length : Int) != ((xss 0).length : Int)) = false := by simp [hl]
            have HT2 : Hid (∀ i, i < k + 1 → (xss i).length = (xss 0).length) := Lib.hid (fun i hi => by
              by_cases hik : i = k
              · subst hik; exact hl
              · exact HT.out i (by omega))
            clear hl
            go_wp2
            go_roundw
            case rel => exact ⟨k + 1, by omega, by go_num, HT2, trivial⟩
            case measure => simp [intOf]; omega
          · have hne : (((xss k).length : Int) != ((xss 0).length : Int)) = true := by simp; omega
            have HQ := Lib.hid (row_four (xss := xss) hp (like_no hlt hl))
            clear hl
            go_wp2
            go_ret2
            exact ⟨_, by rw [HQ.out.1]; rfl, by rw [HQ.out.2]; exact Own.nil _ _ _ _, Below.refl _ _⟩
        · obtain rfl : k = n := by omega
          have HQ := Lib.hid (row_in (xss := xss) hp (like_yes HT.out))
          have hl0 := HX.out 0 (by omega)
          go_wp2_with (show wpList _ _ _ ({ dst := some 37, op := _, type := _, pos := _, after := _, guard := _ } :: _) _ _; refine wpList_make_blk w rfl _ _ 47 rfl 5 .u8 1 Try.underlying47 info5 .i64 .i64 (xss 0).length rfl rfl (by omega) (by omega) ?_; intro w1 hb1 hf1; have HB1 := Lib.hid hb1; have HF1 := Lib.hid hf1; clear hb1 hf1)
          have B1 : Hid (Below w.heap.size w w1) := Lib.hid (HF1.out.below (Nat.le_refl _) (fun _ h => h.elim))
          obtain ⟨g, hg⟩ : ∃ g, g = w.heap.size := ⟨_, rfl⟩
          have HO1 : Hid (Own w1 w.heap.size 5 .u8 (.slice (some ⟨g, 0, none⟩) (xss 0).length (xss 0).length) (accR xss p 0)) := Lib.hid (by
            have := Own.mk (w := w1) (base := w.heap.size) (T := 5) (k := .u8) (g := g) (c := (xss 0).length) (xs := List.replicate (xss 0).length 0) (rest := []) (by omega) (by rw [hg]; simpa using HB1.out) (by simp) (by unfold maxLen; omega)
            unfold accR
            rw [if_neg (Nat.not_lt_zero _)]
            rw [List.length_replicate] at this
            exact this)
          have HG := Lib.hid hg
          rw [← hg]
          clear HB1 HF1 hc0' hg
          go_loopw [9, 10, 40] (fun r s i wr => ∃ j : Nat, j ≤ k ∧ i = .int .i64 j ∧ Hid (Own wr w.heap.size 5 .u8 (.slice (some ⟨g, 0, none⟩) (xss 0).length (xss 0).length) (accR xss p j)) ∧ Hid (Below w.heap.size w wr)) (fun _ _ i _ => k - (intOf i).toNat)
          case atStart => exact ⟨0, Nat.zero_le _, rfl, HO1, B1⟩
          case round =>
            clear HO1 B1
            obtain ⟨j, hj, rfl, HO, HB⟩ := hrel
            by_cases hlt : j < k
            · obtain ⟨b2, off2, he, hbl, hck0⟩ := HR.out j hlt
              injection he with he
              injection he with he1 he2
              subst he1 he2
              have hck := (HB.out.cell (p := ⟨b, off + j, none⟩) hbl).trans hck0
              clear hck0 hbl
              have hw1 : IntKind.u64.wrap (j : Int) = (j : Int) := by rw [IntKind.wrap_u64] <;> omega
              have hw2 : IntKind.u64.wrap (p : Int) = (p : Int) := by rw [IntKind.wrap_u64] <;> omega
              go_wp2_with fail
              refine (equal_any (j : Int) (p : Int) wr (by omega) (by omega) (by omega) (by omega)).mono ?_
              rintro e w2 ⟨rfl, rfl⟩
              go_wp2_with fail
              refine (copy_at (mk (decide ((j : Int) = (p : Int)))) _ _ _ _ (accR xss p j) (xss j) w.heap.size wr (HC.out j hlt).1 HO.out ((HC.out j hlt).2.below HB.out) (fun g' a hg ha => by
                have h1 := HL.out j hlt a ha
                have h2 := (HO.out.base_le hg).1
                omega) ((accR_len HT.out hp).trans (HT.out j hlt).symm) (B8.getD (accR_b8 HBB.out hp)) (B8.getD (HBB.out j hlt))).mono ?_
              rintro e w3 ⟨rfl, ho3, hf3⟩
              rw [accR_step HT.out HBB.out hp hlt] at ho3
              have HO3 := Lib.hid ho3
              have HB3 : Hid (Below w.heap.size w w3) := Lib.hid (HB.out.trans (hf3.below HB.out.size (fun g' hg => (HO.out.base_le hg).1)))
              clear ho3 hf3 hck
              go_wp2
              go_roundw
              case rel => exact ⟨j + 1, by omega, by go_num, HO3, HB3⟩
              case measure => simp [intOf]; omega
            · obtain rfl : j = k := by omega
              go_wp2
              go_ret2
              exact ⟨_, by rw [HQ.out.1]; rfl, by
                have := HO.out
                unfold accR at this
                rw [if_pos hp] at this
                rw [HQ.out.2]
                exact this, HB.out⟩
end Go.Proofs.Ytmmmmabfnnblfaa

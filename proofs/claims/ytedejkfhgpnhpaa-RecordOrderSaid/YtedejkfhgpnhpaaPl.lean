/-
  Walks: PutLittle of a uint32, a head's bytes.
-/
import Derived.Test.YtedejkfhgpnhpaaLe
set_option linter.unusedVariables false
set_option linter.unusedSimpArgs false
namespace Go.Proofs.Ytedejkfhgpnhpaa
open Go.RowKit

theorem size5' : (Try.prog.info? 5).map (·.size) = some 1 := by kernel_rfl

set_option maxHeartbeats 1000000 in
theorem putl_any (A : Option Addr) (c : Nat) (xs : List Int) (X : Nat) (w : World) (hr : Rd w .u8 A xs) (hl : xs.length ≤ 140737488355000) (hX : X < 4294967296) :
    Calls Try.prog 48 #[.slice A xs.length c, .int .u32 X] w (Made 5 .u8 (xs ++ leN X 4) w) := by
  have HR := Lib.hid hr
  clear hr
  have hm1 : 1 * (xs.length + 4) ≤ 281474976710656 := by omega
  have hm2 : xs.length + 4 ≤ 9223372036854775807 := by omega
  have hCe : (xs.length : Int) + 4 = ((xs.length + 4 : Nat) : Int) := by omega
  have hnm : xs.length ≤ xs.length + 4 := by omega
  have hda : xs.length ≤ (List.replicate (xs.length + 4) (0 : Int)).length := by simp
  have HCE := Lib.hid hCe
  clear hCe
  go_enter Try.func48, Try.ntmps48
  go_wp2_with fail
  refine (width_any w).mono ?_
  rintro e w' ⟨rfl, rfl⟩
  go_wp2_with (first
    | (refine wpList_make_room w rfl _ _ 27 rfl 5 .u8 1 Try.underlying27 info5 .i64 .i64 xs.length (xs.length + 4) _ _ rfl rfl rfl HCE.out hnm hm1 hm2 ?_; intro w1 hb0 hfr0; have B0 := Lib.hid hb0; have F0 := Lib.hid hfr0; have R0 := Lib.hid (HR.out.below (hfr0.below (Nat.le_refl _) (fun k h => h.elim))); clear hb0 hfr0)
    | (refine wpList_copy_rd w1 rfl _ _ 27 27 rfl 5 Try.underlying27 size5' w.heap.size xs.length (xs.length + 4) A xs.length c rfl rfl .u8 5 (List.replicate (xs.length + 4) (0 : Int)) xs [] (by rw [List.append_nil]; exact B0.out) R0.out rfl (Nat.le_refl _) hda ?_; intro w2 hb2 hf2))
  have O2 : Hid (Own w2 w.heap.size 5 .u8 (.slice (some ⟨w.heap.size, 0, none⟩) xs.length (xs.length + 4)) xs) := Lib.hid (Own.mk (rest := (List.replicate 4 (0 : Int)).map (Value.int .u8)) (Nat.le_refl _) (by
    have : (List.replicate (xs.length + 4) (0 : Int)).drop xs.length = List.replicate 4 0 := by simp
    rw [this, List.append_nil, List.map_append] at hb2; exact hb2) (by simp) (by unfold maxLen; omega))
  have W2 : Hid (Below w.heap.size w w2) := Lib.hid (((F0.out.below (Nat.le_refl _) (fun k h => h.elim)).trans (hf2.below F0.out.size (fun k h => by omega))))
  clear hb2 hf2 hm1 hm2 hda
  go_wp2_with fail
  go_loopw [6, 20] (fun v i wr => ∃ k : Nat, k ≤ 4 ∧ i = .int .i64 k ∧ Own wr w.heap.size 5 .u8 v (xs ++ leN X k) ∧ Below w.heap.size w wr) (fun _ i _ => 4 - (intOf i).toNat)
  case atStart => exact ⟨0, Nat.zero_le _, rfl, by simpa [leN] using O2.out, W2.out⟩
  case round =>
    obtain ⟨k, hk, rfl, hown, hb⟩ := hrel
    have HO := Lib.hid hown
    have HW := Lib.hid hb
    have hsz := hb.size
    clear hown hb
    by_cases hlt : k < 4
    · have hc1 : ((xs ++ leN X k).length + 1) * 1 ≤ 140737488355328 := by rw [List.length_append, leN_len]; omega
      have hk4 : k = 0 ∨ k = 1 ∨ k = 2 ∨ k = 3 := by omega
      rcases hk4 with rfl | rfl | rfl | rfl
      · go_wp2_with (first | (at_builtin; refine wpList_push wr rfl _ _ 27 rfl w.heap.size 5 .u8 1 Try.underlying27 info5 _ rfl _ _ rfl rfl HO.out hc1 (by decide) hsz ?_; intro v' w1 hown1 hfr1))
        rw [show xs ++ leN X 0 ++ [(X : Int) % 256] = xs ++ leN X 1 from by rw [leN_succ X 0, List.append_assoc]; simp [byt]] at hown1
        exact ⟨⟨1, by omega, rfl, hown1, HW.out.trans (hfr1.below hsz (fun g hg => (HO.out.base_le hg).1))⟩, by simp [intOf]⟩
      · go_wp2_with (first | (at_builtin; refine wpList_push wr rfl _ _ 27 rfl w.heap.size 5 .u8 1 Try.underlying27 info5 _ rfl _ _ rfl rfl HO.out hc1 (by decide) hsz ?_; intro v' w1 hown1 hfr1))
        rw [show xs ++ leN X 1 ++ [(X : Int) / 256 % 256] = xs ++ leN X 2 from by rw [leN_succ X 1, List.append_assoc]; simp [byt]] at hown1
        exact ⟨⟨2, by omega, rfl, hown1, HW.out.trans (hfr1.below hsz (fun g hg => (HO.out.base_le hg).1))⟩, by simp [intOf]⟩
      · go_wp2_with (first | (at_builtin; refine wpList_push wr rfl _ _ 27 rfl w.heap.size 5 .u8 1 Try.underlying27 info5 _ rfl _ _ rfl rfl HO.out hc1 (by decide) hsz ?_; intro v' w1 hown1 hfr1))
        rw [show xs ++ leN X 2 ++ [(X : Int) / 65536 % 256] = xs ++ leN X 3 from by rw [leN_succ X 2, List.append_assoc]; simp [byt]] at hown1
        exact ⟨⟨3, by omega, rfl, hown1, HW.out.trans (hfr1.below hsz (fun g hg => (HO.out.base_le hg).1))⟩, by simp [intOf]⟩
      · go_wp2_with (first | (at_builtin; refine wpList_push wr rfl _ _ 27 rfl w.heap.size 5 .u8 1 Try.underlying27 info5 _ rfl _ _ rfl rfl HO.out hc1 (by decide) hsz ?_; intro v' w1 hown1 hfr1))
        rw [show xs ++ leN X 3 ++ [(X : Int) / 16777216] = xs ++ leN X 4 from by rw [leN_succ X 3, List.append_assoc]; simp [byt]; omega] at hown1
        exact ⟨⟨4, by omega, rfl, hown1, HW.out.trans (hfr1.below hsz (fun g hg => (HO.out.base_le hg).1))⟩, by simp [intOf]⟩
    · have HK : Hid (k = 4) := Lib.hid (by omega)
      have hge : decide ((k : Int) < 4) = false := by simp; omega
      go_wp2_with fail
      go_ret
      have ho := HO.out
      rw [HK.out] at ho
      exact ⟨_, rfl, ho, HW.out⟩

theorem putl_at (A : Option Addr) (c n : Nat) (xs : List Int) (X : Nat) (w : World) (hn : n = xs.length) (hr : Rd w .u8 A xs) (hl : xs.length ≤ 140737488355000) (hX : X < 4294967296) :
    Calls Try.prog 48 #[.slice A n c, .int .u32 X] w (Made 5 .u8 (xs ++ leN X 4) w) := by subst hn; exact putl_any A c xs X w hr hl hX

/-- A head, by value. -/
def hagg (l f i r : Nat) (g : Nat → Int) : Value := .agg #[.int .u8 l, .int .u8 f, .int .u32 i, .int .u32 r, .int .u8 (g 0), .int .u8 (g 1), .int .u8 (g 2), .int .u8 (g 3), .int .u8 (g 4), .int .u8 (g 5), .int .u8 (g 6), .int .u8 (g 7), .int .u8 (g 8), .int .u8 (g 9), .int .u8 (g 10), .int .u8 (g 11), .int .u8 (g 12), .int .u8 (g 13), .int .u8 (g 14), .int .u8 (g 15)]
def hlist (l f i r : Nat) (g : Nat → Int) : List Value := [.int .u8 l, .int .u8 f, .int .u32 i, .int .u32 r, .int .u8 (g 0), .int .u8 (g 1), .int .u8 (g 2), .int .u8 (g 3), .int .u8 (g 4), .int .u8 (g 5), .int .u8 (g 6), .int .u8 (g 7), .int .u8 (g 8), .int .u8 (g 9), .int .u8 (g 10), .int .u8 (g 11), .int .u8 (g 12), .int .u8 (g 13), .int .u8 (g 14), .int .u8 (g 15)]
def gl (g : Nat → Int) : List Int := (List.range 16).map g
theorem gl_len (g : Nat → Int) : (gl g).length = 16 := by simp [gl]
/-- A head's bytes. -/
def hb (l f i r : Nat) (g : Nat → Int) : List Int := [(l : Int), (f : Int)] ++ leN i 4 ++ leN r 4 ++ gl g
theorem hb_len (l f i r : Nat) (g : Nat → Int) : (hb l f i r g).length = 26 := by simp [hb, leN_len, gl_len]
theorem gl_rd {w : World} {b : Nat} {l f i r : Nat} {g : Nat → Int} (h : Blk w b 26 (hlist l f i r g)) : Rd w .u8 (some ⟨b, 4, none⟩) (gl g) := by
  intro j hj
  rw [gl_len] at hj
  refine ⟨b, 4, rfl, ?_⟩
  rw [h.cell]
  have : j = 0 ∨ j = 1 ∨ j = 2 ∨ j = 3 ∨ j = 4 ∨ j = 5 ∨ j = 6 ∨ j = 7 ∨ j = 8 ∨ j = 9 ∨ j = 10 ∨ j = 11 ∨ j = 12 ∨ j = 13 ∨ j = 14 ∨ j = 15 := by omega
  rcases this with rfl | rfl | rfl | rfl | rfl | rfl | rfl | rfl | rfl | rfl | rfl | rfl | rfl | rfl | rfl | rfl <;> rfl
theorem blk_rd0 {w : World} {g T : Nat} {kd : IntKind} {xs : List Int} (h : Blk w g T (xs.map (Value.int kd))) : Rd w kd (some ⟨g, 0, none⟩) xs := blk_rd (r := []) (by rw [List.append_nil]; exact h)

set_option maxHeartbeats 1000000 in
theorem head_any (l f i r : Nat) (g : Nat → Int) (w : World) (hi : i < 4294967296) (hr : r < 4294967296) :
    Calls Try.prog 33 #[hagg l f i r g] w (Made 5 .u8 (hb l f i r g) w) := by
  have HBX := Lib.hid ((Blk.new w 26 (hlist l f i r g)).alloc (.cells #[.int .u8 l, .int .u8 f] 5))
  have R0 := Lib.hid (blk_rd0 (kd := .u8) (xs := [(l : Int), (f : Int)]) (Blk.new_at (w.alloc (.cells (hlist l f i r g).toArray 26)) 5 [.int .u8 l, .int .u8 f] (g := w.heap.size + 1) (by simp)))
  have W0 := Lib.hid (((Below.refl w.heap.size w).alloc (Nat.le_refl _) (.cells (hlist l f i r g).toArray 26)).alloc (by simp) (.cells #[.int .u8 l, .int .u8 f] 5))
  unfold hagg
  go_enter Try.func33, Try.ntmps33
  go_wp2_with fail
  refine (putl_any _ 2 [(l : Int), (f : Int)] i _ R0.out (by simp) hi).mono ?_
  rintro e w1 ⟨v1, rfl, o1, b1⟩
  have HB1 := Lib.hid (HBX.out.below b1 HBX.out.lt)
  have W1 := Lib.hid (W0.out.trans (b1.mono W0.out.size))
  obtain ⟨L1, hL1⟩ : ∃ L, Hid ([(l : Int), (f : Int)] ++ leN i 4 = L) := ⟨_, Lib.hid rfl⟩
  rw [hL1.out] at o1
  have hl1 : L1.length = 6 := by rw [← hL1.out]; simp [leN_len]
  obtain ⟨A1, c1, rfl, _, _, rd1, _⟩ := o1.slice
  have R1 := Lib.hid rd1
  have c3 : w1.cell? ⟨w.heap.size, 3, none⟩ = some (.int .u32 r) := HB1.out.cell 3
  clear rd1 o1 b1 HBX R0 W0
  go_wp2_with fail
  refine (putl_at A1 c1 6 L1 r w1 hl1.symm R1.out (by omega) hr).mono ?_
  rintro e w2 ⟨v2, rfl, o2, b2⟩
  have HB2 := Lib.hid (HB1.out.below b2 HB1.out.lt)
  have W2 := Lib.hid (W1.out.trans (b2.mono W1.out.size))
  have O2 := Lib.hid (o2.lower W1.out.size)
  have RG := Lib.hid (gl_rd HB2.out)
  have hl2 : (L1 ++ leN r 4).length = 10 := by simp [leN_len, hl1]
  have hbt : ((L1 ++ leN r 4).length + (gl g).length) * 1 ≤ 140737488355328 := by rw [hl2, gl_len]; omega
  have hsz := W2.out.size
  have hgl := gl_len g
  have HG := Lib.hid hgl.symm
  clear o2 b2 hl2 hgl
  go_wp2_with (first | (at_builtin; refine wpList_pushes w2 rfl _ _ 27 rfl w.heap.size 5 .u8 1 Try.underlying27 info5 v2 (L1 ++ leN r 4) rfl O2.out w.heap.size 4 16 16 (gl g) rfl HG.out RG.out hbt (by decide) hsz ?_; intro v' w3 hown3 hfr3))
  go_ret
  exact ⟨_, rfl, by unfold hb; rw [hL1.out]; exact hown3, W2.out.trans (hfr3.below hsz (fun g hg => (O2.out.base_le hg).1))⟩
end Go.Proofs.Ytedejkfhgpnhpaa

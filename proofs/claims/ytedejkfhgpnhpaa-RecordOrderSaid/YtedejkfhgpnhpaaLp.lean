/-
  Walk: RecordPuts.
-/
import Derived.Test.YtedejkfhgpnhpaaPv
set_option linter.unusedVariables false
set_option linter.unusedSimpArgs false
namespace Go.Proofs.Ytedejkfhgpnhpaa
open Go.RowKit

def mk80 (n : Nat) : List Int := (List.range 80).map fun j => mkS (n + j)
theorem spL_eq (xs : List Int) : spL xs = xs ++ mk80 xs.length := rfl

theorem puts_any (l f i r : Nat) (g : Nat → Int) (A : Option Addr) (n c : Nat) (xs : List Int) (w : World) (hn : n = xs.length) (hnc : n ≤ c) (hc63 : c ≤ 9223372036854775807) (hx : Rd w .u8 A xs) (hi : i < 4294967296) (hr : r < 4294967296) (hl : xs.length ≤ 140737488355000) :
    Calls Try.prog 4 #[.slice A n c, .agg (hArr l f i r g)] w fun e w' => e = .returned (.bool true) ∧ Below w.heap.size w w' := by
  have W0 := Lib.hid ((Below.refl w.heap.size w).alloc (Nat.le_refl _) (.cells (hArr l f i r g) 26))
  have HX := Lib.hid hx
  have HN := Lib.hid hn
  have B0 := Lib.hid (hArr_blk w l f i r g)
  clear hn hx
  go_enter Try.func4, Try.ntmps4
  go_wp2_with fail
  have hs := spare_any A c xs _ (HX.out.below W0.out) (by omega)
  rw [← HN.out] at hs
  refine hs.mono ?_
  rintro e w1 ⟨rfl, b1, hb1⟩
  have W1 := Lib.hid (W0.out.trans (hb1.mono W0.out.size))
  have B1 := Lib.hid (B0.out.below hb1 B0.out.lt)
  have X1 := Lib.hid (HX.out.below W1.out)
  obtain ⟨G, hG⟩ : ∃ G, G = (w.alloc (.cells (hArr l f i r g) 26)).heap.size := ⟨_, rfl⟩
  rw [← hG] at b1 ⊢
  have hGw : w.heap.size < G := by rw [hG]; simp
  have GB := Lib.hid b1
  have HGW := Lib.hid hGw
  clear b1 hb1 hs hG W0 B0
  have B1' := Lib.hid (blk_hArr B1.out)
  by_cases h26 : n < 26
  · go_wp2_with (refine wpList_load_row rfl 26 _ rfl w.heap.size rfl 26 (hArr l f i r g) (0, 0) _ B1'.out Try.underlying26 rfl (size26' l f i r g) ?_)
    refine (rput_short l f i r g _ _ _ _ h26).mono ?_
    rintro e w2 ⟨rfl, bb⟩
    have W2 := Lib.hid (W1.out.trans (bb.mono W1.out.size))
    have B2' := Lib.hid (blk_hArr (B1.out.below bb B1.out.lt))
    have X2 := Lib.hid (HX.out.below W2.out)
    have G2 := Lib.hid (GB.out.below bb GB.out.lt)
    clear bb
    go_wp2_with (refine wpList_load_row rfl 26 _ rfl w.heap.size rfl 26 (hArr l f i r g) (0, 0) _ B2'.out Try.underlying26 rfl (size26' l f i r g) ?_)
    refine (pput_short l f i r g A n c xs _ HN.out h26 X2.out).mono ?_
    rintro e w3 ⟨v, rfl, o, bb⟩
    have W3 := Lib.hid (W2.out.trans (bb.mono W2.out.size))
    have G3 := Lib.hid (G2.out.below bb G2.out.lt)
    obtain ⟨A3, c3, rfl, -, -, rd3, -⟩ := o.slice
    have R3 := Lib.hid rd3
    clear o bb rd3
    go_wp2_with fail
    refine (kept_any A3 G (n + 80) c3 n xs.length xs [] w3 HN.out rfl (by rw [List.append_nil]; exact G3.out) R3.out (by omega) (by have := HN.out; omega) (by have := HN.out; omega)).mono ?_
    rintro e w4 ⟨q, rfl, rfl⟩
    go_wp2_with fail
    go_ret
    exact ⟨rfl, belowN W3.out q⟩
  · have h26' : 26 ≤ n := by omega
    obtain ⟨ys, HYS⟩ : ∃ ys, Hid (hb l f i r g ++ xs.drop 26 = ys) := ⟨_, Lib.hid rfl⟩
    have HY : Hid (ys.length = xs.length) := Lib.hid (by have := HN.out; rw [← HYS.out]; simp [hb_len]; omega)
    go_wp2_with (refine wpList_load_row rfl 26 _ rfl w.heap.size rfl 26 (hArr l f i r g) (0, 0) _ B1'.out Try.underlying26 rfl (size26' l f i r g) ?_)
    refine (rput_any l f i r g G n (n + 80) xs ((mk80 xs.length).map (Value.int .u8)) _ HN.out h26' (by have := GB.out; rw [spL_eq, List.map_append] at this; exact this) hi hr).mono ?_
    rintro e w2 ⟨rfl, gb, bb⟩
    rw [HYS.out] at gb
    have W2 := Lib.hid (W1.out.trans (bb.below W1.out.size (fun k hk => by have := HGW.out; omega)))
    have B2' := Lib.hid (blk_hArr (B1.out.fr bb (by have := HGW.out; omega)))
    have X2 := Lib.hid (HX.out.below W2.out)
    have G2 := Lib.hid gb
    clear bb gb
    go_wp2_with (refine wpList_load_row rfl 26 _ rfl w.heap.size rfl 26 (hArr l f i r g) (0, 0) _ B2'.out Try.underlying26 rfl (size26' l f i r g) ?_)
    refine (pput_any l f i r g A n c xs _ HN.out h26' hnc hc63 X2.out hi hr hl).mono ?_
    rintro e w3 ⟨v, rfl, o, bb⟩
    rw [HYS.out] at o
    have W3 := Lib.hid (W2.out.trans (bb.mono W2.out.size))
    have G3 := Lib.hid (G2.out.below bb G2.out.lt)
    obtain ⟨A3, c3, rfl, -, -, rd3, -⟩ := o.slice
    have R3 := Lib.hid rd3
    clear o bb rd3
    go_wp2_with fail
    have hk := (kept_any A3 G (n + 80) c3 n ys.length ys [] w3 (HN.out.trans HY.out.symm) rfl (by
      rw [List.append_nil, spL_eq, HY.out, List.map_append]; exact G3.out) R3.out (by rw [HY.out]; omega) (by rw [HY.out, HN.out]; exact Nat.le_refl _) (by rw [HN.out]; omega))
    refine hk.mono ?_
    rintro e w4 ⟨q, rfl, rfl⟩
    go_wp2_with fail
    go_ret
    exact ⟨rfl, belowN W3.out q⟩
end Go.Proofs.Ytedejkfhgpnhpaa

/-
  Walk: Xor by one call; Skip, At of both streams; left.
-/
import Derived.Test.YtldbmjkecmmmjaaXo
set_option linter.unusedVariables false
set_option linter.unusedSimpArgs false
namespace Go.Proofs.Ytldbmjkecmmmjaa
open Go.RowKit

/-- What Xor by one call answers. -/
def xor1V (ks ns : List Int) (p : Nat) (xs : List Int) (w : World) (e : Ending) (w' : World) : Prop :=
  (274877906944 - p < xs.length ∧ e = .returned (.tuple #[.slice none 0 0, .int .i64 50]) ∧ Below w.heap.size w w') ∨
  (xs.length ≤ 274877906944 - p ∧ ∃ v, e = .returned (.tuple #[v, .int .i64 0]) ∧ Own w' w.heap.size 5 .u8 v (lay ks ns p xs) ∧ Below w.heap.size w w')

set_option maxRecDepth 100000 in
set_option maxHeartbeats 4000000 in
theorem xor1_any (A : Option Addr) (n cap : Nat) (xs ks ns : List Int) (c : Nat) (w : World) (hn : n = xs.length) (hr : Rd w .u8 A xs) (hB : B8 xs) (hl : xs.length ≤ 140737488355328)
    (hk : ks.length = 32) (hns : ns.length = 12) (bk : B8 ks) (bn : B8 ns) (hc : c < 4294967296) :
    Calls Try.prog 20 #[.agg (AY .u8 ks), .agg (AY .u8 ns), .int .u32 (c : Int), .slice A n cap] w (xor1V ks ns (64 * c) xs w) := by
  have HCN : Hid (∀ W, Calls Try.prog 27 #[.agg (AY .u8 ks), .agg (AY .u8 ns), .int .u32 (c : Int)] W fun e w' => ∃ g, e = .returned (.pointer (some ⟨g, 0, none⟩)) ∧ W.heap.size ≤ g ∧ Blk w' g 87 (SGl ks ns (64 * c)) ∧ Below W.heap.size W w') := Lib.hid (fun W => new_any ks ns c W hk hns hc)
  have HCX : Hid (∀ g W, Rd W .u8 A xs → w.heap.size ≤ g → Blk W g 87 (SGl ks ns (64 * c)) → Calls Try.prog 28 #[.pointer (some ⟨g, 0, none⟩), .slice A n cap] W (xorV 87 ks ns (64 * c) xs g .i64 W)) := Lib.hid (fun g W h1 h2 h3 => xor_any g A n cap xs ks ns (64 * c) W hn h1 hB (fun h0 a ha he => by
    obtain ⟨b0, o0, hb0, hc0⟩ := hr 0 h0
    rw [hb0] at ha
    injection ha with ha
    subst ha
    have := World.block_lt_of_cell? w _ hc0
    simp at this he
    omega) hl h3 (by omega) hk hns bk bn)
  have I31 : Hid ((Try.prog.info? 31).map (·.size) = some (AY .u8 ks).size) := Lib.hid (by rw [info31, AY_size, hk])
  have I33 : Hid ((Try.prog.info? 33).map (·.size) = some (AY .u8 ns).size) := Lib.hid (by rw [info33, AY_size, hns])
  have HR := Lib.hid hr
  have HN := Lib.hid hn
  clear hk hns hr hB hl bk bn hn
  go_enter Try.func20, Try.ntmps20
  go_upto_region 1 with fail
  generalize hG : w.heap.size = G
  generalize hW2 : (w.alloc _).alloc _ = w2
  have K2 : Hid (w2.heap[G]? = some (.cells (AY .u8 ks) 31 (0, 0))) := Lib.hid (blk_AY (by rw [← hW2]; exact (AY_new_at .u8 w 31 ks hG.symm).alloc _))
  have N2 : Hid (w2.heap[G + 1]? = some (.cells (AY .u8 ns) 33 (0, 0))) := Lib.hid (blk_AY (by rw [← hW2]; exact (AY_new_at .u8 _ 33 ns (by rw [← hG]; simp))))
  have F2 : Hid (Below G w w2) := Lib.hid (by rw [← hW2]; exact ((Below.refl _ w).alloc (by omega) _).alloc (by simp; omega) _)
  have HGE := Lib.hid hG
  clear hG hW2
  go_wp2_with (first
    | (show wpList _ _ _ ({ dst := some 10, op := _, type := _, pos := _, after := _, guard := _ } :: _) _ _; refine wpList_load_row rfl 31 _ rfl G rfl 31 (AY .u8 ks) (0, 0) _ K2.out Try.underlying31 rfl I31.out ?_)
    | (show wpList _ _ _ ({ dst := some 11, op := _, type := _, pos := _, after := _, guard := _ } :: _) _ _; refine wpList_load_row rfl 33 _ rfl (G + 1) rfl 33 (AY .u8 ns) (0, 0) _ N2.out Try.underlying33 rfl I33.out ?_))
  refine (HCN.out w2).mono ?_
  rintro e w3 ⟨g, rfl, hg, hb, bel⟩
  have F3 : Hid (Below G w w3) := Lib.hid (F2.out.trans (bel.mono (by have := (Array.getElem?_eq_some_iff.1 N2.out).1; omega)))
  have HB3 := Lib.hid hb
  have HGG : Hid (G ≤ g) := Lib.hid (by have := (Array.getElem?_eq_some_iff.1 N2.out).1; omega)
  clear hg hb bel
  go_wp2_with fail
  refine (HCX.out g w3 (HR.out.below (by rw [HGE.out]; exact F3.out)) (by rw [HGE.out]; exact HGG.out) HB3.out).mono ?_
  rintro e w4 (⟨h1, rfl, rfl⟩ | ⟨h1, v, rfl, ho, hb, hf⟩)
  · have H1 := Lib.hid h1
    clear h1
    go_wp2_with fail
    go_ret2
    exact .inl ⟨H1.out, rfl, by rw [HGE.out]; exact F3.out⟩
  · have H1 := Lib.hid h1
    have HO : Hid (Own w4 G 5 .u8 v (lay ks ns (64 * c) xs)) := Lib.hid (ho.lower (by have := F3.out.size; have h := HGE.out; omega))
    have F4 : Hid (Below G w w4) := Lib.hid (F3.out.trans (hf.below (by have := F3.out.size; have h := HGE.out; omega) (fun j hj => by have := HGG.out; omega)))
    clear h1 ho hb hf
    go_wp2_with fail
    go_ret2
    exact .inr ⟨H1.out, _, rfl, by rw [HGE.out]; exact HO.out, by rw [HGE.out]; exact F4.out⟩
end Go.Proofs.Ytldbmjkecmmmjaa

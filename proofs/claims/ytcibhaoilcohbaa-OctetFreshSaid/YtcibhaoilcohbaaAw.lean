/-
  Walks: Unhex of a text, Hex of one byte, awake.
-/
import Derived.Test.YtcibhaoilcohbaaRn
import Derived.Test.YtcibhaoilcohbaaOw
import Derived.StillTailTactics
import Derived.Deep.RegionLaw
import Derived.Laws.BytesArg
set_option linter.unusedVariables false
set_option linter.unusedSimpArgs false
namespace Go.Proofs.Ytcibhaoilcohbaa
open Go.RowKit

theorem value48 (w : World) : Calls Try.prog 73 #[.int .u8 48] w fun e w' => e = .returned (.int .u8 0) ∧ w' = w := by
  go_enter Try.func73, Try.ntmps73
  go_wp2_with fail
  go_ret
  exact ⟨rfl, rfl⟩
theorem value97 (w : World) : Calls Try.prog 73 #[.int .u8 97] w fun e w' => e = .returned (.int .u8 10) ∧ w' = w := by
  go_enter Try.func73, Try.ntmps73
  go_wp2_with fail
  go_ret
  exact ⟨rfl, rfl⟩
theorem value102 (w : World) : Calls Try.prog 73 #[.int .u8 102] w fun e w' => e = .returned (.int .u8 15) ∧ w' = w := by
  go_enter Try.func73, Try.ntmps73
  go_wp2_with fail
  go_ret
  exact ⟨rfl, rfl⟩

theorem value48' (z : Int) (hz : z = 48) (w : World) : Calls Try.prog 73 #[.int .u8 z] w fun e w' => e = .returned (.int .u8 0) ∧ w' = w := by subst hz; exact value48 w
theorem value97' (z : Int) (hz : z = 97) (w : World) : Calls Try.prog 73 #[.int .u8 z] w fun e w' => e = .returned (.int .u8 10) ∧ w' = w := by subst hz; exact value97 w
theorem value102' (z : Int) (hz : z = 102) (w : World) : Calls Try.prog 73 #[.int .u8 z] w fun e w' => e = .returned (.int .u8 15) ∧ w' = w := by subst hz; exact value102 w

set_option maxHeartbeats 1000000 in
theorem unhex_c (w : World) : Calls Try.prog 25 #[.string ⟨#[48, 97, 102, 102]⟩] w fun e w' => ∃ v, e = .returned (.tuple #[v, .int .i64 0]) ∧ Own w' w.heap.size 5 .u8 v [10, 255] ∧ Below w.heap.size w w' := by
  have hm1 : 1 * 2 ≤ 281474976710656 := by decide
  have hm2 : 2 ≤ maxLen := by decide
  have ho1 : bits .or .u8 0 10 = 10 := by decide
  have ho2 : bits .or .u8 240 15 = 255 := by decide
  go_enter Try.func25, Try.ntmps25
  go_wp2_with (refine wpList_make_empty w rfl _ _ 22 rfl w.heap.size 5 .u8 1 Try.underlying22 info5 .i64 .i64 2 rfl rfl hm1 hm2 (Nat.le_refl _) ?_; intro w1 hown0 hfr0)
  have O0 := Lib.hid hown0
  have F0 := Lib.hid (hfr0.below (Nat.le_refl _) (fun k h => h.elim))
  clear hown0 hfr0 hm1 hm2
  go_wp2_with fail
  go_loopw [4, 5] (fun v i wr => ((i = .int .i64 0 ∧ Own wr w.heap.size 5 .u8 v []) ∨ (i = .int .i64 2 ∧ Own wr w.heap.size 5 .u8 v [10]) ∨ (i = .int .i64 4 ∧ Own wr w.heap.size 5 .u8 v [10, 255])) ∧ Hid (Below w.heap.size w wr)) (fun _ i _ => 4 - (intOf i).toNat)
  case atStart => exact ⟨.inl ⟨rfl, O0.out⟩, F0⟩
  case round =>
    clear O0 F0
    obtain ⟨hrel, HW⟩ := hrel
    have hsz := HW.out.size
    rcases hrel with ⟨rfl, ho⟩ | ⟨rfl, ho⟩ | ⟨rfl, ho⟩
    · have HO := Lib.hid ho
      have hc1 : (([] : List Int).length + 1) * 1 ≤ 140737488355328 := by decide
      clear ho
      go_wp2_with fail
      go_quiet (first | (go_at_call 73; first | exact Calls.quiet_of_same (value48' _ (by decide) _) | exact Calls.quiet_of_same (value97' _ (by decide) _) | exact Calls.quiet_of_same (value102' _ (by decide) _)))
      go_wp2_with (first | (at_builtin; refine wpList_push _ rfl _ _ 22 rfl w.heap.size 5 .u8 1 Try.underlying22 info5 _ rfl _ _ rfl rfl (HO.out.drewN _) hc1 (by decide) hsz ?_; intro v' w1 hown1 hfr1))
      have hown2 : Own w1 w.heap.size 5 .u8 v' [10] := own_cast (xs := []) hown1 (by first | rfl | exact ho1 | exact ho2 | simp [ho1, ho2])
      have HW1 := Lib.hid ((belowN HW.out _).trans (hfr1.below hsz (fun g hg => (HO.out.base_le hg).1)))
      clear hown1 hfr1
      go_wp2_with fail
      go_roundw
      case rel => exact ⟨.inr (.inl ⟨rfl, hown2⟩), HW1⟩
      case measure => simp [intOf]
    · have HO := Lib.hid ho
      have hc1 : (([10] : List Int).length + 1) * 1 ≤ 140737488355328 := by decide
      clear ho
      go_wp2_with fail
      go_quiet (first | (go_at_call 73; first | exact Calls.quiet_of_same (value48' _ (by decide) _) | exact Calls.quiet_of_same (value97' _ (by decide) _) | exact Calls.quiet_of_same (value102' _ (by decide) _)))
      go_wp2_with (first | (at_builtin; refine wpList_push _ rfl _ _ 22 rfl w.heap.size 5 .u8 1 Try.underlying22 info5 _ rfl _ _ rfl rfl (HO.out.drewN _) hc1 (by decide) hsz ?_; intro v' w1 hown1 hfr1))
      have hown2 : Own w1 w.heap.size 5 .u8 v' [10, 255] := own_cast (xs := [10]) hown1 (by first | rfl | exact ho1 | exact ho2 | simp [ho1, ho2])
      have HW1 := Lib.hid ((belowN HW.out _).trans (hfr1.below hsz (fun g hg => (HO.out.base_le hg).1)))
      clear hown1 hfr1
      go_wp2_with fail
      go_roundw
      case rel => exact ⟨.inr (.inr ⟨rfl, hown2⟩), HW1⟩
      case measure => simp [intOf]
    · have HO := Lib.hid ho
      clear ho
      go_wp2_with fail
      go_ret2
      exact ⟨_, rfl, HO.out, HW.out⟩

theorem own_two {w : World} {base T : Nat} {k : IntKind} {v : Value} {y y2 z z2 : Int} (h : Own w base T k v ([] ++ [y, y2])) (e : y = z) (e2 : y2 = z2) : Own w base T k v [z, z2] := by subst e e2; exact h
/-- append(v, x, y) of numbers, at a step of a region that draws. -/
theorem step_push2 {P : Program} (w : World) {W : World} {ops : Array Oper} {o : Oper} {a : Act} {K : Act → World → Prop} {Q : Exit → Act → World → Prop} {E : Prop} (hgd : o.guard = none) (s x : Operand) (t : TypeId)
    (ho : o.op = Op.call { callee := Callee.builtin Builtin.append, args := #[s, x], argTypes := #[t, t] })
    (base : Nat) (e : TypeId) (k : IntKind) (bytes : Nat) (ht : P.underlying t = some (.slice e)) (hinfo : (P.info? e).map (fun i => (i.zero, i.size, i.bytes)) = some (some (.int k 0), 1, bytes))
    (y y2 : Int) (hW : W = w.alloc (.cells #[.int k y, .int k y2] e)) (v : Value) (xs : List Int) (hs : a.eval s = v) (hx : a.eval x = .slice (some ⟨w.heap.size, 0, none⟩) 2 2) (hown : Own w base e k v xs)
    (hbytes : (xs.length + 2) * bytes ≤ 140737488355328) (hb0 : 0 < bytes) (hbase : base ≤ w.heap.size)
    (h : ∀ v' w', Own w' base e k v' (xs ++ [y, y2]) → Fr (fun g => v.ownBlock = some g) w w' → K (a.put o.dst v') w') :
    if Region.wanted o (yielded ops a.tmps) = true then Oper.wp P o a W K Q else E := by
  have hw : Region.wanted o (yielded ops a.tmps) = true := by simp [Region.wanted, hgd]
  rw [if_pos hw]
  subst hW
  obtain ⟨i0, hi, hz0, hz1, hz2⟩ := info_parts hinfo
  have hlen : xs.length + 2 ≤ 140737488355328 := Nat.le_trans (Nat.le_mul_of_pos_right _ hb0) hbytes
  have hB := Blk.new w e [.int k y, .int k y2]
  refine wp_append_own (w.alloc (.cells #[.int k y, .int k y2] e)) s x t ho base e i0 (.int k 0) 1 bytes ht hi hz0 hz1 hz2 rfl (by decide) v xs.length (xs.map (Value.int k)) hs (hown.alloc _) ⟨w.heap.size, 0, none⟩ 2 2 [.int k y, .int k y2] hx rfl
    (fun j u hu => ?_) (fun u hu => by simp at hu; rcases hu with rfl | rfl <;> rfl) (by unfold maxLen; omega) hbytes (by simp; omega) (fun v' w' hown' hgrow _ => h v' w' ?_ ?_)
  · have hj : j = 0 ∨ j = 1 := by have := (List.getElem?_eq_some_iff.1 hu).1; simp at this; omega
    rcases hj with rfl | rfl
    · simp at hu; subst hu; exact hB.cell 0
    · simp at hu; subst hu; exact hB.cell 1
  · unfold Own; simpa using hown'
  · exact ((Fr.refl _ w).alloc _).grown hgrow (fun g hg => .inl hg)

set_option maxRecDepth 100000 in
set_option maxHeartbeats 1000000 in
theorem hex_c (g : Nat) (w : World) (hg : w.cell? ⟨g, 0, none⟩ = some (.int .u8 16)) : Calls Try.prog 23 #[.slice (some ⟨g, 0, none⟩) 1 1] w fun e w' => e = .returned (.string ⟨#[49, 48]⟩) ∧ Below w.heap.size w w' := by
  have hm1 : 1 * 2 ≤ 281474976710656 := by decide
  have hm2 : 2 ≤ maxLen := by decide
  have ha : bits .and .u8 16 15 = 0 := by decide
  have HGG := Lib.hid hg
  have hlt := World.block_lt_of_cell? w _ hg
  clear hg
  go_enter Try.func23, Try.ntmps23
  go_wp2_with (refine wpList_make_empty w rfl _ _ 22 rfl w.heap.size 5 .u8 1 Try.underlying22 info5 .i64 .i64 2 rfl rfl hm1 hm2 (Nat.le_refl _) ?_; intro w1 hown0 hfr0)
  have O0 := Lib.hid hown0
  have F0 := Lib.hid (hfr0.below (Nat.le_refl _) (fun k h => h.elim))
  clear hown0 hfr0 hm1 hm2
  go_wp2_with fail
  go_loopw [3, 12] (fun v i wr => ((i = .int .i64 0 ∧ Own wr w.heap.size 5 .u8 v []) ∨ (i = .int .i64 1 ∧ Own wr w.heap.size 5 .u8 v [49, 48])) ∧ Hid (Below w.heap.size w wr)) (fun _ i _ => 1 - (intOf i).toNat)
  case atStart => exact ⟨.inl ⟨rfl, O0.out⟩, F0⟩
  case round =>
    clear O0 F0
    obtain ⟨hrel, HW⟩ := hrel
    have hsz := HW.out.size
    rcases hrel with ⟨rfl, ho⟩ | ⟨rfl, ho⟩
    · have HO := Lib.hid ho
      have hcell : wr.cell? ⟨g, 0, none⟩ = some (.int .u8 16) := (HW.out.cell hlt).trans HGG.out
      have hc1 : (([] : List Int).length + 2) * 1 ≤ 140737488355328 := by decide
      clear ho
      go_wp2_with fail
      go_region_law (first | (refine step_push2 wr.drew rfl _ _ 22 rfl w.heap.size 5 .u8 1 Try.underlying22 info5 _ _ rfl _ [] rfl rfl (by first | exact HO.out | exact HO.out.below ((Below.refl _ wr).drew)) hc1 (by decide) hsz ?_; intro v' w1 hown1 hfr1))
      all_goals (
        have HW1 : Hid (Below w.heap.size w w1) := Lib.hid (by first | exact HW.out.trans (hfr1.below hsz (fun g hg => (HO.out.base_le hg).1)) | exact HW.out.drew.trans (hfr1.below hsz (fun g hg => (HO.out.base_le hg).1)))
        have hown2 : Own w1 w.heap.size 5 .u8 v' [49, 48] := own_two hown1 (by decide) (by decide)
        clear hown1 hfr1
        go_wp2_with fail
        exact ⟨⟨.inr ⟨rfl, hown2⟩, HW1⟩, by simp [intOf]⟩)
    · have HO := Lib.hid ho
      clear ho
      rcases HO.out.form with ⟨_, h0⟩ | ⟨b, c, rest, rfl, -, hB, -, -⟩
      · cases h0
      · have c0 : wr.cell? ⟨b, 0, none⟩ = some (.int .u8 49) := hB.cell 0
        have c1 : wr.cell? ⟨b, 1, none⟩ = some (.int .u8 48) := hB.cell 1
        rw [show ([49, 48] : List Int).length = 2 from rfl]
        clear hB
        go_wp2_with fail
        rw [run_convert_bytes_arg wr 22 5 Try.underlying22 Try.underlying5 b 0 2 c [49, 48] rfl (fun i hi => by
          have hi2 : i = 0 ∨ i = 1 := by omega
          rcases hi2 with rfl | rfl
          · exact c0
          · exact c1) 9 Try.underlying9]
        have hstr : strOfNums [49, 48] = ⟨#[49, 48]⟩ := by rfl
        rw [hstr]
        go_wp2_with fail
        go_ret
        exact ⟨rfl, HW.out⟩

theorem b8_c : B8 [4, 3, 2, 1] := fun i => by
  have h : i = 0 ∨ i = 1 ∨ i = 2 ∨ i = 3 ∨ 4 ≤ i := by omega
  rcases h with rfl | rfl | rfl | rfl | h
  · decide
  · decide
  · decide
  · decide
  · rw [show ([4, 3, 2, 1] : List Int).getD i 0 = 0 from by simp [List.getD, List.getElem?_eq_none (show ([4, 3, 2, 1] : List Int).length ≤ i from h)]]; decide

set_option maxRecDepth 100000 in
set_option maxHeartbeats 1000000 in
theorem awake_any (w : World) : Calls Try.prog 44 #[] w fun e w' => e = .returned (.bool true) ∧ Below w.heap.size w w' := by
  have hl : ([] : List Int) ++ leN 16909060 4 = [4, 3, 2, 1] := by decide
  have hv : litR [4, 3, 2, 1] 4 4 = 16909060 := by decide
  have he : errR 4 4 = 0 := by decide
  have HLL := Lib.hid hl
  have HVV := Lib.hid hv
  have HEE := Lib.hid he
  have HB := Lib.hid b8_c
  clear hl hv he
  go_enter Try.func44, Try.ntmps44
  go_wp2_with fail
  refine (pl32_any none 0 0 [] 16909060 w rfl (Rd.nil _ _ _) (by decide) (by decide)).mono ?_
  rintro e w1 ⟨v1, rfl, o1, b1⟩
  rw [HLL.out] at o1
  have W1 := Lib.hid b1
  rcases o1.form with ⟨_, h0⟩ | ⟨g1, c1, r1, rfl, -, hB1, -, -⟩
  · cases h0
  have R1 := Lib.hid (blk_rd hB1)
  rw [show ([4, 3, 2, 1] : List Int).length = 4 from rfl]
  clear o1 b1 hB1
  go_wp2_with fail
  refine (little32_any _ 4 c1 [4, 3, 2, 1] w1 rfl R1.out HB.out).mono ?_
  rintro e w' ⟨rfl, rfl⟩
  rw [HVV.out, HEE.out]
  go_wp2_with fail
  refine (unhex_c _).mono ?_
  rintro e w2 ⟨v2, rfl, o2, b2⟩
  have W2 := Lib.hid (W1.out.trans (b2.mono W1.out.size))
  rcases o2.form with ⟨_, h0⟩ | ⟨g2, c2, r2, rfl, -, hB2, -, -⟩
  · cases h0
  have hcell : w2.cell? ⟨g2, 1, none⟩ = some (.int .u8 255) := hB2.cell 1
  rw [show ([10, 255] : List Int).length = 2 from rfl]
  have HH := Lib.hid (hex_c w2.heap.size (w2.alloc (.cells #[.int .u8 16] 5)) ((Blk.new w2 5 [.int .u8 16]).cell 0))
  have WA := Lib.hid ((Below.refl w2.heap.size w2).alloc (Nat.le_refl _) (.cells #[.int .u8 16] 5))
  clear o2 b2 hB2
  go_wp2_with fail
  refine HH.out.mono ?_
  rintro e w3 ⟨rfl, b3⟩
  have W3 : Hid (Below w.heap.size w w3) := Lib.hid ((W2.out.trans (WA.out.mono W2.out.size)).trans (b3.mono (Nat.le_trans W2.out.size WA.out.size)))
  clear b3
  go_wp2_with fail
  go_ret
  exact ⟨rfl, W3.out⟩

theorem names_any (w : World) : Calls Try.prog 9 #[] w fun e w' => e = .returned (.bool true) ∧ Below w.heap.size w w' := by
  go_enter Try.func9, Try.ntmps9
  go_wp2_with fail
  refine (awake_any w).mono ?_
  rintro e w1 ⟨rfl, b1⟩
  have W1 := Lib.hid b1
  clear b1
  go_wp2_with fail
  go_ret
  exact ⟨rfl, W1.out⟩
end Go.Proofs.Ytcibhaoilcohbaa

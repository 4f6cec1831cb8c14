/-
  Walk: the document's digit and Hex.
-/
import Derived.Test.YtcibhaoilcohbaaHx
set_option linter.unusedVariables false
set_option linter.unusedSimpArgs false
namespace Go.Proofs.Ytcibhaoilcohbaa
open Go.RowKit

theorem digit_any (m : Nat) (hm : m < 16) (w : World) : Calls Try.prog 72 #[.int .u8 (m : Int)] w fun e w' => e = .returned (.string (strOfNums [hexd m])) ∧ w' = w := by
  revert m
  refine lt16 (P := fun m => Calls Try.prog 72 #[.int .u8 (m : Int)] w fun e w' => e = .returned (.string (strOfNums [hexd m])) ∧ w' = w) ⟨?_, ?_, ?_, ?_, ?_, ?_, ?_, ?_, ?_, ?_, ?_, ?_, ?_, ?_, ?_, ?_⟩ <;>
  (go_enter Try.func72, Try.ntmps72
   go_wp2_with fail
   go_ret
   exact ⟨rfl, rfl⟩)

theorem own_strCells {w : World} {base T : Nat} {v : Value} {n : Nat} {xs ys : List Int} (h : w.ownsRow base T 1 v n (xs.map (Value.int .u8) ++ Lib.strCells (strOfNums ys))) (hn : n = xs.length + ys.length) (hy : B8 ys) : Own w base T .u8 v (xs ++ ys) := by
  have e : Lib.strCells (strOfNums ys) = ys.map (Value.int .u8) := by
    unfold Lib.strCells
    rw [strOfNums_data, List.map_map]
    apply List.map_congr_left
    intro y hyy
    obtain ⟨i, hi, rfl⟩ := List.getElem_of_mem hyy
    have := hy i
    rw [show ys.getD i 0 = ys[i] from by simp [List.getD, hi]] at this
    simp
    omega
  subst hn
  rw [e] at h
  unfold Own
  simpa using h
/-- append(v, s...), s a string of bytes. -/
theorem wp_pushes_str {P : Program} (w : World) {o : Oper} {a : Act} {K : Act → World → Prop} {Q : Exit → Act → World → Prop} (s x : Operand) (t u : TypeId)
    (ho : o.op = Op.call { callee := Callee.builtin Builtin.append, args := #[s, x], argTypes := #[t, u] })
    (base : Nat) (e : TypeId) (ht : P.underlying t = some (.slice e)) (hu : P.underlying u = some .string) (hinfo : (P.info? e).map (fun i => (i.zero, i.size, i.bytes)) = some (some (.int .u8 0), 1, 1))
    (v : Value) (xs : List Int) (hs : a.eval s = v) (hown : Own w base e .u8 v xs) (ys : List Int) (hx : a.eval x = .string (strOfNums ys)) (hy : B8 ys)
    (hbytes : xs.length + ys.length ≤ 140737488355328) (hbase : base ≤ w.heap.size)
    (h : ∀ v' w', Own w' base e .u8 v' (xs ++ ys) → Fr (fun g => v.ownBlock = some g) w w' → K (a.put o.dst v') w') :
    o.wp P a w K Q := by
  obtain ⟨i0, hi, hz0, hz1, hz2⟩ := info_parts hinfo
  obtain ⟨v', w', h1, h2, h3, _⟩ := Lib.run_append_own_string (P := P) w base t u o.type e i0 ht hu hi hz0 hz1 hz2 v xs.length (xs.map (Value.int .u8)) hown (strOfNums ys) (by rw [strOfNums_size]; unfold maxLen; omega) (by rw [strOfNums_size]; omega) hbase
  have hn := h v' w' (own_strCells h2 (by rw [strOfNums_size]) hy) ((Fr.refl _ w).grown h3 (fun g hg => .inl hg))
  unfold Oper.wp execOp
  simp only [ho, resolve, invoke, builtin, Sem.run_bind, Sem.run_pure, Result.andThen_ok, List.map_toArray, List.map_cons, List.map_nil, hs, hx, h1]
  exact hn
theorem step_pushes_str {P : Program} (w : World) {ops : Array Oper} {o : Oper} {a : Act} {K : Act → World → Prop} {Q : Exit → Act → World → Prop} {E : Prop} (hgd : o.guard = none) (s x : Operand) (t u : TypeId)
    (ho : o.op = Op.call { callee := Callee.builtin Builtin.append, args := #[s, x], argTypes := #[t, u] })
    (base : Nat) (e : TypeId) (ht : P.underlying t = some (.slice e)) (hu : P.underlying u = some .string) (hinfo : (P.info? e).map (fun i => (i.zero, i.size, i.bytes)) = some (some (.int .u8 0), 1, 1))
    (v : Value) (xs : List Int) (hs : a.eval s = v) (hown : Own w base e .u8 v xs) (ys : List Int) (hx : a.eval x = .string (strOfNums ys)) (hy : B8 ys)
    (hbytes : xs.length + ys.length ≤ 140737488355328) (hbase : base ≤ w.heap.size)
    (h : ∀ v' w', Own w' base e .u8 v' (xs ++ ys) → Fr (fun g => v.ownBlock = some g) w w' → K (a.put o.dst v') w') :
    if Region.wanted o (yielded ops a.tmps) = true then Oper.wp P o a w K Q else E := by
  have hw : Region.wanted o (yielded ops a.tmps) = true := by simp [Region.wanted, hgd]
  rw [if_pos hw]
  exact wp_pushes_str w s x t u ho base e ht hu hinfo v xs hs hown ys hx hy hbytes hbase h
theorem wpList_pushes_str {P : Program} (w : World) {ops : Array Oper} {rest : List Oper} {o : Oper} {a : Act} {Q : Exit → Act → World → Prop} (hgd : o.guard = none) (s x : Operand) (t u : TypeId)
    (ho : o.op = Op.call { callee := Callee.builtin Builtin.append, args := #[s, x], argTypes := #[t, u] })
    (base : Nat) (e : TypeId) (ht : P.underlying t = some (.slice e)) (hu : P.underlying u = some .string) (hinfo : (P.info? e).map (fun i => (i.zero, i.size, i.bytes)) = some (some (.int .u8 0), 1, 1))
    (v : Value) (xs : List Int) (hs : a.eval s = v) (hown : Own w base e .u8 v xs) (ys : List Int) (hx : a.eval x = .string (strOfNums ys)) (hy : B8 ys)
    (hbytes : xs.length + ys.length ≤ 140737488355328) (hbase : base ≤ w.heap.size)
    (h : ∀ v' w', Own w' base e .u8 v' (xs ++ ys) → Fr (fun g => v.ownBlock = some g) w w' → wpList P ops Q rest (a.put o.dst v') w') :
    wpList P ops Q (o :: rest) a w :=
  wpList_plain hgd fun K hK => wp_pushes_str w s x t u ho base e ht hu hinfo v xs hs hown ys hx hy hbytes hbase (fun v' w' h1 h2 => hK _ _ (h v' w' h1 h2))

theorem hexd_b8 (n : Nat) (h : n < 16) : B8 [hexd n] := fun i => by
  cases i with
  | zero => exact hexd_u8 n h
  | succ i => simp
theorem hexL_b8 {xs : List Int} (h : B8 xs) : B8 (hexL xs) := by
  have : ∀ x ∈ hexL xs, 0 ≤ x ∧ x ≤ 255 := by
    intro x hx
    unfold hexL at hx
    obtain ⟨y, hy, hx⟩ := List.mem_flatMap.1 hx
    obtain ⟨i, hi, rfl⟩ := List.getElem_of_mem hy
    have hb := h i
    rw [show xs.getD i 0 = xs[i] from by simp [List.getD, hi]] at hb
    simp [hx2] at hx
    rcases hx with rfl | rfl
    · exact hexd_u8 _ (by omega)
    · exact hexd_u8 _ (by omega)
  intro i
  by_cases hi : i < (hexL xs).length
  · rw [show (hexL xs).getD i 0 = (hexL xs)[i] from by simp [List.getD, hi]]
    exact this _ (List.getElem_mem hi)
  · rw [show (hexL xs).getD i 0 = 0 from by simp [List.getD, Nat.le_of_not_lt hi]]; omega
theorem u9str : Try.prog.underlying 9 = some .string := Try.underlying9

set_option maxRecDepth 100000 in
set_option maxHeartbeats 2000000 in
theorem rhex_any (A : Option Addr) (n c : Nat) (xs : List Int) (w : World) (hn : n = xs.length) (hr : Rd w .u8 A xs) (hB : B8 xs) (hl : xs.length ≤ 70368744177000) :
    Calls Try.prog 24 #[.slice A n c] w fun e w' => e = .returned (.string (strOfNums (hexL xs))) ∧ Below w.heap.size w w' := by
  have HN := Lib.hid hn
  have HR := Lib.hid hr
  have HB := Lib.hid hB
  have hn63 : n ≤ 70368744177000 := by omega
  have O0 : Hid (Own w w.heap.size 5 .u8 (.slice none 0 0) []) := Lib.hid (Own.nil _ _ _ _)
  clear hn hr hB
  go_enter Try.func24, Try.ntmps24
  go_wp2_with fail
  go_loopw [3, 4] (fun v i wr => ∃ k : Nat, k ≤ n ∧ i = .int .i64 k ∧ Own wr w.heap.size 5 .u8 v (hexL (xs.take k)) ∧ Hid (Below w.heap.size w wr)) (fun _ i _ => n - (intOf i).toNat)
  case atStart => exact ⟨0, Nat.zero_le _, rfl, O0.out, Lib.hid (Below.refl _ _)⟩
  case round =>
    clear O0
    obtain ⟨k, hk, rfl, ho, HW⟩ := hrel
    have hsz := HW.out.size
    have HO := Lib.hid ho
    clear ho
    by_cases hlt : k < n
    · obtain ⟨b, off, y, rfl, hc, HY⟩ := (HR.out.below HW.out).at k (by have := HN.out; omega)
      obtain ⟨Y, hY⟩ : ∃ Y : Nat, y = (Y : Int) := ⟨y.toNat, by have := HB.out k; have := HY.out; omega⟩
      have hY8 : Y < 256 := by have := HB.out k; have := HY.out; omega
      subst hY
      obtain ⟨Z1, hZ1⟩ : ∃ Z, Z = Y / 16 := ⟨_, rfl⟩
      obtain ⟨Z2, hZ2⟩ : ∃ Z, Z = Y % 16 := ⟨_, rfl⟩
      have hz1 : (Y : Int) / 16 = (Z1 : Int) := by omega
      have hz2 : (Y : Int) % 16 = (Z2 : Int) := by omega
      have l1 : Z1 < 16 := by omega
      have l2 : Z2 < 16 := by omega
      have HZ : Hid (Z1 = Y / 16 ∧ Z2 = Y % 16) := Lib.hid ⟨hZ1, hZ2⟩
      have HCELL : Hid (∀ W, Below w.heap.size w W → W.cell? ⟨b, off + k, none⟩ = some (.int .u8 (Y : Int))) := Lib.hid (fun W hW => by
        obtain ⟨b', off', hA, hc'⟩ := (HR.out.below hW) k (by have := HN.out; omega)
        cases hA
        rw [hc', HY.out])
      clear hZ1 hZ2
      have hc1 : (hexL (xs.take k)).length + [hexd Z1].length ≤ 140737488355328 := by rw [hexL_len, List.length_take]; simp; omega
      have hc2 : (hexL (xs.take k) ++ [hexd Z1]).length + [hexd Z2].length ≤ 140737488355328 := by rw [List.length_append, hexL_len, List.length_take]; simp; omega
      go_wp2_with fail
      refine (digit_any Z1 l1 wr).mono ?_
      rintro e w' ⟨rfl, rfl⟩
      go_wp2_with (refine wpList_pushes_str _ rfl _ _ 22 9 rfl w.heap.size 5 Try.underlying22 u9str info5 _ (hexL (xs.take k)) rfl HO.out [hexd Z1] rfl (hexd_b8 Z1 l1) hc1 hsz ?_; intro v1 w1 hown1 hfr1; have O1 := Lib.hid hown1; have W1 := Lib.hid (HW.out.trans (hfr1.below hsz (fun g hg => (HO.out.base_le hg).1))); have hcc := HCELL.out _ W1.out; have hsz1 := W1.out.size; clear hown1 hfr1)
      refine (digit_any Z2 l2 w1).mono ?_
      rintro e w' ⟨rfl, rfl⟩
      go_wp2_with (refine wpList_pushes_str _ rfl _ _ 22 9 rfl w.heap.size 5 Try.underlying22 u9str info5 _ (hexL (xs.take k) ++ [hexd Z1]) rfl O1.out [hexd Z2] rfl (hexd_b8 Z2 l2) hc2 hsz1 ?_; intro v2 w2 hown2 hfr2)
      have O2 : Own w2 w.heap.size 5 .u8 v2 (hexL (xs.take (k + 1))) := by
        rw [take_snocI xs k (by have := HN.out; omega), hexL_snoc, ← HY.out, Int.toNat_natCast, ← HZ.out.1, ← HZ.out.2]
        rw [List.append_assoc] at hown2
        exact hown2
      have W2 := Lib.hid (W1.out.trans (hfr2.below hsz1 (fun g hg => (O1.out.base_le hg).1)))
      clear hown2 hfr2
      go_wp2_with fail
      go_roundw
      case rel => exact ⟨k + 1, by omega, by go_num, O2, W2⟩
      case measure => simp [intOf]; omega
    · have hge : decide ((k : Int) < (n : Int)) = false := by simp; omega
      have hkn : k = xs.length := by have := HN.out; omega
      have HK := Lib.hid hkn
      clear hkn
      have hO := HO.out
      rw [HK.out, List.take_length] at hO
      rcases hO.form with ⟨rfl, h0⟩ | ⟨b, c, rest, rfl, -, hB, -, -⟩
      · have H0 := Lib.hid h0
        clear h0 hO HO
        go_wp2_with fail
        rw [run_convert_bytes_nil wr 22 5 Try.underlying22 Try.underlying5 0 0 9 Try.underlying9]
        go_wp2_with fail
        go_ret
        exact ⟨by rw [H0.out]; rfl, HW.out⟩
      · have HC : Hid (∀ i, i < (hexL xs).length → wr.cell? ⟨b, 0 + i, none⟩ = some (.int .u8 ((hexL xs).getD i 0))) := Lib.hid (fun i hi => by
          obtain ⟨b', off', hA, hc⟩ := blk_rd hB i hi
          cases hA
          exact hc)
        clear hO HO hB
        generalize hLL : hexL xs = LL at HC
        have HLL := Lib.hid hLL
        clear hLL
        go_wp2_with fail
        rw [run_convert_bytes_arg wr 22 5 Try.underlying22 Try.underlying5 b 0 _ c LL rfl HC.out 9 Try.underlying9]
        go_wp2_with fail
        go_ret
        exact ⟨by rw [HLL.out]; rfl, HW.out⟩
end Go.Proofs.Ytcibhaoilcohbaa

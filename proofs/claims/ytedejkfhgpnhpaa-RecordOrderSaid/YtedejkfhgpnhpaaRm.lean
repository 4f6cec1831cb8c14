/-
  Walk: the document's Make.
-/
import Derived.Test.YtedejkfhgpnhpaaJo
import Derived.Test.YtedejkfhgpnhpaaPu
import Derived.Deep.RegionWith
import Derived.Deep.RegionHeld3
set_option linter.unusedVariables false
set_option linter.unusedSimpArgs false
namespace Go.Proofs.Ytedejkfhgpnhpaa
open Go.RowKit

/-- A slice of these bytes. -/
def RdS (W : World) (s : Value) (xs : List Int) : Prop := ∃ A c, s = .slice A xs.length c ∧ Rd W .u8 A xs
theorem RdS.mk' {W : World} {A : Option Addr} {n c : Nat} {xs : List Int} (hn : n = xs.length) (h : Rd W .u8 A xs) : RdS W (.slice A n c) xs := ⟨A, c, by rw [hn], h⟩
theorem Rd.alloc' {w : World} {k : IntKind} {A : Option Addr} {xs : List Int} (h : Rd w k A xs) (o : Obj) : Rd (w.alloc o) k A xs := h.below ((Below.refl _ w).alloc (Nat.le_refl _) o)
theorem Rd.draw1 {w : World} {k : IntKind} {A : Option Addr} {xs : List Int} (h : Rd w k A xs) : Rd w.drew k A xs := h
theorem parts5 {W : World} {s0 s1 s2 s3 s4 : Value} {x0 x1 x2 x3 x4 : List Int} (h0 : RdS W s0 x0) (h1 : RdS W s1 x1) (h2 : RdS W s2 x2) (h3 : RdS W s3 x3) (h4 : RdS W s4 x4) :
    Parts (W.alloc (.cells #[s0, s1, s2, s3, s4] 27)) W.heap.size [(s0, x0), (s1, x1), (s2, x2), (s3, x3), (s4, x4)] := by
  have hB := Blk.new W 27 [s0, s1, s2, s3, s4]
  have up : ∀ {s x}, RdS W s x → ∃ A c, s = .slice A (x : List Int).length c ∧ Rd (W.alloc (.cells #[s0, s1, s2, s3, s4] 27)) .u8 A x := fun ⟨A, c, h1, h2⟩ => ⟨A, c, h1, h2.alloc' _⟩
  refine ⟨fun j hj => ?_, fun j hj => ?_⟩
  · have h5 : j = 0 ∨ j = 1 ∨ j = 2 ∨ j = 3 ∨ j = 4 := by simp at hj; omega
    rcases h5 with rfl | rfl | rfl | rfl | rfl
    · exact hB.cell 0
    · exact hB.cell 1
    · exact hB.cell 2
    · exact hB.cell 3
    · exact hB.cell 4
  · have h5 : j = 0 ∨ j = 1 ∨ j = 2 ∨ j = 3 ∨ j = 4 := by simp at hj; omega
    rcases h5 with rfl | rfl | rfl | rfl | rfl
    · exact up h0
    · exact up h1
    · exact up h2
    · exact up h3
    · exact up h4
theorem flat_five (s0 s1 s2 s3 s4 : Value) (x0 x1 x2 x3 x4 : List Int) : flat [(s0, x0), (s1, x1), (s2, x2), (s3, x3), (s4, x4)] = x0 ++ x1 ++ x2 ++ x3 ++ x4 := by simp [flat]
theorem rdlf (W : World) (l f : Nat) : Rd (W.alloc (.cells #[.int .u8 l, .int .u8 f] 5)) .u8 (some ⟨W.heap.size, 0, none⟩) [(l : Int), (f : Int)] := blk_rd0 (kd := .u8) (xs := [(l : Int), (f : Int)]) (Blk.new W 5 [.int .u8 l, .int .u8 f])

/-- Join of five lists that are laid at once. -/
theorem join5 {W : World} {s0 s1 s2 s3 s4 : Value} (x0 x1 x2 x3 x4 : List Int) (h0 : RdS W s0 x0) (h1 : RdS W s1 x1) (h2 : RdS W s2 x2) (h3 : RdS W s3 x3) (h4 : RdS W s4 x4) (hl : (x0 ++ x1 ++ x2 ++ x3 ++ x4).length ≤ 140737488355328) :
    Calls Try.prog 34 #[.slice (some ⟨W.heap.size, 0, none⟩) 5 5] (W.alloc (.cells #[s0, s1, s2, s3, s4] 27)) (Made 5 .u8 (x0 ++ x1 ++ x2 ++ x3 ++ x4) (W.alloc (.cells #[s0, s1, s2, s3, s4] 27))) := by
  have := join_any W.heap.size 5 5 [(s0, x0), (s1, x1), (s2, x2), (s3, x3), (s4, x4)] _ rfl (parts5 h0 h1 h2 h3 h4) (by simp) (by rw [flat_five]; exact hl)
  rw [flat_five] at this
  exact this

/-- What is known of a world behind some calls: all that lay below B is as it was, and these lists are read. -/
def Seen (B : Nat) (wr W : World) (ls : List (Option Addr × List Int)) : Prop := Below B wr W ∧ B ≤ W.heap.size ∧ ∀ p ∈ ls, Rd W .u8 p.1 p.2
theorem Seen.drew {B : Nat} {wr W : World} {ls : List (Option Addr × List Int)} (h : Hid (Seen B wr W ls)) : Hid (Seen B wr W.drew ls) := Lib.hid ⟨h.out.1.drew, h.out.2.1, fun p hp => (h.out.2.2 p hp).draw1⟩
theorem Seen.lf {B : Nat} {wr W : World} {ls : List (Option Addr × List Int)} (l f : Nat) (h : Hid (Seen B wr W ls)) : Hid (Seen B wr (W.alloc (.cells #[.int .u8 l, .int .u8 f] 5)) ((some ⟨W.heap.size, 0, none⟩, [(l : Int), (f : Int)]) :: ls)) := by
  refine Lib.hid ⟨h.out.1.alloc h.out.2.1 _, by have := h.out.2.1; simp; omega, fun p hp => ?_⟩
  rcases List.mem_cons.1 hp with rfl | hp
  · exact rdlf W l f
  · exact (h.out.2.2 p hp).alloc' _
theorem Seen.next {B : Nat} {wr W W' : World} {ls : List (Option Addr × List Int)} (h : Hid (Seen B wr W ls)) (hb : Below W.heap.size W W') {A : Option Addr} {xs : List Int} (hr : Rd W' .u8 A xs) : Hid (Seen B wr W' ((A, xs) :: ls)) := by
  refine Lib.hid ⟨h.out.1.trans (hb.mono h.out.2.1), by have := h.out.2.1; have := hb.size; omega, fun p hp => ?_⟩
  rcases List.mem_cons.1 hp with rfl | hp
  · exact hr
  · exact (h.out.2.2 p hp).below hb
theorem Seen.little {B : Nat} {wr W : World} {ls : List (Option Addr × List Int)} (X : Nat) (hX : X < 18446744073709551616) (h : Hid (Seen B wr W ls)) :
    Calls Try.prog 35 #[.int .u64 X, .int .i64 4] W fun e w' => ∃ A c, e = .returned (.slice A 4 c) ∧ Hid (Seen B wr w' ((A, leN X 4) :: ls)) := by
  refine (rlittle_any X W hX).mono ?_
  rintro e w' ⟨v, rfl, o, b⟩
  obtain ⟨A, c, rfl, -, -, rd, -⟩ := o.slice
  exact ⟨A, c, by rw [leN_len], Seen.next h b rd⟩
theorem Seen.join {B : Nat} {wr W : World} {ls : List (Option Addr × List Int)} (h : Hid (Seen B wr W ls)) {A0 A1 A2 A3 A4 : Option Addr} {c0 c1 c2 c3 c4 n0 n1 n2 n3 n4 : Nat} (x0 x1 x2 x3 x4 : List Int)
    (m0 : (A0, x0) ∈ ls) (m1 : (A1, x1) ∈ ls) (m2 : (A2, x2) ∈ ls) (m3 : (A3, x3) ∈ ls) (m4 : (A4, x4) ∈ ls) (l0 : Hid (n0 = x0.length)) (l1 : Hid (n1 = x1.length)) (l2 : Hid (n2 = x2.length)) (l3 : Hid (n3 = x3.length)) (l4 : Hid (n4 = x4.length))
    (hl : Hid ((x0 ++ x1 ++ x2 ++ x3 ++ x4).length ≤ 140737488355328)) {G : Nat} (hG : Hid (G = W.heap.size)) :
    Calls Try.prog 34 #[.slice (some ⟨G, 0, none⟩) 5 5] (W.alloc (.cells #[.slice A0 n0 c0, .slice A1 n1 c1, .slice A2 n2 c2, .slice A3 n3 c3, .slice A4 n4 c4] 27)) fun e w' => ∃ v, e = .returned v ∧ Hid (Own w' B 5 .u8 v (x0 ++ x1 ++ x2 ++ x3 ++ x4)) ∧ Hid (Below B wr w') := by
  rw [hG.out]
  refine (join5 x0 x1 x2 x3 x4 (RdS.mk' l0.out (h.out.2.2 _ m0)) (RdS.mk' l1.out (h.out.2.2 _ m1)) (RdS.mk' l2.out (h.out.2.2 _ m2)) (RdS.mk' l3.out (h.out.2.2 _ m3)) (RdS.mk' l4.out (h.out.2.2 _ m4)) hl.out).mono ?_
  rintro e w' ⟨v, rfl, o, b⟩
  have hs := h.out.2.1
  exact ⟨v, rfl, Lib.hid (o.lower (by simp; omega)), Lib.hid ((h.out.1.alloc hs _).trans (b.mono (by simp; omega)))⟩
theorem Seen.b {B : Nat} {wr W : World} {ls : List (Option Addr × List Int)} (h : Hid (Seen B wr W ls)) : Below B wr W := h.out.1
theorem Seen.ba {B : Nat} {wr W : World} {ls : List (Option Addr × List Int)} (h : Hid (Seen B wr W ls)) (o : Obj) : Below B wr (W.alloc o) := h.out.1.alloc h.out.2.1 o
theorem Seen.bad {B : Nat} {wr W : World} {ls : List (Option Addr × List Int)} (h : Hid (Seen B wr W ls)) (o : Obj) : Below B wr (W.alloc o).drew := (h.out.1.alloc h.out.2.1 o).drew
/-- The box's four cells. -/
def Four (w : World) (b l f i r : Nat) : Prop := w.cell? ⟨b, 0, none⟩ = some (.int .u8 l) ∧ w.cell? ⟨b, 1, none⟩ = some (.int .u8 f) ∧ w.cell? ⟨b, 2, none⟩ = some (.int .u32 i) ∧ w.cell? ⟨b, 3, none⟩ = some (.int .u32 r)
theorem Four.below {B : Nat} {wr W : World} {b l f i r : Nat} (h : Hid (Four wr b l f i r)) (hb : b < B) (hw : Below B wr W) : W.cell? ⟨b, 0, none⟩ = some (.int .u8 l) ∧ W.cell? ⟨b, 1, none⟩ = some (.int .u8 f) ∧ W.cell? ⟨b, 2, none⟩ = some (.int .u32 i) ∧ W.cell? ⟨b, 3, none⟩ = some (.int .u32 r) :=
  ⟨(hw.cell (p := ⟨b, 0, none⟩) hb).trans h.out.1, (hw.cell (p := ⟨b, 1, none⟩) hb).trans h.out.2.1, (hw.cell (p := ⟨b, 2, none⟩) hb).trans h.out.2.2.1, (hw.cell (p := ⟨b, 3, none⟩) hb).trans h.out.2.2.2⟩

attribute [local irreducible] leN gl flat
set_option maxHeartbeats 8000000 in
theorem rmake_any (l f i r : Nat) (g : Nat → Int) (A : Option Addr) (c m : Nat) (ys : List Int) (w : World) (hm : m = ys.length) (hi : i < 4294967296) (hr : r < 4294967296) (hy : Rd w .u8 A ys) (hl : ys.length ≤ 140737488355000) :
    Calls Try.prog 13 #[.agg (hArr l f i r g), .slice A m c] w (Made 5 .u8 (hb l f i r g ++ ys) w) := by
  have HY := Lib.hid hy
  have HM := Lib.hid hm
  have HBX := Lib.hid (hArr_blk w l f i r g)
  have W0 := Lib.hid ((Below.refl w.heap.size w).alloc (Nat.le_refl _) (.cells (hArr l f i r g) 26))
  have i64 : i < 18446744073709551616 := by omega
  have r64 : r < 18446744073709551616 := by omega
  clear hy hm
  go_enter Try.func13, Try.ntmps13
  go_wp2_with fail
  go_loopw [5, 6] (fun v j wr => ∃ k : Nat, k ≤ 16 ∧ j = .int .i64 k ∧ Own wr (w.heap.size + 1) 5 .u8 v ((gl g).take k) ∧ Below w.heap.size w wr ∧ Blk wr w.heap.size 26 (hlist l f i r g)) (fun _ j _ => 16 - (intOf j).toNat)
  case atStart => exact ⟨0, Nat.zero_le _, rfl, Own.nil _ _ _ _, W0.out, HBX.out⟩
  case round =>
    obtain ⟨k, hk, rfl, hown, hb, hbx⟩ := hrel
    have HO := Lib.hid hown
    have HW := Lib.hid hb
    have HB := Lib.hid hbx
    have hsz : w.heap.size + 1 ≤ wr.heap.size := hbx.lt
    clear hown hb
    by_cases hlt : k < 16
    · clear hbx
      obtain ⟨b, off, y, hA, hc, HG⟩ := (gl_rd HB.out).at k (by rw [gl_len]; exact hlt)
      cases hA
      have hc1 : (((gl g).take k).length + 1) * 1 ≤ 140737488355328 := by simp [gl_len]; omega
      have HQ := Lib.hid (take_snocI (gl g) k (by rw [gl_len]; exact hlt))
      go_wp2_with (first | (at_builtin; refine wpList_push wr rfl _ _ 27 rfl (w.heap.size + 1) 5 .u8 1 Try.underlying27 info5 _ rfl _ _ rfl rfl HO.out hc1 (by decide) hsz ?_; intro v' w1 hown1 hfr1))
      rw [HG.out, ← HQ.out] at hown1
      have hb1 : Below w.heap.size w w1 := HW.out.trans (hfr1.below (by omega) (fun g hg => by have := (HO.out.base_le hg).1; omega))
      have hbx1 : Blk w1 w.heap.size 26 (hlist l f i r g) := HB.out.fr hfr1 (fun h => by have := (HO.out.base_le h).1; omega)
      clear hfr1
      go_wp2_with fail
      go_roundw
      case rel => exact ⟨k + 1, by omega, by go_num, hown1, hb1, hbx1⟩
      case measure => simp [intOf]; omega
    · have hge : decide ((k : Int) < 16) = false := by simp; omega
      have HK : Hid (k = 16) := Lib.hid (by omega)
      have OG : Hid (Own wr (w.heap.size + 1) 5 .u8 _ (gl g)) := Lib.hid (by
        have h := HO.out
        rw [HK.out, List.take_of_length_le (by rw [gl_len]; omega)] at h; exact h)
      obtain ⟨Ag, cg, rfl, -, -, rdg, -⟩ := OG.out.slice
      have F4 : Hid (Four wr w.heap.size l f i r) := Lib.hid ⟨hbx.cell 0, hbx.cell 1, hbx.cell 2, hbx.cell 3⟩
      have hs : Hid (Seen (w.heap.size + 1) wr wr [(Ag, gl g), (A, ys)]) := Lib.hid ⟨Below.refl _ _, hsz, fun p hp => by
        rcases List.mem_cons.1 hp with rfl | hp
        · exact rdg
        · rcases List.mem_cons.1 hp with rfl | hp
          · exact HY.out.below HW.out
          · cases hp⟩
      have HFL : Hid (([(l : Int), (f : Int)] ++ leN i 4 ++ leN r 4 ++ gl g ++ ys).length ≤ 140737488355328) := Lib.hid (by simp [leN_len, gl_len]; omega)
      have hwi : IntKind.u64.wrap (i : Int) = (i : Int) := by simp [IntKind.wrap, IntKind.bits, IntKind.signed]; omega
      have hwr : IntKind.u64.wrap (r : Int) = (r : Int) := by simp [IntKind.wrap, IntKind.bits, IntKind.signed]; omega
      have L0 : Hid (2 = [(l : Int), (f : Int)].length) := Lib.hid rfl
      have L1 : Hid (4 = (leN i 4).length) := Lib.hid (leN_len i 4).symm
      have L2 : Hid (4 = (leN r 4).length) := Lib.hid (leN_len r 4).symm
      have LG : Hid (16 = (gl g).length) := Lib.hid (gl_len g).symm
      rw [gl_len]
      have HLT : Hid (w.heap.size < w.heap.size + 1) := Lib.hid (Nat.lt_succ_self _)
      clear hbx HO HB HBX W0 HY rdg OG hk hlt hsz
      go_wp2_with fail
      generalize hArr l f i r g = Hd
      go_region_held3 (fun w' => w'.cell? ⟨w.heap.size, 0, none⟩ = some (.int .u8 l) ∧ w'.cell? ⟨w.heap.size, 1, none⟩ = some (.int .u8 f) ∧ w'.cell? ⟨w.heap.size, 2, none⟩ = some (.int .u32 i) ∧ w'.cell? ⟨w.heap.size, 3, none⟩ = some (.int .u32 r))
        (first
          | with_reducible exact Four.below F4 HLT.out (Seen.b hs)
          | with_reducible exact Four.below F4 HLT.out (Seen.b (Seen.drew hs))
          | with_reducible exact Four.below F4 HLT.out (Seen.b (Seen.lf l f hs))
          | with_reducible exact Four.below F4 HLT.out (Seen.b (Seen.lf l f (Seen.drew hs)))
          | with_reducible exact Four.below F4 HLT.out (Seen.b (Seen.drew (Seen.lf l f hs)))
          | with_reducible exact Four.below F4 HLT.out (Seen.b (Seen.drew (Seen.lf l f (Seen.drew hs))))
          | with_reducible exact Four.below F4 HLT.out (Seen.ba hs _)
          | with_reducible exact Four.below F4 HLT.out (Seen.bad hs _)
          | with_reducible exact Four.below F4 HLT.out (Seen.ba (Seen.drew hs) _)
          | with_reducible exact Four.below F4 HLT.out (Seen.bad (Seen.drew hs) _)
          | with_reducible exact Four.below F4 HLT.out (Seen.ba (Seen.lf l f hs) _)
          | with_reducible exact Four.below F4 HLT.out (Seen.bad (Seen.lf l f hs) _)
          | with_reducible exact Four.below F4 HLT.out (Seen.ba (Seen.lf l f (Seen.drew hs)) _)
          | with_reducible exact Four.below F4 HLT.out (Seen.bad (Seen.lf l f (Seen.drew hs)) _)
          | with_reducible exact Four.below F4 HLT.out (Seen.ba (Seen.drew (Seen.lf l f hs)) _)
          | with_reducible exact Four.below F4 HLT.out (Seen.bad (Seen.drew (Seen.lf l f hs)) _)
          | with_reducible exact Four.below F4 HLT.out (Seen.ba (Seen.drew (Seen.lf l f (Seen.drew hs))) _)
          | with_reducible exact Four.below F4 HLT.out (Seen.bad (Seen.drew (Seen.lf l f (Seen.drew hs))) _)
          | (with_reducible refine Four.below F4 HLT.out ?_; assumption))
        (first
        | (go_at_call_of 35 (Value.int .u64 (i : Int)); (first | with_reducible refine (Seen.little i i64 hs).mono ?_ | with_reducible refine (Seen.little i i64 (Seen.drew hs)).mono ?_ | with_reducible refine (Seen.little i i64 (Seen.lf l f hs)).mono ?_ | with_reducible refine (Seen.little i i64 (Seen.lf l f (Seen.drew hs))).mono ?_ | with_reducible refine (Seen.little i i64 (Seen.drew (Seen.lf l f hs))).mono ?_ | with_reducible refine (Seen.little i i64 (Seen.drew (Seen.lf l f (Seen.drew hs)))).mono ?_); clear hs; rintro e wi ⟨Ai, ci, rfl, hs⟩)
        | (go_at_call_of 35 (Value.int .u64 (r : Int)); (first | with_reducible refine (Seen.little r r64 hs).mono ?_ | with_reducible refine (Seen.little r r64 (Seen.drew hs)).mono ?_ | with_reducible refine (Seen.little r r64 (Seen.lf l f hs)).mono ?_ | with_reducible refine (Seen.little r r64 (Seen.lf l f (Seen.drew hs))).mono ?_ | with_reducible refine (Seen.little r r64 (Seen.drew (Seen.lf l f hs))).mono ?_ | with_reducible refine (Seen.little r r64 (Seen.drew (Seen.lf l f (Seen.drew hs)))).mono ?_); clear hs; rintro e wq ⟨Aq, cq, rfl, hs⟩)
        | (go_at_call 34; (first | with_reducible refine (Seen.join hs [(l : Int), (f : Int)] (leN i 4) (leN r 4) (gl g) ys (by repeat (first | with_reducible exact List.mem_cons_self | with_reducible refine List.mem_cons_of_mem _ ?_)) (by repeat (first | with_reducible exact List.mem_cons_self | with_reducible refine List.mem_cons_of_mem _ ?_)) (by repeat (first | with_reducible exact List.mem_cons_self | with_reducible refine List.mem_cons_of_mem _ ?_)) (by repeat (first | with_reducible exact List.mem_cons_self | with_reducible refine List.mem_cons_of_mem _ ?_)) (by repeat (first | with_reducible exact List.mem_cons_self | with_reducible refine List.mem_cons_of_mem _ ?_)) L0 L1 L2 LG HM HFL (Lib.hid (by simp))).mono ?_ | with_reducible refine (Seen.join (Seen.drew hs) [(l : Int), (f : Int)] (leN i 4) (leN r 4) (gl g) ys (by repeat (first | with_reducible exact List.mem_cons_self | with_reducible refine List.mem_cons_of_mem _ ?_)) (by repeat (first | with_reducible exact List.mem_cons_self | with_reducible refine List.mem_cons_of_mem _ ?_)) (by repeat (first | with_reducible exact List.mem_cons_self | with_reducible refine List.mem_cons_of_mem _ ?_)) (by repeat (first | with_reducible exact List.mem_cons_self | with_reducible refine List.mem_cons_of_mem _ ?_)) (by repeat (first | with_reducible exact List.mem_cons_self | with_reducible refine List.mem_cons_of_mem _ ?_)) L0 L1 L2 LG HM HFL (Lib.hid (by simp))).mono ?_ | with_reducible refine (Seen.join (Seen.lf l f hs) [(l : Int), (f : Int)] (leN i 4) (leN r 4) (gl g) ys (by repeat (first | with_reducible exact List.mem_cons_self | with_reducible refine List.mem_cons_of_mem _ ?_)) (by repeat (first | with_reducible exact List.mem_cons_self | with_reducible refine List.mem_cons_of_mem _ ?_)) (by repeat (first | with_reducible exact List.mem_cons_self | with_reducible refine List.mem_cons_of_mem _ ?_)) (by repeat (first | with_reducible exact List.mem_cons_self | with_reducible refine List.mem_cons_of_mem _ ?_)) (by repeat (first | with_reducible exact List.mem_cons_self | with_reducible refine List.mem_cons_of_mem _ ?_)) L0 L1 L2 LG HM HFL (Lib.hid (by simp))).mono ?_ | with_reducible refine (Seen.join (Seen.lf l f (Seen.drew hs)) [(l : Int), (f : Int)] (leN i 4) (leN r 4) (gl g) ys (by repeat (first | with_reducible exact List.mem_cons_self | with_reducible refine List.mem_cons_of_mem _ ?_)) (by repeat (first | with_reducible exact List.mem_cons_self | with_reducible refine List.mem_cons_of_mem _ ?_)) (by repeat (first | with_reducible exact List.mem_cons_self | with_reducible refine List.mem_cons_of_mem _ ?_)) (by repeat (first | with_reducible exact List.mem_cons_self | with_reducible refine List.mem_cons_of_mem _ ?_)) (by repeat (first | with_reducible exact List.mem_cons_self | with_reducible refine List.mem_cons_of_mem _ ?_)) L0 L1 L2 LG HM HFL (Lib.hid (by simp))).mono ?_ | with_reducible refine (Seen.join (Seen.drew (Seen.lf l f hs)) [(l : Int), (f : Int)] (leN i 4) (leN r 4) (gl g) ys (by repeat (first | with_reducible exact List.mem_cons_self | with_reducible refine List.mem_cons_of_mem _ ?_)) (by repeat (first | with_reducible exact List.mem_cons_self | with_reducible refine List.mem_cons_of_mem _ ?_)) (by repeat (first | with_reducible exact List.mem_cons_self | with_reducible refine List.mem_cons_of_mem _ ?_)) (by repeat (first | with_reducible exact List.mem_cons_self | with_reducible refine List.mem_cons_of_mem _ ?_)) (by repeat (first | with_reducible exact List.mem_cons_self | with_reducible refine List.mem_cons_of_mem _ ?_)) L0 L1 L2 LG HM HFL (Lib.hid (by simp))).mono ?_ | with_reducible refine (Seen.join (Seen.drew (Seen.lf l f (Seen.drew hs))) [(l : Int), (f : Int)] (leN i 4) (leN r 4) (gl g) ys (by repeat (first | with_reducible exact List.mem_cons_self | with_reducible refine List.mem_cons_of_mem _ ?_)) (by repeat (first | with_reducible exact List.mem_cons_self | with_reducible refine List.mem_cons_of_mem _ ?_)) (by repeat (first | with_reducible exact List.mem_cons_self | with_reducible refine List.mem_cons_of_mem _ ?_)) (by repeat (first | with_reducible exact List.mem_cons_self | with_reducible refine List.mem_cons_of_mem _ ?_)) (by repeat (first | with_reducible exact List.mem_cons_self | with_reducible refine List.mem_cons_of_mem _ ?_)) L0 L1 L2 LG HM HFL (Lib.hid (by simp))).mono ?_); clear hs; rintro e w5 ⟨v5, rfl, O5, HW5⟩; have hw5 := HW5.out))
      all_goals (
        go_wp2_with fail
        go_ret
        exact ⟨_, rfl, O5.out.lower (Nat.le_succ _), HW.out.trans (hw5.mono (Nat.le_succ _))⟩)
end Go.Proofs.Ytedejkfhgpnhpaa

/-
  Walks: record.number, the document's number, record.group.
-/
import Derived.Test.YtedejkfhgpnhpaaNm
import Derived.Test.YtedejkfhgpnhpaaPv
import Derived.Deep.MidRow
import Derived.Laws.Cover3
import Derived.Laws.Tables
set_option linter.unusedVariables false
set_option linter.unusedSimpArgs false
namespace Go.Proofs.Ytedejkfhgpnhpaa
open Go.RowKit

/-- Four bytes from a place on. -/
def four (xs : List Int) (at_ : Nat) : List Int := (xs.drop at_).take 4
theorem four_len (xs : List Int) (k : Nat) (h : k + 4 ≤ xs.length) : (four xs k).length = 4 := by simp [four]; omega
theorem four_b8 {xs : List Int} (h : B8 xs) (k : Nat) : B8 (four xs k) := (h.drop k).take 4
def numR (xs : List Int) (k : Nat) : Nat := leV (four xs k) 4
theorem numR_lt {xs : List Int} (h : B8 xs) (k : Nat) : numR xs k < 4294967296 := leV_lt (four_b8 h k) 4

theorem rnum_any (A : Option Addr) (n c k : Nat) (xs : List Int) (w : World) (hn : n = xs.length) (hnc : n ≤ c) (hr : Rd w .u8 A xs) (hB : B8 xs) (hk : k + 4 ≤ n) (hk2 : k ≤ 100) (hc63 : c ≤ 9223372036854775807) :
    Calls Try.prog 40 #[.slice A n c, .int .i64 k] w fun e w' => e = .returned (.int .u32 (numR xs k : Nat)) ∧ w' = w := by
  obtain ⟨b, off, hA, -⟩ := hr 0 (by omega)
  subst hA
  have hw : IntKind.i64.wrap ((k : Int) + 4) = ((k + 4 : Nat) : Int) := by simp [IntKind.wrap, IntKind.bits, IntKind.signed]; omega
  have c1 : ((k + 4 : Nat) : Int) ≤ (c : Int) := by omega
  have c2 : (0 : Int) ≤ ((k + 4 : Nat) : Int) := by omega
  have c3 : (k : Int) ≤ ((k + 4 : Nat) : Int) := by omega
  have c4 : (0 : Int) ≤ (k : Int) := by omega
  have hck : ¬ c = k := by omega
  have hck2 : ¬ k = c := by omega
  have HR := Lib.hid ((hr.drop k (A' := some ⟨b, off + k, none⟩) (fun b' off' h _ => by cases h; rfl)).take 4)
  have HL : Hid (4 = (four xs k).length) := Lib.hid (four_len xs k (by omega)).symm
  have HB := Lib.hid (four_b8 hB k)
  have h44 : k + 4 - k = 4 := by omega
  clear hr hB hn
  go_enter Try.func40, Try.ntmps40
  go_wp2_with fail
  refine (little32_any _ 4 (c - k) (four xs k) w HL.out HR.out HB.out).mono ?_
  rintro e w' ⟨rfl, rfl⟩
  have hv : litR (four xs k) 4 4 = numR xs k := by unfold litR; rw [if_pos rfl]; rfl
  have HV := Lib.hid hv
  clear hv
  go_wp2_with fail
  go_ret
  exact ⟨by rw [← HV.out]; first | done | rfl, rfl⟩

set_option maxHeartbeats 2000000 in
theorem refnum_any (A : Option Addr) (d : Nat) (ys : List Int) (w : World) (hn : 4 = ys.length) (hr : Rd w .u8 A ys) (hB : B8 ys) :
    Calls Try.prog 38 #[.slice A 4 d] w fun e w' => e = .returned (.int .u32 (leV ys 4 : Nat)) ∧ ∃ q, w' = w.drewN q := by
  obtain ⟨b, off, y0, rfl, hc0, H0⟩ := hr.at 0 (by omega)
  obtain ⟨b1, off1, y1, hA1, hc1, H1⟩ := hr.at 1 (by omega)
  cases hA1
  obtain ⟨b2, off2, y2, hA2, hc2, H2⟩ := hr.at 2 (by omega)
  cases hA2
  obtain ⟨b3, off3, y3, hA3, hc3, H3⟩ := hr.at 3 (by omega)
  cases hA3
  obtain ⟨Y0, e0⟩ : ∃ Y : Nat, y0 = (Y : Int) := ⟨y0.toNat, by have := hB 0; have := H0.out; omega⟩
  obtain ⟨Y1, e1⟩ : ∃ Y : Nat, y1 = (Y : Int) := ⟨y1.toNat, by have := hB 1; have := H1.out; omega⟩
  obtain ⟨Y2, e2⟩ : ∃ Y : Nat, y2 = (Y : Int) := ⟨y2.toNat, by have := hB 2; have := H2.out; omega⟩
  obtain ⟨Y3, e3⟩ : ∃ Y : Nat, y3 = (Y : Int) := ⟨y3.toNat, by have := hB 3; have := H3.out; omega⟩
  have l0 : Y0 < 256 := by have := hB 0; have := H0.out; omega
  have l1 : Y1 < 256 := by have := hB 1; have := H1.out; omega
  have l2 : Y2 < 256 := by have := hB 2; have := H2.out; omega
  have l3 : Y3 < 256 := by have := hB 3; have := H3.out; omega
  subst e0 e1 e2 e3
  rw [Nat.add_zero] at hc0
  have HLV : Hid (leV ys 4 = Y0 + Y1 * 256 + Y2 * 65536 + Y3 * 16777216) := Lib.hid (by
    simp only [leV, ← H0.out, ← H1.out, ← H2.out, ← H3.out]
    simp)
  have w0 : IntKind.u32.wrap (Y0 : Int) = (Y0 : Int) := by simp [IntKind.wrap, IntKind.bits, IntKind.signed]; omega
  have w1 : IntKind.u32.wrap (Y1 : Int) = (Y1 : Int) := by simp [IntKind.wrap, IntKind.bits, IntKind.signed]; omega
  have w2 : IntKind.u32.wrap (Y2 : Int) = (Y2 : Int) := by simp [IntKind.wrap, IntKind.bits, IntKind.signed]; omega
  have w3 : IntKind.u32.wrap (Y3 : Int) = (Y3 : Int) := by simp [IntKind.wrap, IntKind.bits, IntKind.signed]; omega
  have m1 : IntKind.u32.wrap ((Y1 : Int) * 256) = ((Y1 * 256 : Nat) : Int) := by simp [IntKind.wrap, IntKind.bits, IntKind.signed]; omega
  have m2 : IntKind.u32.wrap ((Y2 : Int) * 65536) = ((Y2 * 65536 : Nat) : Int) := by simp [IntKind.wrap, IntKind.bits, IntKind.signed]; omega
  have m3 : IntKind.u32.wrap ((Y3 : Int) * 16777216) = ((Y3 * 16777216 : Nat) : Int) := by simp [IntKind.wrap, IntKind.bits, IntKind.signed]; omega
  clear hr hB hn H0 H1 H2 H3
  go_enter Try.func38, Try.ntmps38
  go_wp2_with fail
  go_quiet (fail)
  go_wp2_with fail
  go_ret
  refine ⟨?_, _, rfl⟩
  rw [HLV.out]
  exact congrArg (fun z => Ending.returned (Value.int IntKind.u32 z)) (by omega)

/-- The group's bytes. -/
def grp (xs : List Int) : List Value := ((xs.drop 10).take 16).map (Value.int .u8)
theorem grp_len (xs : List Int) (h : 26 ≤ xs.length) : (grp xs).length = 16 := by simp [grp]; omega
theorem size24 : (Try.prog.info? 24).map (·.size) = some 16 := by kernel_rfl
theorem grp_range {w : World} {b off : Nat} {xs : List Int} (h : Rd w .u8 (some ⟨b, off, none⟩) xs) : w.rangeAt b (off + 10) (grp xs) := by
  intro j v hj
  have hjl : j < ((xs.drop 10).take 16).length := by
    have := (List.getElem?_eq_some_iff.1 hj).1
    simpa [grp] using this
  have h2 : 10 + j < xs.length := by simp at hjl; omega
  obtain ⟨b', off', hA, hc⟩ := h (10 + j) h2
  injection hA with hA; injection hA with e1 e2
  subst e1 e2
  rw [Nat.add_assoc, hc]
  have hj16 : j < 16 := by simp at hjl; omega
  unfold grp at hj
  rw [List.getElem?_map, List.getElem?_take_of_lt hj16, List.getElem?_drop, List.getElem?_eq_getElem h2] at hj
  simp at hj
  rw [← hj]
  simp [List.getD, h2]

set_option maxHeartbeats 1000000 in
theorem group_any (b off n c : Nat) (xs : List Int) (w : World) (hn : n = xs.length) (hnc : n ≤ c) (h26 : 26 ≤ n) (hr : Rd w .u8 (some ⟨b, off, none⟩) xs) (hc63 : c ≤ 9223372036854775807) :
    Calls Try.prog 41 #[.slice (some ⟨b, off, none⟩) n c] w fun e w' => e = .returned (.agg (grp xs).toArray) ∧ Below w.heap.size w w' := by
  have hb : b < w.heap.size := hr.lt (by omega)
  have c1 : (26 : Int) ≤ (c : Int) := by omega
  have hck : ¬ c = 10 := by omega
  have hck2 : ¬ 10 = c := by omega
  have HG := Lib.hid (grp_range (hr.below ((Below.refl _ w).alloc (Nat.le_refl _) (.cells (List.replicate 16 (Value.int .u8 0)).toArray 24))))
  have HL := Lib.hid (grp_len xs (by omega))
  clear hr hn
  go_enter Try.func41, Try.ntmps41
  go_wp2_with fail
  rw [run_arrayAt _ 24 5 16 _ 16 _ Try.underlying24 (by decide)]
  have hone : (grp xs).toArray.all (·.oneCell') = true := by
    simp only [List.all_toArray, List.all_eq_true]
    intro v hv
    obtain ⟨z, _, rfl⟩ := List.mem_map.1 hv
    rfl
  have hsz1 : (Try.prog.info? 24).map (·.size) = some (grp xs).length := by rw [HL.out]; exact size24
  have hsz2 : (Try.prog.info? 24).map (·.size) = some (grp xs).toArray.size := by rw [List.size_toArray, HL.out]; exact size24
  have hold : ((List.replicate 16 (Value.int .u8 0)).toArray).size = (grp xs).toArray.size := by rw [List.size_toArray, List.size_toArray, HL.out]; rfl
  have HZ := Lib.hid (Blk.new w 24 (List.replicate 16 (Value.int .u8 0)))
  have HO := Lib.hid hone
  have H1 := Lib.hid hsz1
  have H2 := Lib.hid hsz2
  have H3 := Lib.hid hold
  clear hone hsz1 hsz2 hold
  go_wp2_with (first
    | (refine wpList_load_mid rfl 24 _ rfl b (off + 10) rfl (grp xs) _ HG.out Try.underlying24 rfl H1.out ?_)
    | (refine wpList_store_row rfl 24 _ _ rfl w.heap.size (grp xs).toArray rfl rfl 24 _ HZ.out H2.out H3.out HO.out ?_))
  have HB := Lib.hid (setRow_heap (w.alloc (.cells (List.replicate 16 (Value.int .u8 0)).toArray 24)) w.heap.size _ (grp xs).toArray 24 _ HZ.out)
  refine bodyPost_ret (results_cell_row rfl _ _ w.heap.size 24 (grp xs).toArray (0, 0) _ rfl HB.out Try.underlying24 rfl H2.out) rfl ?_
  refine ⟨rfl, ?_⟩
  have W1 := (Below.refl w.heap.size w).alloc (Nat.le_refl _) (.cells (List.replicate 16 (Value.int .u8 0)).toArray 24)
  exact W1.trans ⟨rfl, rfl, rfl, by simp [World.setRow], fun k hk => setRow_other _ _ k _ (by omega)⟩
end Go.Proofs.Ytedejkfhgpnhpaa

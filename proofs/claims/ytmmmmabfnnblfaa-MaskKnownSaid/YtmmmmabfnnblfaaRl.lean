/-
  Lists of rows: how they are read; Rows and Cut of the shared reference.
-/
import Derived.Test.YtmmmmabfnnblfaaTw
import Derived.Test.YtmmmmabfnnblfaaOw
import Derived.Test.YtmmmmabfnnblfaaSl
set_option linter.unusedVariables false
set_option linter.unusedSimpArgs false
namespace Go.Proofs.Ytmmmmabfnnblfaa
open Go.RowKit

/-- A row's head as its cell tells it. -/
structure Hd where
  A : Option Addr
  m : Nat
  c : Nat
def Hd.v (h : Hd) : Value := .slice h.A h.m h.c
/-- The heads of a list of rows, as it lies in memory. -/
def RdH (w : World) (L : Option Addr) (hs : Nat → Hd) (n : Nat) : Prop := ∀ i, i < n → ∃ b off, L = some ⟨b, off, none⟩ ∧ b < w.heap.size ∧ w.cell? ⟨b, off + i, none⟩ = some (.slice (hs i).A (hs i).m (hs i).c)
/-- What the rows hold. -/
def CtH (w : World) (hs : Nat → Hd) (xss : Nat → List Int) (n : Nat) : Prop := ∀ i, i < n → (hs i).m = (xss i).length ∧ Rd w .u8 (hs i).A (xss i)
theorem RdH.below {w w' : World} {L : Option Addr} {hs : Nat → Hd} {n : Nat} (h : RdH w L hs n) (hb : Below w.heap.size w w') : RdH w' L hs n := fun i hi => by
  obtain ⟨b, off, hL, hlt, h0⟩ := h i hi
  exact ⟨b, off, hL, Nat.lt_of_lt_of_le hlt hb.size, (hb.cell (p := ⟨b, _, none⟩) hlt).trans h0⟩
theorem CtH.below {w w' : World} {hs : Nat → Hd} {xss : Nat → List Int} {n : Nat} (h : CtH w hs xss n) (hb : Below w.heap.size w w') : CtH w' hs xss n := fun i hi => ⟨(h i hi).1, (h i hi).2.below hb⟩
/-- Rows one behind the other, each with its marks. -/
def flatM (xss : Nat → List Int) : Nat → List Int
  | 0 => []
  | n + 1 => flatM xss n ++ lentL (xss n)
def offM (xss : Nat → List Int) : Nat → Nat
  | 0 => 0
  | n + 1 => offM xss n + (xss n).length + 64
theorem lentL_len (xs : List Int) : (lentL xs).length = xs.length + 64 := by simp [lentL, marks_length]
theorem flatM_len (xss : Nat → List Int) : ∀ n, (flatM xss n).length = offM xss n
  | 0 => rfl
  | n + 1 => by simp [flatM, offM, flatM_len xss n, lentL_len]; omega
theorem offM_le {xss : Nat → List Int} : ∀ {n : Nat}, (∀ i, i < n → (xss i).length ≤ 1048576) → offM xss n ≤ n * 1048640
  | 0, _ => by simp [offM]
  | n + 1, h => by
    have h1 := offM_le (n := n) fun i hi => h i (by omega)
    have h2 := h n (by omega)
    simp only [offM]
    omega
theorem offM_mono (xss : Nat → List Int) {n : Nat} : ∀ {i : Nat}, i < n → offM xss i + (xss i).length + 64 ≤ offM xss n := by
  induction n with
  | zero => intro i h; omega
  | succ n ih =>
    intro i h
    simp only [offM]
    by_cases e : i = n
    · subst e; omega
    · have := ih (i := i) (by omega); omega
theorem lent_at (A : Option Addr) (n c : Nat) (xs : List Int) (w : World) (hn : n = xs.length) (hr : Rd w .u8 A xs) (hl : xs.length ≤ 140737488351232) :
    Calls Try.prog 32 #[.slice A n c] w (Made 5 .u8 (lentL xs) w) := by
  subst hn
  exact lent_any A c xs w hr hl
theorem info47 : (Try.prog.info? 47).map (fun i => (i.zero, i.size, i.bytes)) = some (some (.slice none 0 0), 1, 24) := by kernel_rfl

set_option maxHeartbeats 800000 in
theorem rows_any (L : Option Addr) (n c : Nat) (hs : Nat → Hd) (xss : Nat → List Int) (w : World) (hr : RdH w L hs n) (hc : CtH w hs xss n) (hn : n ≤ 1048576) (hx : ∀ i, i < n → (xss i).length ≤ 1048576) :
    Calls Try.prog 41 #[.slice L n c] w (Made 5 .u8 (flatM xss n) w) := by
  have HR := Lib.hid hr
  have HC := Lib.hid hc
  have HX := Lib.hid hx
  clear hr hc hx
  go_enter Try.func41, Try.ntmps41
  go_wp2
  go_loopw [3, 4] (fun v i wr => ∃ k : Nat, k ≤ n ∧ i = .int .i64 k ∧ Hid (Own wr w.heap.size 5 .u8 v (flatM xss k)) ∧ Hid (Below w.heap.size w wr)) (fun _ i _ => n - (intOf i).toNat)
  case atStart => exact ⟨0, Nat.zero_le _, rfl, Lib.hid (Own.nil _ _ _ _), Lib.hid (Below.refl _ _)⟩
  case round =>
    obtain ⟨k, hk, rfl, HO, HB⟩ := hrel
    by_cases hlt : k < n
    · obtain ⟨b, off, rfl, hb0, hcell⟩ := (HR.out.below HB.out) k hlt
      clear hb0
      go_wp2_with fail
      have hl1 := HX.out k hlt
      refine (lent_at _ _ _ (xss k) _ (HC.out k hlt).1 ((HC.out k hlt).2.below HB.out) (by omega)).mono ?_
      rintro e w1 ⟨v1, rfl, ho1, hb1⟩
      obtain ⟨A1, c1, rfl, _, _, hr1, _⟩ := ho1.slice
      have HR1 := Lib.hid hr1
      have HO1 := Lib.hid (HO.out.below hb1)
      have HB1 := Lib.hid (HB.out.trans (hb1.mono HB.out.size))
      have hsum : Hid ((flatM xss k).length + (lentL (xss k)).length ≤ 140737488351232) := Lib.hid (by
        have := offM_le (xss := xss) (n := k) fun i hi => HX.out i (by omega)
        rw [flatM_len, lentL_len]; omega)
      clear ho1 hb1 hr1 HO HB hcell hl1
      go_wp2_with (first | (show wpList _ _ _ ({ dst := some 17, op := _, type := _, pos := _, after := _, guard := _ } :: _) _ _; refine wpList_pushes_any w1 rfl _ _ 47 rfl w.heap.size 5 .u8 1 Try.underlying47 info5 _ (flatM xss k) rfl HO1.out A1 _ c1 (lentL (xss k)) rfl rfl HR1.out (by have := hsum.out; omega) (by decide) HB1.out.size ?_; intro v' w2 hown2 hfr2))
      have HB2 : Hid (Below w.heap.size w w2) := Lib.hid (HB1.out.trans (hfr2.below HB1.out.size (fun g hg => (HO1.out.base_le hg).1)))
      have HO2 := Lib.hid hown2
      clear hown2 hfr2
      go_wp2
      go_roundw
      case rel => exact ⟨k + 1, by omega, by go_num, HO2, HB2⟩
      case measure => simp [intOf]; omega
    · obtain rfl : k = n := by omega
      go_wp2
      go_ret
      exact ⟨_, rfl, HO.out, HB.out⟩

/-- The heads that Cut hands out. -/
def cutH (F : Option Addr) (xss : Nat → List Int) (fc : Nat) (i : Nat) : Hd := ⟨cutA F (offM xss i) fc, (xss i).length, fc - offM xss i⟩
theorem size5' : (Try.prog.info? 5).map (·.size) = some 1 := by kernel_rfl
theorem push_map (f : Nat → Value) (k : Nat) : (List.range k).map f ++ [f k] = (List.range (k + 1)).map f := by simp [List.range_succ]
set_option maxHeartbeats 1600000 in
theorem cut_any (F : Option Addr) (fl fc : Nat) (L : Option Addr) (n c : Nat) (hs : Nat → Hd) (xss : Nat → List Int) (w : World) (hr : RdH w L hs n) (hc : ∀ i, i < n → (hs i).m = (xss i).length) (hn : n ≤ 1048576) (hx : ∀ i, i < n → (xss i).length ≤ 1048576)
    (hfl : fl = offM xss n) (hfc : fl ≤ fc) :
    Calls Try.prog 42 #[.slice F fl fc, .slice L n c] w fun e w' => ∃ v, e = .returned v ∧ OwnV w' w.heap.size 47 v ((List.range n).map fun i => (cutH F xss fc i).v) ∧ Below w.heap.size w w' := by
  have HR := Lib.hid hr
  have HC := Lib.hid hc
  have HX := Lib.hid hx
  have hle : fl ≤ 1099589222400 := by have := offM_le (xss := xss) hx; omega
  have HFL := Lib.hid hfl
  clear hr hc hx hfl
  go_enter Try.func42, Try.ntmps42
  go_wp2
  go_loopw [5, 6, 7] (fun v a i wr => ∃ k : Nat, k ≤ n ∧ i = .int .i64 k ∧ a = .int .i64 (offM xss k : Nat) ∧ Hid (OwnV wr w.heap.size 47 v ((List.range k).map fun i => (cutH F xss fc i).v)) ∧ Hid (Below w.heap.size w wr)) (fun _ _ i _ => n - (intOf i).toNat)
  case atStart => exact ⟨0, Nat.zero_le _, rfl, rfl, Lib.hid (OwnV.nil _ _ _), Lib.hid (Below.refl _ _)⟩
  case round =>
    obtain ⟨k, hk, rfl, rfl, HO, HB⟩ := hrel
    by_cases hlt : k < n
    · obtain ⟨b, off, rfl, hb0, hcell0⟩ := HR.out k hlt
      have hcell : wr.cell? ⟨b, off + k, none⟩ = _ := (HB.out.cell (p := ⟨b, _, none⟩) hb0).trans hcell0
      clear hcell0
      have hm := HC.out k hlt
      have hq2 : offM xss k + (xss k).length + 64 ≤ fl := by rw [HFL.out]; exact offM_mono xss hlt
      have hl1 := HX.out k hlt
      have hv : (cutH F xss fc k).v = .slice (Option.map (fun x => x.add (offM xss k)) F) (xss k).length (fc - offM xss k) := by unfold cutH Hd.v cutA; rw [if_neg (by omega)]
      have hnext : offM xss (k + 1) = offM xss k + (xss k).length + 64 := rfl
      rw [hm] at hcell
      obtain ⟨q, hq⟩ : ∃ q, q = offM xss k := ⟨_, rfl⟩
      obtain ⟨l, hl⟩ : ∃ l, l = (xss k).length := ⟨_, rfl⟩
      rw [← hq, ← hl] at hv hnext hq2
      rw [← hl] at hcell hl1
      rw [← hq]
      have hw : IntKind.i64.wrap ((q : Int) + (l : Int)) = (q : Int) + (l : Int) := by rw [IntKind.wrap_i64] <;> omega
      have hw2 : IntKind.i64.wrap ((q : Int) + (l : Int) + 64) = (q : Int) + (l : Int) + 64 := by rw [IntKind.wrap_i64] <;> omega
      have HV := Lib.hid hv
      have HN := Lib.hid hnext
      have hby : (((List.range k).map fun i => (cutH F xss fc i).v).length + 1) * 24 ≤ 140737488355328 := by simp; omega
      have HBY := Lib.hid hby
      have HLT := Lib.hid hb0
      have HCELL := Lib.hid hcell
      clear hv hnext hby hq hl hm hb0
      go_wp2_with (first | (show wpList _ _ _ ({ dst := some 26, op := _, type := _, pos := _, after := _, guard := _ } :: _) _ _; refine wpList_pushV wr rfl _ _ 58 rfl w.heap.size 47 (.slice none 0 0) 24 Try.underlying58 info47 rfl _ rfl rfl _ _ rfl rfl HO.out HBY.out (by decide) HB.out.size ?_; intro v' w2 hown2 hp2; have HP2 := Lib.hid hp2; have HO2 := Lib.hid hown2; have z0 : w2.cell? ⟨b, off + k, none⟩ = some (.slice (hs k).A l (hs k).c) := ((hp2.fr.below HB.out.size (fun g hg => (HO.out.base_le hg).1)).cell (p := ⟨b, _, none⟩) HLT.out).trans HCELL.out; clear hp2 hown2 hcell))
      have HB2 : Hid (Below w.heap.size w w2) := Lib.hid (HB.out.trans (HP2.out.fr.below HB.out.size (fun g hg => (HO.out.base_le hg).1)))
      go_wp2
      go_roundw
      case rel => exact ⟨k + 1, by omega, by go_num, by rw [HN.out]; go_num, Lib.hid (by have := HO2.out; rw [← HV.out, push_map (fun i => (cutH F xss fc i).v)] at this; exact this), HB2⟩
      case measure => simp [intOf]; omega
    · obtain rfl : k = n := by omega
      go_wp2
      go_ret
      exact ⟨_, rfl, HO.out, HB.out⟩
end Go.Proofs.Ytmmmmabfnnblfaa

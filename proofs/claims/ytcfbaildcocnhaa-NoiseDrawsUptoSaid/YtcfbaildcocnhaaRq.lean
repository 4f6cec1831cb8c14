/-
  The document's quarter round.
-/
import Derived.Test.YtcfbaildcocnhaaQr
import Derived.Deep.DeepCutAuto
import Derived.Deep.RegionWith
set_option linter.unusedVariables false
set_option linter.unusedSimpArgs false
namespace Go.Proofs.Ytcfbaildcocnhaa
open Go.RowKit

theorem plus_any (a b : Nat) (w : World) (ha : a < 4294967296) (hb : b < 4294967296) :
    Calls Try.prog 90 #[.int .u64 a, .int .u64 b] w fun e w' => e = .returned (.int .u64 (add32 a b : Nat)) ∧ w = w' := by
  go_enter Try.func90, Try.ntmps90
  go_wp2
  go_ret
  exact ⟨congrArg (fun z => Ending.returned (Value.int _ z)) (add_int a b), rfl⟩
theorem against_any (a b : Nat) (w : World) (ha : a < 4294967296) (hb : b < 4294967296) :
    Calls Try.prog 99 #[.int .u64 a, .int .u64 b] w fun e w' => e = .returned (.int .u64 (a ^^^ b : Nat)) ∧ w = w' := by
  have H := Lib.hid (u64_xor_nat a b (by omega) (by omega))
  go_enter Try.func99, Try.ntmps99
  go_wp2
  go_ret
  exact ⟨congrArg (fun z => Ending.returned (Value.int _ z)) H.out, rfl⟩
theorem left_any (x n : Nat) (w : World) (hx : x < 4294967296) (hn : n = 16 ∨ n = 12 ∨ n = 8 ∨ n = 7) :
    Calls Try.prog 98 #[.int .u64 x, .int .i64 n] w fun e w' => ∃ m, e = .returned (.int .u64 (rol x n : Nat)) ∧ w' = w.drewN m := by
  have h : (x : Int) * 2 ^ n % 4294967296 + (x : Int) / 2 ^ (32 - n) = ((rol x n : Nat) : Int) := by simp [rol]
  have H := Lib.hid h
  clear h
  rcases hn with rfl | rfl | rfl | rfl
  · go_enter Try.func98, Try.ntmps98
    go_wp2
    go_quiet (fail)
    go_wp2
    go_ret
    exact ⟨_, congrArg (fun z => Ending.returned (Value.int _ z)) H.out, rfl⟩
  · go_enter Try.func98, Try.ntmps98
    go_wp2
    go_quiet (fail)
    go_wp2
    go_ret
    exact ⟨_, congrArg (fun z => Ending.returned (Value.int _ z)) H.out, rfl⟩
  · go_enter Try.func98, Try.ntmps98
    go_wp2
    go_quiet (fail)
    go_wp2
    go_ret
    exact ⟨_, congrArg (fun z => Ending.returned (Value.int _ z)) H.out, rfl⟩
  · go_enter Try.func98, Try.ntmps98
    go_wp2
    go_quiet (fail)
    go_wp2
    go_ret
    exact ⟨_, congrArg (fun z => Ending.returned (Value.int _ z)) H.out, rfl⟩

def u64s (l : List Nat) : List Value := l.map fun (x : Nat) => .int .u64 (x : Int)
def q4s (q : Q4) : List Value := [.int .u64 (q.a : Int), .int .u64 (q.b : Int), .int .u64 (q.c : Int), .int .u64 (q.d : Int)]
theorem blk4 {w : World} {g T : Nat} {x0 x1 x2 x3 : Value} (h : Blk w g T [x0, x1, x2, x3]) :
    w.cell? ⟨g, 0, none⟩ = some x0 ∧ w.cell? ⟨g, 1, none⟩ = some x1 ∧ w.cell? ⟨g, 2, none⟩ = some x2 ∧ w.cell? ⟨g, 3, none⟩ = some x3 ∧
    w.frozen? ⟨g, 0, none⟩ = false ∧ w.frozen? ⟨g, 1, none⟩ = false ∧ w.frozen? ⟨g, 2, none⟩ = false ∧ w.frozen? ⟨g, 3, none⟩ = false :=
  ⟨h.cell 0, h.cell 1, h.cell 2, h.cell 3, h.frozen 0, h.frozen 1, h.frozen 2, h.frozen 3⟩

/-- The three blocks of the call. -/
def QW (w : World) (x : Q4) (wr : World) : Prop :=
  Blk wr w.heap.size 133 (q4s x) ∧ Blk wr (w.heap.size + 1) 133 (u64s [0, 0, 0, 0]) ∧ Blk wr (w.heap.size + 1 + 1) 142 [.int .i64 16, .int .i64 12, .int .i64 8, .int .i64 7] ∧ Below w.heap.size w wr

/-- Where the loop may stand. -/
def QRel (w : World) (q : Q4) (i : Value) (wr : World) : Prop := (i = .int .i64 0 ∧ QW w q wr) ∨ (i = .int .i64 2 ∧ QW w (half q 16 12) wr) ∨ (i = .int .i64 4 ∧ QW w (quarter q) wr)
/-- What a round finds. -/
structure QIn (w : World) (q : Q4) (wr : World) (j n1 n2 : Nat) (x : Q4) : Prop where
  B : Blk wr w.heap.size 133 (q4s x)
  Z : Blk wr (w.heap.size + 1) 133 (u64s [0, 0, 0, 0])
  T : Blk wr (w.heap.size + 1 + 1) 142 [.int .i64 16, .int .i64 12, .int .i64 8, .int .i64 7]
  b : Below w.heap.size w wr
  ok : x.ok
  t0 : wr.cell? ⟨w.heap.size + 1 + 1, j, none⟩ = some (.int .i64 (n1 : Nat))
  t1 : wr.cell? ⟨w.heap.size + 1 + 1, j + 1, none⟩ = some (.int .i64 (n2 : Nat))
  hj : j + 2 ≤ 4
  h1 : n1 = 16 ∨ n1 = 12 ∨ n1 = 8 ∨ n1 = 7
  h2 : n2 = 16 ∨ n2 = 12 ∨ n2 = 8 ∨ n2 = 7
  next : ∀ wx, QW w (half x n1 n2) wx → QRel w q (.int .i64 ((j : Int) + 2)) wx
theorem QRel.cases {w : World} {q : Q4} {i : Value} {wr : World} (h : QRel w q i wr) (hq : q.ok) : (∃ j n1 n2 x, i = .int .i64 (j : Nat) ∧ QIn w q wr j n1 n2 x) ∨ (i = .int .i64 4 ∧ QW w (quarter q) wr) := by
  rcases h with ⟨rfl, hB, hZ, hT, hb⟩ | ⟨rfl, hB, hZ, hT, hb⟩ | h
  · exact .inl ⟨0, 16, 12, q, rfl, hB, hZ, hT, hb, hq, hT.cell 0, hT.cell 1, by omega, by simp, by simp, fun wx hx => .inr (.inl ⟨rfl, hx⟩)⟩
  · exact .inl ⟨2, 8, 7, half q 16 12, rfl, hB, hZ, hT, hb, half_ok hq 16 12 (.inl rfl) (.inr (.inl rfl)), hT.cell 2, hT.cell 3, by omega, by simp, by simp, fun wx hx => .inr (.inr ⟨rfl, hx⟩)⟩
  · exact .inr h

set_option maxHeartbeats 8000000 in
theorem rquarter_any (q : Q4) (w : World) (h : q.ok) :
    Calls Try.prog 88 #[.agg #[.int .u64 q.a, .int .u64 q.b, .int .u64 q.c, .int .u64 q.d]] w fun e w' =>
      e = .returned (.agg #[.int .u64 (quarter q).a, .int .u64 (quarter q).b, .int .u64 (quarter q).c, .int .u64 (quarter q).d]) ∧ Below w.heap.size w w' := by
  have HQ := Lib.hid h
  clear h
  go_enter Try.func88, Try.ntmps88
  go_wp2_with fail
  go_loopw [4] (fun i wr => QRel w q i wr) (fun i _ => 4 - (intOf i).toNat)
  case atStart =>
    refine .inl ⟨rfl, ?_, ?_, ?_, ?_⟩
    · exact ((Blk.new w 133 (q4s q)).alloc _).alloc _
    · exact (Blk.new_at (w.alloc (.cells (q4s q).toArray 133)) 133 (u64s [0, 0, 0, 0]) (by simp)).alloc (.cells #[.int .i64 16, .int .i64 12, .int .i64 8, .int .i64 7] 142)
    · exact Blk.new_at ((w.alloc (.cells (q4s q).toArray 133)).alloc (.cells (u64s [0, 0, 0, 0]).toArray 133)) 142 [.int .i64 16, .int .i64 12, .int .i64 8, .int .i64 7] (by simp)
    · exact (((Below.refl _ w).alloc (Nat.le_refl _) _).alloc (by simp) _).alloc (by simp; omega) _
  case round =>
    rcases hrel.cases HQ.out with ⟨j, n1, n2, x, rfl, hin⟩ | ⟨rfl, hq⟩
    · clear hrel
      have HI := Lib.hid hin
      obtain ⟨f0, f1, f2, f3, f4, f5, f6, f7⟩ := blk4 hin.B
      obtain ⟨qa, qb, qc, qd⟩ := hin.ok
      have t0 := hin.t0
      have t1 := hin.t1
      have hj := hin.hj
      have HN := Lib.hid hin.next
      have HBW := Lib.hid hin.b
      have HB := Lib.hid hin.B
      have HZ := Lib.hid hin.Z
      have HT := Lib.hid hin.T
      have h1 := hin.h1
      have h2 := hin.h2
      clear hin
      have la := add32_lt x.a x.b
      have ld := rol_lt (x.d ^^^ add32 x.a x.b) n1 (xor32_lt qd la) h1
      have lc := add32_lt x.c (rol (x.d ^^^ add32 x.a x.b) n1)
      have hX1 := Lib.hid (xor32_lt qd la)
      have hX2 := Lib.hid (xor32_lt qb lc)
      have H1 := Lib.hid h1
      have H2 := Lib.hid h2
      clear h1 h2
      go_upto_region 6 with (first | (go_at_call 90; refine (plus_any _ _ _ qa qb).mono ?_; rintro e w' ⟨rfl, rfl⟩))
      have B1 := HB.out.set 0 (.int .u64 ((add32 x.a x.b : Nat) : Int))
      have Z1 := HZ.out.other (p := ⟨w.heap.size, 0, none⟩) (by simp) (.int .u64 ((add32 x.a x.b : Nat) : Int))
      have T1 := HT.out.other (p := ⟨w.heap.size, 0, none⟩) (by simp; omega) (.int .u64 ((add32 x.a x.b : Nat) : Int))
      have b1 := HBW.out.setCell (p := ⟨w.heap.size, 0, none⟩) (Nat.le_refl _) (.int .u64 ((add32 x.a x.b : Nat) : Int))
      have t0' : (wr.setCell ⟨w.heap.size, 0, none⟩ (.int .u64 ((add32 x.a x.b : Nat) : Int))).cell? ⟨w.heap.size + 1 + 1, j, none⟩ = some (.int .i64 (n1 : Nat)) := by rw [T1.cell, ← HT.out.cell]; exact t0
      have t1' : (wr.setCell ⟨w.heap.size, 0, none⟩ (.int .u64 ((add32 x.a x.b : Nat) : Int))).cell? ⟨w.heap.size + 1 + 1, j + 1, none⟩ = some (.int .i64 (n2 : Nat)) := by rw [T1.cell, ← HT.out.cell]; exact t1
      clear HB HZ HT HBW t0 t1 f0 f1 f2 f3 f4 f5 f6 f7
      generalize wr.setCell _ _ = wA at *
      obtain ⟨f0, f1, f2, f3, f4, f5, f6, f7⟩ := blk4 (x0 := .int .u64 ((add32 x.a x.b : Nat) : Int)) (x1 := .int .u64 (x.b : Int)) (x2 := .int .u64 (x.c : Int)) (x3 := .int .u64 (x.d : Int)) B1
      have HB := Lib.hid B1
      have HZ := Lib.hid Z1
      have HT := Lib.hid T1
      have HBW := Lib.hid b1
      clear B1 Z1 T1 b1
      go_cut [] (fun wx => QW w ⟨add32 x.a x.b, x.b, x.c, rol (x.d ^^^ add32 x.a x.b) n1⟩ wx)
      case first =>
        go_region_with (first | (go_at_call 99; refine (against_any _ _ _ qd la).mono ?_; rintro e w' ⟨rfl, rfl⟩) | (go_at_call 98; refine (left_any _ n1 _ hX1.out H1.out).mono ?_; rintro e w' ⟨mm, rfl, rfl⟩))
        all_goals
          go_wp2_with fail
          go_meet
          exact ⟨HB.out.set 3 _, HZ.out.other (p := ⟨w.heap.size, 3, none⟩) (by simp) _, HT.out.other (p := ⟨w.heap.size, 3, none⟩) (by simp; omega) _, (belowN HBW.out _).setCell (p := ⟨w.heap.size, 3, none⟩) (Nat.le_refl _) _⟩
      case rest =>
        obtain ⟨B2, Z2, T2, b2⟩ := hcut
        have t1 := T2.cell (j + 1)
        rw [← HT.out.cell, t1'] at t1
        clear HB HZ HT HBW f0 f1 f2 f3 f4 f5 f6 f7 t0' t1'
        obtain ⟨f0, f1, f2, f3, f4, f5, f6, f7⟩ := blk4 B2
        simp only at f0 f1 f2 f3
        have HB := Lib.hid B2
        have HZ := Lib.hid Z2
        have HT := Lib.hid T2
        have HBW := Lib.hid b2
        clear B2 Z2 T2 b2
        go_upto_region 8 with (first | (go_at_call 90; refine (plus_any _ _ _ qc ld).mono ?_; rintro e w' ⟨rfl, rfl⟩))
        have B1 := HB.out.set 2 (.int .u64 ((add32 x.c (rol (x.d ^^^ add32 x.a x.b) n1) : Nat) : Int))
        have Z1 := HZ.out.other (p := ⟨w.heap.size, 2, none⟩) (by simp) (.int .u64 ((add32 x.c (rol (x.d ^^^ add32 x.a x.b) n1) : Nat) : Int))
        have T1 := HT.out.other (p := ⟨w.heap.size, 2, none⟩) (by simp; omega) (.int .u64 ((add32 x.c (rol (x.d ^^^ add32 x.a x.b) n1) : Nat) : Int))
        have b1 := HBW.out.setCell (p := ⟨w.heap.size, 2, none⟩) (Nat.le_refl _) (.int .u64 ((add32 x.c (rol (x.d ^^^ add32 x.a x.b) n1) : Nat) : Int))
        have t1' := T1.cell (j + 1)
        rw [← HT.out.cell, t1] at t1'
        clear HB HZ HT HBW t1 f0 f1 f2 f3 f4 f5 f6 f7
        generalize wc.setCell _ _ = wB at *
        obtain ⟨f0, f1, f2, f3, f4, f5, f6, f7⟩ := blk4 (x0 := .int .u64 ((add32 x.a x.b : Nat) : Int)) (x1 := .int .u64 (x.b : Int)) (x2 := .int .u64 ((add32 x.c (rol (x.d ^^^ add32 x.a x.b) n1) : Nat) : Int)) (x3 := .int .u64 ((rol (x.d ^^^ add32 x.a x.b) n1 : Nat) : Int)) B1
        have HB := Lib.hid B1
        have HZ := Lib.hid Z1
        have HT := Lib.hid T1
        have HBW := Lib.hid b1
        clear B1 Z1 T1 b1
        have hj1 : (j : Int) + 1 < 4 := by omega
        have hj2 : ((j : Int) + 1).toNat = j + 1 := by omega
        have hj3 : (0 : Int) ≤ (j : Int) + 1 := by omega
        have hj4 : (j : Int) < 3 := by omega
        have hj5 : j < 3 := by omega
        have hj6 : IntKind.i64.wrap ((j : Int) + 1) = (j : Int) + 1 := by simp [IntKind.wrap, IntKind.bits, IntKind.signed]; omega
        go_region_with (first | (go_at_call 99; refine (against_any _ _ _ qb lc).mono ?_; rintro e w' ⟨rfl, rfl⟩) | (go_at_call 98; refine (left_any _ n2 _ hX2.out H2.out).mono ?_; rintro e w' ⟨mm, rfl, rfl⟩))
        all_goals
          go_wp2_with fail
          go_roundw
          case rel => exact HN.out _ ⟨HB.out.set 1 _, HZ.out.other (p := ⟨w.heap.size, 1, none⟩) (by simp) _, HT.out.other (p := ⟨w.heap.size, 1, none⟩) (by simp; omega) _, (belowN HBW.out _).setCell (p := ⟨w.heap.size, 1, none⟩) (Nat.le_refl _) _⟩
          case measure => simp [intOf]; omega
    · obtain ⟨hB, hZ, hT, hb⟩ := hq
      obtain ⟨f0, f1, f2, f3, f4, f5, f6, f7⟩ := blk4 hB
      obtain ⟨z0, z1, z2, z3, z4, z5, z6, z7⟩ := blk4 hZ
      have HBW := Lib.hid hb
      have HB := Lib.hid hB
      have HZ := Lib.hid hZ
      clear hT hb hB hZ
      go_wp2_with fail
      have BZ := (((HZ.out.set 0 (.int .u64 ((quarter q).a : Int))).set 1 (.int .u64 ((quarter q).b : Int))).set 2 (.int .u64 ((quarter q).c : Int))).set 3 (.int .u64 ((quarter q).d : Int))
      have BW := (((HBW.out.setCell (p := ⟨w.heap.size + 1, 0, none⟩) (by simp) (.int .u64 ((quarter q).a : Int))).setCell (p := ⟨w.heap.size + 1, 1, none⟩) (by simp) (.int .u64 ((quarter q).b : Int))).setCell (p := ⟨w.heap.size + 1, 2, none⟩) (by simp) (.int .u64 ((quarter q).c : Int))).setCell (p := ⟨w.heap.size + 1, 3, none⟩) (by simp) (.int .u64 ((quarter q).d : Int))
      clear HB HZ HBW f0 f1 f2 f3 f4 f5 f6 f7 z0 z1 z2 z3 z4 z5 z6 z7
      generalize (((wr.setCell _ _).setCell _ _).setCell _ _).setCell _ _ = wE at *
      obtain ⟨r0, r1, r2, r3, -⟩ := blk4 (x0 := .int .u64 ((quarter q).a : Int)) (x1 := .int .u64 ((quarter q).b : Int)) (x2 := .int .u64 ((quarter q).c : Int)) (x3 := .int .u64 ((quarter q).d : Int)) BZ
      refine bodyPost_ret (v := .agg #[.int .u64 (quarter q).a, .int .u64 (quarter q).b, .int .u64 (quarter q).c, .int .u64 (quarter q).d]) ?_ rfl ⟨rfl, BW⟩
      simp [results, Try.results14, go_sem, r0, r1, r2, r3]
end Go.Proofs.Ytcfbaildcocnhaa

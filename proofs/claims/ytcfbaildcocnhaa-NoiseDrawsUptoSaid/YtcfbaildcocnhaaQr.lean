/-
  The quarter round: the program's and the document's.
-/
import Derived.Test.YtcfbaildcocnhaaRows
import Derived.Test.YtcfbaildcocnhaaMem
import Derived.Outline
import Derived.WalkLawsBesides
import Derived.LoopTactic
import Derived.Deep.QuietTactic
import Derived.BigQuiet
import Derived.Deep.RegionWith
import Derived.Laws.BitsAllLaws
set_option linter.unusedVariables false
set_option linter.unusedSimpArgs false
namespace Go.Proofs.Ytcfbaildcocnhaa
open Go.RowKit

def add32 (a b : Nat) : Nat := (a + b) % 4294967296
/-- Turned left by n. -/
def rol (x n : Nat) : Nat := x * 2 ^ n % 4294967296 + x / 2 ^ (32 - n)
theorem add32_lt (a b : Nat) : add32 a b < 4294967296 := Nat.mod_lt _ (by omega)
theorem xor32_lt {a b : Nat} (ha : a < 4294967296) (hb : b < 4294967296) : a ^^^ b < 4294967296 := Nat.xor_lt_two_pow (n := 32) ha hb
theorem rol_lt (x n : Nat) (hx : x < 4294967296) (hn : n = 16 ∨ n = 12 ∨ n = 8 ∨ n = 7) : rol x n < 4294967296 := by
  unfold rol; rcases hn with rfl | rfl | rfl | rfl <;> omega
theorem rol_or (x n : Nat) (hx : x < 4294967296) (hn : n = 16 ∨ n = 12 ∨ n = 8 ∨ n = 7) : (x * 2 ^ n % 4294967296) ||| (x / 2 ^ (32 - n)) = rol x n := by
  unfold rol
  rcases hn with rfl | rfl | rfl | rfl
  · exact nat_join 16 _ _ (by omega) (by omega)
  · exact nat_join 12 _ _ (by omega) (by omega)
  · exact nat_join 8 _ _ (by omega) (by omega)
  · exact nat_join 7 _ _ (by omega) (by omega)

theorem rol_int (x n : Nat) (hx : x < 4294967296) (hn : n = 16 ∨ n = 12 ∨ n = 8 ∨ n = 7) : bits .or .u32 ((x : Int) * 2 ^ n % 4294967296) ((x : Int) / 2 ^ (32 - n)) = ((rol x n : Nat) : Int) := by
  have h := u32_or_nat (x * 2 ^ n % 4294967296) (x / 2 ^ (32 - n)) (Nat.mod_lt _ (by omega)) (Nat.lt_of_le_of_lt (Nat.div_le_self _ _) hx)
  rw [rol_or x n hx hn] at h
  rw [← h]
  simp

theorem rot_any (x n : Nat) (w : World) (hx : x < 4294967296) (hn : n = 16 ∨ n = 12 ∨ n = 8 ∨ n = 7) :
    Calls Try.prog 104 #[.int .u32 x, .int .i64 n] w fun e w' => e = .returned (.int .u32 (rol x n : Nat)) ∧ w = w' := by
  have h := rol_int x n hx hn
  have H := Lib.hid h
  clear h
  rcases hn with rfl | rfl | rfl | rfl
  · have ha : bits .and .u64 16 31 = 16 := by decide
    go_enter Try.func104, Try.ntmps104
    go_wp2
    go_ret
    exact ⟨congrArg (fun z => Ending.returned (Value.int _ z)) H.out, rfl⟩
  · have ha : bits .and .u64 12 31 = 12 := by decide
    go_enter Try.func104, Try.ntmps104
    go_wp2
    go_ret
    exact ⟨congrArg (fun z => Ending.returned (Value.int _ z)) H.out, rfl⟩
  · have ha : bits .and .u64 8 31 = 8 := by decide
    go_enter Try.func104, Try.ntmps104
    go_wp2
    go_ret
    exact ⟨congrArg (fun z => Ending.returned (Value.int _ z)) H.out, rfl⟩
  · have ha : bits .and .u64 7 31 = 7 := by decide
    go_enter Try.func104, Try.ntmps104
    go_wp2
    go_ret
    exact ⟨congrArg (fun z => Ending.returned (Value.int _ z)) H.out, rfl⟩

/-- The quarter round's steps. -/
structure Q4 where
  a : Nat
  b : Nat
  c : Nat
  d : Nat
def half (q : Q4) (m n : Nat) : Q4 :=
  let a := add32 q.a q.b
  let d := rol (q.d ^^^ a) m
  let c := add32 q.c d
  ⟨a, rol (q.b ^^^ c) n, c, d⟩
def quarter (q : Q4) : Q4 := half (half q 16 12) 8 7
def Q4.ok (q : Q4) : Prop := q.a < 4294967296 ∧ q.b < 4294967296 ∧ q.c < 4294967296 ∧ q.d < 4294967296
theorem half_ok {q : Q4} (h : q.ok) (m n : Nat) (hm : m = 16 ∨ m = 12 ∨ m = 8 ∨ m = 7) (hn : n = 16 ∨ n = 12 ∨ n = 8 ∨ n = 7) : (half q m n).ok :=
  ⟨add32_lt _ _, rol_lt _ _ (xor32_lt h.2.1 (add32_lt _ _)) hn, add32_lt _ _, rol_lt _ _ (xor32_lt h.2.2.2 (add32_lt _ _)) hm⟩

theorem add_int (a b : Nat) : ((a : Int) + (b : Int)) % 4294967296 = ((add32 a b : Nat) : Int) := by simp [add32]

set_option maxHeartbeats 1000000 in
theorem quarter_any (a b c d : Nat) (w : World) (h : (Q4.mk a b c d).ok) :
    Calls Try.prog 95 #[.int .u32 a, .int .u32 b, .int .u32 c, .int .u32 d] w fun e w' =>
      e = .returned (.tuple #[.int .u32 (quarter ⟨a, b, c, d⟩).a, .int .u32 (quarter ⟨a, b, c, d⟩).b, .int .u32 (quarter ⟨a, b, c, d⟩).c, .int .u32 (quarter ⟨a, b, c, d⟩).d]) ∧ w = w' := by
  obtain ⟨ha, hb, hc, hd⟩ := h
  simp only at ha hb hc hd
  obtain ⟨a1, A1⟩ : ∃ x, Hid (add32 a b = x) := ⟨_, Lib.hid rfl⟩
  have la1 : a1 < 4294967296 := by rw [← A1.out]; exact add32_lt _ _
  have x1 := u32_xor_nat d a1 hd la1
  obtain ⟨d1, D1⟩ : ∃ x, Hid (rol (d ^^^ a1) 16 = x) := ⟨_, Lib.hid rfl⟩
  have ld1 : d1 < 4294967296 := by rw [← D1.out]; exact rol_lt _ _ (xor32_lt hd la1) (.inl rfl)
  obtain ⟨c1, C1⟩ : ∃ x, Hid (add32 c d1 = x) := ⟨_, Lib.hid rfl⟩
  have lc1 : c1 < 4294967296 := by rw [← C1.out]; exact add32_lt _ _
  obtain ⟨b1, B1⟩ : ∃ x, Hid (rol (b ^^^ c1) 12 = x) := ⟨_, Lib.hid rfl⟩
  have lb1 : b1 < 4294967296 := by rw [← B1.out]; exact rol_lt _ _ (xor32_lt hb lc1) (.inr (.inl rfl))
  obtain ⟨a2, A2⟩ : ∃ x, Hid (add32 a1 b1 = x) := ⟨_, Lib.hid rfl⟩
  have la2 : a2 < 4294967296 := by rw [← A2.out]; exact add32_lt _ _
  obtain ⟨d2, D2⟩ : ∃ x, Hid (rol (d1 ^^^ a2) 8 = x) := ⟨_, Lib.hid rfl⟩
  have ld2 : d2 < 4294967296 := by rw [← D2.out]; exact rol_lt _ _ (xor32_lt ld1 la2) (.inr (.inr (.inl rfl)))
  obtain ⟨c2, C2⟩ : ∃ x, Hid (add32 c1 d2 = x) := ⟨_, Lib.hid rfl⟩
  have lc2 : c2 < 4294967296 := by rw [← C2.out]; exact add32_lt _ _
  have HQ : Hid (quarter ⟨a, b, c, d⟩ = ⟨a2, rol (b1 ^^^ c2) 7, c2, d2⟩) := Lib.hid (by
    simp only [quarter, half, A1.out, D1.out, C1.out, B1.out, A2.out, D2.out, C2.out])
  rw [HQ.out]
  clear x1
  have X1 := Lib.hid (u32_xor_nat d a1 hd la1)
  have X2 := Lib.hid (u32_xor_nat b c1 hb lc1)
  have X3 := Lib.hid (u32_xor_nat d1 a2 ld1 la2)
  have X4 := Lib.hid (u32_xor_nat b1 c2 lb1 lc2)
  go_enter Try.func95, Try.ntmps95
  go_wp2_with fail
  rw [add_int, A1.out, X1.out]
  refine (rot_any (d ^^^ a1) 16 _ (xor32_lt hd la1) (.inl rfl)).mono ?_
  rintro e w' ⟨rfl, rfl⟩
  rw [D1.out]
  go_wp2_with fail
  rw [add_int, C1.out, X2.out]
  refine (rot_any (b ^^^ c1) 12 _ (xor32_lt hb lc1) (.inr (.inl rfl))).mono ?_
  rintro e w' ⟨rfl, rfl⟩
  rw [B1.out]
  go_wp2_with fail
  rw [add_int, A2.out, X3.out]
  refine (rot_any (d1 ^^^ a2) 8 _ (xor32_lt ld1 la2) (.inr (.inr (.inl rfl)))).mono ?_
  rintro e w' ⟨rfl, rfl⟩
  rw [D2.out]
  go_wp2_with fail
  rw [add_int, C2.out, X4.out]
  refine (rot_any (b1 ^^^ c2) 7 _ (xor32_lt lb1 lc2) (.inr (.inr (.inr rfl)))).mono ?_
  rintro e w' ⟨rfl, rfl⟩
  go_wp2_with fail
  exact bodyPost_ret (v := .tuple #[.int .u32 a2, .int .u32 (rol (b1 ^^^ c2) 7 : Nat), .int .u32 c2, .int .u32 d2]) (by simp [results, Try.results13, go_sem]) rfl ⟨rfl, rfl⟩
end Go.Proofs.Ytcfbaildcocnhaa

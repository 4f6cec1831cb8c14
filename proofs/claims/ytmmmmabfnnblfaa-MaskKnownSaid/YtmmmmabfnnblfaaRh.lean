/-
  Walk: SameLists of the shared reference, of lists that are the same.
-/
import Derived.Test.YtmmmmabfnnblfaaRi
set_option linter.unusedVariables false
set_option linter.unusedSimpArgs false
namespace Go.Proofs.Ytmmmmabfnnblfaa
open Go.RowKit

theorem Rd.drawsR {w : World} {k : IntKind} {A : Option Addr} {xs : List Int} (h : Rd w k A xs) (n : Nat) : Rd (w.drewN n) k A xs := h
theorem rsame_at (A B : Option Addr) (n m c d : Nat) (xs ys : List Int) (w : World) (hn : n = xs.length) (hm' : m = ys.length) (hx : Rd w .u8 A xs) (hy : Rd w .u8 B ys) (hl : xs.length ≤ 9223372036854775807) (hm : ys.length ≤ 9223372036854775807) :
    Calls Try.prog 39 #[.slice A n c, .slice B m d] w fun e w' => ∃ n, e = .returned (.bool (decide (xs = ys))) ∧ w' = w.drewN n := by
  subst hn hm'
  exact rsame_any A B c d xs ys w hx hy hl hm
theorem rsame_quiet {A B : Option Addr} {n m c d : Nat} {xs : List Int} {w : World} (y x : Nat) (hn : Hid (n = xs.length)) (hm : Hid (m = xs.length)) (hx : Hid (Rd w .u8 A xs)) (hy : Hid (Rd w .u8 B xs)) (hl : xs.length ≤ 9223372036854775807) :
    Calls Try.prog 39 #[.slice A n c, .slice B m d] (w.drewN (y + x)) fun e w'' => e = .returned (.bool true) ∧ ∃ q, w'' = w.drewN (y + q) := by
  refine (rsame_at A B n m c d xs xs _ hn.out hm.out (hx.out.drawsR _) (hy.out.drawsR _) hl hl).mono ?_
  rintro e w' ⟨q, rfl, rfl⟩
  exact ⟨by simp, x + q, by rw [World.drewN_drewN, Nat.add_assoc]⟩
set_option maxHeartbeats 1600000 in
theorem lists_any (L M : Option Addr) (n c d : Nat) (hs ks : Nat → Hd) (xss : Nat → List Int) (w : World) (hr : RdH w L hs n) (hc : CtH w hs xss n) (kr : RdH w M ks n) (kc : CtH w ks xss n) (hn : n ≤ 1048576) (hx : ∀ i, i < n → (xss i).length ≤ 1048576) :
    Calls Try.prog 46 #[.slice L n c, .slice M n d] w fun e w' => e = .returned (.bool true) ∧ ∃ x, w' = w.drewN x := by
  have HR := Lib.hid hr
  have HC := Lib.hid hc
  have KR := Lib.hid kr
  have KC := Lib.hid kc
  have HX := Lib.hid hx
  clear hr hc hx kr kc
  go_enter Try.func46, Try.ntmps46
  go_wp2
  go_loopw [5] (fun i wr => ∃ k x : Nat, k ≤ n ∧ i = .int .i64 k ∧ wr = w.drewN x) (fun i _ => n - (intOf i).toNat)
  case atStart => exact ⟨0, 0, Nat.zero_le _, rfl, rfl⟩
  case round =>
    obtain ⟨k, x, hk, rfl, rfl⟩ := hrel
    by_cases hlt : k < n
    · obtain ⟨b, off, rfl, hb0, hck⟩ := HR.out k hlt
      obtain ⟨b2, off2, rfl, hb2, hdk⟩ := KR.out k hlt
      have N1 : Hid ((hs k).m = (xss k).length) := Lib.hid (HC.out k hlt).1
      have N2 : Hid ((ks k).m = (xss k).length) := Lib.hid (KC.out k hlt).1
      have R1 : Hid (Rd w .u8 (hs k).A (xss k)) := Lib.hid (HC.out k hlt).2
      have R2 : Hid (Rd w .u8 (ks k).A (xss k)) := Lib.hid (KC.out k hlt).2
      have HCL : Hid ((xss k).length ≤ 9223372036854775807) := Lib.hid (by have := HX.out k hlt; omega)
      clear hb0 hb2
      go_wp2_with fail
      go_quiet (first | (go_at_call 39; exact rsame_quiet _ _ N1 N2 R1 R2 HCL.out))
      go_wp2_with fail
      go_roundw
      case rel => exact ⟨k + 1, _, by omega, by go_num, rfl⟩
      case measure => simp [intOf]; omega
    · obtain rfl : k = n := by omega
      go_wp2
      go_ret
      exact ⟨rfl, x, rfl⟩
end Go.Proofs.Ytmmmmabfnnblfaa

/-
  Walks: Skip of both streams, At, left; on a stream that is not there.
-/
import Derived.Test.YtldbmjkecmmmjaaKs
set_option linter.unusedVariables false
set_option linter.unusedSimpArgs false
namespace Go.Proofs.Ytldbmjkecmmmjaa
open Go.RowKit

def skE (p : Nat) (z : Int) : Int := if z < 0 then 2 else if ((274877906944 - p : Nat) : Int) < z then 50 else 0
def skP (p : Nat) (z : Int) : Nat := if z < 0 then p else if ((274877906944 - p : Nat) : Int) < z then p else p + z.toNat
theorem skP_le {p : Nat} {z : Int} (h : p ≤ 274877906944) : skP p z ≤ 274877906944 := by
  unfold skP
  split
  · exact h
  · split
    · exact h
    · omega

set_option maxHeartbeats 2000000 in
theorem skip_any (g : Nat) (z : Int) (ks ns : List Int) (p : Nat) (w : World) (hz : -9223372036854775808 ≤ z ∧ z ≤ 9223372036854775807) (hg : Blk w g 87 (SGl ks ns p)) (hp : p ≤ 274877906944) (hk : ks.length = 32) (hns : ns.length = 12) :
    Calls Try.prog 31 #[.pointer (some ⟨g, 0, none⟩), .int .i64 z] w fun e w' => e = .returned (.int .i64 (skE p z)) ∧ Blk w' g 87 (SGl ks ns (skP p z)) ∧ Fr (fun j => j = g) w w' := by
  have HG := Lib.hid hg
  have hcp : w.cell? ⟨g, 44, none⟩ = some (.int .u64 (p : Int)) := (SGl_range hg hk hns).2.2
  have hfp : w.frozen? ⟨g, 44, none⟩ = false := hg.frozen 44
  have HSS : Hid (∀ q2 : Nat, Blk (w.setCell ⟨g, 44, none⟩ (.int .u64 (q2 : Int))) g 87 (SGl ks ns q2)) := Lib.hid (fun q2 => SGl_set hg hk hns q2)
  have hsub : IntKind.u64.wrap (274877906944 - (p : Int)) = ((274877906944 - p : Nat) : Int) := by simp [IntKind.wrap, IntKind.bits, IntKind.signed]; omega
  have hsub2 : (274877906944 : Int) - (p : Int) = ((274877906944 - p : Nat) : Int) := by omega
  clear hg hk hns
  by_cases h0 : z < 0
  · have hd : decide (z < 0) = true := by simpa using h0
    have HE : Hid (skE p z = 2 ∧ skP p z = p) := Lib.hid ⟨by unfold skE; rw [if_pos h0], by unfold skP; rw [if_pos h0]⟩
    clear hsub hsub2
    go_enter Try.func31, Try.ntmps31
    go_wp2_with fail
    go_ret
    exact ⟨by rw [HE.out.1]; first | done | rfl, by rw [HE.out.2]; exact HG.out, Fr.refl _ _⟩
  · have hd : decide (z < 0) = false := by simpa using h0
    obtain ⟨n, rfl⟩ : ∃ n : Nat, z = (n : Int) := ⟨z.toNat, by omega⟩
    have hwn : IntKind.u64.wrap (n : Int) = (n : Int) := by simp [IntKind.wrap, IntKind.bits, IntKind.signed]; omega
    by_cases hbig : 274877906944 - p < n
    · have hd2 : decide (((274877906944 - p : Nat) : Int) < (n : Int)) = true := by simp; omega
      have HE : Hid (skE p (n : Int) = 50 ∧ skP p (n : Int) = p) := Lib.hid ⟨by unfold skE; rw [if_neg h0, if_pos (by omega)], by unfold skP; rw [if_neg h0, if_pos (by omega)]⟩
      obtain ⟨M, hM⟩ : ∃ M, M = 274877906944 - p := ⟨_, rfl⟩
      rw [← hM] at hd2 hsub hsub2
      have hd3 : decide (M < n) = true := by simp; omega
      clear hM h0 hbig
      go_enter Try.func31, Try.ntmps31
      go_wp2_with fail
      go_ret
      exact ⟨by rw [HE.out.1]; first | done | rfl, by rw [HE.out.2]; exact HG.out, Fr.refl _ _⟩
    · have hd2 : decide (((274877906944 - p : Nat) : Int) < (n : Int)) = false := by simp; omega
      have HE : Hid (skE p (n : Int) = 0 ∧ skP p (n : Int) = p + n) := Lib.hid ⟨by unfold skE; rw [if_neg h0, if_neg (by omega)], by unfold skP; rw [if_neg h0, if_neg (by omega)]; simp⟩
      have hws : IntKind.u64.wrap ((p : Int) + (n : Int)) = ((p + n : Nat) : Int) := by simp [IntKind.wrap, IntKind.bits, IntKind.signed]; omega
      have HF : Hid (Fr (fun j => j = g) w (w.setCell ⟨g, 44, none⟩ (.int .u64 ((p + n : Nat) : Int)))) := Lib.hid (Fr.setCell (S := fun j => j = g) (Fr.refl _ w) (p := ⟨g, 44, none⟩) (.inl rfl) _)
      have HB2 : Hid (Blk (w.setCell ⟨g, 44, none⟩ (.int .u64 ((p + n : Nat) : Int))) g 87 (SGl ks ns (p + n))) := Lib.hid (HSS.out (p + n))
      obtain ⟨M, hM⟩ : ∃ M, M = 274877906944 - p := ⟨_, rfl⟩
      rw [← hM] at hd2 hsub hsub2
      have hd3 : decide (M < n) = false := by simp; omega
      clear hM h0 hbig
      go_enter Try.func31, Try.ntmps31
      go_wp2_with fail
      go_ret
      exact ⟨by rw [HE.out.1]; first | done | rfl, by rw [HE.out.2]; exact HB2.out, HF.out⟩

set_option maxHeartbeats 2000000 in
theorem rskip_any (g : Nat) (z : Int) (ks ns : List Int) (p : Nat) (w : World) (hz : -9223372036854775808 ≤ z ∧ z ≤ 9223372036854775807) (hg : Blk w g 66 (SGl ks ns p)) (hp : p ≤ 274877906944) (hk : ks.length = 32) (hns : ns.length = 12) :
    Calls Try.prog 45 #[.pointer (some ⟨g, 0, none⟩), .int .i64 z] w fun e w' => e = .returned (.int .i64 (skE p z)) ∧ Blk w' g 66 (SGl ks ns (skP p z)) ∧ Fr (fun j => j = g) w w' := by
  have HG := Lib.hid hg
  have hcp : w.cell? ⟨g, 44, none⟩ = some (.int .u64 (p : Int)) := (SGl_range hg hk hns).2.2
  have hfp : w.frozen? ⟨g, 44, none⟩ = false := hg.frozen 44
  have HSS : Hid (∀ q2 : Nat, Blk (w.setCell ⟨g, 44, none⟩ (.int .u64 (q2 : Int))) g 66 (SGl ks ns q2)) := Lib.hid (fun q2 => SGl_set hg hk hns q2)
  have hsub : IntKind.u64.wrap (274877906944 - (p : Int)) = ((274877906944 - p : Nat) : Int) := by simp [IntKind.wrap, IntKind.bits, IntKind.signed]; omega
  have hsub2 : (274877906944 : Int) - (p : Int) = ((274877906944 - p : Nat) : Int) := by omega
  clear hg hk hns
  by_cases h0 : z < 0
  · have hd : decide (z < 0) = true := by simpa using h0
    have HE : Hid (skE p z = 2 ∧ skP p z = p) := Lib.hid ⟨by unfold skE; rw [if_pos h0], by unfold skP; rw [if_pos h0]⟩
    clear hsub hsub2
    go_enter Try.func45, Try.ntmps45
    go_wp2_with fail
    go_ret
    exact ⟨by rw [HE.out.1]; first | done | rfl, by rw [HE.out.2]; exact HG.out, Fr.refl _ _⟩
  · have hd : decide (z < 0) = false := by simpa using h0
    obtain ⟨n, rfl⟩ : ∃ n : Nat, z = (n : Int) := ⟨z.toNat, by omega⟩
    have hwn : IntKind.u64.wrap (n : Int) = (n : Int) := by simp [IntKind.wrap, IntKind.bits, IntKind.signed]; omega
    by_cases hbig : 274877906944 - p < n
    · have hd2 : decide (((274877906944 - p : Nat) : Int) < (n : Int)) = true := by simp; omega
      have HE : Hid (skE p (n : Int) = 50 ∧ skP p (n : Int) = p) := Lib.hid ⟨by unfold skE; rw [if_neg h0, if_pos (by omega)], by unfold skP; rw [if_neg h0, if_pos (by omega)]⟩
      obtain ⟨M, hM⟩ : ∃ M, M = 274877906944 - p := ⟨_, rfl⟩
      rw [← hM] at hd2 hsub hsub2
      have hd3 : decide (M < n) = true := by simp; omega
      clear hM h0 hbig
      go_enter Try.func45, Try.ntmps45
      go_wp2_with fail
      go_ret
      exact ⟨by rw [HE.out.1]; first | done | rfl, by rw [HE.out.2]; exact HG.out, Fr.refl _ _⟩
    · have hd2 : decide (((274877906944 - p : Nat) : Int) < (n : Int)) = false := by simp; omega
      have HE : Hid (skE p (n : Int) = 0 ∧ skP p (n : Int) = p + n) := Lib.hid ⟨by unfold skE; rw [if_neg h0, if_neg (by omega)], by unfold skP; rw [if_neg h0, if_neg (by omega)]; simp⟩
      have hws : IntKind.u64.wrap ((p : Int) + (n : Int)) = ((p + n : Nat) : Int) := by simp [IntKind.wrap, IntKind.bits, IntKind.signed]; omega
      have HF : Hid (Fr (fun j => j = g) w (w.setCell ⟨g, 44, none⟩ (.int .u64 ((p + n : Nat) : Int)))) := Lib.hid (Fr.setCell (S := fun j => j = g) (Fr.refl _ w) (p := ⟨g, 44, none⟩) (.inl rfl) _)
      have HB2 : Hid (Blk (w.setCell ⟨g, 44, none⟩ (.int .u64 ((p + n : Nat) : Int))) g 66 (SGl ks ns (p + n))) := Lib.hid (HSS.out (p + n))
      obtain ⟨M, hM⟩ : ∃ M, M = 274877906944 - p := ⟨_, rfl⟩
      rw [← hM] at hd2 hsub hsub2
      have hd3 : decide (M < n) = false := by simp; omega
      clear hM h0 hbig
      go_enter Try.func45, Try.ntmps45
      go_wp2_with fail
      go_ret
      exact ⟨by rw [HE.out.1]; first | done | rfl, by rw [HE.out.2]; exact HB2.out, HF.out⟩

theorem at_any (g : Nat) (ks ns : List Int) (p : Nat) (w : World) (hg : Blk w g 87 (SGl ks ns p)) (hk : ks.length = 32) (hns : ns.length = 12) :
    Calls Try.prog 29 #[.pointer (some ⟨g, 0, none⟩)] w fun e w' => e = .returned (.int .u64 (p : Int)) ∧ w' = w := by
  have hcp : w.cell? ⟨g, 44, none⟩ = some (.int .u64 (p : Int)) := (SGl_range hg hk hns).2.2
  clear hg hk hns
  go_enter Try.func29, Try.ntmps29
  go_wp2_with fail
  go_ret
  exact ⟨rfl, rfl⟩
theorem lleft_any (c : Nat) (w : World) (hc : c < 4294967296) : Calls Try.prog 26 #[.int .u32 (c : Int)] w fun e w' => e = .returned (.int .u64 ((274877906944 - 64 * c : Nat) : Int)) ∧ w' = w := by
  have hw1 : IntKind.u64.wrap (4294967296 - (c : Int)) = ((4294967296 - c : Nat) : Int) := by simp [IntKind.wrap, IntKind.bits, IntKind.signed]; omega
  have hw0 : 4294967296 - (c : Int) = ((4294967296 - c : Nat) : Int) := by omega
  have hw2 : IntKind.u64.wrap (((4294967296 - c : Nat) : Int) * 64) = ((274877906944 - 64 * c : Nat) : Int) := by simp [IntKind.wrap, IntKind.bits, IntKind.signed]; omega
  obtain ⟨M, hM⟩ : ∃ M, M = 4294967296 - c := ⟨_, rfl⟩
  rw [← hM] at hw0 hw1 hw2
  obtain ⟨N, hN⟩ : ∃ N, N = 274877906944 - 64 * c := ⟨_, rfl⟩
  rw [← hN] at hw2 ⊢
  clear hM hN
  go_enter Try.func26, Try.ntmps26
  go_wp2_with fail
  go_ret
  exact ⟨rfl, rfl⟩
theorem nilxor_any (A : Option Addr) (n c : Nat) (w : World) : Calls Try.prog 28 #[.pointer none, .slice A n c] w fun e w' => e = .returned (.tuple #[.slice none 0 0, .int .i64 1]) ∧ w' = w := by
  go_enter Try.func28, Try.ntmps28
  go_wp2_with fail
  go_ret2
  exact ⟨rfl, rfl⟩
theorem nilskip_any (z : Int) (w : World) : Calls Try.prog 31 #[.pointer none, .int .i64 z] w fun e w' => e = .returned (.int .i64 1) ∧ w' = w := by
  go_enter Try.func31, Try.ntmps31
  go_wp2_with fail
  go_ret
  exact ⟨rfl, rfl⟩
theorem nilat_any (w : World) : Calls Try.prog 29 #[.pointer none] w fun e w' => e = .returned (.int .u64 0) ∧ w' = w := by
  go_enter Try.func29, Try.ntmps29
  go_wp2_with fail
  go_ret
  exact ⟨rfl, rfl⟩
end Go.Proofs.Ytldbmjkecmmmjaa

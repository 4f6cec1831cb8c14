/-
  The law OctetFresh at arguments as the row reads them.
-/
import Derived.Test.YtcibhaoilcohbaaFs
set_option linter.unusedVariables false
namespace Go.Proofs.Ytcibhaoilcohbaa
open Go.ChangeShapes Go.WideShapes Go.ChangeAt Go.RowKit

theorem tmod_in (z N : Int) (h : 0 < N) : -N < z.tmod N ∧ z.tmod N < N := by
  refine ⟨?_, Int.tmod_lt_of_pos z h⟩
  have h1 := Int.tmod_lt_of_pos (-z) h
  rw [Int.neg_tmod] at h1
  omega
theorem tmod_cut (z : Int) (n : Nat) : (∃ k : Nat, k ≤ n ∧ z.tmod ((n : Int) + 1) = (k : Int)) ∨ (∃ k : Nat, k ≤ n ∧ z.tmod ((n : Int) + 1) = (k : Int) - n - 1) := by
  have h := tmod_in z ((n : Int) + 1) (by omega)
  generalize z.tmod ((n : Int) + 1) = T at h
  by_cases h0 : 0 ≤ T
  · exact .inl ⟨T.toNat, by omega, by omega⟩
  · exact .inr ⟨(T + n + 1).toNat, by omega, by omega⟩

set_option maxRecDepth 100000 in
theorem octetFresh_open {H : Type} {enc : TypeId × Value → H} (W : World) (base : Nat) (v0 : Value) (d0 : DataW H) (p0 : List MemPlace) (v1 : Value) (d1 : DataW H) (p1 : List MemPlace)
    (o0 : Value.okWide Try.prog W .any base 22 v0) (o1 : Value.okWide Try.prog W .any base 3 v1)
    (h0 : DataW.Trod enc Try.prog W 0 (fun _ => true) true 22 v0 d0 p0) (h1 : DataW.Trod enc Try.prog W 0 (fun _ => true) true 3 v1 d1 p1)
    (_hsz : (DataW.weightsEach Try.prog [22, 3] [d0, d1]).all (· ≤ reachBytes) = true) :
    Calls Try.prog 11 #[v0, v1] W fun e w' => e = .returned (.bool true) ∧ Below W.heap.size W w' := by
  obtain ⟨A, c, xs, rfl, r0, f0, l0, hc, hm⟩ := open_rowc 0 _hsz rfl rfl Try.underlying22 Try.underlying5 (by kernel_rfl) (B := 1) (by kernel_rfl) o0 h0
  obtain ⟨z, rfl, _⟩ := open_int Try.underlying3 o1 h1
  have hb : B8 xs := fun i => f0.u8 i
  by_cases hbig : xs.length ≤ 80
  · rcases tmod_cut z xs.length with ⟨k, hk, hT⟩ | ⟨k, hk, hT⟩
    · exact fresh_ap A _ c xs z W rfl r0 hb (by omega) ⟨hc, hm⟩ hbig k hk hT
    · exact fresh_an A _ c xs z W rfl r0 hb (by omega) ⟨hc, hm⟩ hbig k hk hT
  · rcases tmod_cut z 80 with ⟨k, hk, hT⟩ | ⟨k, hk, hT⟩
    · exact fresh_bp A _ c xs z W rfl r0 hb (by omega) ⟨hc, hm⟩ hbig k hk hT
    · exact fresh_bn A _ c xs z W rfl r0 hb (by omega) ⟨hc, hm⟩ hbig k hk hT
end Go.Proofs.Ytcibhaoilcohbaa

/-
  The law NetworkOrders at arguments as the row's second form reads them.
-/
import Derived.Test.YtpglocgfdonmaaaOl
import Derived.Test.YtpglocgfdonmaaaBk
import Derived.SliceStrings
set_option linter.unusedVariables false
namespace Go.Proofs.Ytpglocgfdonmaaa
open Go.ChangeShapes Go.WideShapes Go.ChangeAt Go.RowKit

theorem networkOrders_open {H : Type} {enc : TypeId × Value → H} (W : World) (base : Nat) (v0 : Value) (d0 : DataW H) (p0 : List MemPlace)
    (o0 : Value.okWide Try.prog W .any base 51 v0)
    (h0 : DataW.Trod enc Try.prog W 0 (fun _ => true) true 51 v0 d0 p0)
    (_hsz : (DataW.weightsEach Try.prog [51] [d0]).all (· ≤ reachBytes) = true) (hk : Rows.uptoSmall H [d0] = true) :
    Calls Try.prog 6 #[v0] W fun e w' => e = .returned (.bool true) ∧ Below W.heap.size W w' := by
  have b0 := bulk_of hk 0 (d := d0) rfl
  obtain ⟨A, len, cap, rfl⟩ := okWide_slice Try.underlying51 o0
  obtain ⟨fuel, hf⟩ := h0
  rcases open_strings (P := Try.prog) (x := (d0, p0)) Try.underlying51 Try.underlying9 (by kernel_rfl) hf with ⟨hcs, _⟩ | ⟨a, len', cap', ss, hcs, hb, hl, hm, hlen, hx, hc, -⟩
  · have hcs' : Value.slice A len cap = .slice none 0 0 := by simpa [Value.cells] using hcs
    rw [hcs']
    exact orders_law none 0 0 (fun _ => ByteArray.empty) W (fun i h => by omega) (by omega)
  · have hcs' : Value.slice A len cap = .slice (some a) len' cap' := by simpa [Value.cells] using hcs
    rw [hcs']
    have e1 := congrArg Prod.fst hx
    dsimp only at e1
    subst e1
    simp only [if_true] at hlen
    have h1 := bulk_slice (H := H) (strs (ss.take len')) (strs (ss.drop len'))
    have h2 : (strs (H := H) (ss.take len')).length = len' := by simp [strs]; omega
    obtain ⟨b, off, spot⟩ := a
    refine orders_law _ len' cap' (fun i => ss.getD i ByteArray.empty) W (fun i hi => ?_) (by omega)
    have h0 := hc i (by omega)
    have hspot : spot = none := by
      have := World.cell?_spot (hc 0 (by omega))
      simpa [Addr.add] using this
    subst hspot
    rw [addN] at h0
    exact ⟨b, off, rfl, h0⟩
end Go.Proofs.Ytpglocgfdonmaaa

/-
  The law NetworkGathers at arguments as the row's second form reads them.
-/
import Derived.Test.YtpglocgfdonmaaaGa
import Derived.Test.YtpglocgfdonmaaaBk
import Derived.Deep.Grids
set_option linter.unusedVariables false
namespace Go.Proofs.Ytpglocgfdonmaaa
open Go.ChangeShapes Go.WideShapes Go.ChangeAt Go.RowKit

theorem networkGathers_open {H : Type} {enc : TypeId × Value → H} (W : World) (base : Nat) (v0 : Value) (d0 : DataW H) (p0 : List MemPlace)
    (o0 : Value.okWide Try.prog W .any base 59 v0)
    (h0 : DataW.Trod enc Try.prog W 0 (fun _ => true) true 59 v0 d0 p0)
    (_hsz : (DataW.weightsEach Try.prog [59] [d0]).all (· ≤ reachBytes) = true) (hk : Rows.uptoSmall H [d0] = true) :
    Calls Try.prog 10 #[v0] W fun e w' => e = .returned (.bool true) ∧ Below W.heap.size W w' := by
  have b0 := bulk_of hk 0 (d := d0) rfl
  obtain ⟨A, len, cap, rfl⟩ := okWide_slice Try.underlying59 o0
  obtain ⟨fuel, hf⟩ := h0
  rcases Go.Deep.open_bools (P := Try.prog) (x := (d0, p0)) Try.underlying59 Try.underlying4 (by kernel_rfl) hf with ⟨hcs, _⟩ | ⟨a, len', cap', B, hcs, hb, hl, hm, hx, hc⟩
  · have hcs' : Value.slice A len cap = .slice none 0 0 := by simpa [Value.cells] using hcs
    rw [hcs']
    exact gathers_law none 0 0 [] W rfl (fun i h => by simp at h) (by omega)
  · have hcs' : Value.slice A len cap = .slice (some a) len' cap' := by simpa [Value.cells] using hcs
    rw [hcs']
    have e1 : d0 = Go.Deep.boolRow (some a) len' cap' B := congrArg Prod.fst hx
    subst e1
    have hlen : len' ≤ 1048576 := by
      have h1 : len' + (cap' - len') + 1 ≤ Rows.uptoBulk (Go.Deep.boolRow (H := H) (some a) len' cap' B) := by
        have := bulk_slice (H := H) ((List.range len').map fun i => .lit (.bool (B i))) ((List.range (cap' - len')).map fun j => .lit (.bool (B (len' + j))))
        simp only [List.length_map, List.length_range] at this
        exact this
      omega
    obtain ⟨b, off, spot⟩ := a
    refine gathers_law _ len' cap' ((List.range len').map B) W (by simp) (fun i hi => ?_) (by omega)
    have hi' : i < len' := by simpa using hi
    have h0 := hc i (by omega)
    have hspot : spot = none := by
      have := World.cell?_spot (hc 0 (by omega))
      simpa [Addr.add] using this
    subst hspot
    rw [addN] at h0
    refine ⟨b, off, rfl, ?_⟩
    rw [h0]
    simp [hi']
end Go.Proofs.Ytpglocgfdonmaaa

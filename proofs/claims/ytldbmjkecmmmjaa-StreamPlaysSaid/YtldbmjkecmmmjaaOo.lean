/-
  The law StreamOnce at arguments as the row reads them; the contracts of both sides.
-/
import Derived.Test.YtldbmjkecmmmjaaOn
import Derived.Test.YtldbmjkecmmmjaaOg
set_option linter.unusedVariables false
namespace Go.Proofs.Ytldbmjkecmmmjaa
open Go.ChangeShapes Go.WideShapes Go.ChangeAt Go.RowKit

theorem refC (b : Beg) (h : b.ok) : RefC b.ks b.ns b.c :=
  ⟨fun W => rnew_any b.ks b.ns b.c W h.hk h.hn h.hc, fun g A n cap xs p W hn hr hB hA hl hg hp =>
    (rxor_any rblock_any g A n cap xs b.ks b.ns p W hn hr hB hA hl hg hp h.hk h.hn h.bk h.bn).mono (fun e w' hv => hv.ans hg)⟩
theorem ourC (b : Beg) (h : b.ok) : OurC b.ks b.ns b.c :=
  ⟨fun A n cap xs W hn hr hB hl => (xor1_any A n cap xs b.ks b.ns b.c W hn hr hB hl h.hk h.hn h.bk h.bn h.hc).mono (fun e w' hv => hv.ans)⟩

theorem streamOnce_open {H : Type} {enc : TypeId × Value → H} (W : World) (base : Nat) (v0 : Value) (d0 : DataW H) (p0 : List MemPlace) (v1 : Value) (d1 : DataW H) (p1 : List MemPlace)
    (o0 : Value.okWide Try.prog W .any base 35 v0) (o1 : Value.okWide Try.prog W .any base 39 v1)
    (h0 : DataW.Trod enc Try.prog W 0 (fun _ => true) true 35 v0 d0 p0) (h1 : DataW.Trod enc Try.prog W 0 (fun _ => true) true 39 v1 d1 p1)
    (_hsz : (DataW.weightsEach Try.prog [35, 39] [d0, d1]).all (· ≤ reachBytes) = true) :
    Calls Try.prog 5 #[v0, v1] W fun e w' => e = .returned (.bool true) ∧ Below W.heap.size W w' := by
  obtain ⟨b, rfl, ok⟩ := open_begin o0 h0
  obtain ⟨A, c, xs, rfl, r0, f0, l0, hc, hm⟩ := open_rowc 1 _hsz rfl rfl Try.underlying39 Try.underlying5 (by kernel_rfl) (B := 1) (by kernel_rfl) o1 h1
  exact once_any A xs.length c xs b.ks b.ns b.c W rfl r0 f0.B8 (by omega) ok.hk ok.hn ok.hc (refC b ok) (ourC b ok)
end Go.Proofs.Ytldbmjkecmmmjaa

/-
  No cell of these rows narrows 'for every input' (looked for: loops, veiled, ifaces, maps, wideKeys, modest, calm, conditions, laid).
  DERIVED. THE GIVEN ROWS OF THIS SEAT. 11 by the template 'for every input the law returns true; each argument reads behind the call as it read before'; 0 by the template 'total and deterministic' (their statements: YtcibhaoilcohbaaTotals.lean).
  GIVEN WITH THE SEED: the statements are not yours to turn. If you find one false, say at which input.
  Laid BY PROGRAM, IN A SANDBOX (cutbox-rows.mjs): the forced cells as the released guide's own fill.sh prints them over the translation 496239ab20e828b0… (all of the seat's roots in one cut). By AI agents, Wed Nov 11 2026. No macro, syntax, notation, axiom, sorry.
-/
import Derived.Test.YtcibhaoilcohbaaChecked
import GoSem.Claim
import GoSem.ClaimJoined
import GoSem.ClaimMapViews
import Derived.JoinedTies
import Derived.KernelRfl
namespace Go.Proofs.Ytcibhaoilcohbaa
/- THE CELL 'sum', in the pinned program and in every row, IS THE sha256 OF THE DUMP (.gsa) THAT YtcibhaoilcohbaaProg.lean LOADS. Nothing in Lean hashes anything: it is a label: what it is worth is what the hold of that sum in a sandbox is worth. -/
noncomputable def Try.pinned : Pinned := { name := "ytcibhaoilcohbaa", sum := "496239ab20e828b0739aee87b7af0daa2dd1d9cb626d45dbce73a97943e177fe", checked := Try.checked }
namespace Rows
def none {H : Type} : Left H := { results := [], args := [] }

/-- 'trystlaw02.OctetPuts': WHATEVER THE INPUT: true; the input reads as it did. -/
def octetPutsSpec : ChangeSpec := { name := "octetPuts", fn := fun _ => fun
  | [d1, d2] => { results := [.lit (.bool true)], args := [d1, d2] }
  | _ => none }
def octetPutsRow : OpenClaim := { program := "ytcibhaoilcohbaa", sum := "496239ab20e828b0739aee87b7af0daa2dd1d9cb626d45dbce73a97943e177fe", func := "tryst/trystlaw02.OctetPuts", spec := "octetPuts", apart := false }
def OctetPutsSaid : Prop := octetPutsRow.holds Try.pinned (OpenSpec.ofChange octetPutsSpec)

/-- ITS FALSE NEIGHBOUR: 'it returns false'. Refute it at one input. -/
def octetPutsWrong : ChangeSpec := { name := "octetPuts", fn := fun _ => fun
  | [d1, d2] => { results := [.lit (.bool false)], args := [d1, d2] }
  | _ => none }
def OctetPutsWrongFalsely : Prop := octetPutsRow.holds Try.pinned (OpenSpec.ofChange octetPutsWrong)

/-- 'trystlaw02.OctetHexes': WHATEVER THE INPUT: true; the input reads as it did. -/
def octetHexesSpec : ChangeSpec := { name := "octetHexes", fn := fun _ => fun
  | [d1, d2] => { results := [.lit (.bool true)], args := [d1, d2] }
  | _ => none }
def octetHexesRow : OpenClaim := { program := "ytcibhaoilcohbaa", sum := "496239ab20e828b0739aee87b7af0daa2dd1d9cb626d45dbce73a97943e177fe", func := "tryst/trystlaw02.OctetHexes", spec := "octetHexes", apart := false }
def OctetHexesSaid : Prop := octetHexesRow.holds Try.pinned (OpenSpec.ofChange octetHexesSpec)

/-- ITS FALSE NEIGHBOUR: 'it returns false'. Refute it at one input. -/
def octetHexesWrong : ChangeSpec := { name := "octetHexes", fn := fun _ => fun
  | [d1, d2] => { results := [.lit (.bool false)], args := [d1, d2] }
  | _ => none }
def OctetHexesWrongFalsely : Prop := octetHexesRow.holds Try.pinned (OpenSpec.ofChange octetHexesWrong)

/-- 'trystlaw02.OctetNumbers': WHATEVER THE INPUT: true; the input reads as it did. -/
def octetNumbersSpec : ChangeSpec := { name := "octetNumbers", fn := fun _ => fun
  | [d] => { results := [.lit (.bool true)], args := [d] }
  | _ => none }
def octetNumbersRow : OpenClaim := { program := "ytcibhaoilcohbaa", sum := "496239ab20e828b0739aee87b7af0daa2dd1d9cb626d45dbce73a97943e177fe", func := "tryst/trystlaw02.OctetNumbers", spec := "octetNumbers", apart := false }
def OctetNumbersSaid : Prop := octetNumbersRow.holds Try.pinned (OpenSpec.ofChange octetNumbersSpec)

/-- ITS FALSE NEIGHBOUR: 'it returns false'. Refute it at one input. -/
def octetNumbersWrong : ChangeSpec := { name := "octetNumbers", fn := fun _ => fun
  | [d] => { results := [.lit (.bool false)], args := [d] }
  | _ => none }
def OctetNumbersWrongFalsely : Prop := octetNumbersRow.holds Try.pinned (OpenSpec.ofChange octetNumbersWrong)

/-- 'trystlaw02.OctetReads': WHATEVER THE INPUT: true; the input reads as it did. -/
def octetReadsSpec : ChangeSpec := { name := "octetReads", fn := fun _ => fun
  | [d] => { results := [.lit (.bool true)], args := [d] }
  | _ => none }
def octetReadsRow : OpenClaim := { program := "ytcibhaoilcohbaa", sum := "496239ab20e828b0739aee87b7af0daa2dd1d9cb626d45dbce73a97943e177fe", func := "tryst/trystlaw02.OctetReads", spec := "octetReads", apart := false }
def OctetReadsSaid : Prop := octetReadsRow.holds Try.pinned (OpenSpec.ofChange octetReadsSpec)

/-- ITS FALSE NEIGHBOUR: 'it returns false'. Refute it at one input. -/
def octetReadsWrong : ChangeSpec := { name := "octetReads", fn := fun _ => fun
  | [d] => { results := [.lit (.bool false)], args := [d] }
  | _ => none }
def OctetReadsWrongFalsely : Prop := octetReadsRow.holds Try.pinned (OpenSpec.ofChange octetReadsWrong)

/-- 'trystlaw02.OctetWrites': WHATEVER THE INPUT: true; the input reads as it did. -/
def octetWritesSpec : ChangeSpec := { name := "octetWrites", fn := fun _ => fun
  | [d] => { results := [.lit (.bool true)], args := [d] }
  | _ => none }
def octetWritesRow : OpenClaim := { program := "ytcibhaoilcohbaa", sum := "496239ab20e828b0739aee87b7af0daa2dd1d9cb626d45dbce73a97943e177fe", func := "tryst/trystlaw02.OctetWrites", spec := "octetWrites", apart := false }
def OctetWritesSaid : Prop := octetWritesRow.holds Try.pinned (OpenSpec.ofChange octetWritesSpec)

/-- ITS FALSE NEIGHBOUR: 'it returns false'. Refute it at one input. -/
def octetWritesWrong : ChangeSpec := { name := "octetWrites", fn := fun _ => fun
  | [d] => { results := [.lit (.bool false)], args := [d] }
  | _ => none }
def OctetWritesWrongFalsely : Prop := octetWritesRow.holds Try.pinned (OpenSpec.ofChange octetWritesWrong)

/-- 'trystlaw02.OctetDigits': WHATEVER THE INPUT: true; the input reads as it did. -/
def octetDigitsSpec : ChangeSpec := { name := "octetDigits", fn := fun _ => fun
  | [d1, d2, d3] => { results := [.lit (.bool true)], args := [d1, d2, d3] }
  | _ => none }
def octetDigitsRow : OpenClaim := { program := "ytcibhaoilcohbaa", sum := "496239ab20e828b0739aee87b7af0daa2dd1d9cb626d45dbce73a97943e177fe", func := "tryst/trystlaw02.OctetDigits", spec := "octetDigits", apart := false }
def OctetDigitsSaid : Prop := octetDigitsRow.holds Try.pinned (OpenSpec.ofChange octetDigitsSpec)

/-- ITS FALSE NEIGHBOUR: 'it returns false'. Refute it at one input. -/
def octetDigitsWrong : ChangeSpec := { name := "octetDigits", fn := fun _ => fun
  | [d1, d2, d3] => { results := [.lit (.bool false)], args := [d1, d2, d3] }
  | _ => none }
def OctetDigitsWrongFalsely : Prop := octetDigitsRow.holds Try.pinned (OpenSpec.ofChange octetDigitsWrong)

/-- 'trystlaw02.OctetNames': WHATEVER THE INPUT: true; the input reads as it did. -/
def octetNamesSpec : ChangeSpec := { name := "octetNames", fn := fun _ => fun
  | [] => { results := [.lit (.bool true)], args := [] }
  | _ => none }
def octetNamesRow : OpenClaim := { program := "ytcibhaoilcohbaa", sum := "496239ab20e828b0739aee87b7af0daa2dd1d9cb626d45dbce73a97943e177fe", func := "tryst/trystlaw02.OctetNames", spec := "octetNames", apart := false }
def OctetNamesSaid : Prop := octetNamesRow.holds Try.pinned (OpenSpec.ofChange octetNamesSpec)

/-- ITS FALSE NEIGHBOUR: 'it returns false'. Refute it at one input. -/
def octetNamesWrong : ChangeSpec := { name := "octetNames", fn := fun _ => fun
  | [] => { results := [.lit (.bool false)], args := [] }
  | _ => none }
def OctetNamesWrongFalsely : Prop := octetNamesRow.holds Try.pinned (OpenSpec.ofChange octetNamesWrong)

/-- 'trystlaw02.OctetBack': WHATEVER THE INPUT: true; the input reads as it did. -/
def octetBackSpec : ChangeSpec := { name := "octetBack", fn := fun _ => fun
  | [d] => { results := [.lit (.bool true)], args := [d] }
  | _ => none }
def octetBackRow : OpenClaim := { program := "ytcibhaoilcohbaa", sum := "496239ab20e828b0739aee87b7af0daa2dd1d9cb626d45dbce73a97943e177fe", func := "tryst/trystlaw02.OctetBack", spec := "octetBack", apart := false }
def OctetBackSaid : Prop := octetBackRow.holds Try.pinned (OpenSpec.ofChange octetBackSpec)

/-- ITS FALSE NEIGHBOUR: 'it returns false'. Refute it at one input. -/
def octetBackWrong : ChangeSpec := { name := "octetBack", fn := fun _ => fun
  | [d] => { results := [.lit (.bool false)], args := [d] }
  | _ => none }
def OctetBackWrongFalsely : Prop := octetBackRow.holds Try.pinned (OpenSpec.ofChange octetBackWrong)

/-- 'trystlaw02.OctetFresh': WHATEVER THE INPUT: true; the input reads as it did. -/
def octetFreshSpec : ChangeSpec := { name := "octetFresh", fn := fun _ => fun
  | [d1, d2] => { results := [.lit (.bool true)], args := [d1, d2] }
  | _ => none }
def octetFreshRow : OpenClaim := { program := "ytcibhaoilcohbaa", sum := "496239ab20e828b0739aee87b7af0daa2dd1d9cb626d45dbce73a97943e177fe", func := "tryst/trystlaw02.OctetFresh", spec := "octetFresh", apart := false }
def OctetFreshSaid : Prop := octetFreshRow.holds Try.pinned (OpenSpec.ofChange octetFreshSpec)

/-- ITS FALSE NEIGHBOUR: 'it returns false'. Refute it at one input. -/
def octetFreshWrong : ChangeSpec := { name := "octetFresh", fn := fun _ => fun
  | [d1, d2] => { results := [.lit (.bool false)], args := [d1, d2] }
  | _ => none }
def OctetFreshWrongFalsely : Prop := octetFreshRow.holds Try.pinned (OpenSpec.ofChange octetFreshWrong)

/-- 'trystlaw02.OctetNil': WHATEVER THE INPUT: true; the input reads as it did. -/
def octetNilSpec : ChangeSpec := { name := "octetNil", fn := fun _ => fun
  | [] => { results := [.lit (.bool true)], args := [] }
  | _ => none }
def octetNilRow : OpenClaim := { program := "ytcibhaoilcohbaa", sum := "496239ab20e828b0739aee87b7af0daa2dd1d9cb626d45dbce73a97943e177fe", func := "tryst/trystlaw02.OctetNil", spec := "octetNil", apart := false }
def OctetNilSaid : Prop := octetNilRow.holds Try.pinned (OpenSpec.ofChange octetNilSpec)

/-- ITS FALSE NEIGHBOUR: 'it returns false'. Refute it at one input. -/
def octetNilWrong : ChangeSpec := { name := "octetNil", fn := fun _ => fun
  | [] => { results := [.lit (.bool false)], args := [] }
  | _ => none }
def OctetNilWrongFalsely : Prop := octetNilRow.holds Try.pinned (OpenSpec.ofChange octetNilWrong)

/-- 'trystlaw02.OctetThere': WHATEVER THE INPUT: true; the input reads as it did. -/
def octetThereSpec : ChangeSpec := { name := "octetThere", fn := fun _ => fun
  | [d] => { results := [.lit (.bool true)], args := [d] }
  | _ => none }
def octetThereRow : OpenClaim := { program := "ytcibhaoilcohbaa", sum := "496239ab20e828b0739aee87b7af0daa2dd1d9cb626d45dbce73a97943e177fe", func := "tryst/trystlaw02.OctetThere", spec := "octetThere", apart := false }
def OctetThereSaid : Prop := octetThereRow.holds Try.pinned (OpenSpec.ofChange octetThereSpec)

/-- ITS FALSE NEIGHBOUR: 'it returns false'. Refute it at one input. -/
def octetThereWrong : ChangeSpec := { name := "octetThere", fn := fun _ => fun
  | [d] => { results := [.lit (.bool false)], args := [d] }
  | _ => none }
def OctetThereWrongFalsely : Prop := octetThereRow.holds Try.pinned (OpenSpec.ofChange octetThereWrong)

/- THE SECOND FORM. 'bulk': how many values and letters a reading holds, each counted each time it is reached (what is shared counts as often as it is met; a slice's spare places count too). A statement '..UptoSaid' is the law's where the arguments, and the package variables that the reading takes, are together of bulk at most 1048576: NARROWER than '..Said'. Prove '..Said' where nothing that the law and all that it calls make is longer than what came in: it says more and counts as full. Else prove '..UptoSaid'. A law counts once. -/
mutual
def uptoBulk {H : Type} : DataW H → Nat
  | .lit (.string bytes) => bytes.length + 1
  | .lit _ => 1
  | .nil => 1
  | .ptr d => uptoBulk d + 1
  | .slice elems spare => uptoBulkAll elems + uptoBulkAll spare + 1
  | .agg parts => uptoBulkAll parts + 1
  | .iface _ d => uptoBulk d + 1
  | .map entries => uptoBulkEntries entries + 1
  | .held _ => 1
def uptoBulkAll {H : Type} : List (DataW H) → Nat
  | [] => 0
  | d :: r => uptoBulk d + uptoBulkAll r
def uptoBulkEntries {H : Type} : List (Lit × DataW H) → Nat
  | [] => 0
  | x :: r => uptoBulkEntry x + uptoBulkEntries r
def uptoBulkEntry {H : Type} : Lit × DataW H → Nat
  | (.string bytes, d) => bytes.length + uptoBulk d + 1
  | (_, d) => uptoBulk d + 1
 end
def uptoSmall : (H : Type) → List (DataW H) → Bool := fun _ ds => decide (uptoBulkAll ds ≤ 1048576)
def OpenSpec.upto (s : _root_.Go.ChangeSpec) : _root_.Go.OpenSpec := { _root_.Go.OpenSpec.ofChange s with cond := some uptoSmall }

/-- 'trystlaw02.OctetPuts', WHERE WHAT IT READS IS OF BULK AT MOST 1048576: true; the input reads as it did. -/
def octetPutsUptoRow : OpenClaim := { program := "ytcibhaoilcohbaa", sum := "496239ab20e828b0739aee87b7af0daa2dd1d9cb626d45dbce73a97943e177fe", func := "tryst/trystlaw02.OctetPuts", spec := "octetPuts", apart := false, narrowed := true }
def OctetPutsUptoSaid : Prop := octetPutsUptoRow.holds Try.pinned (OpenSpec.upto octetPutsSpec)

/-- 'trystlaw02.OctetHexes', WHERE WHAT IT READS IS OF BULK AT MOST 1048576: true; the input reads as it did. -/
def octetHexesUptoRow : OpenClaim := { program := "ytcibhaoilcohbaa", sum := "496239ab20e828b0739aee87b7af0daa2dd1d9cb626d45dbce73a97943e177fe", func := "tryst/trystlaw02.OctetHexes", spec := "octetHexes", apart := false, narrowed := true }
def OctetHexesUptoSaid : Prop := octetHexesUptoRow.holds Try.pinned (OpenSpec.upto octetHexesSpec)

/-- 'trystlaw02.OctetNumbers', WHERE WHAT IT READS IS OF BULK AT MOST 1048576: true; the input reads as it did. -/
def octetNumbersUptoRow : OpenClaim := { program := "ytcibhaoilcohbaa", sum := "496239ab20e828b0739aee87b7af0daa2dd1d9cb626d45dbce73a97943e177fe", func := "tryst/trystlaw02.OctetNumbers", spec := "octetNumbers", apart := false, narrowed := true }
def OctetNumbersUptoSaid : Prop := octetNumbersUptoRow.holds Try.pinned (OpenSpec.upto octetNumbersSpec)

/-- 'trystlaw02.OctetReads', WHERE WHAT IT READS IS OF BULK AT MOST 1048576: true; the input reads as it did. -/
def octetReadsUptoRow : OpenClaim := { program := "ytcibhaoilcohbaa", sum := "496239ab20e828b0739aee87b7af0daa2dd1d9cb626d45dbce73a97943e177fe", func := "tryst/trystlaw02.OctetReads", spec := "octetReads", apart := false, narrowed := true }
def OctetReadsUptoSaid : Prop := octetReadsUptoRow.holds Try.pinned (OpenSpec.upto octetReadsSpec)

/-- 'trystlaw02.OctetWrites', WHERE WHAT IT READS IS OF BULK AT MOST 1048576: true; the input reads as it did. -/
def octetWritesUptoRow : OpenClaim := { program := "ytcibhaoilcohbaa", sum := "496239ab20e828b0739aee87b7af0daa2dd1d9cb626d45dbce73a97943e177fe", func := "tryst/trystlaw02.OctetWrites", spec := "octetWrites", apart := false, narrowed := true }
def OctetWritesUptoSaid : Prop := octetWritesUptoRow.holds Try.pinned (OpenSpec.upto octetWritesSpec)

/-- 'trystlaw02.OctetDigits', WHERE WHAT IT READS IS OF BULK AT MOST 1048576: true; the input reads as it did. -/
def octetDigitsUptoRow : OpenClaim := { program := "ytcibhaoilcohbaa", sum := "496239ab20e828b0739aee87b7af0daa2dd1d9cb626d45dbce73a97943e177fe", func := "tryst/trystlaw02.OctetDigits", spec := "octetDigits", apart := false, narrowed := true }
def OctetDigitsUptoSaid : Prop := octetDigitsUptoRow.holds Try.pinned (OpenSpec.upto octetDigitsSpec)

/-- 'trystlaw02.OctetNames', WHERE WHAT IT READS IS OF BULK AT MOST 1048576: true; the input reads as it did. -/
def octetNamesUptoRow : OpenClaim := { program := "ytcibhaoilcohbaa", sum := "496239ab20e828b0739aee87b7af0daa2dd1d9cb626d45dbce73a97943e177fe", func := "tryst/trystlaw02.OctetNames", spec := "octetNames", apart := false, narrowed := true }
def OctetNamesUptoSaid : Prop := octetNamesUptoRow.holds Try.pinned (OpenSpec.upto octetNamesSpec)

/-- 'trystlaw02.OctetBack', WHERE WHAT IT READS IS OF BULK AT MOST 1048576: true; the input reads as it did. -/
def octetBackUptoRow : OpenClaim := { program := "ytcibhaoilcohbaa", sum := "496239ab20e828b0739aee87b7af0daa2dd1d9cb626d45dbce73a97943e177fe", func := "tryst/trystlaw02.OctetBack", spec := "octetBack", apart := false, narrowed := true }
def OctetBackUptoSaid : Prop := octetBackUptoRow.holds Try.pinned (OpenSpec.upto octetBackSpec)

/-- 'trystlaw02.OctetFresh', WHERE WHAT IT READS IS OF BULK AT MOST 1048576: true; the input reads as it did. -/
def octetFreshUptoRow : OpenClaim := { program := "ytcibhaoilcohbaa", sum := "496239ab20e828b0739aee87b7af0daa2dd1d9cb626d45dbce73a97943e177fe", func := "tryst/trystlaw02.OctetFresh", spec := "octetFresh", apart := false, narrowed := true }
def OctetFreshUptoSaid : Prop := octetFreshUptoRow.holds Try.pinned (OpenSpec.upto octetFreshSpec)

/-- 'trystlaw02.OctetNil', WHERE WHAT IT READS IS OF BULK AT MOST 1048576: true; the input reads as it did. -/
def octetNilUptoRow : OpenClaim := { program := "ytcibhaoilcohbaa", sum := "496239ab20e828b0739aee87b7af0daa2dd1d9cb626d45dbce73a97943e177fe", func := "tryst/trystlaw02.OctetNil", spec := "octetNil", apart := false, narrowed := true }
def OctetNilUptoSaid : Prop := octetNilUptoRow.holds Try.pinned (OpenSpec.upto octetNilSpec)

/-- 'trystlaw02.OctetThere', WHERE WHAT IT READS IS OF BULK AT MOST 1048576: true; the input reads as it did. -/
def octetThereUptoRow : OpenClaim := { program := "ytcibhaoilcohbaa", sum := "496239ab20e828b0739aee87b7af0daa2dd1d9cb626d45dbce73a97943e177fe", func := "tryst/trystlaw02.OctetThere", spec := "octetThere", apart := false, narrowed := true }
def OctetThereUptoSaid : Prop := octetThereUptoRow.holds Try.pinned (OpenSpec.upto octetThereSpec)

end Rows
end Go.Proofs.Ytcibhaoilcohbaa

/-
  No cell of these rows narrows 'for every input' (looked for: loops, veiled, ifaces, maps, wideKeys, modest, calm, conditions, laid).
  DERIVED. THE GIVEN ROWS OF THIS SEAT. 10 by the template 'for every input the law returns true; each argument reads behind the call as it read before'; 0 by the template 'total and deterministic' (their statements: YtldbmjkecmmmjaaTotals.lean).
  GIVEN WITH THE SEED: the statements are not yours to turn. If you find one false, say at which input.
  Laid BY PROGRAM, IN A SANDBOX (cutbox-rows.mjs): the forced cells as the released guide's own fill.sh prints them over the translation ccadf3af063fb811… (all of the seat's roots in one cut). By AI agents, Wed Nov 11 2026. No macro, syntax, notation, axiom, sorry.
-/
import Derived.Test.YtldbmjkecmmmjaaChecked
import GoSem.Claim
import GoSem.ClaimJoined
import GoSem.ClaimMapViews
import Derived.JoinedTies
import Derived.KernelRfl
namespace Go.Proofs.Ytldbmjkecmmmjaa
/- THE CELL 'sum', in the pinned program and in every row, IS THE sha256 OF THE DUMP (.gsa) THAT YtldbmjkecmmmjaaProg.lean LOADS. Nothing in Lean hashes anything: it is a label: what it is worth is what the hold of that sum in a sandbox is worth. -/
noncomputable def Try.pinned : Pinned := { name := "ytldbmjkecmmmjaa", sum := "ccadf3af063fb811d4c877b34ed5ce21483a29cadcdc5dc2d7f2a33a909779a4", checked := Try.checked }
namespace Rows
def none {H : Type} : Left H := { results := [], args := [] }

/-- 'trystlaw05.StreamQuarters': WHATEVER THE INPUT: true; the input reads as it did. -/
def streamQuartersSpec : ChangeSpec := { name := "streamQuarters", fn := fun _ => fun
  | [d] => { results := [.lit (.bool true)], args := [d] }
  | _ => none }
def streamQuartersRow : OpenClaim := { program := "ytldbmjkecmmmjaa", sum := "ccadf3af063fb811d4c877b34ed5ce21483a29cadcdc5dc2d7f2a33a909779a4", func := "tryst/trystlaw05.StreamQuarters", spec := "streamQuarters", apart := false }
def StreamQuartersSaid : Prop := streamQuartersRow.holds Try.pinned (OpenSpec.ofChange streamQuartersSpec)

/-- ITS FALSE NEIGHBOUR: 'it returns false'. Refute it at one input. -/
def streamQuartersWrong : ChangeSpec := { name := "streamQuarters", fn := fun _ => fun
  | [d] => { results := [.lit (.bool false)], args := [d] }
  | _ => none }
def StreamQuartersWrongFalsely : Prop := streamQuartersRow.holds Try.pinned (OpenSpec.ofChange streamQuartersWrong)

/-- 'trystlaw05.StreamBlocks': WHATEVER THE INPUT: true; the input reads as it did. -/
def streamBlocksSpec : ChangeSpec := { name := "streamBlocks", fn := fun _ => fun
  | [d] => { results := [.lit (.bool true)], args := [d] }
  | _ => none }
def streamBlocksRow : OpenClaim := { program := "ytldbmjkecmmmjaa", sum := "ccadf3af063fb811d4c877b34ed5ce21483a29cadcdc5dc2d7f2a33a909779a4", func := "tryst/trystlaw05.StreamBlocks", spec := "streamBlocks", apart := false }
def StreamBlocksSaid : Prop := streamBlocksRow.holds Try.pinned (OpenSpec.ofChange streamBlocksSpec)

/-- ITS FALSE NEIGHBOUR: 'it returns false'. Refute it at one input. -/
def streamBlocksWrong : ChangeSpec := { name := "streamBlocks", fn := fun _ => fun
  | [d] => { results := [.lit (.bool false)], args := [d] }
  | _ => none }
def StreamBlocksWrongFalsely : Prop := streamBlocksRow.holds Try.pinned (OpenSpec.ofChange streamBlocksWrong)

/-- 'trystlaw05.StreamOnce': WHATEVER THE INPUT: true; the input reads as it did. -/
def streamOnceSpec : ChangeSpec := { name := "streamOnce", fn := fun _ => fun
  | [d1, d2] => { results := [.lit (.bool true)], args := [d1, d2] }
  | _ => none }
def streamOnceRow : OpenClaim := { program := "ytldbmjkecmmmjaa", sum := "ccadf3af063fb811d4c877b34ed5ce21483a29cadcdc5dc2d7f2a33a909779a4", func := "tryst/trystlaw05.StreamOnce", spec := "streamOnce", apart := false }
def StreamOnceSaid : Prop := streamOnceRow.holds Try.pinned (OpenSpec.ofChange streamOnceSpec)

/-- ITS FALSE NEIGHBOUR: 'it returns false'. Refute it at one input. -/
def streamOnceWrong : ChangeSpec := { name := "streamOnce", fn := fun _ => fun
  | [d1, d2] => { results := [.lit (.bool false)], args := [d1, d2] }
  | _ => none }
def StreamOnceWrongFalsely : Prop := streamOnceRow.holds Try.pinned (OpenSpec.ofChange streamOnceWrong)

/-- 'trystlaw05.StreamTwice': WHATEVER THE INPUT: true; the input reads as it did. -/
def streamTwiceSpec : ChangeSpec := { name := "streamTwice", fn := fun _ => fun
  | [d1, d2, d3] => { results := [.lit (.bool true)], args := [d1, d2, d3] }
  | _ => none }
def streamTwiceRow : OpenClaim := { program := "ytldbmjkecmmmjaa", sum := "ccadf3af063fb811d4c877b34ed5ce21483a29cadcdc5dc2d7f2a33a909779a4", func := "tryst/trystlaw05.StreamTwice", spec := "streamTwice", apart := false }
def StreamTwiceSaid : Prop := streamTwiceRow.holds Try.pinned (OpenSpec.ofChange streamTwiceSpec)

/-- ITS FALSE NEIGHBOUR: 'it returns false'. Refute it at one input. -/
def streamTwiceWrong : ChangeSpec := { name := "streamTwice", fn := fun _ => fun
  | [d1, d2, d3] => { results := [.lit (.bool false)], args := [d1, d2, d3] }
  | _ => none }
def StreamTwiceWrongFalsely : Prop := streamTwiceRow.holds Try.pinned (OpenSpec.ofChange streamTwiceWrong)

/-- 'trystlaw05.StreamNames': WHATEVER THE INPUT: true; the input reads as it did. -/
def streamNamesSpec : ChangeSpec := { name := "streamNames", fn := fun _ => fun
  | [] => { results := [.lit (.bool true)], args := [] }
  | _ => none }
def streamNamesRow : OpenClaim := { program := "ytldbmjkecmmmjaa", sum := "ccadf3af063fb811d4c877b34ed5ce21483a29cadcdc5dc2d7f2a33a909779a4", func := "tryst/trystlaw05.StreamNames", spec := "streamNames", apart := false }
def StreamNamesSaid : Prop := streamNamesRow.holds Try.pinned (OpenSpec.ofChange streamNamesSpec)

/-- ITS FALSE NEIGHBOUR: 'it returns false'. Refute it at one input. -/
def streamNamesWrong : ChangeSpec := { name := "streamNames", fn := fun _ => fun
  | [] => { results := [.lit (.bool false)], args := [] }
  | _ => none }
def StreamNamesWrongFalsely : Prop := streamNamesRow.holds Try.pinned (OpenSpec.ofChange streamNamesWrong)

/-- 'trystlaw05.StreamFresh': WHATEVER THE INPUT: true; the input reads as it did. -/
def streamFreshSpec : ChangeSpec := { name := "streamFresh", fn := fun _ => fun
  | [d1, d2, d3] => { results := [.lit (.bool true)], args := [d1, d2, d3] }
  | _ => none }
def streamFreshRow : OpenClaim := { program := "ytldbmjkecmmmjaa", sum := "ccadf3af063fb811d4c877b34ed5ce21483a29cadcdc5dc2d7f2a33a909779a4", func := "tryst/trystlaw05.StreamFresh", spec := "streamFresh", apart := false }
def StreamFreshSaid : Prop := streamFreshRow.holds Try.pinned (OpenSpec.ofChange streamFreshSpec)

/-- ITS FALSE NEIGHBOUR: 'it returns false'. Refute it at one input. -/
def streamFreshWrong : ChangeSpec := { name := "streamFresh", fn := fun _ => fun
  | [d1, d2, d3] => { results := [.lit (.bool false)], args := [d1, d2, d3] }
  | _ => none }
def StreamFreshWrongFalsely : Prop := streamFreshRow.holds Try.pinned (OpenSpec.ofChange streamFreshWrong)

/-- 'trystlaw05.StreamTells': WHATEVER THE INPUT: true; the input reads as it did. -/
def streamTellsSpec : ChangeSpec := { name := "streamTells", fn := fun _ => fun
  | [d1, d2, d3] => { results := [.lit (.bool true)], args := [d1, d2, d3] }
  | _ => none }
def streamTellsRow : OpenClaim := { program := "ytldbmjkecmmmjaa", sum := "ccadf3af063fb811d4c877b34ed5ce21483a29cadcdc5dc2d7f2a33a909779a4", func := "tryst/trystlaw05.StreamTells", spec := "streamTells", apart := false }
def StreamTellsSaid : Prop := streamTellsRow.holds Try.pinned (OpenSpec.ofChange streamTellsSpec)

/-- ITS FALSE NEIGHBOUR: 'it returns false'. Refute it at one input. -/
def streamTellsWrong : ChangeSpec := { name := "streamTells", fn := fun _ => fun
  | [d1, d2, d3] => { results := [.lit (.bool false)], args := [d1, d2, d3] }
  | _ => none }
def StreamTellsWrongFalsely : Prop := streamTellsRow.holds Try.pinned (OpenSpec.ofChange streamTellsWrong)

/-- 'trystlaw05.StreamPlays': WHATEVER THE INPUT: true; the input reads as it did. -/
def streamPlaysSpec : ChangeSpec := { name := "streamPlays", fn := fun _ => fun
  | [d] => { results := [.lit (.bool true)], args := [d] }
  | _ => none }
def streamPlaysRow : OpenClaim := { program := "ytldbmjkecmmmjaa", sum := "ccadf3af063fb811d4c877b34ed5ce21483a29cadcdc5dc2d7f2a33a909779a4", func := "tryst/trystlaw05.StreamPlays", spec := "streamPlays", apart := false }
def StreamPlaysSaid : Prop := streamPlaysRow.holds Try.pinned (OpenSpec.ofChange streamPlaysSpec)

/-- ITS FALSE NEIGHBOUR: 'it returns false'. Refute it at one input. -/
def streamPlaysWrong : ChangeSpec := { name := "streamPlays", fn := fun _ => fun
  | [d] => { results := [.lit (.bool false)], args := [d] }
  | _ => none }
def StreamPlaysWrongFalsely : Prop := streamPlaysRow.holds Try.pinned (OpenSpec.ofChange streamPlaysWrong)

/-- 'trystlaw05.StreamPieces': WHATEVER THE INPUT: true; the input reads as it did. -/
def streamPiecesSpec : ChangeSpec := { name := "streamPieces", fn := fun _ => fun
  | [d1, d2, d3] => { results := [.lit (.bool true)], args := [d1, d2, d3] }
  | _ => none }
def streamPiecesRow : OpenClaim := { program := "ytldbmjkecmmmjaa", sum := "ccadf3af063fb811d4c877b34ed5ce21483a29cadcdc5dc2d7f2a33a909779a4", func := "tryst/trystlaw05.StreamPieces", spec := "streamPieces", apart := false }
def StreamPiecesSaid : Prop := streamPiecesRow.holds Try.pinned (OpenSpec.ofChange streamPiecesSpec)

/-- ITS FALSE NEIGHBOUR: 'it returns false'. Refute it at one input. -/
def streamPiecesWrong : ChangeSpec := { name := "streamPieces", fn := fun _ => fun
  | [d1, d2, d3] => { results := [.lit (.bool false)], args := [d1, d2, d3] }
  | _ => none }
def StreamPiecesWrongFalsely : Prop := streamPiecesRow.holds Try.pinned (OpenSpec.ofChange streamPiecesWrong)

/-- 'trystlaw05.StreamNil': WHATEVER THE INPUT: true; the input reads as it did. -/
def streamNilSpec : ChangeSpec := { name := "streamNil", fn := fun _ => fun
  | [] => { results := [.lit (.bool true)], args := [] }
  | _ => none }
def streamNilRow : OpenClaim := { program := "ytldbmjkecmmmjaa", sum := "ccadf3af063fb811d4c877b34ed5ce21483a29cadcdc5dc2d7f2a33a909779a4", func := "tryst/trystlaw05.StreamNil", spec := "streamNil", apart := false }
def StreamNilSaid : Prop := streamNilRow.holds Try.pinned (OpenSpec.ofChange streamNilSpec)

/-- ITS FALSE NEIGHBOUR: 'it returns false'. Refute it at one input. -/
def streamNilWrong : ChangeSpec := { name := "streamNil", fn := fun _ => fun
  | [] => { results := [.lit (.bool false)], args := [] }
  | _ => none }
def StreamNilWrongFalsely : Prop := streamNilRow.holds Try.pinned (OpenSpec.ofChange streamNilWrong)

/- THE SECOND FORM. 'bulk': how many values and letters a reading holds, each counted each time it is reached (what is shared counts as often as it is met; a slice's spare places count too). A statement '..UptoSaid' is the law's where the arguments, and the package variables that the reading takes, are together of bulk at most 1048576: NARROWER than '..Said'. Prove '..Said' where nothing that the law and all that it calls make is longer than what came in: it says more and counts as full. Else prove '..UptoSaid'. A law counts once. -/
mutual
def uptoBulk {H : Type} : DataW H → Nat
  | .lit (.string bytes) => bytes.length + 1
  | .lit _ => 1
  | .nil => 1
  | .ptr d => uptoBulk d + 1
  | .slice elems spare => uptoBulkAll elems + uptoBulkAll spare + 1
  | .agg parts => uptoBulkAll parts + 1
  | .iface _ d => uptoBulk d + 1
  | .map entries => uptoBulkEntries entries + 1
  | .held _ => 1
def uptoBulkAll {H : Type} : List (DataW H) → Nat
  | [] => 0
  | d :: r => uptoBulk d + uptoBulkAll r
def uptoBulkEntries {H : Type} : List (Lit × DataW H) → Nat
  | [] => 0
  | x :: r => uptoBulkEntry x + uptoBulkEntries r
def uptoBulkEntry {H : Type} : Lit × DataW H → Nat
  | (.string bytes, d) => bytes.length + uptoBulk d + 1
  | (_, d) => uptoBulk d + 1
 end
def uptoSmall : (H : Type) → List (DataW H) → Bool := fun _ ds => decide (uptoBulkAll ds ≤ 1048576)
def OpenSpec.upto (s : _root_.Go.ChangeSpec) : _root_.Go.OpenSpec := { _root_.Go.OpenSpec.ofChange s with cond := some uptoSmall }

/-- 'trystlaw05.StreamQuarters', WHERE WHAT IT READS IS OF BULK AT MOST 1048576: true; the input reads as it did. -/
def streamQuartersUptoRow : OpenClaim := { program := "ytldbmjkecmmmjaa", sum := "ccadf3af063fb811d4c877b34ed5ce21483a29cadcdc5dc2d7f2a33a909779a4", func := "tryst/trystlaw05.StreamQuarters", spec := "streamQuarters", apart := false, narrowed := true }
def StreamQuartersUptoSaid : Prop := streamQuartersUptoRow.holds Try.pinned (OpenSpec.upto streamQuartersSpec)

/-- 'trystlaw05.StreamBlocks', WHERE WHAT IT READS IS OF BULK AT MOST 1048576: true; the input reads as it did. -/
def streamBlocksUptoRow : OpenClaim := { program := "ytldbmjkecmmmjaa", sum := "ccadf3af063fb811d4c877b34ed5ce21483a29cadcdc5dc2d7f2a33a909779a4", func := "tryst/trystlaw05.StreamBlocks", spec := "streamBlocks", apart := false, narrowed := true }
def StreamBlocksUptoSaid : Prop := streamBlocksUptoRow.holds Try.pinned (OpenSpec.upto streamBlocksSpec)

/-- 'trystlaw05.StreamOnce', WHERE WHAT IT READS IS OF BULK AT MOST 1048576: true; the input reads as it did. -/
def streamOnceUptoRow : OpenClaim := { program := "ytldbmjkecmmmjaa", sum := "ccadf3af063fb811d4c877b34ed5ce21483a29cadcdc5dc2d7f2a33a909779a4", func := "tryst/trystlaw05.StreamOnce", spec := "streamOnce", apart := false, narrowed := true }
def StreamOnceUptoSaid : Prop := streamOnceUptoRow.holds Try.pinned (OpenSpec.upto streamOnceSpec)

/-- 'trystlaw05.StreamTwice', WHERE WHAT IT READS IS OF BULK AT MOST 1048576: true; the input reads as it did. -/
def streamTwiceUptoRow : OpenClaim := { program := "ytldbmjkecmmmjaa", sum := "ccadf3af063fb811d4c877b34ed5ce21483a29cadcdc5dc2d7f2a33a909779a4", func := "tryst/trystlaw05.StreamTwice", spec := "streamTwice", apart := false, narrowed := true }
def StreamTwiceUptoSaid : Prop := streamTwiceUptoRow.holds Try.pinned (OpenSpec.upto streamTwiceSpec)

/-- 'trystlaw05.StreamNames', WHERE WHAT IT READS IS OF BULK AT MOST 1048576: true; the input reads as it did. -/
def streamNamesUptoRow : OpenClaim := { program := "ytldbmjkecmmmjaa", sum := "ccadf3af063fb811d4c877b34ed5ce21483a29cadcdc5dc2d7f2a33a909779a4", func := "tryst/trystlaw05.StreamNames", spec := "streamNames", apart := false, narrowed := true }
def StreamNamesUptoSaid : Prop := streamNamesUptoRow.holds Try.pinned (OpenSpec.upto streamNamesSpec)

/-- 'trystlaw05.StreamFresh', WHERE WHAT IT READS IS OF BULK AT MOST 1048576: true; the input reads as it did. -/
def streamFreshUptoRow : OpenClaim := { program := "ytldbmjkecmmmjaa", sum := "ccadf3af063fb811d4c877b34ed5ce21483a29cadcdc5dc2d7f2a33a909779a4", func := "tryst/trystlaw05.StreamFresh", spec := "streamFresh", apart := false, narrowed := true }
def StreamFreshUptoSaid : Prop := streamFreshUptoRow.holds Try.pinned (OpenSpec.upto streamFreshSpec)

/-- 'trystlaw05.StreamTells', WHERE WHAT IT READS IS OF BULK AT MOST 1048576: true; the input reads as it did. -/
def streamTellsUptoRow : OpenClaim := { program := "ytldbmjkecmmmjaa", sum := "ccadf3af063fb811d4c877b34ed5ce21483a29cadcdc5dc2d7f2a33a909779a4", func := "tryst/trystlaw05.StreamTells", spec := "streamTells", apart := false, narrowed := true }
def StreamTellsUptoSaid : Prop := streamTellsUptoRow.holds Try.pinned (OpenSpec.upto streamTellsSpec)

/-- 'trystlaw05.StreamPlays', WHERE WHAT IT READS IS OF BULK AT MOST 1048576: true; the input reads as it did. -/
def streamPlaysUptoRow : OpenClaim := { program := "ytldbmjkecmmmjaa", sum := "ccadf3af063fb811d4c877b34ed5ce21483a29cadcdc5dc2d7f2a33a909779a4", func := "tryst/trystlaw05.StreamPlays", spec := "streamPlays", apart := false, narrowed := true }
def StreamPlaysUptoSaid : Prop := streamPlaysUptoRow.holds Try.pinned (OpenSpec.upto streamPlaysSpec)

/-- 'trystlaw05.StreamPieces', WHERE WHAT IT READS IS OF BULK AT MOST 1048576: true; the input reads as it did. -/
def streamPiecesUptoRow : OpenClaim := { program := "ytldbmjkecmmmjaa", sum := "ccadf3af063fb811d4c877b34ed5ce21483a29cadcdc5dc2d7f2a33a909779a4", func := "tryst/trystlaw05.StreamPieces", spec := "streamPieces", apart := false, narrowed := true }
def StreamPiecesUptoSaid : Prop := streamPiecesUptoRow.holds Try.pinned (OpenSpec.upto streamPiecesSpec)

/-- 'trystlaw05.StreamNil', WHERE WHAT IT READS IS OF BULK AT MOST 1048576: true; the input reads as it did. -/
def streamNilUptoRow : OpenClaim := { program := "ytldbmjkecmmmjaa", sum := "ccadf3af063fb811d4c877b34ed5ce21483a29cadcdc5dc2d7f2a33a909779a4", func := "tryst/trystlaw05.StreamNil", spec := "streamNil", apart := false, narrowed := true }
def StreamNilUptoSaid : Prop := streamNilUptoRow.holds Try.pinned (OpenSpec.upto streamNilSpec)

end Rows
end Go.Proofs.Ytldbmjkecmmmjaa

/-
  No cell of these rows narrows 'for every input' (looked for: loops, veiled, ifaces, maps, wideKeys, modest, calm, conditions, laid).
  DERIVED. THE GIVEN ROWS OF THIS SEAT. 10 by the template 'for every input the law returns true; each argument reads behind the call as it read before'; 0 by the template 'total and deterministic' (their statements: YtcfbaildcocnhaaTotals.lean).
  GIVEN WITH THE SEED: the statements are not yours to turn. If you find one false, say at which input.
  Laid BY PROGRAM, IN A SANDBOX (cutbox-rows.mjs): the forced cells as the released guide's own fill.sh prints them over the translation ebb4bbb9086593c0… (all of the seat's roots in one cut). By AI agents, Wed Nov 11 2026. No macro, syntax, notation, axiom, sorry.
-/
import Derived.Test.YtcfbaildcocnhaaChecked
import GoSem.Claim
import GoSem.ClaimJoined
import GoSem.ClaimMapViews
import Derived.JoinedTies
import Derived.KernelRfl
namespace Go.Proofs.Ytcfbaildcocnhaa
/- THE CELL 'sum', in the pinned program and in every row, IS THE sha256 OF THE DUMP (.gsa) THAT YtcfbaildcocnhaaProg.lean LOADS. Nothing in Lean hashes anything: it is a label: what it is worth is what the hold of that sum in a sandbox is worth. -/
noncomputable def Try.pinned : Pinned := { name := "ytcfbaildcocnhaa", sum := "ebb4bbb9086593c018243f50e0d0906eb564519abf82cd4c94650968486a44db", checked := Try.checked }
namespace Rows
def none {H : Type} : Left H := { results := [], args := [] }

/-- 'trystlaw26.NoiseExps': WHATEVER THE INPUT: true; the input reads as it did. -/
def noiseExpsSpec : ChangeSpec := { name := "noiseExps", fn := fun _ => fun
  | [d] => { results := [.lit (.bool true)], args := [d] }
  | _ => none }
def noiseExpsRow : OpenClaim := { program := "ytcfbaildcocnhaa", sum := "ebb4bbb9086593c018243f50e0d0906eb564519abf82cd4c94650968486a44db", func := "tryst/trystlaw26.NoiseExps", spec := "noiseExps", apart := false }
def NoiseExpsSaid : Prop := noiseExpsRow.holds Try.pinned (OpenSpec.ofChange noiseExpsSpec)

/-- ITS FALSE NEIGHBOUR: 'it returns false'. Refute it at one input. -/
def noiseExpsWrong : ChangeSpec := { name := "noiseExps", fn := fun _ => fun
  | [d] => { results := [.lit (.bool false)], args := [d] }
  | _ => none }
def NoiseExpsWrongFalsely : Prop := noiseExpsRow.holds Try.pinned (OpenSpec.ofChange noiseExpsWrong)

/-- 'trystlaw26.NoiseBudgets': WHATEVER THE INPUT: true; the input reads as it did. -/
def noiseBudgetsSpec : ChangeSpec := { name := "noiseBudgets", fn := fun _ => fun
  | [d1, d2, d3] => { results := [.lit (.bool true)], args := [d1, d2, d3] }
  | _ => none }
def noiseBudgetsRow : OpenClaim := { program := "ytcfbaildcocnhaa", sum := "ebb4bbb9086593c018243f50e0d0906eb564519abf82cd4c94650968486a44db", func := "tryst/trystlaw26.NoiseBudgets", spec := "noiseBudgets", inPlace := ["math.Float64bits", "math.Float64frombits"], apart := false }
def NoiseBudgetsSaid : Prop := noiseBudgetsRow.holds Try.pinned (OpenSpec.ofChange noiseBudgetsSpec)

/-- ITS FALSE NEIGHBOUR: 'it returns false'. Refute it at one input. -/
def noiseBudgetsWrong : ChangeSpec := { name := "noiseBudgets", fn := fun _ => fun
  | [d1, d2, d3] => { results := [.lit (.bool false)], args := [d1, d2, d3] }
  | _ => none }
def NoiseBudgetsWrongFalsely : Prop := noiseBudgetsRow.holds Try.pinned (OpenSpec.ofChange noiseBudgetsWrong)

/-- 'trystlaw26.NoiseLosses': WHATEVER THE INPUT: true; the input reads as it did. -/
def noiseLossesSpec : ChangeSpec := { name := "noiseLosses", fn := fun _ => fun
  | [d] => { results := [.lit (.bool true)], args := [d] }
  | _ => none }
def noiseLossesRow : OpenClaim := { program := "ytcfbaildcocnhaa", sum := "ebb4bbb9086593c018243f50e0d0906eb564519abf82cd4c94650968486a44db", func := "tryst/trystlaw26.NoiseLosses", spec := "noiseLosses", inPlace := ["math.Float64bits", "math.Float64frombits"], apart := false }
def NoiseLossesSaid : Prop := noiseLossesRow.holds Try.pinned (OpenSpec.ofChange noiseLossesSpec)

/-- ITS FALSE NEIGHBOUR: 'it returns false'. Refute it at one input. -/
def noiseLossesWrong : ChangeSpec := { name := "noiseLosses", fn := fun _ => fun
  | [d] => { results := [.lit (.bool false)], args := [d] }
  | _ => none }
def NoiseLossesWrongFalsely : Prop := noiseLossesRow.holds Try.pinned (OpenSpec.ofChange noiseLossesWrong)

/-- 'trystlaw26.NoiseDraws': WHATEVER THE INPUT: true; the input reads as it did. -/
def noiseDrawsSpec : ChangeSpec := { name := "noiseDraws", fn := fun _ => fun
  | [d] => { results := [.lit (.bool true)], args := [d] }
  | _ => none }
def noiseDrawsRow : OpenClaim := { program := "ytcfbaildcocnhaa", sum := "ebb4bbb9086593c018243f50e0d0906eb564519abf82cd4c94650968486a44db", func := "tryst/trystlaw26.NoiseDraws", spec := "noiseDraws", unfollowed := true, recurses := true, apart := false }
def NoiseDrawsSaid : Prop := noiseDrawsRow.holds Try.pinned (OpenSpec.ofChange noiseDrawsSpec)

/-- ITS FALSE NEIGHBOUR: 'it returns false'. Refute it at one input. -/
def noiseDrawsWrong : ChangeSpec := { name := "noiseDraws", fn := fun _ => fun
  | [d] => { results := [.lit (.bool false)], args := [d] }
  | _ => none }
def NoiseDrawsWrongFalsely : Prop := noiseDrawsRow.holds Try.pinned (OpenSpec.ofChange noiseDrawsWrong)

/-- 'trystlaw26.NoiseNeverOver': WHATEVER THE INPUT: true; the input reads as it did. -/
def noiseNeverOverSpec : ChangeSpec := { name := "noiseNeverOver", fn := fun _ => fun
  | [d1, d2] => { results := [.lit (.bool true)], args := [d1, d2] }
  | _ => none }
def noiseNeverOverRow : OpenClaim := { program := "ytcfbaildcocnhaa", sum := "ebb4bbb9086593c018243f50e0d0906eb564519abf82cd4c94650968486a44db", func := "tryst/trystlaw26.NoiseNeverOver", spec := "noiseNeverOver", inPlace := ["math.Float64bits", "math.Float64frombits"], unfollowed := true, recurses := true, apart := false }
def NoiseNeverOverSaid : Prop := noiseNeverOverRow.holds Try.pinned (OpenSpec.ofChange noiseNeverOverSpec)

/-- ITS FALSE NEIGHBOUR: 'it returns false'. Refute it at one input. -/
def noiseNeverOverWrong : ChangeSpec := { name := "noiseNeverOver", fn := fun _ => fun
  | [d1, d2] => { results := [.lit (.bool false)], args := [d1, d2] }
  | _ => none }
def NoiseNeverOverWrongFalsely : Prop := noiseNeverOverRow.holds Try.pinned (OpenSpec.ofChange noiseNeverOverWrong)

/-- 'trystlaw26.NoiseRow': WHATEVER THE INPUT: true; the input reads as it did. -/
def noiseRowSpec : ChangeSpec := { name := "noiseRow", fn := fun _ => fun
  | [d1, d2] => { results := [.lit (.bool true)], args := [d1, d2] }
  | _ => none }
def noiseRowRow : OpenClaim := { program := "ytcfbaildcocnhaa", sum := "ebb4bbb9086593c018243f50e0d0906eb564519abf82cd4c94650968486a44db", func := "tryst/trystlaw26.NoiseRow", spec := "noiseRow", inPlace := ["math.Float64bits", "math.Float64frombits"], unfollowed := true, recurses := true, apart := false }
def NoiseRowSaid : Prop := noiseRowRow.holds Try.pinned (OpenSpec.ofChange noiseRowSpec)

/-- ITS FALSE NEIGHBOUR: 'it returns false'. Refute it at one input. -/
def noiseRowWrong : ChangeSpec := { name := "noiseRow", fn := fun _ => fun
  | [d1, d2] => { results := [.lit (.bool false)], args := [d1, d2] }
  | _ => none }
def NoiseRowWrongFalsely : Prop := noiseRowRow.holds Try.pinned (OpenSpec.ofChange noiseRowWrong)

/-- 'trystlaw26.NoiseFresh': WHATEVER THE INPUT: true; the input reads as it did. -/
def noiseFreshSpec : ChangeSpec := { name := "noiseFresh", fn := fun _ => fun
  | [d1, d2] => { results := [.lit (.bool true)], args := [d1, d2] }
  | _ => none }
def noiseFreshRow : OpenClaim := { program := "ytcfbaildcocnhaa", sum := "ebb4bbb9086593c018243f50e0d0906eb564519abf82cd4c94650968486a44db", func := "tryst/trystlaw26.NoiseFresh", spec := "noiseFresh", inPlace := ["math.Float64bits", "math.Float64frombits"], unfollowed := true, recurses := true, apart := false }
def NoiseFreshSaid : Prop := noiseFreshRow.holds Try.pinned (OpenSpec.ofChange noiseFreshSpec)

/-- ITS FALSE NEIGHBOUR: 'it returns false'. Refute it at one input. -/
def noiseFreshWrong : ChangeSpec := { name := "noiseFresh", fn := fun _ => fun
  | [d1, d2] => { results := [.lit (.bool false)], args := [d1, d2] }
  | _ => none }
def NoiseFreshWrongFalsely : Prop := noiseFreshRow.holds Try.pinned (OpenSpec.ofChange noiseFreshWrong)

/-- 'trystlaw26.NoiseFair': WHATEVER THE INPUT: true; the input reads as it did. -/
def noiseFairSpec : ChangeSpec := { name := "noiseFair", fn := fun _ => fun
  | [d1, d2] => { results := [.lit (.bool true)], args := [d1, d2] }
  | _ => none }
def noiseFairRow : OpenClaim := { program := "ytcfbaildcocnhaa", sum := "ebb4bbb9086593c018243f50e0d0906eb564519abf82cd4c94650968486a44db", func := "tryst/trystlaw26.NoiseFair", spec := "noiseFair", inPlace := ["math.Float64bits", "math.Float64frombits"], unfollowed := true, recurses := true, apart := false }
def NoiseFairSaid : Prop := noiseFairRow.holds Try.pinned (OpenSpec.ofChange noiseFairSpec)

/-- ITS FALSE NEIGHBOUR: 'it returns false'. Refute it at one input. -/
def noiseFairWrong : ChangeSpec := { name := "noiseFair", fn := fun _ => fun
  | [d1, d2] => { results := [.lit (.bool false)], args := [d1, d2] }
  | _ => none }
def NoiseFairWrongFalsely : Prop := noiseFairRow.holds Try.pinned (OpenSpec.ofChange noiseFairWrong)

/-- 'trystlaw26.NoiseGrows': WHATEVER THE INPUT: true; the input reads as it did. -/
def noiseGrowsSpec : ChangeSpec := { name := "noiseGrows", fn := fun _ => fun
  | [d] => { results := [.lit (.bool true)], args := [d] }
  | _ => none }
def noiseGrowsRow : OpenClaim := { program := "ytcfbaildcocnhaa", sum := "ebb4bbb9086593c018243f50e0d0906eb564519abf82cd4c94650968486a44db", func := "tryst/trystlaw26.NoiseGrows", spec := "noiseGrows", inPlace := ["math.Float64bits", "math.Float64frombits"], unfollowed := true, recurses := true, apart := false }
def NoiseGrowsSaid : Prop := noiseGrowsRow.holds Try.pinned (OpenSpec.ofChange noiseGrowsSpec)

/-- ITS FALSE NEIGHBOUR: 'it returns false'. Refute it at one input. -/
def noiseGrowsWrong : ChangeSpec := { name := "noiseGrows", fn := fun _ => fun
  | [d] => { results := [.lit (.bool false)], args := [d] }
  | _ => none }
def NoiseGrowsWrongFalsely : Prop := noiseGrowsRow.holds Try.pinned (OpenSpec.ofChange noiseGrowsWrong)

/-- 'trystlaw26.NoiseNames': WHATEVER THE INPUT: true; the input reads as it did. -/
def noiseNamesSpec : ChangeSpec := { name := "noiseNames", fn := fun _ => fun
  | [] => { results := [.lit (.bool true)], args := [] }
  | _ => none }
def noiseNamesRow : OpenClaim := { program := "ytcfbaildcocnhaa", sum := "ebb4bbb9086593c018243f50e0d0906eb564519abf82cd4c94650968486a44db", func := "tryst/trystlaw26.NoiseNames", spec := "noiseNames", inPlace := ["math.Float64bits", "math.Float64frombits"], unfollowed := true, recurses := true, apart := false }
def NoiseNamesSaid : Prop := noiseNamesRow.holds Try.pinned (OpenSpec.ofChange noiseNamesSpec)

/-- ITS FALSE NEIGHBOUR: 'it returns false'. Refute it at one input. -/
def noiseNamesWrong : ChangeSpec := { name := "noiseNames", fn := fun _ => fun
  | [] => { results := [.lit (.bool false)], args := [] }
  | _ => none }
def NoiseNamesWrongFalsely : Prop := noiseNamesRow.holds Try.pinned (OpenSpec.ofChange noiseNamesWrong)

/- THE SECOND FORM. 'bulk': how many values and letters a reading holds, each counted each time it is reached (what is shared counts as often as it is met; a slice's spare places count too). A statement '..UptoSaid' is the law's where the arguments, and the package variables that the reading takes, are together of bulk at most 1048576: NARROWER than '..Said'. Prove '..Said' where nothing that the law and all that it calls make is longer than what came in: it says more and counts as full. Else prove '..UptoSaid'. A law counts once. -/
mutual
def uptoBulk {H : Type} : DataW H → Nat
  | .lit (.string bytes) => bytes.length + 1
  | .lit _ => 1
  | .nil => 1
  | .ptr d => uptoBulk d + 1
  | .slice elems spare => uptoBulkAll elems + uptoBulkAll spare + 1
  | .agg parts => uptoBulkAll parts + 1
  | .iface _ d => uptoBulk d + 1
  | .map entries => uptoBulkEntries entries + 1
  | .held _ => 1
def uptoBulkAll {H : Type} : List (DataW H) → Nat
  | [] => 0
  | d :: r => uptoBulk d + uptoBulkAll r
def uptoBulkEntries {H : Type} : List (Lit × DataW H) → Nat
  | [] => 0
  | x :: r => uptoBulkEntry x + uptoBulkEntries r
def uptoBulkEntry {H : Type} : Lit × DataW H → Nat
  | (.string bytes, d) => bytes.length + uptoBulk d + 1
  | (_, d) => uptoBulk d + 1
 end
def uptoSmall : (H : Type) → List (DataW H) → Bool := fun _ ds => decide (uptoBulkAll ds ≤ 1048576)
def OpenSpec.upto (s : _root_.Go.ChangeSpec) : _root_.Go.OpenSpec := { _root_.Go.OpenSpec.ofChange s with cond := some uptoSmall }

/-- 'trystlaw26.NoiseExps', WHERE WHAT IT READS IS OF BULK AT MOST 1048576: true; the input reads as it did. -/
def noiseExpsUptoRow : OpenClaim := { program := "ytcfbaildcocnhaa", sum := "ebb4bbb9086593c018243f50e0d0906eb564519abf82cd4c94650968486a44db", func := "tryst/trystlaw26.NoiseExps", spec := "noiseExps", apart := false, narrowed := true }
def NoiseExpsUptoSaid : Prop := noiseExpsUptoRow.holds Try.pinned (OpenSpec.upto noiseExpsSpec)

/-- 'trystlaw26.NoiseBudgets', WHERE WHAT IT READS IS OF BULK AT MOST 1048576: true; the input reads as it did. -/
def noiseBudgetsUptoRow : OpenClaim := { program := "ytcfbaildcocnhaa", sum := "ebb4bbb9086593c018243f50e0d0906eb564519abf82cd4c94650968486a44db", func := "tryst/trystlaw26.NoiseBudgets", spec := "noiseBudgets", inPlace := ["math.Float64bits", "math.Float64frombits"], apart := false, narrowed := true }
def NoiseBudgetsUptoSaid : Prop := noiseBudgetsUptoRow.holds Try.pinned (OpenSpec.upto noiseBudgetsSpec)

/-- 'trystlaw26.NoiseLosses', WHERE WHAT IT READS IS OF BULK AT MOST 1048576: true; the input reads as it did. -/
def noiseLossesUptoRow : OpenClaim := { program := "ytcfbaildcocnhaa", sum := "ebb4bbb9086593c018243f50e0d0906eb564519abf82cd4c94650968486a44db", func := "tryst/trystlaw26.NoiseLosses", spec := "noiseLosses", inPlace := ["math.Float64bits", "math.Float64frombits"], apart := false, narrowed := true }
def NoiseLossesUptoSaid : Prop := noiseLossesUptoRow.holds Try.pinned (OpenSpec.upto noiseLossesSpec)

/-- 'trystlaw26.NoiseDraws', WHERE WHAT IT READS IS OF BULK AT MOST 1048576: true; the input reads as it did. -/
def noiseDrawsUptoRow : OpenClaim := { program := "ytcfbaildcocnhaa", sum := "ebb4bbb9086593c018243f50e0d0906eb564519abf82cd4c94650968486a44db", func := "tryst/trystlaw26.NoiseDraws", spec := "noiseDraws", unfollowed := true, recurses := true, apart := false, narrowed := true }
def NoiseDrawsUptoSaid : Prop := noiseDrawsUptoRow.holds Try.pinned (OpenSpec.upto noiseDrawsSpec)

/-- 'trystlaw26.NoiseNeverOver', WHERE WHAT IT READS IS OF BULK AT MOST 1048576: true; the input reads as it did. -/
def noiseNeverOverUptoRow : OpenClaim := { program := "ytcfbaildcocnhaa", sum := "ebb4bbb9086593c018243f50e0d0906eb564519abf82cd4c94650968486a44db", func := "tryst/trystlaw26.NoiseNeverOver", spec := "noiseNeverOver", inPlace := ["math.Float64bits", "math.Float64frombits"], unfollowed := true, recurses := true, apart := false, narrowed := true }
def NoiseNeverOverUptoSaid : Prop := noiseNeverOverUptoRow.holds Try.pinned (OpenSpec.upto noiseNeverOverSpec)

/-- 'trystlaw26.NoiseRow', WHERE WHAT IT READS IS OF BULK AT MOST 1048576: true; the input reads as it did. -/
def noiseRowUptoRow : OpenClaim := { program := "ytcfbaildcocnhaa", sum := "ebb4bbb9086593c018243f50e0d0906eb564519abf82cd4c94650968486a44db", func := "tryst/trystlaw26.NoiseRow", spec := "noiseRow", inPlace := ["math.Float64bits", "math.Float64frombits"], unfollowed := true, recurses := true, apart := false, narrowed := true }
def NoiseRowUptoSaid : Prop := noiseRowUptoRow.holds Try.pinned (OpenSpec.upto noiseRowSpec)

/-- 'trystlaw26.NoiseFresh', WHERE WHAT IT READS IS OF BULK AT MOST 1048576: true; the input reads as it did. -/
def noiseFreshUptoRow : OpenClaim := { program := "ytcfbaildcocnhaa", sum := "ebb4bbb9086593c018243f50e0d0906eb564519abf82cd4c94650968486a44db", func := "tryst/trystlaw26.NoiseFresh", spec := "noiseFresh", inPlace := ["math.Float64bits", "math.Float64frombits"], unfollowed := true, recurses := true, apart := false, narrowed := true }
def NoiseFreshUptoSaid : Prop := noiseFreshUptoRow.holds Try.pinned (OpenSpec.upto noiseFreshSpec)

/-- 'trystlaw26.NoiseFair', WHERE WHAT IT READS IS OF BULK AT MOST 1048576: true; the input reads as it did. -/
def noiseFairUptoRow : OpenClaim := { program := "ytcfbaildcocnhaa", sum := "ebb4bbb9086593c018243f50e0d0906eb564519abf82cd4c94650968486a44db", func := "tryst/trystlaw26.NoiseFair", spec := "noiseFair", inPlace := ["math.Float64bits", "math.Float64frombits"], unfollowed := true, recurses := true, apart := false, narrowed := true }
def NoiseFairUptoSaid : Prop := noiseFairUptoRow.holds Try.pinned (OpenSpec.upto noiseFairSpec)

/-- 'trystlaw26.NoiseGrows', WHERE WHAT IT READS IS OF BULK AT MOST 1048576: true; the input reads as it did. -/
def noiseGrowsUptoRow : OpenClaim := { program := "ytcfbaildcocnhaa", sum := "ebb4bbb9086593c018243f50e0d0906eb564519abf82cd4c94650968486a44db", func := "tryst/trystlaw26.NoiseGrows", spec := "noiseGrows", inPlace := ["math.Float64bits", "math.Float64frombits"], unfollowed := true, recurses := true, apart := false, narrowed := true }
def NoiseGrowsUptoSaid : Prop := noiseGrowsUptoRow.holds Try.pinned (OpenSpec.upto noiseGrowsSpec)

/-- 'trystlaw26.NoiseNames', WHERE WHAT IT READS IS OF BULK AT MOST 1048576: true; the input reads as it did. -/
def noiseNamesUptoRow : OpenClaim := { program := "ytcfbaildcocnhaa", sum := "ebb4bbb9086593c018243f50e0d0906eb564519abf82cd4c94650968486a44db", func := "tryst/trystlaw26.NoiseNames", spec := "noiseNames", inPlace := ["math.Float64bits", "math.Float64frombits"], unfollowed := true, recurses := true, apart := false, narrowed := true }
def NoiseNamesUptoSaid : Prop := noiseNamesUptoRow.holds Try.pinned (OpenSpec.upto noiseNamesSpec)

end Rows
end Go.Proofs.Ytcfbaildcocnhaa

/-
  No cell of these rows narrows 'for every input' (looked for: loops, veiled, ifaces, maps, wideKeys, modest, calm, conditions, laid).
  DERIVED. THE GIVEN ROWS OF THIS SEAT. 9 by the template 'for every input the law returns true; each argument reads behind the call as it read before'; 0 by the template 'total and deterministic' (their statements: YtpglocgfdonmaaaTotals.lean).
  GIVEN WITH THE SEED: the statements are not yours to turn. If you find one false, say at which input.
  Laid BY PROGRAM, IN A SANDBOX (cutbox-rows.mjs): the forced cells as the released guide's own fill.sh prints them over the translation 4c62685c78becf19… (all of the seat's roots in one cut). By AI agents, Wed Nov 11 2026. No macro, syntax, notation, axiom, sorry.
-/
import Derived.Test.YtpglocgfdonmaaaChecked
import GoSem.Claim
import GoSem.ClaimJoined
import GoSem.ClaimMapViews
import Derived.JoinedTies
import Derived.KernelRfl
namespace Go.Proofs.Ytpglocgfdonmaaa
/- THE CELL 'sum', in the pinned program and in every row, IS THE sha256 OF THE DUMP (.gsa) THAT YtpglocgfdonmaaaProg.lean LOADS. Nothing in Lean hashes anything: it is a label: what it is worth is what the hold of that sum in a sandbox is worth. -/
noncomputable def Try.pinned : Pinned := { name := "ytpglocgfdonmaaa", sum := "4c62685c78becf19b992e2a18d7d79603eae19e5fa457c2b1a318b92b12769e8", checked := Try.checked }
namespace Rows
def none {H : Type} : Left H := { results := [], args := [] }

/-- 'trystlaw16.NetworkHops': WHATEVER THE INPUT: true; the input reads as it did. -/
def networkHopsSpec : ChangeSpec := { name := "networkHops", fn := fun _ => fun
  | [d1, d2] => { results := [.lit (.bool true)], args := [d1, d2] }
  | _ => none }
def networkHopsRow : OpenClaim := { program := "ytpglocgfdonmaaa", sum := "4c62685c78becf19b992e2a18d7d79603eae19e5fa457c2b1a318b92b12769e8", func := "tryst/trystlaw16.NetworkHops", spec := "networkHops", unfollowed := true, recurses := true, apart := false }
def NetworkHopsSaid : Prop := networkHopsRow.holds Try.pinned (OpenSpec.ofChange networkHopsSpec)

/-- ITS FALSE NEIGHBOUR: 'it returns false'. Refute it at one input. -/
def networkHopsWrong : ChangeSpec := { name := "networkHops", fn := fun _ => fun
  | [d1, d2] => { results := [.lit (.bool false)], args := [d1, d2] }
  | _ => none }
def NetworkHopsWrongFalsely : Prop := networkHopsRow.holds Try.pinned (OpenSpec.ofChange networkHopsWrong)

/-- 'trystlaw16.NetworkGates': WHATEVER THE INPUT: true; the input reads as it did. -/
def networkGatesSpec : ChangeSpec := { name := "networkGates", fn := fun _ => fun
  | [d1, d2] => { results := [.lit (.bool true)], args := [d1, d2] }
  | _ => none }
def networkGatesRow : OpenClaim := { program := "ytpglocgfdonmaaa", sum := "4c62685c78becf19b992e2a18d7d79603eae19e5fa457c2b1a318b92b12769e8", func := "tryst/trystlaw16.NetworkGates", spec := "networkGates", unfollowed := true, recurses := true, apart := false }
def NetworkGatesSaid : Prop := networkGatesRow.holds Try.pinned (OpenSpec.ofChange networkGatesSpec)

/-- ITS FALSE NEIGHBOUR: 'it returns false'. Refute it at one input. -/
def networkGatesWrong : ChangeSpec := { name := "networkGates", fn := fun _ => fun
  | [d1, d2] => { results := [.lit (.bool false)], args := [d1, d2] }
  | _ => none }
def NetworkGatesWrongFalsely : Prop := networkGatesRow.holds Try.pinned (OpenSpec.ofChange networkGatesWrong)

/-- 'trystlaw16.NetworkSorts': WHATEVER THE INPUT: true; the input reads as it did. -/
def networkSortsSpec : ChangeSpec := { name := "networkSorts", fn := fun _ => fun
  | [d1, d2] => { results := [.lit (.bool true)], args := [d1, d2] }
  | _ => none }
def networkSortsRow : OpenClaim := { program := "ytpglocgfdonmaaa", sum := "4c62685c78becf19b992e2a18d7d79603eae19e5fa457c2b1a318b92b12769e8", func := "tryst/trystlaw16.NetworkSorts", spec := "networkSorts", unfollowed := true, recurses := true, apart := false }
def NetworkSortsSaid : Prop := networkSortsRow.holds Try.pinned (OpenSpec.ofChange networkSortsSpec)

/-- ITS FALSE NEIGHBOUR: 'it returns false'. Refute it at one input. -/
def networkSortsWrong : ChangeSpec := { name := "networkSorts", fn := fun _ => fun
  | [d1, d2] => { results := [.lit (.bool false)], args := [d1, d2] }
  | _ => none }
def NetworkSortsWrongFalsely : Prop := networkSortsRow.holds Try.pinned (OpenSpec.ofChange networkSortsWrong)

/-- 'trystlaw16.NetworkOrders': WHATEVER THE INPUT: true; the input reads as it did. -/
def networkOrdersSpec : ChangeSpec := { name := "networkOrders", fn := fun _ => fun
  | [d] => { results := [.lit (.bool true)], args := [d] }
  | _ => none }
def networkOrdersRow : OpenClaim := { program := "ytpglocgfdonmaaa", sum := "4c62685c78becf19b992e2a18d7d79603eae19e5fa457c2b1a318b92b12769e8", func := "tryst/trystlaw16.NetworkOrders", spec := "networkOrders", unfollowed := true, recurses := true, apart := false }
def NetworkOrdersSaid : Prop := networkOrdersRow.holds Try.pinned (OpenSpec.ofChange networkOrdersSpec)

/-- ITS FALSE NEIGHBOUR: 'it returns false'. Refute it at one input. -/
def networkOrdersWrong : ChangeSpec := { name := "networkOrders", fn := fun _ => fun
  | [d] => { results := [.lit (.bool false)], args := [d] }
  | _ => none }
def NetworkOrdersWrongFalsely : Prop := networkOrdersRow.holds Try.pinned (OpenSpec.ofChange networkOrdersWrong)

/-- 'trystlaw16.NetworkLayers': WHATEVER THE INPUT: true; the input reads as it did. -/
def networkLayersSpec : ChangeSpec := { name := "networkLayers", fn := fun _ => fun
  | [d] => { results := [.lit (.bool true)], args := [d] }
  | _ => none }
def networkLayersRow : OpenClaim := { program := "ytpglocgfdonmaaa", sum := "4c62685c78becf19b992e2a18d7d79603eae19e5fa457c2b1a318b92b12769e8", func := "tryst/trystlaw16.NetworkLayers", spec := "networkLayers", unfollowed := true, recurses := true, apart := false }
def NetworkLayersSaid : Prop := networkLayersRow.holds Try.pinned (OpenSpec.ofChange networkLayersSpec)

/-- ITS FALSE NEIGHBOUR: 'it returns false'. Refute it at one input. -/
def networkLayersWrong : ChangeSpec := { name := "networkLayers", fn := fun _ => fun
  | [d] => { results := [.lit (.bool false)], args := [d] }
  | _ => none }
def NetworkLayersWrongFalsely : Prop := networkLayersRow.holds Try.pinned (OpenSpec.ofChange networkLayersWrong)

/-- 'trystlaw16.NetworkSizes': WHATEVER THE INPUT: true; the input reads as it did. -/
def networkSizesSpec : ChangeSpec := { name := "networkSizes", fn := fun _ => fun
  | [d] => { results := [.lit (.bool true)], args := [d] }
  | _ => none }
def networkSizesRow : OpenClaim := { program := "ytpglocgfdonmaaa", sum := "4c62685c78becf19b992e2a18d7d79603eae19e5fa457c2b1a318b92b12769e8", func := "tryst/trystlaw16.NetworkSizes", spec := "networkSizes", unfollowed := true, recurses := true, apart := false }
def NetworkSizesSaid : Prop := networkSizesRow.holds Try.pinned (OpenSpec.ofChange networkSizesSpec)

/-- ITS FALSE NEIGHBOUR: 'it returns false'. Refute it at one input. -/
def networkSizesWrong : ChangeSpec := { name := "networkSizes", fn := fun _ => fun
  | [d] => { results := [.lit (.bool false)], args := [d] }
  | _ => none }
def NetworkSizesWrongFalsely : Prop := networkSizesRow.holds Try.pinned (OpenSpec.ofChange networkSizesWrong)

/-- 'trystlaw16.NetworkShifts': WHATEVER THE INPUT: true; the input reads as it did. -/
def networkShiftsSpec : ChangeSpec := { name := "networkShifts", fn := fun _ => fun
  | [d] => { results := [.lit (.bool true)], args := [d] }
  | _ => none }
def networkShiftsRow : OpenClaim := { program := "ytpglocgfdonmaaa", sum := "4c62685c78becf19b992e2a18d7d79603eae19e5fa457c2b1a318b92b12769e8", func := "tryst/trystlaw16.NetworkShifts", spec := "networkShifts", unfollowed := true, recurses := true, apart := false }
def NetworkShiftsSaid : Prop := networkShiftsRow.holds Try.pinned (OpenSpec.ofChange networkShiftsSpec)

/-- ITS FALSE NEIGHBOUR: 'it returns false'. Refute it at one input. -/
def networkShiftsWrong : ChangeSpec := { name := "networkShifts", fn := fun _ => fun
  | [d] => { results := [.lit (.bool false)], args := [d] }
  | _ => none }
def NetworkShiftsWrongFalsely : Prop := networkShiftsRow.holds Try.pinned (OpenSpec.ofChange networkShiftsWrong)

/-- 'trystlaw16.NetworkGathers': WHATEVER THE INPUT: true; the input reads as it did. -/
def networkGathersSpec : ChangeSpec := { name := "networkGathers", fn := fun _ => fun
  | [d] => { results := [.lit (.bool true)], args := [d] }
  | _ => none }
def networkGathersRow : OpenClaim := { program := "ytpglocgfdonmaaa", sum := "4c62685c78becf19b992e2a18d7d79603eae19e5fa457c2b1a318b92b12769e8", func := "tryst/trystlaw16.NetworkGathers", spec := "networkGathers", unfollowed := true, recurses := true, apart := false }
def NetworkGathersSaid : Prop := networkGathersRow.holds Try.pinned (OpenSpec.ofChange networkGathersSpec)

/-- ITS FALSE NEIGHBOUR: 'it returns false'. Refute it at one input. -/
def networkGathersWrong : ChangeSpec := { name := "networkGathers", fn := fun _ => fun
  | [d] => { results := [.lit (.bool false)], args := [d] }
  | _ => none }
def NetworkGathersWrongFalsely : Prop := networkGathersRow.holds Try.pinned (OpenSpec.ofChange networkGathersWrong)

/-- 'trystlaw16.NetworkKnown': WHATEVER THE INPUT: true; the input reads as it did. -/
def networkKnownSpec : ChangeSpec := { name := "networkKnown", fn := fun _ => fun
  | [] => { results := [.lit (.bool true)], args := [] }
  | _ => none }
def networkKnownRow : OpenClaim := { program := "ytpglocgfdonmaaa", sum := "4c62685c78becf19b992e2a18d7d79603eae19e5fa457c2b1a318b92b12769e8", func := "tryst/trystlaw16.NetworkKnown", spec := "networkKnown", unfollowed := true, recurses := true, apart := false }
def NetworkKnownSaid : Prop := networkKnownRow.holds Try.pinned (OpenSpec.ofChange networkKnownSpec)

/-- ITS FALSE NEIGHBOUR: 'it returns false'. Refute it at one input. -/
def networkKnownWrong : ChangeSpec := { name := "networkKnown", fn := fun _ => fun
  | [] => { results := [.lit (.bool false)], args := [] }
  | _ => none }
def NetworkKnownWrongFalsely : Prop := networkKnownRow.holds Try.pinned (OpenSpec.ofChange networkKnownWrong)

/- THE SECOND FORM. 'bulk': how many values and letters a reading holds, each counted each time it is reached (what is shared counts as often as it is met; a slice's spare places count too). A statement '..UptoSaid' is the law's where the arguments, and the package variables that the reading takes, are together of bulk at most 1048576: NARROWER than '..Said'. Prove '..Said' where nothing that the law and all that it calls make is longer than what came in: it says more and counts as full. Else prove '..UptoSaid'. A law counts once. -/
mutual
def uptoBulk {H : Type} : DataW H → Nat
  | .lit (.string bytes) => bytes.length + 1
  | .lit _ => 1
  | .nil => 1
  | .ptr d => uptoBulk d + 1
  | .slice elems spare => uptoBulkAll elems + uptoBulkAll spare + 1
  | .agg parts => uptoBulkAll parts + 1
  | .iface _ d => uptoBulk d + 1
  | .map entries => uptoBulkEntries entries + 1
  | .held _ => 1
def uptoBulkAll {H : Type} : List (DataW H) → Nat
  | [] => 0
  | d :: r => uptoBulk d + uptoBulkAll r
def uptoBulkEntries {H : Type} : List (Lit × DataW H) → Nat
  | [] => 0
  | x :: r => uptoBulkEntry x + uptoBulkEntries r
def uptoBulkEntry {H : Type} : Lit × DataW H → Nat
  | (.string bytes, d) => bytes.length + uptoBulk d + 1
  | (_, d) => uptoBulk d + 1
 end
def uptoSmall : (H : Type) → List (DataW H) → Bool := fun _ ds => decide (uptoBulkAll ds ≤ 1048576)
def OpenSpec.upto (s : _root_.Go.ChangeSpec) : _root_.Go.OpenSpec := { _root_.Go.OpenSpec.ofChange s with cond := some uptoSmall }

/-- 'trystlaw16.NetworkHops', WHERE WHAT IT READS IS OF BULK AT MOST 1048576: true; the input reads as it did. -/
def networkHopsUptoRow : OpenClaim := { program := "ytpglocgfdonmaaa", sum := "4c62685c78becf19b992e2a18d7d79603eae19e5fa457c2b1a318b92b12769e8", func := "tryst/trystlaw16.NetworkHops", spec := "networkHops", unfollowed := true, recurses := true, apart := false, narrowed := true }
def NetworkHopsUptoSaid : Prop := networkHopsUptoRow.holds Try.pinned (OpenSpec.upto networkHopsSpec)

/-- 'trystlaw16.NetworkGates', WHERE WHAT IT READS IS OF BULK AT MOST 1048576: true; the input reads as it did. -/
def networkGatesUptoRow : OpenClaim := { program := "ytpglocgfdonmaaa", sum := "4c62685c78becf19b992e2a18d7d79603eae19e5fa457c2b1a318b92b12769e8", func := "tryst/trystlaw16.NetworkGates", spec := "networkGates", unfollowed := true, recurses := true, apart := false, narrowed := true }
def NetworkGatesUptoSaid : Prop := networkGatesUptoRow.holds Try.pinned (OpenSpec.upto networkGatesSpec)

/-- 'trystlaw16.NetworkSorts', WHERE WHAT IT READS IS OF BULK AT MOST 1048576: true; the input reads as it did. -/
def networkSortsUptoRow : OpenClaim := { program := "ytpglocgfdonmaaa", sum := "4c62685c78becf19b992e2a18d7d79603eae19e5fa457c2b1a318b92b12769e8", func := "tryst/trystlaw16.NetworkSorts", spec := "networkSorts", unfollowed := true, recurses := true, apart := false, narrowed := true }
def NetworkSortsUptoSaid : Prop := networkSortsUptoRow.holds Try.pinned (OpenSpec.upto networkSortsSpec)

/-- 'trystlaw16.NetworkOrders', WHERE WHAT IT READS IS OF BULK AT MOST 1048576: true; the input reads as it did. -/
def networkOrdersUptoRow : OpenClaim := { program := "ytpglocgfdonmaaa", sum := "4c62685c78becf19b992e2a18d7d79603eae19e5fa457c2b1a318b92b12769e8", func := "tryst/trystlaw16.NetworkOrders", spec := "networkOrders", unfollowed := true, recurses := true, apart := false, narrowed := true }
def NetworkOrdersUptoSaid : Prop := networkOrdersUptoRow.holds Try.pinned (OpenSpec.upto networkOrdersSpec)

/-- 'trystlaw16.NetworkLayers', WHERE WHAT IT READS IS OF BULK AT MOST 1048576: true; the input reads as it did. -/
def networkLayersUptoRow : OpenClaim := { program := "ytpglocgfdonmaaa", sum := "4c62685c78becf19b992e2a18d7d79603eae19e5fa457c2b1a318b92b12769e8", func := "tryst/trystlaw16.NetworkLayers", spec := "networkLayers", unfollowed := true, recurses := true, apart := false, narrowed := true }
def NetworkLayersUptoSaid : Prop := networkLayersUptoRow.holds Try.pinned (OpenSpec.upto networkLayersSpec)

/-- 'trystlaw16.NetworkSizes', WHERE WHAT IT READS IS OF BULK AT MOST 1048576: true; the input reads as it did. -/
def networkSizesUptoRow : OpenClaim := { program := "ytpglocgfdonmaaa", sum := "4c62685c78becf19b992e2a18d7d79603eae19e5fa457c2b1a318b92b12769e8", func := "tryst/trystlaw16.NetworkSizes", spec := "networkSizes", unfollowed := true, recurses := true, apart := false, narrowed := true }
def NetworkSizesUptoSaid : Prop := networkSizesUptoRow.holds Try.pinned (OpenSpec.upto networkSizesSpec)

/-- 'trystlaw16.NetworkShifts', WHERE WHAT IT READS IS OF BULK AT MOST 1048576: true; the input reads as it did. -/
def networkShiftsUptoRow : OpenClaim := { program := "ytpglocgfdonmaaa", sum := "4c62685c78becf19b992e2a18d7d79603eae19e5fa457c2b1a318b92b12769e8", func := "tryst/trystlaw16.NetworkShifts", spec := "networkShifts", unfollowed := true, recurses := true, apart := false, narrowed := true }
def NetworkShiftsUptoSaid : Prop := networkShiftsUptoRow.holds Try.pinned (OpenSpec.upto networkShiftsSpec)

/-- 'trystlaw16.NetworkGathers', WHERE WHAT IT READS IS OF BULK AT MOST 1048576: true; the input reads as it did. -/
def networkGathersUptoRow : OpenClaim := { program := "ytpglocgfdonmaaa", sum := "4c62685c78becf19b992e2a18d7d79603eae19e5fa457c2b1a318b92b12769e8", func := "tryst/trystlaw16.NetworkGathers", spec := "networkGathers", unfollowed := true, recurses := true, apart := false, narrowed := true }
def NetworkGathersUptoSaid : Prop := networkGathersUptoRow.holds Try.pinned (OpenSpec.upto networkGathersSpec)

/-- 'trystlaw16.NetworkKnown', WHERE WHAT IT READS IS OF BULK AT MOST 1048576: true; the input reads as it did. -/
def networkKnownUptoRow : OpenClaim := { program := "ytpglocgfdonmaaa", sum := "4c62685c78becf19b992e2a18d7d79603eae19e5fa457c2b1a318b92b12769e8", func := "tryst/trystlaw16.NetworkKnown", spec := "networkKnown", unfollowed := true, recurses := true, apart := false, narrowed := true }
def NetworkKnownUptoSaid : Prop := networkKnownUptoRow.holds Try.pinned (OpenSpec.upto networkKnownSpec)

end Rows
end Go.Proofs.Ytpglocgfdonmaaa

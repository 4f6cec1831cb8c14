/-
  No cell of these rows narrows 'for every input' (looked for: loops, veiled, ifaces, maps, wideKeys, modest, calm, conditions, laid).
  DERIVED. THE GIVEN ROWS OF THIS SEAT. 9 by the template 'for every input the law returns true; each argument reads behind the call as it read before'; 0 by the template 'total and deterministic' (their statements: YtmmmmabfnnblfaaTotals.lean).
  GIVEN WITH THE SEED: the statements are not yours to turn. If you find one false, say at which input.
  Laid BY PROGRAM, IN A SANDBOX (cutbox-rows.mjs): the forced cells as the released guide's own fill.sh prints them over the translation 57aa0f8560bd1165… (all of the seat's roots in one cut). By AI agents, Wed Nov 11 2026. No macro, syntax, notation, axiom, sorry.
-/
import Derived.Test.YtmmmmabfnnblfaaChecked
import GoSem.Claim
import GoSem.ClaimJoined
import GoSem.ClaimMapViews
import Derived.JoinedTies
import Derived.KernelRfl
namespace Go.Proofs.Ytmmmmabfnnblfaa
/- THE CELL 'sum', in the pinned program and in every row, IS THE sha256 OF THE DUMP (.gsa) THAT YtmmmmabfnnblfaaProg.lean LOADS. Nothing in Lean hashes anything: it is a label: what it is worth is what the hold of that sum in a sandbox is worth. -/
noncomputable def Try.pinned : Pinned := { name := "ytmmmmabfnnblfaa", sum := "57aa0f8560bd1165ef9037faf16653535987e08fac631c081ee54d7fa8668218", checked := Try.checked }
namespace Rows
def none {H : Type} : Left H := { results := [], args := [] }

/-- 'trystlaw01.MaskChoose': WHATEVER THE INPUT: true; the input reads as it did. -/
def maskChooseSpec : ChangeSpec := { name := "maskChoose", fn := fun _ => fun
  | [d1, d2, d3] => { results := [.lit (.bool true)], args := [d1, d2, d3] }
  | _ => none }
def maskChooseRow : OpenClaim := { program := "ytmmmmabfnnblfaa", sum := "57aa0f8560bd1165ef9037faf16653535987e08fac631c081ee54d7fa8668218", func := "tryst/trystlaw01.MaskChoose", spec := "maskChoose", apart := false }
def MaskChooseSaid : Prop := maskChooseRow.holds Try.pinned (OpenSpec.ofChange maskChooseSpec)

/-- ITS FALSE NEIGHBOUR: 'it returns false'. Refute it at one input. -/
def maskChooseWrong : ChangeSpec := { name := "maskChoose", fn := fun _ => fun
  | [d1, d2, d3] => { results := [.lit (.bool false)], args := [d1, d2, d3] }
  | _ => none }
def MaskChooseWrongFalsely : Prop := maskChooseRow.holds Try.pinned (OpenSpec.ofChange maskChooseWrong)

/-- 'trystlaw01.MaskPicks': WHATEVER THE INPUT: true; the input reads as it did. -/
def maskPicksSpec : ChangeSpec := { name := "maskPicks", fn := fun _ => fun
  | [d1, d2, d3] => { results := [.lit (.bool true)], args := [d1, d2, d3] }
  | _ => none }
def maskPicksRow : OpenClaim := { program := "ytmmmmabfnnblfaa", sum := "57aa0f8560bd1165ef9037faf16653535987e08fac631c081ee54d7fa8668218", func := "tryst/trystlaw01.MaskPicks", spec := "maskPicks", apart := false }
def MaskPicksSaid : Prop := maskPicksRow.holds Try.pinned (OpenSpec.ofChange maskPicksSpec)

/-- ITS FALSE NEIGHBOUR: 'it returns false'. Refute it at one input. -/
def maskPicksWrong : ChangeSpec := { name := "maskPicks", fn := fun _ => fun
  | [d1, d2, d3] => { results := [.lit (.bool false)], args := [d1, d2, d3] }
  | _ => none }
def MaskPicksWrongFalsely : Prop := maskPicksRow.holds Try.pinned (OpenSpec.ofChange maskPicksWrong)

/-- 'trystlaw01.MaskWords': WHATEVER THE INPUT: true; the input reads as it did. -/
def maskWordsSpec : ChangeSpec := { name := "maskWords", fn := fun _ => fun
  | [d1, d2, d3] => { results := [.lit (.bool true)], args := [d1, d2, d3] }
  | _ => none }
def maskWordsRow : OpenClaim := { program := "ytmmmmabfnnblfaa", sum := "57aa0f8560bd1165ef9037faf16653535987e08fac631c081ee54d7fa8668218", func := "tryst/trystlaw01.MaskWords", spec := "maskWords", apart := false }
def MaskWordsSaid : Prop := maskWordsRow.holds Try.pinned (OpenSpec.ofChange maskWordsSpec)

/-- ITS FALSE NEIGHBOUR: 'it returns false'. Refute it at one input. -/
def maskWordsWrong : ChangeSpec := { name := "maskWords", fn := fun _ => fun
  | [d1, d2, d3] => { results := [.lit (.bool false)], args := [d1, d2, d3] }
  | _ => none }
def MaskWordsWrongFalsely : Prop := maskWordsRow.holds Try.pinned (OpenSpec.ofChange maskWordsWrong)

/-- 'trystlaw01.MaskMoves': WHATEVER THE INPUT: true; the input reads as it did. -/
def maskMovesSpec : ChangeSpec := { name := "maskMoves", fn := fun _ => fun
  | [d1, d2, d3] => { results := [.lit (.bool true)], args := [d1, d2, d3] }
  | _ => none }
def maskMovesRow : OpenClaim := { program := "ytmmmmabfnnblfaa", sum := "57aa0f8560bd1165ef9037faf16653535987e08fac631c081ee54d7fa8668218", func := "tryst/trystlaw01.MaskMoves", spec := "maskMoves", apart := false }
def MaskMovesSaid : Prop := maskMovesRow.holds Try.pinned (OpenSpec.ofChange maskMovesSpec)

/-- ITS FALSE NEIGHBOUR: 'it returns false'. Refute it at one input. -/
def maskMovesWrong : ChangeSpec := { name := "maskMoves", fn := fun _ => fun
  | [d1, d2, d3] => { results := [.lit (.bool false)], args := [d1, d2, d3] }
  | _ => none }
def MaskMovesWrongFalsely : Prop := maskMovesRow.holds Try.pinned (OpenSpec.ofChange maskMovesWrong)

/-- 'trystlaw01.MaskTrades': WHATEVER THE INPUT: true; the input reads as it did. -/
def maskTradesSpec : ChangeSpec := { name := "maskTrades", fn := fun _ => fun
  | [d1, d2, d3] => { results := [.lit (.bool true)], args := [d1, d2, d3] }
  | _ => none }
def maskTradesRow : OpenClaim := { program := "ytmmmmabfnnblfaa", sum := "57aa0f8560bd1165ef9037faf16653535987e08fac631c081ee54d7fa8668218", func := "tryst/trystlaw01.MaskTrades", spec := "maskTrades", apart := false }
def MaskTradesSaid : Prop := maskTradesRow.holds Try.pinned (OpenSpec.ofChange maskTradesSpec)

/-- ITS FALSE NEIGHBOUR: 'it returns false'. Refute it at one input. -/
def maskTradesWrong : ChangeSpec := { name := "maskTrades", fn := fun _ => fun
  | [d1, d2, d3] => { results := [.lit (.bool false)], args := [d1, d2, d3] }
  | _ => none }
def MaskTradesWrongFalsely : Prop := maskTradesRow.holds Try.pinned (OpenSpec.ofChange maskTradesWrong)

/-- 'trystlaw01.MaskRows': WHATEVER THE INPUT: true; the input reads as it did. -/
def maskRowsSpec : ChangeSpec := { name := "maskRows", fn := fun _ => fun
  | [d1, d2] => { results := [.lit (.bool true)], args := [d1, d2] }
  | _ => none }
def maskRowsRow : OpenClaim := { program := "ytmmmmabfnnblfaa", sum := "57aa0f8560bd1165ef9037faf16653535987e08fac631c081ee54d7fa8668218", func := "tryst/trystlaw01.MaskRows", spec := "maskRows", apart := false }
def MaskRowsSaid : Prop := maskRowsRow.holds Try.pinned (OpenSpec.ofChange maskRowsSpec)

/-- ITS FALSE NEIGHBOUR: 'it returns false'. Refute it at one input. -/
def maskRowsWrong : ChangeSpec := { name := "maskRows", fn := fun _ => fun
  | [d1, d2] => { results := [.lit (.bool false)], args := [d1, d2] }
  | _ => none }
def MaskRowsWrongFalsely : Prop := maskRowsRow.holds Try.pinned (OpenSpec.ofChange maskRowsWrong)

/-- 'trystlaw01.MaskLists': WHATEVER THE INPUT: true; the input reads as it did. -/
def maskListsSpec : ChangeSpec := { name := "maskLists", fn := fun _ => fun
  | [d1, d2] => { results := [.lit (.bool true)], args := [d1, d2] }
  | _ => none }
def maskListsRow : OpenClaim := { program := "ytmmmmabfnnblfaa", sum := "57aa0f8560bd1165ef9037faf16653535987e08fac631c081ee54d7fa8668218", func := "tryst/trystlaw01.MaskLists", spec := "maskLists", apart := false }
def MaskListsSaid : Prop := maskListsRow.holds Try.pinned (OpenSpec.ofChange maskListsSpec)

/-- ITS FALSE NEIGHBOUR: 'it returns false'. Refute it at one input. -/
def maskListsWrong : ChangeSpec := { name := "maskLists", fn := fun _ => fun
  | [d1, d2] => { results := [.lit (.bool false)], args := [d1, d2] }
  | _ => none }
def MaskListsWrongFalsely : Prop := maskListsRow.holds Try.pinned (OpenSpec.ofChange maskListsWrong)

/-- 'trystlaw01.MaskOrder': WHATEVER THE INPUT: true; the input reads as it did. -/
def maskOrderSpec : ChangeSpec := { name := "maskOrder", fn := fun _ => fun
  | [d] => { results := [.lit (.bool true)], args := [d] }
  | _ => none }
def maskOrderRow : OpenClaim := { program := "ytmmmmabfnnblfaa", sum := "57aa0f8560bd1165ef9037faf16653535987e08fac631c081ee54d7fa8668218", func := "tryst/trystlaw01.MaskOrder", spec := "maskOrder", apart := false }
def MaskOrderSaid : Prop := maskOrderRow.holds Try.pinned (OpenSpec.ofChange maskOrderSpec)

/-- ITS FALSE NEIGHBOUR: 'it returns false'. Refute it at one input. -/
def maskOrderWrong : ChangeSpec := { name := "maskOrder", fn := fun _ => fun
  | [d] => { results := [.lit (.bool false)], args := [d] }
  | _ => none }
def MaskOrderWrongFalsely : Prop := maskOrderRow.holds Try.pinned (OpenSpec.ofChange maskOrderWrong)

/-- 'trystlaw01.MaskKnown': WHATEVER THE INPUT: true; the input reads as it did. -/
def maskKnownSpec : ChangeSpec := { name := "maskKnown", fn := fun _ => fun
  | [] => { results := [.lit (.bool true)], args := [] }
  | _ => none }
def maskKnownRow : OpenClaim := { program := "ytmmmmabfnnblfaa", sum := "57aa0f8560bd1165ef9037faf16653535987e08fac631c081ee54d7fa8668218", func := "tryst/trystlaw01.MaskKnown", spec := "maskKnown", apart := false }
def MaskKnownSaid : Prop := maskKnownRow.holds Try.pinned (OpenSpec.ofChange maskKnownSpec)

/-- ITS FALSE NEIGHBOUR: 'it returns false'. Refute it at one input. -/
def maskKnownWrong : ChangeSpec := { name := "maskKnown", fn := fun _ => fun
  | [] => { results := [.lit (.bool false)], args := [] }
  | _ => none }
def MaskKnownWrongFalsely : Prop := maskKnownRow.holds Try.pinned (OpenSpec.ofChange maskKnownWrong)

/- THE SECOND FORM. 'bulk': how many values and letters a reading holds, each counted each time it is reached (what is shared counts as often as it is met; a slice's spare places count too). A statement '..UptoSaid' is the law's where the arguments, and the package variables that the reading takes, are together of bulk at most 1048576: NARROWER than '..Said'. Prove '..Said' where nothing that the law and all that it calls make is longer than what came in: it says more and counts as full. Else prove '..UptoSaid'. A law counts once. -/
mutual
def uptoBulk {H : Type} : DataW H → Nat
  | .lit (.string bytes) => bytes.length + 1
  | .lit _ => 1
  | .nil => 1
  | .ptr d => uptoBulk d + 1
  | .slice elems spare => uptoBulkAll elems + uptoBulkAll spare + 1
  | .agg parts => uptoBulkAll parts + 1
  | .iface _ d => uptoBulk d + 1
  | .map entries => uptoBulkEntries entries + 1
  | .held _ => 1
def uptoBulkAll {H : Type} : List (DataW H) → Nat
  | [] => 0
  | d :: r => uptoBulk d + uptoBulkAll r
def uptoBulkEntries {H : Type} : List (Lit × DataW H) → Nat
  | [] => 0
  | x :: r => uptoBulkEntry x + uptoBulkEntries r
def uptoBulkEntry {H : Type} : Lit × DataW H → Nat
  | (.string bytes, d) => bytes.length + uptoBulk d + 1
  | (_, d) => uptoBulk d + 1
 end
def uptoSmall : (H : Type) → List (DataW H) → Bool := fun _ ds => decide (uptoBulkAll ds ≤ 1048576)
def OpenSpec.upto (s : _root_.Go.ChangeSpec) : _root_.Go.OpenSpec := { _root_.Go.OpenSpec.ofChange s with cond := some uptoSmall }

/-- 'trystlaw01.MaskChoose', WHERE WHAT IT READS IS OF BULK AT MOST 1048576: true; the input reads as it did. -/
def maskChooseUptoRow : OpenClaim := { program := "ytmmmmabfnnblfaa", sum := "57aa0f8560bd1165ef9037faf16653535987e08fac631c081ee54d7fa8668218", func := "tryst/trystlaw01.MaskChoose", spec := "maskChoose", apart := false, narrowed := true }
def MaskChooseUptoSaid : Prop := maskChooseUptoRow.holds Try.pinned (OpenSpec.upto maskChooseSpec)

/-- 'trystlaw01.MaskPicks', WHERE WHAT IT READS IS OF BULK AT MOST 1048576: true; the input reads as it did. -/
def maskPicksUptoRow : OpenClaim := { program := "ytmmmmabfnnblfaa", sum := "57aa0f8560bd1165ef9037faf16653535987e08fac631c081ee54d7fa8668218", func := "tryst/trystlaw01.MaskPicks", spec := "maskPicks", apart := false, narrowed := true }
def MaskPicksUptoSaid : Prop := maskPicksUptoRow.holds Try.pinned (OpenSpec.upto maskPicksSpec)

/-- 'trystlaw01.MaskWords', WHERE WHAT IT READS IS OF BULK AT MOST 1048576: true; the input reads as it did. -/
def maskWordsUptoRow : OpenClaim := { program := "ytmmmmabfnnblfaa", sum := "57aa0f8560bd1165ef9037faf16653535987e08fac631c081ee54d7fa8668218", func := "tryst/trystlaw01.MaskWords", spec := "maskWords", apart := false, narrowed := true }
def MaskWordsUptoSaid : Prop := maskWordsUptoRow.holds Try.pinned (OpenSpec.upto maskWordsSpec)

/-- 'trystlaw01.MaskMoves', WHERE WHAT IT READS IS OF BULK AT MOST 1048576: true; the input reads as it did. -/
def maskMovesUptoRow : OpenClaim := { program := "ytmmmmabfnnblfaa", sum := "57aa0f8560bd1165ef9037faf16653535987e08fac631c081ee54d7fa8668218", func := "tryst/trystlaw01.MaskMoves", spec := "maskMoves", apart := false, narrowed := true }
def MaskMovesUptoSaid : Prop := maskMovesUptoRow.holds Try.pinned (OpenSpec.upto maskMovesSpec)

/-- 'trystlaw01.MaskTrades', WHERE WHAT IT READS IS OF BULK AT MOST 1048576: true; the input reads as it did. -/
def maskTradesUptoRow : OpenClaim := { program := "ytmmmmabfnnblfaa", sum := "57aa0f8560bd1165ef9037faf16653535987e08fac631c081ee54d7fa8668218", func := "tryst/trystlaw01.MaskTrades", spec := "maskTrades", apart := false, narrowed := true }
def MaskTradesUptoSaid : Prop := maskTradesUptoRow.holds Try.pinned (OpenSpec.upto maskTradesSpec)

/-- 'trystlaw01.MaskRows', WHERE WHAT IT READS IS OF BULK AT MOST 1048576: true; the input reads as it did. -/
def maskRowsUptoRow : OpenClaim := { program := "ytmmmmabfnnblfaa", sum := "57aa0f8560bd1165ef9037faf16653535987e08fac631c081ee54d7fa8668218", func := "tryst/trystlaw01.MaskRows", spec := "maskRows", apart := false, narrowed := true }
def MaskRowsUptoSaid : Prop := maskRowsUptoRow.holds Try.pinned (OpenSpec.upto maskRowsSpec)

/-- 'trystlaw01.MaskLists', WHERE WHAT IT READS IS OF BULK AT MOST 1048576: true; the input reads as it did. -/
def maskListsUptoRow : OpenClaim := { program := "ytmmmmabfnnblfaa", sum := "57aa0f8560bd1165ef9037faf16653535987e08fac631c081ee54d7fa8668218", func := "tryst/trystlaw01.MaskLists", spec := "maskLists", apart := false, narrowed := true }
def MaskListsUptoSaid : Prop := maskListsUptoRow.holds Try.pinned (OpenSpec.upto maskListsSpec)

/-- 'trystlaw01.MaskOrder', WHERE WHAT IT READS IS OF BULK AT MOST 1048576: true; the input reads as it did. -/
def maskOrderUptoRow : OpenClaim := { program := "ytmmmmabfnnblfaa", sum := "57aa0f8560bd1165ef9037faf16653535987e08fac631c081ee54d7fa8668218", func := "tryst/trystlaw01.MaskOrder", spec := "maskOrder", apart := false, narrowed := true }
def MaskOrderUptoSaid : Prop := maskOrderUptoRow.holds Try.pinned (OpenSpec.upto maskOrderSpec)

/-- 'trystlaw01.MaskKnown', WHERE WHAT IT READS IS OF BULK AT MOST 1048576: true; the input reads as it did. -/
def maskKnownUptoRow : OpenClaim := { program := "ytmmmmabfnnblfaa", sum := "57aa0f8560bd1165ef9037faf16653535987e08fac631c081ee54d7fa8668218", func := "tryst/trystlaw01.MaskKnown", spec := "maskKnown", apart := false, narrowed := true }
def MaskKnownUptoSaid : Prop := maskKnownUptoRow.holds Try.pinned (OpenSpec.upto maskKnownSpec)

end Rows
end Go.Proofs.Ytmmmmabfnnblfaa

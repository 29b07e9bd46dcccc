/-
  No cell of these rows narrows 'for every input' (looked for: loops, veiled, ifaces, maps, wideKeys, modest, calm, conditions, laid).
  DERIVED. THE GIVEN ROWS OF THIS SEAT. 5 by the template 'for every input the law returns true; each argument reads behind the call as it read before'; 0 by the template 'total and deterministic' (their statements: YtoiponaaogdioaaTotals.lean).
  GIVEN WITH THE SEED: the statements are not yours to turn. If you find one false, say at which input.
  Laid BY PROGRAM, IN A SANDBOX (cutbox-rows.mjs): the forced cells as the released guide's own fill.sh prints them over the translation 5b5a36da6b69ebac… (all of the seat's roots in one cut). By AI agents, Wed Nov 11 2026. No macro, syntax, notation, axiom, sorry.
-/
import Derived.Test.YtoiponaaogdioaaChecked
import GoSem.Claim
import GoSem.ClaimJoined
import GoSem.ClaimMapViews
import Derived.JoinedTies
import Derived.KernelRfl
namespace Go.Proofs.Ytoiponaaogdioaa
/- THE CELL 'sum', in the pinned program and in every row, IS THE sha256 OF THE DUMP (.gsa) THAT YtoiponaaogdioaaProg.lean LOADS. Nothing in Lean hashes anything: it is a label: what it is worth is what the hold of that sum in a sandbox is worth. -/
noncomputable def Try.pinned : Pinned := { name := "ytoiponaaogdioaa", sum := "5b5a36da6b69ebac8a4f19a26c12e5822a37bfaf80eff94911d0dccf4bbfab8c", checked := Try.checked }
namespace Rows
def none {H : Type} : Left H := { results := [], args := [] }

/-- 'wattlelaw02.LogicKnown': WHATEVER THE INPUT: true; the input reads as it did. -/
def logicKnownSpec : ChangeSpec := { name := "logicKnown", fn := fun _ => fun
  | [d1, d2] => { results := [.lit (.bool true)], args := [d1, d2] }
  | _ => none }
def logicKnownRow : OpenClaim := { program := "ytoiponaaogdioaa", sum := "5b5a36da6b69ebac8a4f19a26c12e5822a37bfaf80eff94911d0dccf4bbfab8c", func := "wattle/wattlelaw02.LogicKnown", spec := "logicKnown", apart := false }
def LogicKnownSaid : Prop := logicKnownRow.holds Try.pinned (OpenSpec.ofChange logicKnownSpec)

/-- ITS FALSE NEIGHBOUR: 'it returns false'. Refute it at one input. -/
def logicKnownWrong : ChangeSpec := { name := "logicKnown", fn := fun _ => fun
  | [d1, d2] => { results := [.lit (.bool false)], args := [d1, d2] }
  | _ => none }
def LogicKnownWrongFalsely : Prop := logicKnownRow.holds Try.pinned (OpenSpec.ofChange logicKnownWrong)

/-- 'wattlelaw02.LogicTables': WHATEVER THE INPUT: true; the input reads as it did. -/
def logicTablesSpec : ChangeSpec := { name := "logicTables", fn := fun _ => fun
  | [d1, d2, d3] => { results := [.lit (.bool true)], args := [d1, d2, d3] }
  | _ => none }
def logicTablesRow : OpenClaim := { program := "ytoiponaaogdioaa", sum := "5b5a36da6b69ebac8a4f19a26c12e5822a37bfaf80eff94911d0dccf4bbfab8c", func := "wattle/wattlelaw02.LogicTables", spec := "logicTables", apart := false }
def LogicTablesSaid : Prop := logicTablesRow.holds Try.pinned (OpenSpec.ofChange logicTablesSpec)

/-- ITS FALSE NEIGHBOUR: 'it returns false'. Refute it at one input. -/
def logicTablesWrong : ChangeSpec := { name := "logicTables", fn := fun _ => fun
  | [d1, d2, d3] => { results := [.lit (.bool false)], args := [d1, d2, d3] }
  | _ => none }
def LogicTablesWrongFalsely : Prop := logicTablesRow.holds Try.pinned (OpenSpec.ofChange logicTablesWrong)

/-- 'wattlelaw02.LogicLists': WHATEVER THE INPUT: true; the input reads as it did. -/
def logicListsSpec : ChangeSpec := { name := "logicLists", fn := fun _ => fun
  | [d] => { results := [.lit (.bool true)], args := [d] }
  | _ => none }
def logicListsRow : OpenClaim := { program := "ytoiponaaogdioaa", sum := "5b5a36da6b69ebac8a4f19a26c12e5822a37bfaf80eff94911d0dccf4bbfab8c", func := "wattle/wattlelaw02.LogicLists", spec := "logicLists", apart := false }
def LogicListsSaid : Prop := logicListsRow.holds Try.pinned (OpenSpec.ofChange logicListsSpec)

/-- ITS FALSE NEIGHBOUR: 'it returns false'. Refute it at one input. -/
def logicListsWrong : ChangeSpec := { name := "logicLists", fn := fun _ => fun
  | [d] => { results := [.lit (.bool false)], args := [d] }
  | _ => none }
def LogicListsWrongFalsely : Prop := logicListsRow.holds Try.pinned (OpenSpec.ofChange logicListsWrong)

/-- 'wattlelaw02.LogicParts': WHATEVER THE INPUT: true; the input reads as it did. -/
def logicPartsSpec : ChangeSpec := { name := "logicParts", fn := fun _ => fun
  | [d1, d2] => { results := [.lit (.bool true)], args := [d1, d2] }
  | _ => none }
def logicPartsRow : OpenClaim := { program := "ytoiponaaogdioaa", sum := "5b5a36da6b69ebac8a4f19a26c12e5822a37bfaf80eff94911d0dccf4bbfab8c", func := "wattle/wattlelaw02.LogicParts", spec := "logicParts", apart := false }
def LogicPartsSaid : Prop := logicPartsRow.holds Try.pinned (OpenSpec.ofChange logicPartsSpec)

/-- ITS FALSE NEIGHBOUR: 'it returns false'. Refute it at one input. -/
def logicPartsWrong : ChangeSpec := { name := "logicParts", fn := fun _ => fun
  | [d1, d2] => { results := [.lit (.bool false)], args := [d1, d2] }
  | _ => none }
def LogicPartsWrongFalsely : Prop := logicPartsRow.holds Try.pinned (OpenSpec.ofChange logicPartsWrong)

/-- 'wattlelaw02.LogicDuals': WHATEVER THE INPUT: true; the input reads as it did. -/
def logicDualsSpec : ChangeSpec := { name := "logicDuals", fn := fun _ => fun
  | [d1, d2, d3] => { results := [.lit (.bool true)], args := [d1, d2, d3] }
  | _ => none }
def logicDualsRow : OpenClaim := { program := "ytoiponaaogdioaa", sum := "5b5a36da6b69ebac8a4f19a26c12e5822a37bfaf80eff94911d0dccf4bbfab8c", func := "wattle/wattlelaw02.LogicDuals", spec := "logicDuals", apart := false }
def LogicDualsSaid : Prop := logicDualsRow.holds Try.pinned (OpenSpec.ofChange logicDualsSpec)

/-- ITS FALSE NEIGHBOUR: 'it returns false'. Refute it at one input. -/
def logicDualsWrong : ChangeSpec := { name := "logicDuals", fn := fun _ => fun
  | [d1, d2, d3] => { results := [.lit (.bool false)], args := [d1, d2, d3] }
  | _ => none }
def LogicDualsWrongFalsely : Prop := logicDualsRow.holds Try.pinned (OpenSpec.ofChange logicDualsWrong)

/- THE SECOND FORM. 'bulk': how many values and letters a reading holds, each counted each time it is reached (what is shared counts as often as it is met; a slice's spare places count too). A statement '..UptoSaid' is the law's where the arguments, and the package variables that the reading takes, are together of bulk at most 1048576: NARROWER than '..Said'. Prove '..Said' where nothing that the law and all that it calls make is longer than what came in: it says more and counts as full. Else prove '..UptoSaid'. A law counts once. -/
mutual
def uptoBulk {H : Type} : DataW H → Nat
  | .lit (.string bytes) => bytes.length + 1
  | .lit _ => 1
  | .nil => 1
  | .ptr d => uptoBulk d + 1
  | .slice elems spare => uptoBulkAll elems + uptoBulkAll spare + 1
  | .agg parts => uptoBulkAll parts + 1
  | .iface _ d => uptoBulk d + 1
  | .map entries => uptoBulkEntries entries + 1
  | .held _ => 1
def uptoBulkAll {H : Type} : List (DataW H) → Nat
  | [] => 0
  | d :: r => uptoBulk d + uptoBulkAll r
def uptoBulkEntries {H : Type} : List (Lit × DataW H) → Nat
  | [] => 0
  | x :: r => uptoBulkEntry x + uptoBulkEntries r
def uptoBulkEntry {H : Type} : Lit × DataW H → Nat
  | (.string bytes, d) => bytes.length + uptoBulk d + 1
  | (_, d) => uptoBulk d + 1
 end
def uptoSmall : (H : Type) → List (DataW H) → Bool := fun _ ds => decide (uptoBulkAll ds ≤ 1048576)
def OpenSpec.upto (s : _root_.Go.ChangeSpec) : _root_.Go.OpenSpec := { _root_.Go.OpenSpec.ofChange s with cond := some uptoSmall }

/-- 'wattlelaw02.LogicKnown', WHERE WHAT IT READS IS OF BULK AT MOST 1048576: true; the input reads as it did. -/
def logicKnownUptoRow : OpenClaim := { program := "ytoiponaaogdioaa", sum := "5b5a36da6b69ebac8a4f19a26c12e5822a37bfaf80eff94911d0dccf4bbfab8c", func := "wattle/wattlelaw02.LogicKnown", spec := "logicKnown", apart := false, narrowed := true }
def LogicKnownUptoSaid : Prop := logicKnownUptoRow.holds Try.pinned (OpenSpec.upto logicKnownSpec)

/-- 'wattlelaw02.LogicTables', WHERE WHAT IT READS IS OF BULK AT MOST 1048576: true; the input reads as it did. -/
def logicTablesUptoRow : OpenClaim := { program := "ytoiponaaogdioaa", sum := "5b5a36da6b69ebac8a4f19a26c12e5822a37bfaf80eff94911d0dccf4bbfab8c", func := "wattle/wattlelaw02.LogicTables", spec := "logicTables", apart := false, narrowed := true }
def LogicTablesUptoSaid : Prop := logicTablesUptoRow.holds Try.pinned (OpenSpec.upto logicTablesSpec)

/-- 'wattlelaw02.LogicLists', WHERE WHAT IT READS IS OF BULK AT MOST 1048576: true; the input reads as it did. -/
def logicListsUptoRow : OpenClaim := { program := "ytoiponaaogdioaa", sum := "5b5a36da6b69ebac8a4f19a26c12e5822a37bfaf80eff94911d0dccf4bbfab8c", func := "wattle/wattlelaw02.LogicLists", spec := "logicLists", apart := false, narrowed := true }
def LogicListsUptoSaid : Prop := logicListsUptoRow.holds Try.pinned (OpenSpec.upto logicListsSpec)

/-- 'wattlelaw02.LogicParts', WHERE WHAT IT READS IS OF BULK AT MOST 1048576: true; the input reads as it did. -/
def logicPartsUptoRow : OpenClaim := { program := "ytoiponaaogdioaa", sum := "5b5a36da6b69ebac8a4f19a26c12e5822a37bfaf80eff94911d0dccf4bbfab8c", func := "wattle/wattlelaw02.LogicParts", spec := "logicParts", apart := false, narrowed := true }
def LogicPartsUptoSaid : Prop := logicPartsUptoRow.holds Try.pinned (OpenSpec.upto logicPartsSpec)

/-- 'wattlelaw02.LogicDuals', WHERE WHAT IT READS IS OF BULK AT MOST 1048576: true; the input reads as it did. -/
def logicDualsUptoRow : OpenClaim := { program := "ytoiponaaogdioaa", sum := "5b5a36da6b69ebac8a4f19a26c12e5822a37bfaf80eff94911d0dccf4bbfab8c", func := "wattle/wattlelaw02.LogicDuals", spec := "logicDuals", apart := false, narrowed := true }
def LogicDualsUptoSaid : Prop := logicDualsUptoRow.holds Try.pinned (OpenSpec.upto logicDualsSpec)

end Rows
end Go.Proofs.Ytoiponaaogdioaa

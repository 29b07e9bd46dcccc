/-
  No cell of these rows narrows 'for every input' (looked for: loops, veiled, ifaces, maps, wideKeys, modest, calm, conditions, laid).
  DERIVED. THE GIVEN ROWS OF THIS SEAT. 5 by the template 'for every input the law returns true; each argument reads behind the call as it read before'; 0 by the template 'total and deterministic' (their statements: YtelmaaokaakpbaaTotals.lean).
  GIVEN WITH THE SEED: the statements are not yours to turn. If you find one false, say at which input.
  Laid BY PROGRAM, IN A SANDBOX (cutbox-rows.mjs): the forced cells as the released guide's own fill.sh prints them over the translation 1219c38c33d7bebe… (all of the seat's roots in one cut). By AI agents, Wed Nov 11 2026. No macro, syntax, notation, axiom, sorry.
-/
import Derived.Test.YtelmaaokaakpbaaChecked
import GoSem.Claim
import GoSem.ClaimJoined
import GoSem.ClaimMapViews
import Derived.JoinedTies
import Derived.KernelRfl
namespace Go.Proofs.Ytelmaaokaakpbaa
/- THE CELL 'sum', in the pinned program and in every row, IS THE sha256 OF THE DUMP (.gsa) THAT YtelmaaokaakpbaaProg.lean LOADS. Nothing in Lean hashes anything: it is a label: what it is worth is what the hold of that sum in a sandbox is worth. -/
noncomputable def Try.pinned : Pinned := { name := "ytelmaaokaakpbaa", sum := "1219c38c33d7bebe77a537380f201a0523135177bd41610d99e21ad5d7069669", checked := Try.checked }
namespace Rows
def none {H : Type} : Left H := { results := [], args := [] }

/-- 'wattlelaw24.ChainSees': WHATEVER THE INPUT: true; the input reads as it did. -/
def chainSeesSpec : ChangeSpec := { name := "chainSees", fn := fun _ => fun
  | [d1, d2, d3] => { results := [.lit (.bool true)], args := [d1, d2, d3] }
  | _ => none }
def chainSeesRow : OpenClaim := { program := "ytelmaaokaakpbaa", sum := "1219c38c33d7bebe77a537380f201a0523135177bd41610d99e21ad5d7069669", func := "wattle/wattlelaw24.ChainSees", spec := "chainSees", apart := false }
def ChainSeesSaid : Prop := chainSeesRow.holds Try.pinned (OpenSpec.ofChange chainSeesSpec)

/-- ITS FALSE NEIGHBOUR: 'it returns false'. Refute it at one input. -/
def chainSeesWrong : ChangeSpec := { name := "chainSees", fn := fun _ => fun
  | [d1, d2, d3] => { results := [.lit (.bool false)], args := [d1, d2, d3] }
  | _ => none }
def ChainSeesWrongFalsely : Prop := chainSeesRow.holds Try.pinned (OpenSpec.ofChange chainSeesWrong)

/-- 'wattlelaw24.ChainFirst': WHATEVER THE INPUT: true; the input reads as it did. -/
def chainFirstSpec : ChangeSpec := { name := "chainFirst", fn := fun _ => fun
  | [d1, d2, d3, d4, d5] => { results := [.lit (.bool true)], args := [d1, d2, d3, d4, d5] }
  | _ => none }
def chainFirstRow : OpenClaim := { program := "ytelmaaokaakpbaa", sum := "1219c38c33d7bebe77a537380f201a0523135177bd41610d99e21ad5d7069669", func := "wattle/wattlelaw24.ChainFirst", spec := "chainFirst", apart := false }
def ChainFirstSaid : Prop := chainFirstRow.holds Try.pinned (OpenSpec.ofChange chainFirstSpec)

/-- ITS FALSE NEIGHBOUR: 'it returns false'. Refute it at one input. -/
def chainFirstWrong : ChangeSpec := { name := "chainFirst", fn := fun _ => fun
  | [d1, d2, d3, d4, d5] => { results := [.lit (.bool false)], args := [d1, d2, d3, d4, d5] }
  | _ => none }
def ChainFirstWrongFalsely : Prop := chainFirstRow.holds Try.pinned (OpenSpec.ofChange chainFirstWrong)

/-- 'wattlelaw24.ChainDoes': WHATEVER THE INPUT: true; the input reads as it did. -/
def chainDoesSpec : ChangeSpec := { name := "chainDoes", fn := fun _ => fun
  | [d] => { results := [.lit (.bool true)], args := [d] }
  | _ => none }
def chainDoesRow : OpenClaim := { program := "ytelmaaokaakpbaa", sum := "1219c38c33d7bebe77a537380f201a0523135177bd41610d99e21ad5d7069669", func := "wattle/wattlelaw24.ChainDoes", spec := "chainDoes", apart := false }
def ChainDoesSaid : Prop := chainDoesRow.holds Try.pinned (OpenSpec.ofChange chainDoesSpec)

/-- ITS FALSE NEIGHBOUR: 'it returns false'. Refute it at one input. -/
def chainDoesWrong : ChangeSpec := { name := "chainDoes", fn := fun _ => fun
  | [d] => { results := [.lit (.bool false)], args := [d] }
  | _ => none }
def ChainDoesWrongFalsely : Prop := chainDoesRow.holds Try.pinned (OpenSpec.ofChange chainDoesWrong)

/-- 'wattlelaw24.ChainPruned': WHATEVER THE INPUT: true; the input reads as it did. -/
def chainPrunedSpec : ChangeSpec := { name := "chainPruned", fn := fun _ => fun
  | [d1, d2, d3] => { results := [.lit (.bool true)], args := [d1, d2, d3] }
  | _ => none }
def chainPrunedRow : OpenClaim := { program := "ytelmaaokaakpbaa", sum := "1219c38c33d7bebe77a537380f201a0523135177bd41610d99e21ad5d7069669", func := "wattle/wattlelaw24.ChainPruned", spec := "chainPruned", apart := false }
def ChainPrunedSaid : Prop := chainPrunedRow.holds Try.pinned (OpenSpec.ofChange chainPrunedSpec)

/-- ITS FALSE NEIGHBOUR: 'it returns false'. Refute it at one input. -/
def chainPrunedWrong : ChangeSpec := { name := "chainPruned", fn := fun _ => fun
  | [d1, d2, d3] => { results := [.lit (.bool false)], args := [d1, d2, d3] }
  | _ => none }
def ChainPrunedWrongFalsely : Prop := chainPrunedRow.holds Try.pinned (OpenSpec.ofChange chainPrunedWrong)

/-- 'wattlelaw24.ChainAborts': WHATEVER THE INPUT: true; the input reads as it did. -/
def chainAbortsSpec : ChangeSpec := { name := "chainAborts", fn := fun _ => fun
  | [d1, d2, d3, d4] => { results := [.lit (.bool true)], args := [d1, d2, d3, d4] }
  | _ => none }
def chainAbortsRow : OpenClaim := { program := "ytelmaaokaakpbaa", sum := "1219c38c33d7bebe77a537380f201a0523135177bd41610d99e21ad5d7069669", func := "wattle/wattlelaw24.ChainAborts", spec := "chainAborts", apart := false }
def ChainAbortsSaid : Prop := chainAbortsRow.holds Try.pinned (OpenSpec.ofChange chainAbortsSpec)

/-- ITS FALSE NEIGHBOUR: 'it returns false'. Refute it at one input. -/
def chainAbortsWrong : ChangeSpec := { name := "chainAborts", fn := fun _ => fun
  | [d1, d2, d3, d4] => { results := [.lit (.bool false)], args := [d1, d2, d3, d4] }
  | _ => none }
def ChainAbortsWrongFalsely : Prop := chainAbortsRow.holds Try.pinned (OpenSpec.ofChange chainAbortsWrong)

/- THE SECOND FORM. 'bulk': how many values and letters a reading holds, each counted each time it is reached (what is shared counts as often as it is met; a slice's spare places count too). A statement '..UptoSaid' is the law's where the arguments, and the package variables that the reading takes, are together of bulk at most 1048576: NARROWER than '..Said'. Prove '..Said' where nothing that the law and all that it calls make is longer than what came in: it says more and counts as full. Else prove '..UptoSaid'. A law counts once. -/
mutual
def uptoBulk {H : Type} : DataW H → Nat
  | .lit (.string bytes) => bytes.length + 1
  | .lit _ => 1
  | .nil => 1
  | .ptr d => uptoBulk d + 1
  | .slice elems spare => uptoBulkAll elems + uptoBulkAll spare + 1
  | .agg parts => uptoBulkAll parts + 1
  | .iface _ d => uptoBulk d + 1
  | .map entries => uptoBulkEntries entries + 1
  | .held _ => 1
def uptoBulkAll {H : Type} : List (DataW H) → Nat
  | [] => 0
  | d :: r => uptoBulk d + uptoBulkAll r
def uptoBulkEntries {H : Type} : List (Lit × DataW H) → Nat
  | [] => 0
  | x :: r => uptoBulkEntry x + uptoBulkEntries r
def uptoBulkEntry {H : Type} : Lit × DataW H → Nat
  | (.string bytes, d) => bytes.length + uptoBulk d + 1
  | (_, d) => uptoBulk d + 1
 end
def uptoSmall : (H : Type) → List (DataW H) → Bool := fun _ ds => decide (uptoBulkAll ds ≤ 1048576)
def OpenSpec.upto (s : _root_.Go.ChangeSpec) : _root_.Go.OpenSpec := { _root_.Go.OpenSpec.ofChange s with cond := some uptoSmall }

/-- 'wattlelaw24.ChainSees', WHERE WHAT IT READS IS OF BULK AT MOST 1048576: true; the input reads as it did. -/
def chainSeesUptoRow : OpenClaim := { program := "ytelmaaokaakpbaa", sum := "1219c38c33d7bebe77a537380f201a0523135177bd41610d99e21ad5d7069669", func := "wattle/wattlelaw24.ChainSees", spec := "chainSees", apart := false, narrowed := true }
def ChainSeesUptoSaid : Prop := chainSeesUptoRow.holds Try.pinned (OpenSpec.upto chainSeesSpec)

/-- 'wattlelaw24.ChainFirst', WHERE WHAT IT READS IS OF BULK AT MOST 1048576: true; the input reads as it did. -/
def chainFirstUptoRow : OpenClaim := { program := "ytelmaaokaakpbaa", sum := "1219c38c33d7bebe77a537380f201a0523135177bd41610d99e21ad5d7069669", func := "wattle/wattlelaw24.ChainFirst", spec := "chainFirst", apart := false, narrowed := true }
def ChainFirstUptoSaid : Prop := chainFirstUptoRow.holds Try.pinned (OpenSpec.upto chainFirstSpec)

/-- 'wattlelaw24.ChainDoes', WHERE WHAT IT READS IS OF BULK AT MOST 1048576: true; the input reads as it did. -/
def chainDoesUptoRow : OpenClaim := { program := "ytelmaaokaakpbaa", sum := "1219c38c33d7bebe77a537380f201a0523135177bd41610d99e21ad5d7069669", func := "wattle/wattlelaw24.ChainDoes", spec := "chainDoes", apart := false, narrowed := true }
def ChainDoesUptoSaid : Prop := chainDoesUptoRow.holds Try.pinned (OpenSpec.upto chainDoesSpec)

/-- 'wattlelaw24.ChainPruned', WHERE WHAT IT READS IS OF BULK AT MOST 1048576: true; the input reads as it did. -/
def chainPrunedUptoRow : OpenClaim := { program := "ytelmaaokaakpbaa", sum := "1219c38c33d7bebe77a537380f201a0523135177bd41610d99e21ad5d7069669", func := "wattle/wattlelaw24.ChainPruned", spec := "chainPruned", apart := false, narrowed := true }
def ChainPrunedUptoSaid : Prop := chainPrunedUptoRow.holds Try.pinned (OpenSpec.upto chainPrunedSpec)

/-- 'wattlelaw24.ChainAborts', WHERE WHAT IT READS IS OF BULK AT MOST 1048576: true; the input reads as it did. -/
def chainAbortsUptoRow : OpenClaim := { program := "ytelmaaokaakpbaa", sum := "1219c38c33d7bebe77a537380f201a0523135177bd41610d99e21ad5d7069669", func := "wattle/wattlelaw24.ChainAborts", spec := "chainAborts", apart := false, narrowed := true }
def ChainAbortsUptoSaid : Prop := chainAbortsUptoRow.holds Try.pinned (OpenSpec.upto chainAbortsSpec)

end Rows
end Go.Proofs.Ytelmaaokaakpbaa

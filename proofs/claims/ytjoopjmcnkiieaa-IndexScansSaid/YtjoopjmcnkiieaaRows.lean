/-
  No cell of these rows narrows 'for every input' (looked for: loops, veiled, ifaces, maps, wideKeys, modest, calm, conditions, laid).
  DERIVED. THE GIVEN ROWS OF THIS SEAT. 6 by the template 'for every input the law returns true; each argument reads behind the call as it read before'; 0 by the template 'total and deterministic' (their statements: YtjoopjmcnkiieaaTotals.lean).
  GIVEN WITH THE SEED: the statements are not yours to turn. If you find one false, say at which input.
  Laid BY PROGRAM, IN A SANDBOX (cutbox-rows.mjs): the forced cells as the released guide's own fill.sh prints them over the translation f1a38eb4aa1cc6f0… (all of the seat's roots in one cut). By AI agents, Wed Nov 11 2026. No macro, syntax, notation, axiom, sorry.
-/
import Derived.Test.YtjoopjmcnkiieaaChecked
import GoSem.Claim
import GoSem.ClaimJoined
import GoSem.ClaimMapViews
import Derived.JoinedTies
import Derived.KernelRfl
namespace Go.Proofs.Ytjoopjmcnkiieaa
/- THE CELL 'sum', in the pinned program and in every row, IS THE sha256 OF THE DUMP (.gsa) THAT YtjoopjmcnkiieaaProg.lean LOADS. Nothing in Lean hashes anything: it is a label: what it is worth is what the hold of that sum in a sandbox is worth. -/
noncomputable def Try.pinned : Pinned := { name := "ytjoopjmcnkiieaa", sum := "f1a38eb4aa1cc6f009e66111885c402cb98bbc370582b9ebd0b1d99d48704c00", checked := Try.checked }
namespace Rows
def none {H : Type} : Left H := { results := [], args := [] }

/-- 'wattlelaw25.IndexScans': WHATEVER THE INPUT: true; the input reads as it did. -/
def indexScansSpec : ChangeSpec := { name := "indexScans", fn := fun _ => fun
  | [d1, d2, d3, d4, d5] => { results := [.lit (.bool true)], args := [d1, d2, d3, d4, d5] }
  | _ => none }
def indexScansRow : OpenClaim := { program := "ytjoopjmcnkiieaa", sum := "f1a38eb4aa1cc6f009e66111885c402cb98bbc370582b9ebd0b1d99d48704c00", func := "wattle/wattlelaw25.IndexScans", spec := "indexScans", inPlace := ["slices.overlaps[string]", "slices.overlaps[int64]", "slices.overlaps[*wattle/index.node[int64]]"], unfollowed := true, recurses := true, apart := false }
def IndexScansSaid : Prop := indexScansRow.holds Try.pinned (OpenSpec.ofChange indexScansSpec)

/-- ITS FALSE NEIGHBOUR: 'it returns false'. Refute it at one input. -/
def indexScansWrong : ChangeSpec := { name := "indexScans", fn := fun _ => fun
  | [d1, d2, d3, d4, d5] => { results := [.lit (.bool false)], args := [d1, d2, d3, d4, d5] }
  | _ => none }
def IndexScansWrongFalsely : Prop := indexScansRow.holds Try.pinned (OpenSpec.ofChange indexScansWrong)

/-- 'wattlelaw25.IndexSame': WHATEVER THE INPUT: true; the input reads as it did. -/
def indexSameSpec : ChangeSpec := { name := "indexSame", fn := fun _ => fun
  | [d1, d2, d3, d4] => { results := [.lit (.bool true)], args := [d1, d2, d3, d4] }
  | _ => none }
def indexSameRow : OpenClaim := { program := "ytjoopjmcnkiieaa", sum := "f1a38eb4aa1cc6f009e66111885c402cb98bbc370582b9ebd0b1d99d48704c00", func := "wattle/wattlelaw25.IndexSame", spec := "indexSame", inPlace := ["slices.overlaps[string]", "slices.overlaps[int64]", "slices.overlaps[*wattle/index.node[int64]]"], unfollowed := true, recurses := true, apart := false }
def IndexSameSaid : Prop := indexSameRow.holds Try.pinned (OpenSpec.ofChange indexSameSpec)

/-- ITS FALSE NEIGHBOUR: 'it returns false'. Refute it at one input. -/
def indexSameWrong : ChangeSpec := { name := "indexSame", fn := fun _ => fun
  | [d1, d2, d3, d4] => { results := [.lit (.bool false)], args := [d1, d2, d3, d4] }
  | _ => none }
def IndexSameWrongFalsely : Prop := indexSameRow.holds Try.pinned (OpenSpec.ofChange indexSameWrong)

/-- 'wattlelaw25.IndexDoes': WHATEVER THE INPUT: true; the input reads as it did. -/
def indexDoesSpec : ChangeSpec := { name := "indexDoes", fn := fun _ => fun
  | [d1, d2] => { results := [.lit (.bool true)], args := [d1, d2] }
  | _ => none }
def indexDoesRow : OpenClaim := { program := "ytjoopjmcnkiieaa", sum := "f1a38eb4aa1cc6f009e66111885c402cb98bbc370582b9ebd0b1d99d48704c00", func := "wattle/wattlelaw25.IndexDoes", spec := "indexDoes", inPlace := ["slices.overlaps[string]", "slices.overlaps[int64]", "slices.overlaps[*wattle/index.node[int64]]"], unfollowed := true, recurses := true, apart := false }
def IndexDoesSaid : Prop := indexDoesRow.holds Try.pinned (OpenSpec.ofChange indexDoesSpec)

/-- ITS FALSE NEIGHBOUR: 'it returns false'. Refute it at one input. -/
def indexDoesWrong : ChangeSpec := { name := "indexDoes", fn := fun _ => fun
  | [d1, d2] => { results := [.lit (.bool false)], args := [d1, d2] }
  | _ => none }
def IndexDoesWrongFalsely : Prop := indexDoesRow.holds Try.pinned (OpenSpec.ofChange indexDoesWrong)

/-- 'wattlelaw25.IndexStamps': WHATEVER THE INPUT: true; the input reads as it did. -/
def indexStampsSpec : ChangeSpec := { name := "indexStamps", fn := fun _ => fun
  | [d1, d2, d3, d4] => { results := [.lit (.bool true)], args := [d1, d2, d3, d4] }
  | _ => none }
def indexStampsRow : OpenClaim := { program := "ytjoopjmcnkiieaa", sum := "f1a38eb4aa1cc6f009e66111885c402cb98bbc370582b9ebd0b1d99d48704c00", func := "wattle/wattlelaw25.IndexStamps", spec := "indexStamps", inPlace := ["slices.overlaps[string]", "slices.overlaps[int64]", "slices.overlaps[*wattle/index.node[int64]]"], unfollowed := true, recurses := true, apart := false }
def IndexStampsSaid : Prop := indexStampsRow.holds Try.pinned (OpenSpec.ofChange indexStampsSpec)

/-- ITS FALSE NEIGHBOUR: 'it returns false'. Refute it at one input. -/
def indexStampsWrong : ChangeSpec := { name := "indexStamps", fn := fun _ => fun
  | [d1, d2, d3, d4] => { results := [.lit (.bool false)], args := [d1, d2, d3, d4] }
  | _ => none }
def IndexStampsWrongFalsely : Prop := indexStampsRow.holds Try.pinned (OpenSpec.ofChange indexStampsWrong)

/-- 'wattlelaw25.IndexRight': WHATEVER THE INPUT: true; the input reads as it did. -/
def indexRightSpec : ChangeSpec := { name := "indexRight", fn := fun _ => fun
  | [d1, d2] => { results := [.lit (.bool true)], args := [d1, d2] }
  | _ => none }
def indexRightRow : OpenClaim := { program := "ytjoopjmcnkiieaa", sum := "f1a38eb4aa1cc6f009e66111885c402cb98bbc370582b9ebd0b1d99d48704c00", func := "wattle/wattlelaw25.IndexRight", spec := "indexRight", inPlace := ["slices.overlaps[string]", "slices.overlaps[int64]", "slices.overlaps[*wattle/index.node[int64]]"], unfollowed := true, recurses := true, apart := false }
def IndexRightSaid : Prop := indexRightRow.holds Try.pinned (OpenSpec.ofChange indexRightSpec)

/-- ITS FALSE NEIGHBOUR: 'it returns false'. Refute it at one input. -/
def indexRightWrong : ChangeSpec := { name := "indexRight", fn := fun _ => fun
  | [d1, d2] => { results := [.lit (.bool false)], args := [d1, d2] }
  | _ => none }
def IndexRightWrongFalsely : Prop := indexRightRow.holds Try.pinned (OpenSpec.ofChange indexRightWrong)

/-- 'wattlelaw25.IndexEmpties': WHATEVER THE INPUT: true; the input reads as it did. -/
def indexEmptiesSpec : ChangeSpec := { name := "indexEmpties", fn := fun _ => fun
  | [d1, d2, d3] => { results := [.lit (.bool true)], args := [d1, d2, d3] }
  | _ => none }
def indexEmptiesRow : OpenClaim := { program := "ytjoopjmcnkiieaa", sum := "f1a38eb4aa1cc6f009e66111885c402cb98bbc370582b9ebd0b1d99d48704c00", func := "wattle/wattlelaw25.IndexEmpties", spec := "indexEmpties", inPlace := ["slices.overlaps[string]", "slices.overlaps[int64]", "slices.overlaps[*wattle/index.node[int64]]"], unfollowed := true, recurses := true, apart := false }
def IndexEmptiesSaid : Prop := indexEmptiesRow.holds Try.pinned (OpenSpec.ofChange indexEmptiesSpec)

/-- ITS FALSE NEIGHBOUR: 'it returns false'. Refute it at one input. -/
def indexEmptiesWrong : ChangeSpec := { name := "indexEmpties", fn := fun _ => fun
  | [d1, d2, d3] => { results := [.lit (.bool false)], args := [d1, d2, d3] }
  | _ => none }
def IndexEmptiesWrongFalsely : Prop := indexEmptiesRow.holds Try.pinned (OpenSpec.ofChange indexEmptiesWrong)

/- THE SECOND FORM. 'bulk': how many values and letters a reading holds, each counted each time it is reached (what is shared counts as often as it is met; a slice's spare places count too). A statement '..UptoSaid' is the law's where the arguments, and the package variables that the reading takes, are together of bulk at most 1048576: NARROWER than '..Said'. Prove '..Said' where nothing that the law and all that it calls make is longer than what came in: it says more and counts as full. Else prove '..UptoSaid'. A law counts once. -/
mutual
def uptoBulk {H : Type} : DataW H → Nat
  | .lit (.string bytes) => bytes.length + 1
  | .lit _ => 1
  | .nil => 1
  | .ptr d => uptoBulk d + 1
  | .slice elems spare => uptoBulkAll elems + uptoBulkAll spare + 1
  | .agg parts => uptoBulkAll parts + 1
  | .iface _ d => uptoBulk d + 1
  | .map entries => uptoBulkEntries entries + 1
  | .held _ => 1
def uptoBulkAll {H : Type} : List (DataW H) → Nat
  | [] => 0
  | d :: r => uptoBulk d + uptoBulkAll r
def uptoBulkEntries {H : Type} : List (Lit × DataW H) → Nat
  | [] => 0
  | x :: r => uptoBulkEntry x + uptoBulkEntries r
def uptoBulkEntry {H : Type} : Lit × DataW H → Nat
  | (.string bytes, d) => bytes.length + uptoBulk d + 1
  | (_, d) => uptoBulk d + 1
 end
def uptoSmall : (H : Type) → List (DataW H) → Bool := fun _ ds => decide (uptoBulkAll ds ≤ 1048576)
def OpenSpec.upto (s : _root_.Go.ChangeSpec) : _root_.Go.OpenSpec := { _root_.Go.OpenSpec.ofChange s with cond := some uptoSmall }

/-- 'wattlelaw25.IndexScans', WHERE WHAT IT READS IS OF BULK AT MOST 1048576: true; the input reads as it did. -/
def indexScansUptoRow : OpenClaim := { program := "ytjoopjmcnkiieaa", sum := "f1a38eb4aa1cc6f009e66111885c402cb98bbc370582b9ebd0b1d99d48704c00", func := "wattle/wattlelaw25.IndexScans", spec := "indexScans", inPlace := ["slices.overlaps[string]", "slices.overlaps[int64]", "slices.overlaps[*wattle/index.node[int64]]"], unfollowed := true, recurses := true, apart := false, narrowed := true }
def IndexScansUptoSaid : Prop := indexScansUptoRow.holds Try.pinned (OpenSpec.upto indexScansSpec)

/-- 'wattlelaw25.IndexSame', WHERE WHAT IT READS IS OF BULK AT MOST 1048576: true; the input reads as it did. -/
def indexSameUptoRow : OpenClaim := { program := "ytjoopjmcnkiieaa", sum := "f1a38eb4aa1cc6f009e66111885c402cb98bbc370582b9ebd0b1d99d48704c00", func := "wattle/wattlelaw25.IndexSame", spec := "indexSame", inPlace := ["slices.overlaps[string]", "slices.overlaps[int64]", "slices.overlaps[*wattle/index.node[int64]]"], unfollowed := true, recurses := true, apart := false, narrowed := true }
def IndexSameUptoSaid : Prop := indexSameUptoRow.holds Try.pinned (OpenSpec.upto indexSameSpec)

/-- 'wattlelaw25.IndexDoes', WHERE WHAT IT READS IS OF BULK AT MOST 1048576: true; the input reads as it did. -/
def indexDoesUptoRow : OpenClaim := { program := "ytjoopjmcnkiieaa", sum := "f1a38eb4aa1cc6f009e66111885c402cb98bbc370582b9ebd0b1d99d48704c00", func := "wattle/wattlelaw25.IndexDoes", spec := "indexDoes", inPlace := ["slices.overlaps[string]", "slices.overlaps[int64]", "slices.overlaps[*wattle/index.node[int64]]"], unfollowed := true, recurses := true, apart := false, narrowed := true }
def IndexDoesUptoSaid : Prop := indexDoesUptoRow.holds Try.pinned (OpenSpec.upto indexDoesSpec)

/-- 'wattlelaw25.IndexStamps', WHERE WHAT IT READS IS OF BULK AT MOST 1048576: true; the input reads as it did. -/
def indexStampsUptoRow : OpenClaim := { program := "ytjoopjmcnkiieaa", sum := "f1a38eb4aa1cc6f009e66111885c402cb98bbc370582b9ebd0b1d99d48704c00", func := "wattle/wattlelaw25.IndexStamps", spec := "indexStamps", inPlace := ["slices.overlaps[string]", "slices.overlaps[int64]", "slices.overlaps[*wattle/index.node[int64]]"], unfollowed := true, recurses := true, apart := false, narrowed := true }
def IndexStampsUptoSaid : Prop := indexStampsUptoRow.holds Try.pinned (OpenSpec.upto indexStampsSpec)

/-- 'wattlelaw25.IndexRight', WHERE WHAT IT READS IS OF BULK AT MOST 1048576: true; the input reads as it did. -/
def indexRightUptoRow : OpenClaim := { program := "ytjoopjmcnkiieaa", sum := "f1a38eb4aa1cc6f009e66111885c402cb98bbc370582b9ebd0b1d99d48704c00", func := "wattle/wattlelaw25.IndexRight", spec := "indexRight", inPlace := ["slices.overlaps[string]", "slices.overlaps[int64]", "slices.overlaps[*wattle/index.node[int64]]"], unfollowed := true, recurses := true, apart := false, narrowed := true }
def IndexRightUptoSaid : Prop := indexRightUptoRow.holds Try.pinned (OpenSpec.upto indexRightSpec)

/-- 'wattlelaw25.IndexEmpties', WHERE WHAT IT READS IS OF BULK AT MOST 1048576: true; the input reads as it did. -/
def indexEmptiesUptoRow : OpenClaim := { program := "ytjoopjmcnkiieaa", sum := "f1a38eb4aa1cc6f009e66111885c402cb98bbc370582b9ebd0b1d99d48704c00", func := "wattle/wattlelaw25.IndexEmpties", spec := "indexEmpties", inPlace := ["slices.overlaps[string]", "slices.overlaps[int64]", "slices.overlaps[*wattle/index.node[int64]]"], unfollowed := true, recurses := true, apart := false, narrowed := true }
def IndexEmptiesUptoSaid : Prop := indexEmptiesUptoRow.holds Try.pinned (OpenSpec.upto indexEmptiesSpec)

end Rows
end Go.Proofs.Ytjoopjmcnkiieaa

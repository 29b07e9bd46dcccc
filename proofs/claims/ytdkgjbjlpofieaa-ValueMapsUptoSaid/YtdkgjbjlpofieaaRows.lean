/-
  NARROWER THAN 'FOR EVERY INPUT', by the rows' own cells (each row's printed sentence says how): ValueMaps: loops · ValueOrder: loops · ValueCopies: loops · ValueChecks: loops · ValueEqual: loops.
  DERIVED. THE GIVEN ROWS OF THIS SEAT. 5 by the template 'for every input the law returns true; each argument reads behind the call as it read before'; 0 by the template 'total and deterministic' (their statements: YtdkgjbjlpofieaaTotals.lean).
  GIVEN WITH THE SEED: the statements are not yours to turn. If you find one false, say at which input.
  Laid BY PROGRAM, IN A SANDBOX (cutbox-rows.mjs): the forced cells as the released guide's own fill.sh prints them over the translation d145b9c7b04d7ddc… (all of the seat's roots in one cut). By AI agents, Wed Nov 11 2026. No macro, syntax, notation, axiom, sorry.
-/
import Derived.Test.YtdkgjbjlpofieaaChecked
import GoSem.Claim
import GoSem.ClaimJoined
import GoSem.ClaimMapViews
import Derived.JoinedTies
import Derived.KernelRfl
namespace Go.Proofs.Ytdkgjbjlpofieaa
/- THE CELL 'sum', in the pinned program and in every row, IS THE sha256 OF THE DUMP (.gsa) THAT YtdkgjbjlpofieaaProg.lean LOADS. Nothing in Lean hashes anything: it is a label: what it is worth is what the hold of that sum in a sandbox is worth. -/
noncomputable def Try.pinned : Pinned := { name := "ytdkgjbjlpofieaa", sum := "d145b9c7b04d7ddcb712038c7a4a88e161a74cd7854bcb7330bdc45eac159018", checked := Try.checked }
namespace Rows
def none {H : Type} : Left H := { results := [], args := [] }

/-- 'wattlelaw03.ValueMaps': WHATEVER THE INPUT: true; the input reads as it did. -/
def valueMapsSpec : ChangeSpec := { name := "valueMaps", fn := fun _ => fun
  | [d1, d2, d3] => { results := [.lit (.bool true)], args := [d1, d2, d3] }
  | _ => none }
def valueMapsRow : OpenClaim := { program := "ytdkgjbjlpofieaa", sum := "d145b9c7b04d7ddcb712038c7a4a88e161a74cd7854bcb7330bdc45eac159018", func := "wattle/wattlelaw03.ValueMaps", spec := "valueMaps", inPlace := ["internal/reflectlite.ValueOf", "internal/reflectlite.Swapper", "(internal/reflectlite.Value).Len"], unfollowed := true, recurses := true, loops := true, apart := false }
def ValueMapsSaid : Prop := valueMapsRow.holds Try.pinned (OpenSpec.ofChange valueMapsSpec)

/-- ITS FALSE NEIGHBOUR: 'it returns false'. Refute it at one input. -/
def valueMapsWrong : ChangeSpec := { name := "valueMaps", fn := fun _ => fun
  | [d1, d2, d3] => { results := [.lit (.bool false)], args := [d1, d2, d3] }
  | _ => none }
def ValueMapsWrongFalsely : Prop := valueMapsRow.holds Try.pinned (OpenSpec.ofChange valueMapsWrong)

/-- 'wattlelaw03.ValueOrder': WHATEVER THE INPUT: true; the input reads as it did. -/
def valueOrderSpec : ChangeSpec := { name := "valueOrder", fn := fun _ => fun
  | [d1, d2, d3] => { results := [.lit (.bool true)], args := [d1, d2, d3] }
  | _ => none }
def valueOrderRow : OpenClaim := { program := "ytdkgjbjlpofieaa", sum := "d145b9c7b04d7ddcb712038c7a4a88e161a74cd7854bcb7330bdc45eac159018", func := "wattle/wattlelaw03.ValueOrder", spec := "valueOrder", inPlace := ["internal/reflectlite.ValueOf", "internal/reflectlite.Swapper", "(internal/reflectlite.Value).Len"], unfollowed := true, recurses := true, loops := true, apart := false }
def ValueOrderSaid : Prop := valueOrderRow.holds Try.pinned (OpenSpec.ofChange valueOrderSpec)

/-- ITS FALSE NEIGHBOUR: 'it returns false'. Refute it at one input. -/
def valueOrderWrong : ChangeSpec := { name := "valueOrder", fn := fun _ => fun
  | [d1, d2, d3] => { results := [.lit (.bool false)], args := [d1, d2, d3] }
  | _ => none }
def ValueOrderWrongFalsely : Prop := valueOrderRow.holds Try.pinned (OpenSpec.ofChange valueOrderWrong)

/-- 'wattlelaw03.ValueCopies': WHATEVER THE INPUT: true; the input reads as it did. -/
def valueCopiesSpec : ChangeSpec := { name := "valueCopies", fn := fun _ => fun
  | [d] => { results := [.lit (.bool true)], args := [d] }
  | _ => none }
def valueCopiesRow : OpenClaim := { program := "ytdkgjbjlpofieaa", sum := "d145b9c7b04d7ddcb712038c7a4a88e161a74cd7854bcb7330bdc45eac159018", func := "wattle/wattlelaw03.ValueCopies", spec := "valueCopies", inPlace := ["internal/reflectlite.ValueOf", "internal/reflectlite.Swapper", "(internal/reflectlite.Value).Len"], unfollowed := true, recurses := true, loops := true, apart := false }
def ValueCopiesSaid : Prop := valueCopiesRow.holds Try.pinned (OpenSpec.ofChange valueCopiesSpec)

/-- ITS FALSE NEIGHBOUR: 'it returns false'. Refute it at one input. -/
def valueCopiesWrong : ChangeSpec := { name := "valueCopies", fn := fun _ => fun
  | [d] => { results := [.lit (.bool false)], args := [d] }
  | _ => none }
def ValueCopiesWrongFalsely : Prop := valueCopiesRow.holds Try.pinned (OpenSpec.ofChange valueCopiesWrong)

/-- 'wattlelaw03.ValueChecks': WHATEVER THE INPUT: true; the input reads as it did. -/
def valueChecksSpec : ChangeSpec := { name := "valueChecks", fn := fun _ => fun
  | [d] => { results := [.lit (.bool true)], args := [d] }
  | _ => none }
def valueChecksRow : OpenClaim := { program := "ytdkgjbjlpofieaa", sum := "d145b9c7b04d7ddcb712038c7a4a88e161a74cd7854bcb7330bdc45eac159018", func := "wattle/wattlelaw03.ValueChecks", spec := "valueChecks", inPlace := ["internal/reflectlite.ValueOf", "internal/reflectlite.Swapper", "(internal/reflectlite.Value).Len"], unfollowed := true, recurses := true, loops := true, apart := false }
def ValueChecksSaid : Prop := valueChecksRow.holds Try.pinned (OpenSpec.ofChange valueChecksSpec)

/-- ITS FALSE NEIGHBOUR: 'it returns false'. Refute it at one input. -/
def valueChecksWrong : ChangeSpec := { name := "valueChecks", fn := fun _ => fun
  | [d] => { results := [.lit (.bool false)], args := [d] }
  | _ => none }
def ValueChecksWrongFalsely : Prop := valueChecksRow.holds Try.pinned (OpenSpec.ofChange valueChecksWrong)

/-- 'wattlelaw03.ValueEqual': WHATEVER THE INPUT: true; the input reads as it did. -/
def valueEqualSpec : ChangeSpec := { name := "valueEqual", fn := fun _ => fun
  | [d1, d2] => { results := [.lit (.bool true)], args := [d1, d2] }
  | _ => none }
def valueEqualRow : OpenClaim := { program := "ytdkgjbjlpofieaa", sum := "d145b9c7b04d7ddcb712038c7a4a88e161a74cd7854bcb7330bdc45eac159018", func := "wattle/wattlelaw03.ValueEqual", spec := "valueEqual", inPlace := ["internal/reflectlite.ValueOf", "internal/reflectlite.Swapper", "(internal/reflectlite.Value).Len"], unfollowed := true, recurses := true, loops := true, apart := false }
def ValueEqualSaid : Prop := valueEqualRow.holds Try.pinned (OpenSpec.ofChange valueEqualSpec)

/-- ITS FALSE NEIGHBOUR: 'it returns false'. Refute it at one input. -/
def valueEqualWrong : ChangeSpec := { name := "valueEqual", fn := fun _ => fun
  | [d1, d2] => { results := [.lit (.bool false)], args := [d1, d2] }
  | _ => none }
def ValueEqualWrongFalsely : Prop := valueEqualRow.holds Try.pinned (OpenSpec.ofChange valueEqualWrong)

/- THE SECOND FORM. 'bulk': how many values and letters a reading holds, each counted each time it is reached (what is shared counts as often as it is met; a slice's spare places count too). A statement '..UptoSaid' is the law's where the arguments, and the package variables that the reading takes, are together of bulk at most 1048576: NARROWER than '..Said'. Prove '..Said' where nothing that the law and all that it calls make is longer than what came in: it says more and counts as full. Else prove '..UptoSaid'. A law counts once. -/
mutual
def uptoBulk {H : Type} : DataW H → Nat
  | .lit (.string bytes) => bytes.length + 1
  | .lit _ => 1
  | .nil => 1
  | .ptr d => uptoBulk d + 1
  | .slice elems spare => uptoBulkAll elems + uptoBulkAll spare + 1
  | .agg parts => uptoBulkAll parts + 1
  | .iface _ d => uptoBulk d + 1
  | .map entries => uptoBulkEntries entries + 1
  | .held _ => 1
def uptoBulkAll {H : Type} : List (DataW H) → Nat
  | [] => 0
  | d :: r => uptoBulk d + uptoBulkAll r
def uptoBulkEntries {H : Type} : List (Lit × DataW H) → Nat
  | [] => 0
  | x :: r => uptoBulkEntry x + uptoBulkEntries r
def uptoBulkEntry {H : Type} : Lit × DataW H → Nat
  | (.string bytes, d) => bytes.length + uptoBulk d + 1
  | (_, d) => uptoBulk d + 1
 end
def uptoSmall : (H : Type) → List (DataW H) → Bool := fun _ ds => decide (uptoBulkAll ds ≤ 1048576)
def OpenSpec.upto (s : _root_.Go.ChangeSpec) : _root_.Go.OpenSpec := { _root_.Go.OpenSpec.ofChange s with cond := some uptoSmall }

/-- 'wattlelaw03.ValueMaps', WHERE WHAT IT READS IS OF BULK AT MOST 1048576: true; the input reads as it did. -/
def valueMapsUptoRow : OpenClaim := { program := "ytdkgjbjlpofieaa", sum := "d145b9c7b04d7ddcb712038c7a4a88e161a74cd7854bcb7330bdc45eac159018", func := "wattle/wattlelaw03.ValueMaps", spec := "valueMaps", inPlace := ["internal/reflectlite.ValueOf", "internal/reflectlite.Swapper", "(internal/reflectlite.Value).Len"], unfollowed := true, recurses := true, loops := true, apart := false, narrowed := true }
def ValueMapsUptoSaid : Prop := valueMapsUptoRow.holds Try.pinned (OpenSpec.upto valueMapsSpec)

/-- 'wattlelaw03.ValueOrder', WHERE WHAT IT READS IS OF BULK AT MOST 1048576: true; the input reads as it did. -/
def valueOrderUptoRow : OpenClaim := { program := "ytdkgjbjlpofieaa", sum := "d145b9c7b04d7ddcb712038c7a4a88e161a74cd7854bcb7330bdc45eac159018", func := "wattle/wattlelaw03.ValueOrder", spec := "valueOrder", inPlace := ["internal/reflectlite.ValueOf", "internal/reflectlite.Swapper", "(internal/reflectlite.Value).Len"], unfollowed := true, recurses := true, loops := true, apart := false, narrowed := true }
def ValueOrderUptoSaid : Prop := valueOrderUptoRow.holds Try.pinned (OpenSpec.upto valueOrderSpec)

/-- 'wattlelaw03.ValueCopies', WHERE WHAT IT READS IS OF BULK AT MOST 1048576: true; the input reads as it did. -/
def valueCopiesUptoRow : OpenClaim := { program := "ytdkgjbjlpofieaa", sum := "d145b9c7b04d7ddcb712038c7a4a88e161a74cd7854bcb7330bdc45eac159018", func := "wattle/wattlelaw03.ValueCopies", spec := "valueCopies", inPlace := ["internal/reflectlite.ValueOf", "internal/reflectlite.Swapper", "(internal/reflectlite.Value).Len"], unfollowed := true, recurses := true, loops := true, apart := false, narrowed := true }
def ValueCopiesUptoSaid : Prop := valueCopiesUptoRow.holds Try.pinned (OpenSpec.upto valueCopiesSpec)

/-- 'wattlelaw03.ValueChecks', WHERE WHAT IT READS IS OF BULK AT MOST 1048576: true; the input reads as it did. -/
def valueChecksUptoRow : OpenClaim := { program := "ytdkgjbjlpofieaa", sum := "d145b9c7b04d7ddcb712038c7a4a88e161a74cd7854bcb7330bdc45eac159018", func := "wattle/wattlelaw03.ValueChecks", spec := "valueChecks", inPlace := ["internal/reflectlite.ValueOf", "internal/reflectlite.Swapper", "(internal/reflectlite.Value).Len"], unfollowed := true, recurses := true, loops := true, apart := false, narrowed := true }
def ValueChecksUptoSaid : Prop := valueChecksUptoRow.holds Try.pinned (OpenSpec.upto valueChecksSpec)

/-- 'wattlelaw03.ValueEqual', WHERE WHAT IT READS IS OF BULK AT MOST 1048576: true; the input reads as it did. -/
def valueEqualUptoRow : OpenClaim := { program := "ytdkgjbjlpofieaa", sum := "d145b9c7b04d7ddcb712038c7a4a88e161a74cd7854bcb7330bdc45eac159018", func := "wattle/wattlelaw03.ValueEqual", spec := "valueEqual", inPlace := ["internal/reflectlite.ValueOf", "internal/reflectlite.Swapper", "(internal/reflectlite.Value).Len"], unfollowed := true, recurses := true, loops := true, apart := false, narrowed := true }
def ValueEqualUptoSaid : Prop := valueEqualUptoRow.holds Try.pinned (OpenSpec.upto valueEqualSpec)

end Rows
end Go.Proofs.Ytdkgjbjlpofieaa

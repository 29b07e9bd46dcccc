/-
  NARROWER THAN 'FOR EVERY INPUT', by the rows' own cells (each row's printed sentence says how): ShowTexts: loops · ShowApart: loops.
  DERIVED. THE GIVEN ROWS OF THIS SEAT. 5 by the template 'for every input the law returns true; each argument reads behind the call as it read before'; 0 by the template 'total and deterministic' (their statements: YtangldmjgidgcaaTotals.lean).
  GIVEN WITH THE SEED: the statements are not yours to turn. If you find one false, say at which input.
  Laid BY PROGRAM, IN A SANDBOX (cutbox-rows.mjs): the forced cells as the released guide's own fill.sh prints them over the translation e5d51b5c0ce822a6… (all of the seat's roots in one cut). By AI agents, Wed Nov 11 2026. No macro, syntax, notation, axiom, sorry.
-/
import Derived.Test.YtangldmjgidgcaaChecked
import GoSem.Claim
import GoSem.ClaimJoined
import GoSem.ClaimMapViews
import Derived.JoinedTies
import Derived.KernelRfl
namespace Go.Proofs.Ytangldmjgidgcaa
/- THE CELL 'sum', in the pinned program and in every row, IS THE sha256 OF THE DUMP (.gsa) THAT YtangldmjgidgcaaProg.lean LOADS. Nothing in Lean hashes anything: it is a label: what it is worth is what the hold of that sum in a sandbox is worth. -/
noncomputable def Try.pinned : Pinned := { name := "ytangldmjgidgcaa", sum := "e5d51b5c0ce822a65057dc66adbed9e0be0fbcff6e90d6ab3ded34145fe59bdd", checked := Try.checked }
namespace Rows
def none {H : Type} : Left H := { results := [], args := [] }

/-- 'wattlelaw05.ShowQuotes': WHATEVER THE INPUT: true; the input reads as it did. -/
def showQuotesSpec : ChangeSpec := { name := "showQuotes", fn := fun _ => fun
  | [d] => { results := [.lit (.bool true)], args := [d] }
  | _ => none }
def showQuotesRow : OpenClaim := { program := "ytangldmjgidgcaa", sum := "e5d51b5c0ce822a65057dc66adbed9e0be0fbcff6e90d6ab3ded34145fe59bdd", func := "wattle/wattlelaw05.ShowQuotes", spec := "showQuotes", inPlace := ["internal/bytealg.IndexByteString", "internal/abi.NoEscape", "internal/bytealg.MakeNoZero"], recurses := true, apart := false }
def ShowQuotesSaid : Prop := showQuotesRow.holds Try.pinned (OpenSpec.ofChange showQuotesSpec)

/-- ITS FALSE NEIGHBOUR: 'it returns false'. Refute it at one input. -/
def showQuotesWrong : ChangeSpec := { name := "showQuotes", fn := fun _ => fun
  | [d] => { results := [.lit (.bool false)], args := [d] }
  | _ => none }
def ShowQuotesWrongFalsely : Prop := showQuotesRow.holds Try.pinned (OpenSpec.ofChange showQuotesWrong)

/-- 'wattlelaw05.ShowTexts': WHATEVER THE INPUT: true; the input reads as it did. -/
def showTextsSpec : ChangeSpec := { name := "showTexts", fn := fun _ => fun
  | [d] => { results := [.lit (.bool true)], args := [d] }
  | _ => none }
def showTextsRow : OpenClaim := { program := "ytangldmjgidgcaa", sum := "e5d51b5c0ce822a65057dc66adbed9e0be0fbcff6e90d6ab3ded34145fe59bdd", func := "wattle/wattlelaw05.ShowTexts", spec := "showTexts", inPlace := ["internal/abi.NoEscape", "internal/bytealg.MakeNoZero", "internal/bytealg.IndexByteString"], recurses := true, loops := true, apart := false }
def ShowTextsSaid : Prop := showTextsRow.holds Try.pinned (OpenSpec.ofChange showTextsSpec)

/-- ITS FALSE NEIGHBOUR: 'it returns false'. Refute it at one input. -/
def showTextsWrong : ChangeSpec := { name := "showTexts", fn := fun _ => fun
  | [d] => { results := [.lit (.bool false)], args := [d] }
  | _ => none }
def ShowTextsWrongFalsely : Prop := showTextsRow.holds Try.pinned (OpenSpec.ofChange showTextsWrong)

/-- 'wattlelaw05.ShowBack': WHATEVER THE INPUT: true; the input reads as it did. -/
def showBackSpec : ChangeSpec := { name := "showBack", fn := fun _ => fun
  | [d] => { results := [.lit (.bool true)], args := [d] }
  | _ => none }
def showBackRow : OpenClaim := { program := "ytangldmjgidgcaa", sum := "e5d51b5c0ce822a65057dc66adbed9e0be0fbcff6e90d6ab3ded34145fe59bdd", func := "wattle/wattlelaw05.ShowBack", spec := "showBack", inPlace := ["internal/abi.NoEscape", "internal/bytealg.IndexByteString", "internal/bytealg.MakeNoZero"], recurses := true, apart := false }
def ShowBackSaid : Prop := showBackRow.holds Try.pinned (OpenSpec.ofChange showBackSpec)

/-- ITS FALSE NEIGHBOUR: 'it returns false'. Refute it at one input. -/
def showBackWrong : ChangeSpec := { name := "showBack", fn := fun _ => fun
  | [d] => { results := [.lit (.bool false)], args := [d] }
  | _ => none }
def ShowBackWrongFalsely : Prop := showBackRow.holds Try.pinned (OpenSpec.ofChange showBackWrong)

/-- 'wattlelaw05.ShowPlain': WHATEVER THE INPUT: true; the input reads as it did. -/
def showPlainSpec : ChangeSpec := { name := "showPlain", fn := fun _ => fun
  | [d] => { results := [.lit (.bool true)], args := [d] }
  | _ => none }
def showPlainRow : OpenClaim := { program := "ytangldmjgidgcaa", sum := "e5d51b5c0ce822a65057dc66adbed9e0be0fbcff6e90d6ab3ded34145fe59bdd", func := "wattle/wattlelaw05.ShowPlain", spec := "showPlain", inPlace := ["internal/abi.NoEscape", "internal/bytealg.IndexByteString", "internal/bytealg.MakeNoZero"], recurses := true, apart := false }
def ShowPlainSaid : Prop := showPlainRow.holds Try.pinned (OpenSpec.ofChange showPlainSpec)

/-- ITS FALSE NEIGHBOUR: 'it returns false'. Refute it at one input. -/
def showPlainWrong : ChangeSpec := { name := "showPlain", fn := fun _ => fun
  | [d] => { results := [.lit (.bool false)], args := [d] }
  | _ => none }
def ShowPlainWrongFalsely : Prop := showPlainRow.holds Try.pinned (OpenSpec.ofChange showPlainWrong)

/-- 'wattlelaw05.ShowApart': WHATEVER THE INPUT: true; the input reads as it did. -/
def showApartSpec : ChangeSpec := { name := "showApart", fn := fun _ => fun
  | [d1, d2] => { results := [.lit (.bool true)], args := [d1, d2] }
  | _ => none }
def showApartRow : OpenClaim := { program := "ytangldmjgidgcaa", sum := "e5d51b5c0ce822a65057dc66adbed9e0be0fbcff6e90d6ab3ded34145fe59bdd", func := "wattle/wattlelaw05.ShowApart", spec := "showApart", inPlace := ["internal/bytealg.IndexByteString", "internal/abi.NoEscape", "internal/bytealg.MakeNoZero"], recurses := true, loops := true, apart := false }
def ShowApartSaid : Prop := showApartRow.holds Try.pinned (OpenSpec.ofChange showApartSpec)

/-- ITS FALSE NEIGHBOUR: 'it returns false'. Refute it at one input. -/
def showApartWrong : ChangeSpec := { name := "showApart", fn := fun _ => fun
  | [d1, d2] => { results := [.lit (.bool false)], args := [d1, d2] }
  | _ => none }
def ShowApartWrongFalsely : Prop := showApartRow.holds Try.pinned (OpenSpec.ofChange showApartWrong)

/- THE SECOND FORM. 'bulk': how many values and letters a reading holds, each counted each time it is reached (what is shared counts as often as it is met; a slice's spare places count too). A statement '..UptoSaid' is the law's where the arguments, and the package variables that the reading takes, are together of bulk at most 1048576: NARROWER than '..Said'. Prove '..Said' where nothing that the law and all that it calls make is longer than what came in: it says more and counts as full. Else prove '..UptoSaid'. A law counts once. -/
mutual
def uptoBulk {H : Type} : DataW H → Nat
  | .lit (.string bytes) => bytes.length + 1
  | .lit _ => 1
  | .nil => 1
  | .ptr d => uptoBulk d + 1
  | .slice elems spare => uptoBulkAll elems + uptoBulkAll spare + 1
  | .agg parts => uptoBulkAll parts + 1
  | .iface _ d => uptoBulk d + 1
  | .map entries => uptoBulkEntries entries + 1
  | .held _ => 1
def uptoBulkAll {H : Type} : List (DataW H) → Nat
  | [] => 0
  | d :: r => uptoBulk d + uptoBulkAll r
def uptoBulkEntries {H : Type} : List (Lit × DataW H) → Nat
  | [] => 0
  | x :: r => uptoBulkEntry x + uptoBulkEntries r
def uptoBulkEntry {H : Type} : Lit × DataW H → Nat
  | (.string bytes, d) => bytes.length + uptoBulk d + 1
  | (_, d) => uptoBulk d + 1
 end
def uptoSmall : (H : Type) → List (DataW H) → Bool := fun _ ds => decide (uptoBulkAll ds ≤ 1048576)
def OpenSpec.upto (s : _root_.Go.ChangeSpec) : _root_.Go.OpenSpec := { _root_.Go.OpenSpec.ofChange s with cond := some uptoSmall }

/-- 'wattlelaw05.ShowQuotes', WHERE WHAT IT READS IS OF BULK AT MOST 1048576: true; the input reads as it did. -/
def showQuotesUptoRow : OpenClaim := { program := "ytangldmjgidgcaa", sum := "e5d51b5c0ce822a65057dc66adbed9e0be0fbcff6e90d6ab3ded34145fe59bdd", func := "wattle/wattlelaw05.ShowQuotes", spec := "showQuotes", inPlace := ["internal/bytealg.IndexByteString", "internal/abi.NoEscape", "internal/bytealg.MakeNoZero"], recurses := true, apart := false, narrowed := true }
def ShowQuotesUptoSaid : Prop := showQuotesUptoRow.holds Try.pinned (OpenSpec.upto showQuotesSpec)

/-- 'wattlelaw05.ShowTexts', WHERE WHAT IT READS IS OF BULK AT MOST 1048576: true; the input reads as it did. -/
def showTextsUptoRow : OpenClaim := { program := "ytangldmjgidgcaa", sum := "e5d51b5c0ce822a65057dc66adbed9e0be0fbcff6e90d6ab3ded34145fe59bdd", func := "wattle/wattlelaw05.ShowTexts", spec := "showTexts", inPlace := ["internal/abi.NoEscape", "internal/bytealg.MakeNoZero", "internal/bytealg.IndexByteString"], recurses := true, loops := true, apart := false, narrowed := true }
def ShowTextsUptoSaid : Prop := showTextsUptoRow.holds Try.pinned (OpenSpec.upto showTextsSpec)

/-- 'wattlelaw05.ShowBack', WHERE WHAT IT READS IS OF BULK AT MOST 1048576: true; the input reads as it did. -/
def showBackUptoRow : OpenClaim := { program := "ytangldmjgidgcaa", sum := "e5d51b5c0ce822a65057dc66adbed9e0be0fbcff6e90d6ab3ded34145fe59bdd", func := "wattle/wattlelaw05.ShowBack", spec := "showBack", inPlace := ["internal/abi.NoEscape", "internal/bytealg.IndexByteString", "internal/bytealg.MakeNoZero"], recurses := true, apart := false, narrowed := true }
def ShowBackUptoSaid : Prop := showBackUptoRow.holds Try.pinned (OpenSpec.upto showBackSpec)

/-- 'wattlelaw05.ShowPlain', WHERE WHAT IT READS IS OF BULK AT MOST 1048576: true; the input reads as it did. -/
def showPlainUptoRow : OpenClaim := { program := "ytangldmjgidgcaa", sum := "e5d51b5c0ce822a65057dc66adbed9e0be0fbcff6e90d6ab3ded34145fe59bdd", func := "wattle/wattlelaw05.ShowPlain", spec := "showPlain", inPlace := ["internal/abi.NoEscape", "internal/bytealg.IndexByteString", "internal/bytealg.MakeNoZero"], recurses := true, apart := false, narrowed := true }
def ShowPlainUptoSaid : Prop := showPlainUptoRow.holds Try.pinned (OpenSpec.upto showPlainSpec)

/-- 'wattlelaw05.ShowApart', WHERE WHAT IT READS IS OF BULK AT MOST 1048576: true; the input reads as it did. -/
def showApartUptoRow : OpenClaim := { program := "ytangldmjgidgcaa", sum := "e5d51b5c0ce822a65057dc66adbed9e0be0fbcff6e90d6ab3ded34145fe59bdd", func := "wattle/wattlelaw05.ShowApart", spec := "showApart", inPlace := ["internal/bytealg.IndexByteString", "internal/abi.NoEscape", "internal/bytealg.MakeNoZero"], recurses := true, loops := true, apart := false, narrowed := true }
def ShowApartUptoSaid : Prop := showApartUptoRow.holds Try.pinned (OpenSpec.upto showApartSpec)

end Rows
end Go.Proofs.Ytangldmjgidgcaa

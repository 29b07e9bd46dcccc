/-
  No cell of these rows narrows 'for every input' (looked for: loops, veiled, ifaces, maps, wideKeys, modest, calm, conditions, laid).
  DERIVED. THE GIVEN ROWS OF THIS SEAT. 4 by the template 'for every input the law returns true; each argument reads behind the call as it read before'; 0 by the template 'total and deterministic' (their statements: YtaonfacbmolklaaTotals.lean).
  GIVEN WITH THE SEED: the statements are not yours to turn. If you find one false, say at which input.
  Laid BY PROGRAM, IN A SANDBOX (cutbox-rows.mjs): the forced cells as the released guide's own fill.sh prints them over the translation f755ca2da75deea2… (all of the seat's roots in one cut). By AI agents, Wed Nov 11 2026. No macro, syntax, notation, axiom, sorry.
-/
import Derived.Test.YtaonfacbmolklaaChecked
import GoSem.Claim
import GoSem.ClaimJoined
import GoSem.ClaimMapViews
import Derived.JoinedTies
import Derived.KernelRfl
namespace Go.Proofs.Ytaonfacbmolklaa
/- THE CELL 'sum', in the pinned program and in every row, IS THE sha256 OF THE DUMP (.gsa) THAT YtaonfacbmolklaaProg.lean LOADS. Nothing in Lean hashes anything: it is a label: what it is worth is what the hold of that sum in a sandbox is worth. -/
noncomputable def Try.pinned : Pinned := { name := "ytaonfacbmolklaa", sum := "f755ca2da75deea2ffaf441cd8ad3437d1fc6bd86f501055b11782454fb5e531", checked := Try.checked }
namespace Rows
def none {H : Type} : Left H := { results := [], args := [] }

/-- 'wattlelaw28.BookDoes': WHATEVER THE INPUT: true; the input reads as it did. -/
def bookDoesSpec : ChangeSpec := { name := "bookDoes", fn := fun _ => fun
  | [d] => { results := [.lit (.bool true)], args := [d] }
  | _ => none }
def bookDoesRow : OpenClaim := { program := "ytaonfacbmolklaa", sum := "f755ca2da75deea2ffaf441cd8ad3437d1fc6bd86f501055b11782454fb5e531", func := "wattle/wattlelaw28.BookDoes", spec := "bookDoes", inPlace := ["slices.overlaps[string]"], unfollowed := true, recurses := true, apart := false }
def BookDoesSaid : Prop := bookDoesRow.holds Try.pinned (OpenSpec.ofChange bookDoesSpec)

/-- ITS FALSE NEIGHBOUR: 'it returns false'. Refute it at one input. -/
def bookDoesWrong : ChangeSpec := { name := "bookDoes", fn := fun _ => fun
  | [d] => { results := [.lit (.bool false)], args := [d] }
  | _ => none }
def BookDoesWrongFalsely : Prop := bookDoesRow.holds Try.pinned (OpenSpec.ofChange bookDoesWrong)

/-- 'wattlelaw28.BookOrders': WHATEVER THE INPUT: true; the input reads as it did. -/
def bookOrdersSpec : ChangeSpec := { name := "bookOrders", fn := fun _ => fun
  | [d] => { results := [.lit (.bool true)], args := [d] }
  | _ => none }
def bookOrdersRow : OpenClaim := { program := "ytaonfacbmolklaa", sum := "f755ca2da75deea2ffaf441cd8ad3437d1fc6bd86f501055b11782454fb5e531", func := "wattle/wattlelaw28.BookOrders", spec := "bookOrders", inPlace := ["slices.overlaps[string]"], unfollowed := true, recurses := true, apart := false }
def BookOrdersSaid : Prop := bookOrdersRow.holds Try.pinned (OpenSpec.ofChange bookOrdersSpec)

/-- ITS FALSE NEIGHBOUR: 'it returns false'. Refute it at one input. -/
def bookOrdersWrong : ChangeSpec := { name := "bookOrders", fn := fun _ => fun
  | [d] => { results := [.lit (.bool false)], args := [d] }
  | _ => none }
def BookOrdersWrongFalsely : Prop := bookOrdersRow.holds Try.pinned (OpenSpec.ofChange bookOrdersWrong)

/-- 'wattlelaw28.BookAlone': WHATEVER THE INPUT: true; the input reads as it did. -/
def bookAloneSpec : ChangeSpec := { name := "bookAlone", fn := fun _ => fun
  | [d] => { results := [.lit (.bool true)], args := [d] }
  | _ => none }
def bookAloneRow : OpenClaim := { program := "ytaonfacbmolklaa", sum := "f755ca2da75deea2ffaf441cd8ad3437d1fc6bd86f501055b11782454fb5e531", func := "wattle/wattlelaw28.BookAlone", spec := "bookAlone", inPlace := ["slices.overlaps[string]"], unfollowed := true, recurses := true, apart := false }
def BookAloneSaid : Prop := bookAloneRow.holds Try.pinned (OpenSpec.ofChange bookAloneSpec)

/-- ITS FALSE NEIGHBOUR: 'it returns false'. Refute it at one input. -/
def bookAloneWrong : ChangeSpec := { name := "bookAlone", fn := fun _ => fun
  | [d] => { results := [.lit (.bool false)], args := [d] }
  | _ => none }
def BookAloneWrongFalsely : Prop := bookAloneRow.holds Try.pinned (OpenSpec.ofChange bookAloneWrong)

/-- 'wattlelaw28.BookNeeds': WHATEVER THE INPUT: true; the input reads as it did. -/
def bookNeedsSpec : ChangeSpec := { name := "bookNeeds", fn := fun _ => fun
  | [d1, d2] => { results := [.lit (.bool true)], args := [d1, d2] }
  | _ => none }
def bookNeedsRow : OpenClaim := { program := "ytaonfacbmolklaa", sum := "f755ca2da75deea2ffaf441cd8ad3437d1fc6bd86f501055b11782454fb5e531", func := "wattle/wattlelaw28.BookNeeds", spec := "bookNeeds", inPlace := ["slices.overlaps[string]"], unfollowed := true, recurses := true, apart := false }
def BookNeedsSaid : Prop := bookNeedsRow.holds Try.pinned (OpenSpec.ofChange bookNeedsSpec)

/-- ITS FALSE NEIGHBOUR: 'it returns false'. Refute it at one input. -/
def bookNeedsWrong : ChangeSpec := { name := "bookNeeds", fn := fun _ => fun
  | [d1, d2] => { results := [.lit (.bool false)], args := [d1, d2] }
  | _ => none }
def BookNeedsWrongFalsely : Prop := bookNeedsRow.holds Try.pinned (OpenSpec.ofChange bookNeedsWrong)

/- THE SECOND FORM. 'bulk': how many values and letters a reading holds, each counted each time it is reached (what is shared counts as often as it is met; a slice's spare places count too). A statement '..UptoSaid' is the law's where the arguments, and the package variables that the reading takes, are together of bulk at most 1048576: NARROWER than '..Said'. Prove '..Said' where nothing that the law and all that it calls make is longer than what came in: it says more and counts as full. Else prove '..UptoSaid'. A law counts once. -/
mutual
def uptoBulk {H : Type} : DataW H → Nat
  | .lit (.string bytes) => bytes.length + 1
  | .lit _ => 1
  | .nil => 1
  | .ptr d => uptoBulk d + 1
  | .slice elems spare => uptoBulkAll elems + uptoBulkAll spare + 1
  | .agg parts => uptoBulkAll parts + 1
  | .iface _ d => uptoBulk d + 1
  | .map entries => uptoBulkEntries entries + 1
  | .held _ => 1
def uptoBulkAll {H : Type} : List (DataW H) → Nat
  | [] => 0
  | d :: r => uptoBulk d + uptoBulkAll r
def uptoBulkEntries {H : Type} : List (Lit × DataW H) → Nat
  | [] => 0
  | x :: r => uptoBulkEntry x + uptoBulkEntries r
def uptoBulkEntry {H : Type} : Lit × DataW H → Nat
  | (.string bytes, d) => bytes.length + uptoBulk d + 1
  | (_, d) => uptoBulk d + 1
 end
def uptoSmall : (H : Type) → List (DataW H) → Bool := fun _ ds => decide (uptoBulkAll ds ≤ 1048576)
def OpenSpec.upto (s : _root_.Go.ChangeSpec) : _root_.Go.OpenSpec := { _root_.Go.OpenSpec.ofChange s with cond := some uptoSmall }

/-- 'wattlelaw28.BookDoes', WHERE WHAT IT READS IS OF BULK AT MOST 1048576: true; the input reads as it did. -/
def bookDoesUptoRow : OpenClaim := { program := "ytaonfacbmolklaa", sum := "f755ca2da75deea2ffaf441cd8ad3437d1fc6bd86f501055b11782454fb5e531", func := "wattle/wattlelaw28.BookDoes", spec := "bookDoes", inPlace := ["slices.overlaps[string]"], unfollowed := true, recurses := true, apart := false, narrowed := true }
def BookDoesUptoSaid : Prop := bookDoesUptoRow.holds Try.pinned (OpenSpec.upto bookDoesSpec)

/-- 'wattlelaw28.BookOrders', WHERE WHAT IT READS IS OF BULK AT MOST 1048576: true; the input reads as it did. -/
def bookOrdersUptoRow : OpenClaim := { program := "ytaonfacbmolklaa", sum := "f755ca2da75deea2ffaf441cd8ad3437d1fc6bd86f501055b11782454fb5e531", func := "wattle/wattlelaw28.BookOrders", spec := "bookOrders", inPlace := ["slices.overlaps[string]"], unfollowed := true, recurses := true, apart := false, narrowed := true }
def BookOrdersUptoSaid : Prop := bookOrdersUptoRow.holds Try.pinned (OpenSpec.upto bookOrdersSpec)

/-- 'wattlelaw28.BookAlone', WHERE WHAT IT READS IS OF BULK AT MOST 1048576: true; the input reads as it did. -/
def bookAloneUptoRow : OpenClaim := { program := "ytaonfacbmolklaa", sum := "f755ca2da75deea2ffaf441cd8ad3437d1fc6bd86f501055b11782454fb5e531", func := "wattle/wattlelaw28.BookAlone", spec := "bookAlone", inPlace := ["slices.overlaps[string]"], unfollowed := true, recurses := true, apart := false, narrowed := true }
def BookAloneUptoSaid : Prop := bookAloneUptoRow.holds Try.pinned (OpenSpec.upto bookAloneSpec)

/-- 'wattlelaw28.BookNeeds', WHERE WHAT IT READS IS OF BULK AT MOST 1048576: true; the input reads as it did. -/
def bookNeedsUptoRow : OpenClaim := { program := "ytaonfacbmolklaa", sum := "f755ca2da75deea2ffaf441cd8ad3437d1fc6bd86f501055b11782454fb5e531", func := "wattle/wattlelaw28.BookNeeds", spec := "bookNeeds", inPlace := ["slices.overlaps[string]"], unfollowed := true, recurses := true, apart := false, narrowed := true }
def BookNeedsUptoSaid : Prop := bookNeedsUptoRow.holds Try.pinned (OpenSpec.upto bookNeedsSpec)

end Rows
end Go.Proofs.Ytaonfacbmolklaa

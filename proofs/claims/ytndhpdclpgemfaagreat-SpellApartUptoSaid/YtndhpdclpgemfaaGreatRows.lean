/-
  NARROWER THAN 'FOR EVERY INPUT', by the rows' own cells (each row's printed sentence says how): SpellPrints: loops · SpellExprs: loops · SpellScans: loops · SpellWithin: loops · SpellApart: loops.
  DERIVED. THE GIVEN ROWS OF THIS SEAT. 5 by the template 'for every input the law returns true; each argument reads behind the call as it read before'; 0 by the template 'total and deterministic' (their statements: YtndhpdclpgemfaaGreatTotals.lean).
  GIVEN WITH THE SEED: the statements are not yours to turn. If you find one false, say at which input.
  Laid BY PROGRAM, IN A SANDBOX (cutbox-rows.mjs): the forced cells as the released guide's own fill.sh prints them over the translation 7e5d49491df3b43f… (all of the seat's roots in one cut). By AI agents, Wed Nov 11 2026. No macro, syntax, notation, axiom, sorry.
-/
import Derived.Test.YtndhpdclpgemfaaGreatChecked
import GoSem.Claim
import GoSem.ClaimJoined
import GoSem.ClaimMapViews
import Derived.JoinedTies
import Derived.KernelRfl
namespace Go.Proofs.YtndhpdclpgemfaaGreat
/- THE CELL 'sum', in the pinned program and in every row, IS THE sha256 OF THE DUMP (.gsa) THAT YtndhpdclpgemfaaGreatProg.lean LOADS. Nothing in Lean hashes anything: it is a label: what it is worth is what the hold of that sum in a sandbox is worth. -/
noncomputable def Tryz.pinned : Pinned := { name := "ytndhpdclpgemfaagreat", sum := "7e5d49491df3b43f9699ddd869cb79fd4c4c3708b69f356c1fe3502a34ee2fe6", checked := Tryz.checked }
namespace Rows
def none {H : Type} : Left H := { results := [], args := [] }

/-- 'wattlelaw11.SpellPrints': WHATEVER THE INPUT: true; the input reads as it did. -/
def spellPrintsSpec : ChangeSpec := { name := "spellPrints", fn := fun _ => fun
  | [d] => { results := [.lit (.bool true)], args := [d] }
  | _ => none }
def spellPrintsRow : OpenClaim := { program := "ytndhpdclpgemfaagreat", sum := "7e5d49491df3b43f9699ddd869cb79fd4c4c3708b69f356c1fe3502a34ee2fe6", func := "wattle/wattlelaw11.SpellPrints", spec := "spellPrints", inPlace := ["internal/bytealg.IndexByteString", "internal/bytealg.IndexString", "internal/abi.NoEscape"], unfollowed := true, recurses := true, named := ["internal/bytealg.MaxLen"], loops := true, apart := false }
def SpellPrintsSaid : Prop := spellPrintsRow.holds Tryz.pinned (OpenSpec.ofChange spellPrintsSpec)

/-- ITS FALSE NEIGHBOUR: 'it returns false'. Refute it at one input. -/
def spellPrintsWrong : ChangeSpec := { name := "spellPrints", fn := fun _ => fun
  | [d] => { results := [.lit (.bool false)], args := [d] }
  | _ => none }
def SpellPrintsWrongFalsely : Prop := spellPrintsRow.holds Tryz.pinned (OpenSpec.ofChange spellPrintsWrong)

/-- 'wattlelaw11.SpellExprs': WHATEVER THE INPUT: true; the input reads as it did. -/
def spellExprsSpec : ChangeSpec := { name := "spellExprs", fn := fun _ => fun
  | [d1, d2] => { results := [.lit (.bool true)], args := [d1, d2] }
  | _ => none }
def spellExprsRow : OpenClaim := { program := "ytndhpdclpgemfaagreat", sum := "7e5d49491df3b43f9699ddd869cb79fd4c4c3708b69f356c1fe3502a34ee2fe6", func := "wattle/wattlelaw11.SpellExprs", spec := "spellExprs", inPlace := ["internal/bytealg.IndexByteString", "internal/bytealg.IndexString", "internal/abi.NoEscape"], unfollowed := true, recurses := true, named := ["internal/bytealg.MaxLen"], loops := true, apart := false }
def SpellExprsSaid : Prop := spellExprsRow.holds Tryz.pinned (OpenSpec.ofChange spellExprsSpec)

/-- ITS FALSE NEIGHBOUR: 'it returns false'. Refute it at one input. -/
def spellExprsWrong : ChangeSpec := { name := "spellExprs", fn := fun _ => fun
  | [d1, d2] => { results := [.lit (.bool false)], args := [d1, d2] }
  | _ => none }
def SpellExprsWrongFalsely : Prop := spellExprsRow.holds Tryz.pinned (OpenSpec.ofChange spellExprsWrong)

/-- 'wattlelaw11.SpellScans': WHATEVER THE INPUT: true; the input reads as it did. -/
def spellScansSpec : ChangeSpec := { name := "spellScans", fn := fun _ => fun
  | [d] => { results := [.lit (.bool true)], args := [d] }
  | _ => none }
def spellScansRow : OpenClaim := { program := "ytndhpdclpgemfaagreat", sum := "7e5d49491df3b43f9699ddd869cb79fd4c4c3708b69f356c1fe3502a34ee2fe6", func := "wattle/wattlelaw11.SpellScans", spec := "spellScans", inPlace := ["internal/bytealg.IndexByteString", "internal/bytealg.IndexString", "internal/abi.NoEscape"], unfollowed := true, recurses := true, named := ["internal/bytealg.MaxLen"], loops := true, apart := false }
def SpellScansSaid : Prop := spellScansRow.holds Tryz.pinned (OpenSpec.ofChange spellScansSpec)

/-- ITS FALSE NEIGHBOUR: 'it returns false'. Refute it at one input. -/
def spellScansWrong : ChangeSpec := { name := "spellScans", fn := fun _ => fun
  | [d] => { results := [.lit (.bool false)], args := [d] }
  | _ => none }
def SpellScansWrongFalsely : Prop := spellScansRow.holds Tryz.pinned (OpenSpec.ofChange spellScansWrong)

/-- 'wattlelaw11.SpellWithin': WHATEVER THE INPUT: true; the input reads as it did. -/
def spellWithinSpec : ChangeSpec := { name := "spellWithin", fn := fun _ => fun
  | [d] => { results := [.lit (.bool true)], args := [d] }
  | _ => none }
def spellWithinRow : OpenClaim := { program := "ytndhpdclpgemfaagreat", sum := "7e5d49491df3b43f9699ddd869cb79fd4c4c3708b69f356c1fe3502a34ee2fe6", func := "wattle/wattlelaw11.SpellWithin", spec := "spellWithin", inPlace := ["internal/bytealg.IndexByteString", "internal/bytealg.IndexString", "internal/abi.NoEscape"], unfollowed := true, recurses := true, named := ["internal/bytealg.MaxLen"], loops := true, apart := false }
def SpellWithinSaid : Prop := spellWithinRow.holds Tryz.pinned (OpenSpec.ofChange spellWithinSpec)

/-- ITS FALSE NEIGHBOUR: 'it returns false'. Refute it at one input. -/
def spellWithinWrong : ChangeSpec := { name := "spellWithin", fn := fun _ => fun
  | [d] => { results := [.lit (.bool false)], args := [d] }
  | _ => none }
def SpellWithinWrongFalsely : Prop := spellWithinRow.holds Tryz.pinned (OpenSpec.ofChange spellWithinWrong)

/-- 'wattlelaw11.SpellApart': WHATEVER THE INPUT: true; the input reads as it did. -/
def spellApartSpec : ChangeSpec := { name := "spellApart", fn := fun _ => fun
  | [d1, d2] => { results := [.lit (.bool true)], args := [d1, d2] }
  | _ => none }
def spellApartRow : OpenClaim := { program := "ytndhpdclpgemfaagreat", sum := "7e5d49491df3b43f9699ddd869cb79fd4c4c3708b69f356c1fe3502a34ee2fe6", func := "wattle/wattlelaw11.SpellApart", spec := "spellApart", inPlace := ["internal/bytealg.IndexByteString", "internal/bytealg.IndexString", "internal/abi.NoEscape"], unfollowed := true, recurses := true, named := ["internal/bytealg.MaxLen"], loops := true, apart := false }
def SpellApartSaid : Prop := spellApartRow.holds Tryz.pinned (OpenSpec.ofChange spellApartSpec)

/-- ITS FALSE NEIGHBOUR: 'it returns false'. Refute it at one input. -/
def spellApartWrong : ChangeSpec := { name := "spellApart", fn := fun _ => fun
  | [d1, d2] => { results := [.lit (.bool false)], args := [d1, d2] }
  | _ => none }
def SpellApartWrongFalsely : Prop := spellApartRow.holds Tryz.pinned (OpenSpec.ofChange spellApartWrong)

/- THE SECOND FORM. 'bulk': how many values and letters a reading holds, each counted each time it is reached (what is shared counts as often as it is met; a slice's spare places count too). A statement '..UptoSaid' is the law's where the arguments, and the package variables that the reading takes, are together of bulk at most 1048576: NARROWER than '..Said'. Prove '..Said' where nothing that the law and all that it calls make is longer than what came in: it says more and counts as full. Else prove '..UptoSaid'. A law counts once. -/
mutual
def uptoBulk {H : Type} : DataW H → Nat
  | .lit (.string bytes) => bytes.length + 1
  | .lit _ => 1
  | .nil => 1
  | .ptr d => uptoBulk d + 1
  | .slice elems spare => uptoBulkAll elems + uptoBulkAll spare + 1
  | .agg parts => uptoBulkAll parts + 1
  | .iface _ d => uptoBulk d + 1
  | .map entries => uptoBulkEntries entries + 1
  | .held _ => 1
def uptoBulkAll {H : Type} : List (DataW H) → Nat
  | [] => 0
  | d :: r => uptoBulk d + uptoBulkAll r
def uptoBulkEntries {H : Type} : List (Lit × DataW H) → Nat
  | [] => 0
  | x :: r => uptoBulkEntry x + uptoBulkEntries r
def uptoBulkEntry {H : Type} : Lit × DataW H → Nat
  | (.string bytes, d) => bytes.length + uptoBulk d + 1
  | (_, d) => uptoBulk d + 1
 end
def uptoSmall : (H : Type) → List (DataW H) → Bool := fun _ ds => decide (uptoBulkAll ds ≤ 1048576)
def OpenSpec.upto (s : _root_.Go.ChangeSpec) : _root_.Go.OpenSpec := { _root_.Go.OpenSpec.ofChange s with cond := some uptoSmall }

/-- 'wattlelaw11.SpellPrints', WHERE WHAT IT READS IS OF BULK AT MOST 1048576: true; the input reads as it did. -/
def spellPrintsUptoRow : OpenClaim := { program := "ytndhpdclpgemfaagreat", sum := "7e5d49491df3b43f9699ddd869cb79fd4c4c3708b69f356c1fe3502a34ee2fe6", func := "wattle/wattlelaw11.SpellPrints", spec := "spellPrints", inPlace := ["internal/bytealg.IndexByteString", "internal/bytealg.IndexString", "internal/abi.NoEscape"], unfollowed := true, recurses := true, named := ["internal/bytealg.MaxLen"], loops := true, apart := false, narrowed := true }
def SpellPrintsUptoSaid : Prop := spellPrintsUptoRow.holds Tryz.pinned (OpenSpec.upto spellPrintsSpec)

/-- 'wattlelaw11.SpellExprs', WHERE WHAT IT READS IS OF BULK AT MOST 1048576: true; the input reads as it did. -/
def spellExprsUptoRow : OpenClaim := { program := "ytndhpdclpgemfaagreat", sum := "7e5d49491df3b43f9699ddd869cb79fd4c4c3708b69f356c1fe3502a34ee2fe6", func := "wattle/wattlelaw11.SpellExprs", spec := "spellExprs", inPlace := ["internal/bytealg.IndexByteString", "internal/bytealg.IndexString", "internal/abi.NoEscape"], unfollowed := true, recurses := true, named := ["internal/bytealg.MaxLen"], loops := true, apart := false, narrowed := true }
def SpellExprsUptoSaid : Prop := spellExprsUptoRow.holds Tryz.pinned (OpenSpec.upto spellExprsSpec)

/-- 'wattlelaw11.SpellScans', WHERE WHAT IT READS IS OF BULK AT MOST 1048576: true; the input reads as it did. -/
def spellScansUptoRow : OpenClaim := { program := "ytndhpdclpgemfaagreat", sum := "7e5d49491df3b43f9699ddd869cb79fd4c4c3708b69f356c1fe3502a34ee2fe6", func := "wattle/wattlelaw11.SpellScans", spec := "spellScans", inPlace := ["internal/bytealg.IndexByteString", "internal/bytealg.IndexString", "internal/abi.NoEscape"], unfollowed := true, recurses := true, named := ["internal/bytealg.MaxLen"], loops := true, apart := false, narrowed := true }
def SpellScansUptoSaid : Prop := spellScansUptoRow.holds Tryz.pinned (OpenSpec.upto spellScansSpec)

/-- 'wattlelaw11.SpellWithin', WHERE WHAT IT READS IS OF BULK AT MOST 1048576: true; the input reads as it did. -/
def spellWithinUptoRow : OpenClaim := { program := "ytndhpdclpgemfaagreat", sum := "7e5d49491df3b43f9699ddd869cb79fd4c4c3708b69f356c1fe3502a34ee2fe6", func := "wattle/wattlelaw11.SpellWithin", spec := "spellWithin", inPlace := ["internal/bytealg.IndexByteString", "internal/bytealg.IndexString", "internal/abi.NoEscape"], unfollowed := true, recurses := true, named := ["internal/bytealg.MaxLen"], loops := true, apart := false, narrowed := true }
def SpellWithinUptoSaid : Prop := spellWithinUptoRow.holds Tryz.pinned (OpenSpec.upto spellWithinSpec)

/-- 'wattlelaw11.SpellApart', WHERE WHAT IT READS IS OF BULK AT MOST 1048576: true; the input reads as it did. -/
def spellApartUptoRow : OpenClaim := { program := "ytndhpdclpgemfaagreat", sum := "7e5d49491df3b43f9699ddd869cb79fd4c4c3708b69f356c1fe3502a34ee2fe6", func := "wattle/wattlelaw11.SpellApart", spec := "spellApart", inPlace := ["internal/bytealg.IndexByteString", "internal/bytealg.IndexString", "internal/abi.NoEscape"], unfollowed := true, recurses := true, named := ["internal/bytealg.MaxLen"], loops := true, apart := false, narrowed := true }
def SpellApartUptoSaid : Prop := spellApartUptoRow.holds Tryz.pinned (OpenSpec.upto spellApartSpec)

end Rows
end Go.Proofs.YtndhpdclpgemfaaGreat

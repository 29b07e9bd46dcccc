/- A region that draws its order, whose callees make memory and change nothing that was there: walked once, in the order of the text. Conditions: none. -/
import Derived.Test.YtdkgjbjlpofieaaBase
import Derived.BigQuiet
namespace Go.Proofs.Ytdkgjbjlpofieaa
open Go.RowKit

/-- The worlds that are as w below block B. -/
def Ext (B : Nat) (w : World) : Type := { w' : World // Below B w w' }
instance Ext.ne {B : Nat} {w : World} : Nonempty (Ext B w) := ⟨⟨w, Below.refl _ _⟩⟩
def Ext.w {B : Nat} {w : World} (u : Ext B w) : World := u.1
theorem Ext.below {B : Nat} {w : World} (u : Ext B w) : Below B w u.w := u.2
theorem Ext.cell {B : Nat} {w : World} (u : Ext B w) {a : Addr} {v : Value} (ha : a.block < B) (h : w.cell? a = some v) : u.w.cell? a = some v := by rw [u.below.cell ha]; exact h
theorem ext_call {P : Program} {B : Nat} {w : World} {f : FuncId} {args : Array Value} {v : Value} (u : Ext B w) (hB : B ≤ w.heap.size) (h : Calls P f args u.w fun e w' => e = .returned v ∧ Below u.w.heap.size u.w w') :
    Calls P f args u.w fun e w'' => e = .returned v ∧ ∃ u' : Ext B w, w'' = u'.w :=
  h.mono fun _ w'' ⟨he, hb⟩ => ⟨he, ⟨w'', u.below.trans (hb.mono (Nat.le_trans hB u.below.size))⟩, rfl⟩
theorem wp_region_ext {P : Program} {id : Nat} {Q : Exit → Act → World → Prop} {a : Act} {w : World} {l : List Oper} (B : Nat) (hm : P.follows .mixedOrders = true) (hB : Region.lexB .any l.toArray = true)
    (h : wpQuiet P l.toArray (fun w' => ∃ u : Ext B w, w' = u.w) (fun a' => ∀ w', (∃ u : Ext B w, w' = u.w) → Q .normal a' w') l a) : (Code.region id l.toArray true).wp P Q a w :=
  wp_region_quiet (C := fun w' => ∃ u : Ext B w, w' = u.w) hm hB ⟨⟨w.drew, (Below.refl _ _).drew⟩, rfl⟩ (by simpa using h)
end Go.Proofs.Ytdkgjbjlpofieaa

/- Parts Ext, Cont, Same of this seat (pruned, scripts that are alike kept once as default arguments: q1, q2, ..). Conditions: each says its own. -/
import Derived.Shelf.Strings.BuilderCap
import Derived.Shelf.Strings.Shaped
import Derived.Shelf.Utf8.AppendRune
import Derived.Test.YteljlahcdipilaaGreatF1
namespace Go.Proofs.YteljlahcdipilaaGreat
open Go.RowKit
def Ext (B : Nat) (w : World) : Type := { w' : World // Below B w w' }
instance Ext.ne {B : Nat} {w : World} : Nonempty (Ext B w) := ⟨⟨w, Below.refl _ _⟩⟩
def Ext.w {B : Nat} {w : World} (u : Ext B w) : World := u.1
theorem Ext.below {B : Nat} {w : World} (u : Ext B w) : Below B w u.w := u.2
theorem Ext.cell {B : Nat} {w : World} (u : Ext B w) {a : Addr} {v : Value} (ha : a.block < B) (h : w.cell? a = some v) : u.w.cell? a = some v := by rw [u.below.cell ha]; exact h
theorem ext_call {P : Program} {B : Nat} {w : World} {f : FuncId} {args : Array Value} {v : Value} (u : Ext B w) (hB : B ≤ w.heap.size) (h : Calls P f args u.w fun e w' => e = .returned v ∧ Below u.w.heap.size u.w w') :
    Calls P f args u.w fun e w'' => e = .returned v ∧ ∃ u' : Ext B w, w'' = u'.w :=
  h.mono fun _ w'' ⟨he, hb⟩ => ⟨he, ⟨w'', u.below.trans (hb.mono (Nat.le_trans hB u.below.size))⟩, rfl⟩
theorem wp_region_ext {P : Program} {id : Nat} {Q : Exit → Act → World → Prop} {a : Act} {w : World} {l : List Oper} (B : Nat) (hm : P.follows .mixedOrders = true) (hB : Region.lexB .any l.toArray = true)
    (h : wpQuiet P l.toArray (fun w' => ∃ u : Ext B w, w' = u.w) (fun a' => ∀ w', (∃ u : Ext B w, w' = u.w) → Q .normal a' w') l a) : (Code.region id l.toArray true).wp P Q a w :=
  wp_region_quiet (C := fun w' => ∃ u : Ext B w, w' = u.w) hm hB ⟨⟨w.drew, (Below.refl _ _).drew⟩, rfl⟩ (by simpa using h)
theorem ce4 {C : Nat} {W0 : World} {b : Nat} {x0 x1 x2 x3 : Value} {y : List Value} (h : ∀ (u : Ext C W0) (i : Nat) v, (x0 :: x1 :: x2 :: x3 :: y)[i]? = some v → u.w.cell? ⟨b, i, none⟩ = some v) : (∀ u : Ext C W0, u.w.cell? ⟨b, 0, none⟩ = some x0) ∧ (∀ u : Ext C W0, u.w.cell? ⟨b, 1, none⟩ = some x1) ∧ (∀ u : Ext C W0, u.w.cell? ⟨b, 2, none⟩ = some x2) ∧ (∀ u : Ext C W0, u.w.cell? ⟨b, 3, none⟩ = some x3) := ⟨fun u => h u 0 _ rfl, fun u => h u 1 _ rfl, fun u => h u 2 _ rfl, fun u => h u 3 _ rfl⟩
theorem ce5 {C : Nat} {W0 : World} {b : Nat} {x0 x1 x2 x3 x4 : Value} {y : List Value} (h : ∀ (u : Ext C W0) (i : Nat) v, (x0 :: x1 :: x2 :: x3 :: x4 :: y)[i]? = some v → u.w.cell? ⟨b, i, none⟩ = some v) : (∀ u : Ext C W0, u.w.cell? ⟨b, 0, none⟩ = some x0) ∧ (∀ u : Ext C W0, u.w.cell? ⟨b, 1, none⟩ = some x1) ∧ (∀ u : Ext C W0, u.w.cell? ⟨b, 2, none⟩ = some x2) ∧ (∀ u : Ext C W0, u.w.cell? ⟨b, 3, none⟩ = some x3) ∧ (∀ u : Ext C W0, u.w.cell? ⟨b, 4, none⟩ = some x4) := ⟨fun u => h u 0 _ rfl, fun u => h u 1 _ rfl, fun u => h u 2 _ rfl, fun u => h u 3 _ rfl, fun u => h u 4 _ rfl⟩
theorem ce6 {C : Nat} {W0 : World} {b : Nat} {x0 x1 x2 x3 x4 x5 : Value} {y : List Value} (h : ∀ (u : Ext C W0) (i : Nat) v, (x0 :: x1 :: x2 :: x3 :: x4 :: x5 :: y)[i]? = some v → u.w.cell? ⟨b, i, none⟩ = some v) : (∀ u : Ext C W0, u.w.cell? ⟨b, 0, none⟩ = some x0) ∧ (∀ u : Ext C W0, u.w.cell? ⟨b, 1, none⟩ = some x1) ∧ (∀ u : Ext C W0, u.w.cell? ⟨b, 2, none⟩ = some x2) ∧ (∀ u : Ext C W0, u.w.cell? ⟨b, 3, none⟩ = some x3) ∧ (∀ u : Ext C W0, u.w.cell? ⟨b, 4, none⟩ = some x4) ∧ (∀ u : Ext C W0, u.w.cell? ⟨b, 5, none⟩ = some x5) := ⟨fun u => h u 0 _ rfl, fun u => h u 1 _ rfl, fun u => h u 2 _ rfl, fun u => h u 3 _ rfl, fun u => h u 4 _ rfl, fun u => h u 5 _ rfl⟩
theorem ce10 {C : Nat} {W0 : World} {b : Nat} {x0 x1 x2 x3 x4 x5 x6 x7 x8 x9 : Value} {y : List Value} (h : ∀ (u : Ext C W0) (i : Nat) v, (x0 :: x1 :: x2 :: x3 :: x4 :: x5 :: x6 :: x7 :: x8 :: x9 :: y)[i]? = some v → u.w.cell? ⟨b, i, none⟩ = some v) : (∀ u : Ext C W0, u.w.cell? ⟨b, 0, none⟩ = some x0) ∧ (∀ u : Ext C W0, u.w.cell? ⟨b, 1, none⟩ = some x1) ∧ (∀ u : Ext C W0, u.w.cell? ⟨b, 2, none⟩ = some x2) ∧ (∀ u : Ext C W0, u.w.cell? ⟨b, 3, none⟩ = some x3) ∧ (∀ u : Ext C W0, u.w.cell? ⟨b, 4, none⟩ = some x4) ∧ (∀ u : Ext C W0, u.w.cell? ⟨b, 5, none⟩ = some x5) ∧ (∀ u : Ext C W0, u.w.cell? ⟨b, 6, none⟩ = some x6) ∧ (∀ u : Ext C W0, u.w.cell? ⟨b, 7, none⟩ = some x7) ∧ (∀ u : Ext C W0, u.w.cell? ⟨b, 8, none⟩ = some x8) ∧ (∀ u : Ext C W0, u.w.cell? ⟨b, 9, none⟩ = some x9) := ⟨fun u => h u 0 _ rfl, fun u => h u 1 _ rfl, fun u => h u 2 _ rfl, fun u => h u 3 _ rfl, fun u => h u 4 _ rfl, fun u => h u 5 _ rfl, fun u => h u 6 _ rfl, fun u => h u 7 _ rfl, fun u => h u 8 _ rfl, fun u => h u 9 _ rfl⟩
theorem ce11 {C : Nat} {W0 : World} {b : Nat} {x0 x1 x2 x3 x4 x5 x6 x7 x8 x9 x10 : Value} {y : List Value} (h : ∀ (u : Ext C W0) (i : Nat) v, (x0 :: x1 :: x2 :: x3 :: x4 :: x5 :: x6 :: x7 :: x8 :: x9 :: x10 :: y)[i]? = some v → u.w.cell? ⟨b, i, none⟩ = some v) : (∀ u : Ext C W0, u.w.cell? ⟨b, 0, none⟩ = some x0) ∧ (∀ u : Ext C W0, u.w.cell? ⟨b, 1, none⟩ = some x1) ∧ (∀ u : Ext C W0, u.w.cell? ⟨b, 2, none⟩ = some x2) ∧ (∀ u : Ext C W0, u.w.cell? ⟨b, 3, none⟩ = some x3) ∧ (∀ u : Ext C W0, u.w.cell? ⟨b, 4, none⟩ = some x4) ∧ (∀ u : Ext C W0, u.w.cell? ⟨b, 5, none⟩ = some x5) ∧ (∀ u : Ext C W0, u.w.cell? ⟨b, 6, none⟩ = some x6) ∧ (∀ u : Ext C W0, u.w.cell? ⟨b, 7, none⟩ = some x7) ∧ (∀ u : Ext C W0, u.w.cell? ⟨b, 8, none⟩ = some x8) ∧ (∀ u : Ext C W0, u.w.cell? ⟨b, 9, none⟩ = some x9) ∧ (∀ u : Ext C W0, u.w.cell? ⟨b, 10, none⟩ = some x10) := ⟨fun u => h u 0 _ rfl, fun u => h u 1 _ rfl, fun u => h u 2 _ rfl, fun u => h u 3 _ rfl, fun u => h u 4 _ rfl, fun u => h u 5 _ rfl, fun u => h u 6 _ rfl, fun u => h u 7 _ rfl, fun u => h u 8 _ rfl, fun u => h u 9 _ rfl, fun u => h u 10 _ rfl⟩
theorem ce13 {C : Nat} {W0 : World} {b : Nat} {x0 x1 x2 x3 x4 x5 x6 x7 x8 x9 x10 x11 x12 : Value} {y : List Value} (h : ∀ (u : Ext C W0) (i : Nat) v, (x0 :: x1 :: x2 :: x3 :: x4 :: x5 :: x6 :: x7 :: x8 :: x9 :: x10 :: x11 :: x12 :: y)[i]? = some v → u.w.cell? ⟨b, i, none⟩ = some v) : (∀ u : Ext C W0, u.w.cell? ⟨b, 0, none⟩ = some x0) ∧ (∀ u : Ext C W0, u.w.cell? ⟨b, 1, none⟩ = some x1) ∧ (∀ u : Ext C W0, u.w.cell? ⟨b, 2, none⟩ = some x2) ∧ (∀ u : Ext C W0, u.w.cell? ⟨b, 3, none⟩ = some x3) ∧ (∀ u : Ext C W0, u.w.cell? ⟨b, 4, none⟩ = some x4) ∧ (∀ u : Ext C W0, u.w.cell? ⟨b, 5, none⟩ = some x5) ∧ (∀ u : Ext C W0, u.w.cell? ⟨b, 6, none⟩ = some x6) ∧ (∀ u : Ext C W0, u.w.cell? ⟨b, 7, none⟩ = some x7) ∧ (∀ u : Ext C W0, u.w.cell? ⟨b, 8, none⟩ = some x8) ∧ (∀ u : Ext C W0, u.w.cell? ⟨b, 9, none⟩ = some x9) ∧ (∀ u : Ext C W0, u.w.cell? ⟨b, 10, none⟩ = some x10) ∧ (∀ u : Ext C W0, u.w.cell? ⟨b, 11, none⟩ = some x11) ∧ (∀ u : Ext C W0, u.w.cell? ⟨b, 12, none⟩ = some x12) := ⟨fun u => h u 0 _ rfl, fun u => h u 1 _ rfl, fun u => h u 2 _ rfl, fun u => h u 3 _ rfl, fun u => h u 4 _ rfl, fun u => h u 5 _ rfl, fun u => h u 6 _ rfl, fun u => h u 7 _ rfl, fun u => h u 8 _ rfl, fun u => h u 9 _ rfl, fun u => h u 10 _ rfl, fun u => h u 11 _ rfl, fun u => h u 12 _ rfl⟩
theorem ce14 {C : Nat} {W0 : World} {b : Nat} {x0 x1 x2 x3 x4 x5 x6 x7 x8 x9 x10 x11 x12 x13 : Value} {y : List Value} (h : ∀ (u : Ext C W0) (i : Nat) v, (x0 :: x1 :: x2 :: x3 :: x4 :: x5 :: x6 :: x7 :: x8 :: x9 :: x10 :: x11 :: x12 :: x13 :: y)[i]? = some v → u.w.cell? ⟨b, i, none⟩ = some v) : (∀ u : Ext C W0, u.w.cell? ⟨b, 0, none⟩ = some x0) ∧ (∀ u : Ext C W0, u.w.cell? ⟨b, 1, none⟩ = some x1) ∧ (∀ u : Ext C W0, u.w.cell? ⟨b, 2, none⟩ = some x2) ∧ (∀ u : Ext C W0, u.w.cell? ⟨b, 3, none⟩ = some x3) ∧ (∀ u : Ext C W0, u.w.cell? ⟨b, 4, none⟩ = some x4) ∧ (∀ u : Ext C W0, u.w.cell? ⟨b, 5, none⟩ = some x5) ∧ (∀ u : Ext C W0, u.w.cell? ⟨b, 6, none⟩ = some x6) ∧ (∀ u : Ext C W0, u.w.cell? ⟨b, 7, none⟩ = some x7) ∧ (∀ u : Ext C W0, u.w.cell? ⟨b, 8, none⟩ = some x8) ∧ (∀ u : Ext C W0, u.w.cell? ⟨b, 9, none⟩ = some x9) ∧ (∀ u : Ext C W0, u.w.cell? ⟨b, 10, none⟩ = some x10) ∧ (∀ u : Ext C W0, u.w.cell? ⟨b, 11, none⟩ = some x11) ∧ (∀ u : Ext C W0, u.w.cell? ⟨b, 12, none⟩ = some x12) ∧ (∀ u : Ext C W0, u.w.cell? ⟨b, 13, none⟩ = some x13) := ⟨fun u => h u 0 _ rfl, fun u => h u 1 _ rfl, fun u => h u 2 _ rfl, fun u => h u 3 _ rfl, fun u => h u 4 _ rfl, fun u => h u 5 _ rfl, fun u => h u 6 _ rfl, fun u => h u 7 _ rfl, fun u => h u 8 _ rfl, fun u => h u 9 _ rfl, fun u => h u 10 _ rfl, fun u => h u 11 _ rfl, fun u => h u 12 _ rfl, fun u => h u 13 _ rfl⟩
theorem ce22 {C : Nat} {W0 : World} {b : Nat} {x0 x1 x2 x3 x4 x5 x6 x7 x8 x9 x10 x11 x12 x13 x14 x15 x16 x17 x18 x19 x20 x21 : Value} {y : List Value} (h : ∀ (u : Ext C W0) (i : Nat) v, (x0 :: x1 :: x2 :: x3 :: x4 :: x5 :: x6 :: x7 :: x8 :: x9 :: x10 :: x11 :: x12 :: x13 :: x14 :: x15 :: x16 :: x17 :: x18 :: x19 :: x20 :: x21 :: y)[i]? = some v → u.w.cell? ⟨b, i, none⟩ = some v) : (∀ u : Ext C W0, u.w.cell? ⟨b, 0, none⟩ = some x0) ∧ (∀ u : Ext C W0, u.w.cell? ⟨b, 1, none⟩ = some x1) ∧ (∀ u : Ext C W0, u.w.cell? ⟨b, 2, none⟩ = some x2) ∧ (∀ u : Ext C W0, u.w.cell? ⟨b, 3, none⟩ = some x3) ∧ (∀ u : Ext C W0, u.w.cell? ⟨b, 4, none⟩ = some x4) ∧ (∀ u : Ext C W0, u.w.cell? ⟨b, 5, none⟩ = some x5) ∧ (∀ u : Ext C W0, u.w.cell? ⟨b, 6, none⟩ = some x6) ∧ (∀ u : Ext C W0, u.w.cell? ⟨b, 7, none⟩ = some x7) ∧ (∀ u : Ext C W0, u.w.cell? ⟨b, 8, none⟩ = some x8) ∧ (∀ u : Ext C W0, u.w.cell? ⟨b, 9, none⟩ = some x9) ∧ (∀ u : Ext C W0, u.w.cell? ⟨b, 10, none⟩ = some x10) ∧ (∀ u : Ext C W0, u.w.cell? ⟨b, 11, none⟩ = some x11) ∧ (∀ u : Ext C W0, u.w.cell? ⟨b, 12, none⟩ = some x12) ∧ (∀ u : Ext C W0, u.w.cell? ⟨b, 13, none⟩ = some x13) ∧ (∀ u : Ext C W0, u.w.cell? ⟨b, 14, none⟩ = some x14) ∧ (∀ u : Ext C W0, u.w.cell? ⟨b, 15, none⟩ = some x15) ∧ (∀ u : Ext C W0, u.w.cell? ⟨b, 16, none⟩ = some x16) ∧ (∀ u : Ext C W0, u.w.cell? ⟨b, 17, none⟩ = some x17) ∧ (∀ u : Ext C W0, u.w.cell? ⟨b, 18, none⟩ = some x18) ∧ (∀ u : Ext C W0, u.w.cell? ⟨b, 19, none⟩ = some x19) ∧ (∀ u : Ext C W0, u.w.cell? ⟨b, 20, none⟩ = some x20) ∧ (∀ u : Ext C W0, u.w.cell? ⟨b, 21, none⟩ = some x21) := ⟨fun u => h u 0 _ rfl, fun u => h u 1 _ rfl, fun u => h u 2 _ rfl, fun u => h u 3 _ rfl, fun u => h u 4 _ rfl, fun u => h u 5 _ rfl, fun u => h u 6 _ rfl, fun u => h u 7 _ rfl, fun u => h u 8 _ rfl, fun u => h u 9 _ rfl, fun u => h u 10 _ rfl, fun u => h u 11 _ rfl, fun u => h u 12 _ rfl, fun u => h u 13 _ rfl, fun u => h u 14 _ rfl, fun u => h u 15 _ rfl, fun u => h u 16 _ rfl, fun u => h u 17 _ rfl, fun u => h u 18 _ rfl, fun u => h u 19 _ rfl, fun u => h u 20 _ rfl, fun u => h u 21 _ rfl⟩
theorem cf3 {C : Nat} {W0 : World} {b o : Nat} {x0 x1 x2 x3 : Value} {y : List Value} (h : ∀ (u : Ext C W0) (i : Nat) v, (x0 :: x1 :: x2 :: x3 :: y)[i]? = some v → u.w.cell? ⟨b, o + i, none⟩ = some v) : (∀ u : Ext C W0, u.w.cell? ⟨b, o + 1, none⟩ = some x1) ∧ (∀ u : Ext C W0, u.w.cell? ⟨b, o + 2, none⟩ = some x2) ∧ (∀ u : Ext C W0, u.w.cell? ⟨b, o + 3, none⟩ = some x3) := ⟨fun u => h u 1 _ rfl, fun u => h u 2 _ rfl, fun u => h u 3 _ rfl⟩
theorem cf4 {C : Nat} {W0 : World} {b o : Nat} {x0 x1 x2 x3 x4 : Value} {y : List Value} (h : ∀ (u : Ext C W0) (i : Nat) v, (x0 :: x1 :: x2 :: x3 :: x4 :: y)[i]? = some v → u.w.cell? ⟨b, o + i, none⟩ = some v) : (∀ u : Ext C W0, u.w.cell? ⟨b, o + 1, none⟩ = some x1) ∧ (∀ u : Ext C W0, u.w.cell? ⟨b, o + 2, none⟩ = some x2) ∧ (∀ u : Ext C W0, u.w.cell? ⟨b, o + 3, none⟩ = some x3) ∧ (∀ u : Ext C W0, u.w.cell? ⟨b, o + 4, none⟩ = some x4) := ⟨fun u => h u 1 _ rfl, fun u => h u 2 _ rfl, fun u => h u 3 _ rfl, fun u => h u 4 _ rfl⟩
theorem cf9 {C : Nat} {W0 : World} {b o : Nat} {x0 x1 x2 x3 x4 x5 x6 x7 x8 x9 : Value} {y : List Value} (h : ∀ (u : Ext C W0) (i : Nat) v, (x0 :: x1 :: x2 :: x3 :: x4 :: x5 :: x6 :: x7 :: x8 :: x9 :: y)[i]? = some v → u.w.cell? ⟨b, o + i, none⟩ = some v) : (∀ u : Ext C W0, u.w.cell? ⟨b, o + 1, none⟩ = some x1) ∧ (∀ u : Ext C W0, u.w.cell? ⟨b, o + 2, none⟩ = some x2) ∧ (∀ u : Ext C W0, u.w.cell? ⟨b, o + 3, none⟩ = some x3) ∧ (∀ u : Ext C W0, u.w.cell? ⟨b, o + 4, none⟩ = some x4) ∧ (∀ u : Ext C W0, u.w.cell? ⟨b, o + 5, none⟩ = some x5) ∧ (∀ u : Ext C W0, u.w.cell? ⟨b, o + 6, none⟩ = some x6) ∧ (∀ u : Ext C W0, u.w.cell? ⟨b, o + 7, none⟩ = some x7) ∧ (∀ u : Ext C W0, u.w.cell? ⟨b, o + 8, none⟩ = some x8) ∧ (∀ u : Ext C W0, u.w.cell? ⟨b, o + 9, none⟩ = some x9) := ⟨fun u => h u 1 _ rfl, fun u => h u 2 _ rfl, fun u => h u 3 _ rfl, fun u => h u 4 _ rfl, fun u => h u 5 _ rfl, fun u => h u 6 _ rfl, fun u => h u 7 _ rfl, fun u => h u 8 _ rfl, fun u => h u 9 _ rfl⟩
theorem cx4 {C : Nat} {W0 : World} {b : Nat} {x0 x1 x2 x3 : Value} {y : List Value} (h : ∀ (u : Ext C W0) (i : Nat) v, (x0 :: x1 :: x2 :: x3 :: y)[i]? = some v → u.w.cell? ⟨b, i, none⟩ = some v) (u : Ext C W0) : u.w.cell? ⟨b, 0, none⟩ = some x0 ∧ u.w.cell? ⟨b, 1, none⟩ = some x1 ∧ u.w.cell? ⟨b, 2, none⟩ = some x2 ∧ u.w.cell? ⟨b, 3, none⟩ = some x3 := ⟨h u 0 _ rfl, h u 1 _ rfl, h u 2 _ rfl, h u 3 _ rfl⟩
theorem cx5 {C : Nat} {W0 : World} {b : Nat} {x0 x1 x2 x3 x4 : Value} {y : List Value} (h : ∀ (u : Ext C W0) (i : Nat) v, (x0 :: x1 :: x2 :: x3 :: x4 :: y)[i]? = some v → u.w.cell? ⟨b, i, none⟩ = some v) (u : Ext C W0) : u.w.cell? ⟨b, 0, none⟩ = some x0 ∧ u.w.cell? ⟨b, 1, none⟩ = some x1 ∧ u.w.cell? ⟨b, 2, none⟩ = some x2 ∧ u.w.cell? ⟨b, 3, none⟩ = some x3 ∧ u.w.cell? ⟨b, 4, none⟩ = some x4 := ⟨h u 0 _ rfl, h u 1 _ rfl, h u 2 _ rfl, h u 3 _ rfl, h u 4 _ rfl⟩
theorem cx6 {C : Nat} {W0 : World} {b : Nat} {x0 x1 x2 x3 x4 x5 : Value} {y : List Value} (h : ∀ (u : Ext C W0) (i : Nat) v, (x0 :: x1 :: x2 :: x3 :: x4 :: x5 :: y)[i]? = some v → u.w.cell? ⟨b, i, none⟩ = some v) (u : Ext C W0) : u.w.cell? ⟨b, 0, none⟩ = some x0 ∧ u.w.cell? ⟨b, 1, none⟩ = some x1 ∧ u.w.cell? ⟨b, 2, none⟩ = some x2 ∧ u.w.cell? ⟨b, 3, none⟩ = some x3 ∧ u.w.cell? ⟨b, 4, none⟩ = some x4 ∧ u.w.cell? ⟨b, 5, none⟩ = some x5 := ⟨h u 0 _ rfl, h u 1 _ rfl, h u 2 _ rfl, h u 3 _ rfl, h u 4 _ rfl, h u 5 _ rfl⟩
theorem cx10 {C : Nat} {W0 : World} {b : Nat} {x0 x1 x2 x3 x4 x5 x6 x7 x8 x9 : Value} {y : List Value} (h : ∀ (u : Ext C W0) (i : Nat) v, (x0 :: x1 :: x2 :: x3 :: x4 :: x5 :: x6 :: x7 :: x8 :: x9 :: y)[i]? = some v → u.w.cell? ⟨b, i, none⟩ = some v) (u : Ext C W0) : u.w.cell? ⟨b, 0, none⟩ = some x0 ∧ u.w.cell? ⟨b, 1, none⟩ = some x1 ∧ u.w.cell? ⟨b, 2, none⟩ = some x2 ∧ u.w.cell? ⟨b, 3, none⟩ = some x3 ∧ u.w.cell? ⟨b, 4, none⟩ = some x4 ∧ u.w.cell? ⟨b, 5, none⟩ = some x5 ∧ u.w.cell? ⟨b, 6, none⟩ = some x6 ∧ u.w.cell? ⟨b, 7, none⟩ = some x7 ∧ u.w.cell? ⟨b, 8, none⟩ = some x8 ∧ u.w.cell? ⟨b, 9, none⟩ = some x9 := ⟨h u 0 _ rfl, h u 1 _ rfl, h u 2 _ rfl, h u 3 _ rfl, h u 4 _ rfl, h u 5 _ rfl, h u 6 _ rfl, h u 7 _ rfl, h u 8 _ rfl, h u 9 _ rfl⟩
theorem cx11 {C : Nat} {W0 : World} {b : Nat} {x0 x1 x2 x3 x4 x5 x6 x7 x8 x9 x10 : Value} {y : List Value} (h : ∀ (u : Ext C W0) (i : Nat) v, (x0 :: x1 :: x2 :: x3 :: x4 :: x5 :: x6 :: x7 :: x8 :: x9 :: x10 :: y)[i]? = some v → u.w.cell? ⟨b, i, none⟩ = some v) (u : Ext C W0) : u.w.cell? ⟨b, 0, none⟩ = some x0 ∧ u.w.cell? ⟨b, 1, none⟩ = some x1 ∧ u.w.cell? ⟨b, 2, none⟩ = some x2 ∧ u.w.cell? ⟨b, 3, none⟩ = some x3 ∧ u.w.cell? ⟨b, 4, none⟩ = some x4 ∧ u.w.cell? ⟨b, 5, none⟩ = some x5 ∧ u.w.cell? ⟨b, 6, none⟩ = some x6 ∧ u.w.cell? ⟨b, 7, none⟩ = some x7 ∧ u.w.cell? ⟨b, 8, none⟩ = some x8 ∧ u.w.cell? ⟨b, 9, none⟩ = some x9 ∧ u.w.cell? ⟨b, 10, none⟩ = some x10 := ⟨h u 0 _ rfl, h u 1 _ rfl, h u 2 _ rfl, h u 3 _ rfl, h u 4 _ rfl, h u 5 _ rfl, h u 6 _ rfl, h u 7 _ rfl, h u 8 _ rfl, h u 9 _ rfl, h u 10 _ rfl⟩
theorem cx13 {C : Nat} {W0 : World} {b : Nat} {x0 x1 x2 x3 x4 x5 x6 x7 x8 x9 x10 x11 x12 : Value} {y : List Value} (h : ∀ (u : Ext C W0) (i : Nat) v, (x0 :: x1 :: x2 :: x3 :: x4 :: x5 :: x6 :: x7 :: x8 :: x9 :: x10 :: x11 :: x12 :: y)[i]? = some v → u.w.cell? ⟨b, i, none⟩ = some v) (u : Ext C W0) : u.w.cell? ⟨b, 0, none⟩ = some x0 ∧ u.w.cell? ⟨b, 1, none⟩ = some x1 ∧ u.w.cell? ⟨b, 2, none⟩ = some x2 ∧ u.w.cell? ⟨b, 3, none⟩ = some x3 ∧ u.w.cell? ⟨b, 4, none⟩ = some x4 ∧ u.w.cell? ⟨b, 5, none⟩ = some x5 ∧ u.w.cell? ⟨b, 6, none⟩ = some x6 ∧ u.w.cell? ⟨b, 7, none⟩ = some x7 ∧ u.w.cell? ⟨b, 8, none⟩ = some x8 ∧ u.w.cell? ⟨b, 9, none⟩ = some x9 ∧ u.w.cell? ⟨b, 10, none⟩ = some x10 ∧ u.w.cell? ⟨b, 11, none⟩ = some x11 ∧ u.w.cell? ⟨b, 12, none⟩ = some x12 := ⟨h u 0 _ rfl, h u 1 _ rfl, h u 2 _ rfl, h u 3 _ rfl, h u 4 _ rfl, h u 5 _ rfl, h u 6 _ rfl, h u 7 _ rfl, h u 8 _ rfl, h u 9 _ rfl, h u 10 _ rfl, h u 11 _ rfl, h u 12 _ rfl⟩
theorem cx14 {C : Nat} {W0 : World} {b : Nat} {x0 x1 x2 x3 x4 x5 x6 x7 x8 x9 x10 x11 x12 x13 : Value} {y : List Value} (h : ∀ (u : Ext C W0) (i : Nat) v, (x0 :: x1 :: x2 :: x3 :: x4 :: x5 :: x6 :: x7 :: x8 :: x9 :: x10 :: x11 :: x12 :: x13 :: y)[i]? = some v → u.w.cell? ⟨b, i, none⟩ = some v) (u : Ext C W0) : u.w.cell? ⟨b, 0, none⟩ = some x0 ∧ u.w.cell? ⟨b, 1, none⟩ = some x1 ∧ u.w.cell? ⟨b, 2, none⟩ = some x2 ∧ u.w.cell? ⟨b, 3, none⟩ = some x3 ∧ u.w.cell? ⟨b, 4, none⟩ = some x4 ∧ u.w.cell? ⟨b, 5, none⟩ = some x5 ∧ u.w.cell? ⟨b, 6, none⟩ = some x6 ∧ u.w.cell? ⟨b, 7, none⟩ = some x7 ∧ u.w.cell? ⟨b, 8, none⟩ = some x8 ∧ u.w.cell? ⟨b, 9, none⟩ = some x9 ∧ u.w.cell? ⟨b, 10, none⟩ = some x10 ∧ u.w.cell? ⟨b, 11, none⟩ = some x11 ∧ u.w.cell? ⟨b, 12, none⟩ = some x12 ∧ u.w.cell? ⟨b, 13, none⟩ = some x13 := ⟨h u 0 _ rfl, h u 1 _ rfl, h u 2 _ rfl, h u 3 _ rfl, h u 4 _ rfl, h u 5 _ rfl, h u 6 _ rfl, h u 7 _ rfl, h u 8 _ rfl, h u 9 _ rfl, h u 10 _ rfl, h u 11 _ rfl, h u 12 _ rfl, h u 13 _ rfl⟩
end Go.Proofs.YteljlahcdipilaaGreat
namespace Go.Proofs.YteljlahcdipilaaGreat
open Go.Shelf Go.Proofs Go.RowKit Go.Lib
def lays144_ren : Go.Shelf.Ren := ⟨fun | 144 => 43 | 143 => 76 | 219 => 94 | 217 => 107 | 225 => 108 | 224 => 109 | 267 => 110 | 266 => 126 | 314 => 127 | n => n, fun | 9 => 9 | 4 => 4 | 3 => 3 | 5 => 5 | 46 => 160 | 146 => 181 | 51 => 180 | n => n, fun | 1 => 0 | n => n⟩
theorem lays144 : Go.Proofs.Lays.n144 Tryz.prog lays144_ren := {
  mixed := by kernel_rfl
  f143 := Tryz.func76.trans (congrArg some (by kernel_rfl))
  f144 := Tryz.func43.trans (congrArg some (by kernel_rfl))
  f217 := Tryz.func107.trans (congrArg some (by kernel_rfl))
  f219 := Tryz.func94.trans (congrArg some (by kernel_rfl))
  f224 := Tryz.func109.trans (congrArg some (by kernel_rfl))
  f225 := Tryz.func108.trans (congrArg some (by kernel_rfl))
  f266 := Tryz.func126.trans (congrArg some (by kernel_rfl))
  f267 := Tryz.func110.trans (congrArg some (by kernel_rfl))
  f314 := Tryz.func127.trans (congrArg some (by kernel_rfl))
  t3 := Tryz.underlying3
  a3 := Tryz.isAgg3
  z3 := Tryz.sizeOf3
  v3 := Tryz.zeroValue3
  t4 := Tryz.underlying4
  a4 := Tryz.isAgg4
  z4 := Tryz.sizeOf4
  v4 := Tryz.zeroValue4
  t5 := Tryz.underlying5
  a5 := Tryz.isAgg5
  z5 := Tryz.sizeOf5
  v5 := Tryz.zeroValue5
  t9 := Tryz.underlying9
  a9 := Tryz.isAgg9
  z9 := Tryz.sizeOf9
  v9 := Tryz.zeroValue9
  t46 := Tryz.underlying160
  a46 := Tryz.isAgg160
  z46 := Tryz.sizeOf160
  v46 := Tryz.zeroValue160
  t51 := Tryz.underlying180
  a51 := Tryz.isAgg180
  z51 := Tryz.sizeOf180
  v51 := Tryz.zeroValue180
  t146 := Tryz.underlying181
  a146 := Tryz.isAgg181
  z146 := Tryz.sizeOf181
  v146 := Tryz.zeroValue181
  g1 := by kernel_rfl }
theorem strings_Contains_one (s : ByteArray) (c : UInt8) (w : World) :
    Calls Tryz.prog 43 #[.string s, .string ⟨#[c]⟩] w fun e w' => e = .returned (.bool (decide (0 ≤ Lib.indexByte s.data.toList c))) ∧ w' = w := Any.strings_Contains_one lays144 s c w
theorem strings_Contains (s sub : ByteArray) (m : Int) (w : World) (hs : s.size < 4294967281) (hm : w.cell? ⟨0, 0, none⟩ = some (.int .i64 m)) :
    Calls Tryz.prog 43 #[.string s, .string sub] w fun e w' => e = .returned (.bool (Lib.contains s.data.toList sub.data.toList)) ∧ w' = w := Any.strings_Contains lays144 s sub m w hs hm
end Go.Proofs.YteljlahcdipilaaGreat
namespace Go.Proofs.YteljlahcdipilaaGreat
open Go.RowKit
set_option linter.unusedSimpArgs false
set_option linter.unusedVariables false
mutual
def sameV : Vt → Vt → Bool
  | .mk k b i s l ks, .mk k' b' i' s' l' ks' => decide (k = k') && decide (b = b') && decide (i = i') && decide (s = s') && decide (ks = ks') && sameVs l l'
def sameVs : List Vt → List Vt → Bool
  | [], [] => true
  | t :: ts, u :: us => sameV t u && sameVs ts us
  | [], _ :: _ => false
  | _ :: _, [] => false
end
theorem sameVs_len {l m : List Vt} (h : l.length ≠ m.length) : sameVs l m = false := by
 induction l generalizing m with
 | nil => cases m with
  | nil => exact absurd rfl h
  | cons u us => rfl
 | cons t ts ih => cases m with
  | nil => rfl
  | cons u us => simp only [sameVs, ih (m := us) (fun e => h (by simp [e])), Bool.and_false]
theorem sameVs_at {l m : List Vt} : ∀ {j : Nat} {t u : Vt}, l[j]? = some t → m[j]? = some u → sameVs (l.drop j) (m.drop j) = (sameV t u && sameVs (l.drop (j + 1)) (m.drop (j + 1))) := by
 intro j t u h k
 obtain ⟨h1, h2⟩ := List.getElem?_eq_some_iff.1 h
 obtain ⟨k1, k2⟩ := List.getElem?_eq_some_iff.1 k
 rw [List.drop_eq_getElem_cons h1, List.drop_eq_getElem_cons k1, h2, k2]
 simp only [sameVs]
theorem ba_beq (x y : ByteArray) : (x.toList == y.toList) = decide (x = y) := by
 rw [ba_list, ba_list, Bool.eq_iff_iff, beq_iff_eq, decide_eq_true_eq]
 constructor
 ·intro h; apply ByteArray.ext; exact Array.ext' h
 ·rintro rfl; rfl
theorem StrRow.get {B : Nat} {w : World} {a : Option Addr} {ks : List ByteArray} (h : StrRow B w a ks) {j : Nat} {x : ByteArray} (hx : ks[j]? = some x) : ∃ b off, a = some ⟨b, off, none⟩ ∧ b < B ∧ w.cell? ⟨b, off + j, none⟩ = some (.string x) := by
 rcases h with h0 | ⟨b, off, h1, h2, h3⟩
 ·rw [List.map_eq_nil_iff] at h0; rw [h0] at hx; simp at hx
 ·exact ⟨b, off, h1, h2, h3 j _ (by rw [List.getElem?_map, hx]; rfl)⟩
end Go.Proofs.YteljlahcdipilaaGreat

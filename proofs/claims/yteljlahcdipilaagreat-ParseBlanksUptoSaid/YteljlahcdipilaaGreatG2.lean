/- Parts Ext, Cont, Same of this seat (pruned, scripts that are alike kept once as default arguments: q1, q2, ..). Conditions: each says its own. -/
import Derived.Shelf.Strings.BuilderCap
import Derived.Shelf.Strings.Shaped
import Derived.Shelf.Utf8.AppendRune
import Derived.Test.YteljlahcdipilaaGreatG1
set_option linter.unusedSimpArgs false
set_option linter.unusedVariables false
set_option maxRecDepth 1000000
set_option maxHeartbeats 64000000
namespace Go.Proofs.YteljlahcdipilaaGreat
open Go.RowKit
def aq (B : Nat) (w : World) : Type := { w' : World // Below B w w' }
instance aq.ne {B : Nat} {w : World} : Nonempty (aq B w) := ⟨⟨w, Below.refl _ _⟩⟩
def aq.w {B : Nat} {w : World} (u : aq B w) : World := u.1
theorem aq.below {B : Nat} {w : World} (u : aq B w) : Below B w u.w := u.2
theorem aq.cell {B : Nat} {w : World} (u : aq B w) {a : Addr} {v : Value} (ha : a.block < B) (h : w.cell? a = some v) : u.w.cell? a = some v := by rw [u.below.cell ha]; exact h
theorem aJ {P : Program} {B : Nat} {w : World} {f : FuncId} {args : Array Value} {v : Value} (u : aq B w) (hB : B <= w.heap.size) (h : Calls P f args u.w fun e w' => e = .returned v /\ Below u.w.heap.size u.w w') :
    Calls P f args u.w fun e w'' => e = .returned v /\ ∃ u' : aq B w, w'' = u'.w :=
  h.mono fun _ w'' ⟨he, hb⟩ => ⟨he, ⟨w'', u.below.trans (hb.mono (Nat.le_trans hB u.below.size))⟩, rfl⟩
theorem eV {P : Program} {id : Nat} {Q : Exit -> Act -> World -> Prop} {a : Act} {w : World} {l : List Oper} (B : Nat) (hm : P.follows .mixedOrders = true) (hB : Region.lexB .any l.toArray = true)
    (h : wpQuiet P l.toArray (fun w' => ∃ u : aq B w, w' = u.w) (fun a' => ∀ w', (∃ u : aq B w, w' = u.w) -> Q .normal a' w') l a) : (Code.region id l.toArray true).wp P Q a w :=
  wp_region_quiet (C := fun w' => ∃ u : aq B w, w' = u.w) hm hB ⟨⟨w.drew, (Below.refl _ _).drew⟩, rfl⟩ (by simpa using h)
theorem ce4 {C : Nat} {W0 : World} {b : Nat} {x0 x1 x2 x3 : Value} {y : List Value} (h : ∀ (u : aq C W0) (i : Nat) v, (x0 :: x1 :: x2 :: x3 :: y)[i]? = some v -> u.w.cell? ⟨b, i, none⟩ = some v) : (∀ u : aq C W0, u.w.cell? ⟨b, 0, none⟩ = some x0) /\ (∀ u : aq C W0, u.w.cell? ⟨b, 1, none⟩ = some x1) /\ (∀ u : aq C W0, u.w.cell? ⟨b, 2, none⟩ = some x2) /\ (∀ u : aq C W0, u.w.cell? ⟨b, 3, none⟩ = some x3) := ⟨fun u => h u 0 _ rfl, fun u => h u 1 _ rfl, fun u => h u 2 _ rfl, fun u => h u 3 _ rfl⟩
theorem ce5 {C : Nat} {W0 : World} {b : Nat} {x0 x1 x2 x3 x4 : Value} {y : List Value} (h : ∀ (u : aq C W0) (i : Nat) v, (x0 :: x1 :: x2 :: x3 :: x4 :: y)[i]? = some v -> u.w.cell? ⟨b, i, none⟩ = some v) : (∀ u : aq C W0, u.w.cell? ⟨b, 0, none⟩ = some x0) /\ (∀ u : aq C W0, u.w.cell? ⟨b, 1, none⟩ = some x1) /\ (∀ u : aq C W0, u.w.cell? ⟨b, 2, none⟩ = some x2) /\ (∀ u : aq C W0, u.w.cell? ⟨b, 3, none⟩ = some x3) /\ (∀ u : aq C W0, u.w.cell? ⟨b, 4, none⟩ = some x4) := ⟨fun u => h u 0 _ rfl, fun u => h u 1 _ rfl, fun u => h u 2 _ rfl, fun u => h u 3 _ rfl, fun u => h u 4 _ rfl⟩
theorem ce6 {C : Nat} {W0 : World} {b : Nat} {x0 x1 x2 x3 x4 x5 : Value} {y : List Value} (h : ∀ (u : aq C W0) (i : Nat) v, (x0 :: x1 :: x2 :: x3 :: x4 :: x5 :: y)[i]? = some v -> u.w.cell? ⟨b, i, none⟩ = some v) : (∀ u : aq C W0, u.w.cell? ⟨b, 0, none⟩ = some x0) /\ (∀ u : aq C W0, u.w.cell? ⟨b, 1, none⟩ = some x1) /\ (∀ u : aq C W0, u.w.cell? ⟨b, 2, none⟩ = some x2) /\ (∀ u : aq C W0, u.w.cell? ⟨b, 3, none⟩ = some x3) /\ (∀ u : aq C W0, u.w.cell? ⟨b, 4, none⟩ = some x4) /\ (∀ u : aq C W0, u.w.cell? ⟨b, 5, none⟩ = some x5) := ⟨fun u => h u 0 _ rfl, fun u => h u 1 _ rfl, fun u => h u 2 _ rfl, fun u => h u 3 _ rfl, fun u => h u 4 _ rfl, fun u => h u 5 _ rfl⟩
theorem ce10 {C : Nat} {W0 : World} {b : Nat} {x0 x1 x2 x3 x4 x5 x6 x7 x8 x9 : Value} {y : List Value} (h : ∀ (u : aq C W0) (i : Nat) v, (x0 :: x1 :: x2 :: x3 :: x4 :: x5 :: x6 :: x7 :: x8 :: x9 :: y)[i]? = some v -> u.w.cell? ⟨b, i, none⟩ = some v) : (∀ u : aq C W0, u.w.cell? ⟨b, 0, none⟩ = some x0) /\ (∀ u : aq C W0, u.w.cell? ⟨b, 1, none⟩ = some x1) /\ (∀ u : aq C W0, u.w.cell? ⟨b, 2, none⟩ = some x2) /\ (∀ u : aq C W0, u.w.cell? ⟨b, 3, none⟩ = some x3) /\ (∀ u : aq C W0, u.w.cell? ⟨b, 4, none⟩ = some x4) /\ (∀ u : aq C W0, u.w.cell? ⟨b, 5, none⟩ = some x5) /\ (∀ u : aq C W0, u.w.cell? ⟨b, 6, none⟩ = some x6) /\ (∀ u : aq C W0, u.w.cell? ⟨b, 7, none⟩ = some x7) /\ (∀ u : aq C W0, u.w.cell? ⟨b, 8, none⟩ = some x8) /\ (∀ u : aq C W0, u.w.cell? ⟨b, 9, none⟩ = some x9) := ⟨fun u => h u 0 _ rfl, fun u => h u 1 _ rfl, fun u => h u 2 _ rfl, fun u => h u 3 _ rfl, fun u => h u 4 _ rfl, fun u => h u 5 _ rfl, fun u => h u 6 _ rfl, fun u => h u 7 _ rfl, fun u => h u 8 _ rfl, fun u => h u 9 _ rfl⟩
theorem ce11 {C : Nat} {W0 : World} {b : Nat} {x0 x1 x2 x3 x4 x5 x6 x7 x8 x9 x10 : Value} {y : List Value} (h : ∀ (u : aq C W0) (i : Nat) v, (x0 :: x1 :: x2 :: x3 :: x4 :: x5 :: x6 :: x7 :: x8 :: x9 :: x10 :: y)[i]? = some v -> u.w.cell? ⟨b, i, none⟩ = some v) : (∀ u : aq C W0, u.w.cell? ⟨b, 0, none⟩ = some x0) /\ (∀ u : aq C W0, u.w.cell? ⟨b, 1, none⟩ = some x1) /\ (∀ u : aq C W0, u.w.cell? ⟨b, 2, none⟩ = some x2) /\ (∀ u : aq C W0, u.w.cell? ⟨b, 3, none⟩ = some x3) /\ (∀ u : aq C W0, u.w.cell? ⟨b, 4, none⟩ = some x4) /\ (∀ u : aq C W0, u.w.cell? ⟨b, 5, none⟩ = some x5) /\ (∀ u : aq C W0, u.w.cell? ⟨b, 6, none⟩ = some x6) /\ (∀ u : aq C W0, u.w.cell? ⟨b, 7, none⟩ = some x7) /\ (∀ u : aq C W0, u.w.cell? ⟨b, 8, none⟩ = some x8) /\ (∀ u : aq C W0, u.w.cell? ⟨b, 9, none⟩ = some x9) /\ (∀ u : aq C W0, u.w.cell? ⟨b, 10, none⟩ = some x10) := ⟨fun u => h u 0 _ rfl, fun u => h u 1 _ rfl, fun u => h u 2 _ rfl, fun u => h u 3 _ rfl, fun u => h u 4 _ rfl, fun u => h u 5 _ rfl, fun u => h u 6 _ rfl, fun u => h u 7 _ rfl, fun u => h u 8 _ rfl, fun u => h u 9 _ rfl, fun u => h u 10 _ rfl⟩
theorem ce13 {C : Nat} {W0 : World} {b : Nat} {x0 x1 x2 x3 x4 x5 x6 x7 x8 x9 x10 x11 x12 : Value} {y : List Value} (h : ∀ (u : aq C W0) (i : Nat) v, (x0 :: x1 :: x2 :: x3 :: x4 :: x5 :: x6 :: x7 :: x8 :: x9 :: x10 :: x11 :: x12 :: y)[i]? = some v -> u.w.cell? ⟨b, i, none⟩ = some v) : (∀ u : aq C W0, u.w.cell? ⟨b, 0, none⟩ = some x0) /\ (∀ u : aq C W0, u.w.cell? ⟨b, 1, none⟩ = some x1) /\ (∀ u : aq C W0, u.w.cell? ⟨b, 2, none⟩ = some x2) /\ (∀ u : aq C W0, u.w.cell? ⟨b, 3, none⟩ = some x3) /\ (∀ u : aq C W0, u.w.cell? ⟨b, 4, none⟩ = some x4) /\ (∀ u : aq C W0, u.w.cell? ⟨b, 5, none⟩ = some x5) /\ (∀ u : aq C W0, u.w.cell? ⟨b, 6, none⟩ = some x6) /\ (∀ u : aq C W0, u.w.cell? ⟨b, 7, none⟩ = some x7) /\ (∀ u : aq C W0, u.w.cell? ⟨b, 8, none⟩ = some x8) /\ (∀ u : aq C W0, u.w.cell? ⟨b, 9, none⟩ = some x9) /\ (∀ u : aq C W0, u.w.cell? ⟨b, 10, none⟩ = some x10) /\ (∀ u : aq C W0, u.w.cell? ⟨b, 11, none⟩ = some x11) /\ (∀ u : aq C W0, u.w.cell? ⟨b, 12, none⟩ = some x12) := ⟨fun u => h u 0 _ rfl, fun u => h u 1 _ rfl, fun u => h u 2 _ rfl, fun u => h u 3 _ rfl, fun u => h u 4 _ rfl, fun u => h u 5 _ rfl, fun u => h u 6 _ rfl, fun u => h u 7 _ rfl, fun u => h u 8 _ rfl, fun u => h u 9 _ rfl, fun u => h u 10 _ rfl, fun u => h u 11 _ rfl, fun u => h u 12 _ rfl⟩
theorem ce14 {C : Nat} {W0 : World} {b : Nat} {x0 x1 x2 x3 x4 x5 x6 x7 x8 x9 x10 x11 x12 x13 : Value} {y : List Value} (h : ∀ (u : aq C W0) (i : Nat) v, (x0 :: x1 :: x2 :: x3 :: x4 :: x5 :: x6 :: x7 :: x8 :: x9 :: x10 :: x11 :: x12 :: x13 :: y)[i]? = some v -> u.w.cell? ⟨b, i, none⟩ = some v) : (∀ u : aq C W0, u.w.cell? ⟨b, 0, none⟩ = some x0) /\ (∀ u : aq C W0, u.w.cell? ⟨b, 1, none⟩ = some x1) /\ (∀ u : aq C W0, u.w.cell? ⟨b, 2, none⟩ = some x2) /\ (∀ u : aq C W0, u.w.cell? ⟨b, 3, none⟩ = some x3) /\ (∀ u : aq C W0, u.w.cell? ⟨b, 4, none⟩ = some x4) /\ (∀ u : aq C W0, u.w.cell? ⟨b, 5, none⟩ = some x5) /\ (∀ u : aq C W0, u.w.cell? ⟨b, 6, none⟩ = some x6) /\ (∀ u : aq C W0, u.w.cell? ⟨b, 7, none⟩ = some x7) /\ (∀ u : aq C W0, u.w.cell? ⟨b, 8, none⟩ = some x8) /\ (∀ u : aq C W0, u.w.cell? ⟨b, 9, none⟩ = some x9) /\ (∀ u : aq C W0, u.w.cell? ⟨b, 10, none⟩ = some x10) /\ (∀ u : aq C W0, u.w.cell? ⟨b, 11, none⟩ = some x11) /\ (∀ u : aq C W0, u.w.cell? ⟨b, 12, none⟩ = some x12) /\ (∀ u : aq C W0, u.w.cell? ⟨b, 13, none⟩ = some x13) := ⟨fun u => h u 0 _ rfl, fun u => h u 1 _ rfl, fun u => h u 2 _ rfl, fun u => h u 3 _ rfl, fun u => h u 4 _ rfl, fun u => h u 5 _ rfl, fun u => h u 6 _ rfl, fun u => h u 7 _ rfl, fun u => h u 8 _ rfl, fun u => h u 9 _ rfl, fun u => h u 10 _ rfl, fun u => h u 11 _ rfl, fun u => h u 12 _ rfl, fun u => h u 13 _ rfl⟩
theorem ce22 {C : Nat} {W0 : World} {b : Nat} {x0 x1 x2 x3 x4 x5 x6 x7 x8 x9 x10 x11 x12 x13 x14 x15 x16 x17 x18 x19 x20 x21 : Value} {y : List Value} (h : ∀ (u : aq C W0) (i : Nat) v, (x0 :: x1 :: x2 :: x3 :: x4 :: x5 :: x6 :: x7 :: x8 :: x9 :: x10 :: x11 :: x12 :: x13 :: x14 :: x15 :: x16 :: x17 :: x18 :: x19 :: x20 :: x21 :: y)[i]? = some v -> u.w.cell? ⟨b, i, none⟩ = some v) : (∀ u : aq C W0, u.w.cell? ⟨b, 0, none⟩ = some x0) /\ (∀ u : aq C W0, u.w.cell? ⟨b, 1, none⟩ = some x1) /\ (∀ u : aq C W0, u.w.cell? ⟨b, 2, none⟩ = some x2) /\ (∀ u : aq C W0, u.w.cell? ⟨b, 3, none⟩ = some x3) /\ (∀ u : aq C W0, u.w.cell? ⟨b, 4, none⟩ = some x4) /\ (∀ u : aq C W0, u.w.cell? ⟨b, 5, none⟩ = some x5) /\ (∀ u : aq C W0, u.w.cell? ⟨b, 6, none⟩ = some x6) /\ (∀ u : aq C W0, u.w.cell? ⟨b, 7, none⟩ = some x7) /\ (∀ u : aq C W0, u.w.cell? ⟨b, 8, none⟩ = some x8) /\ (∀ u : aq C W0, u.w.cell? ⟨b, 9, none⟩ = some x9) /\ (∀ u : aq C W0, u.w.cell? ⟨b, 10, none⟩ = some x10) /\ (∀ u : aq C W0, u.w.cell? ⟨b, 11, none⟩ = some x11) /\ (∀ u : aq C W0, u.w.cell? ⟨b, 12, none⟩ = some x12) /\ (∀ u : aq C W0, u.w.cell? ⟨b, 13, none⟩ = some x13) /\ (∀ u : aq C W0, u.w.cell? ⟨b, 14, none⟩ = some x14) /\ (∀ u : aq C W0, u.w.cell? ⟨b, 15, none⟩ = some x15) /\ (∀ u : aq C W0, u.w.cell? ⟨b, 16, none⟩ = some x16) /\ (∀ u : aq C W0, u.w.cell? ⟨b, 17, none⟩ = some x17) /\ (∀ u : aq C W0, u.w.cell? ⟨b, 18, none⟩ = some x18) /\ (∀ u : aq C W0, u.w.cell? ⟨b, 19, none⟩ = some x19) /\ (∀ u : aq C W0, u.w.cell? ⟨b, 20, none⟩ = some x20) /\ (∀ u : aq C W0, u.w.cell? ⟨b, 21, none⟩ = some x21) := ⟨fun u => h u 0 _ rfl, fun u => h u 1 _ rfl, fun u => h u 2 _ rfl, fun u => h u 3 _ rfl, fun u => h u 4 _ rfl, fun u => h u 5 _ rfl, fun u => h u 6 _ rfl, fun u => h u 7 _ rfl, fun u => h u 8 _ rfl, fun u => h u 9 _ rfl, fun u => h u 10 _ rfl, fun u => h u 11 _ rfl, fun u => h u 12 _ rfl, fun u => h u 13 _ rfl, fun u => h u 14 _ rfl, fun u => h u 15 _ rfl, fun u => h u 16 _ rfl, fun u => h u 17 _ rfl, fun u => h u 18 _ rfl, fun u => h u 19 _ rfl, fun u => h u 20 _ rfl, fun u => h u 21 _ rfl⟩
theorem cf3 {C : Nat} {W0 : World} {b o : Nat} {x0 x1 x2 x3 : Value} {y : List Value} (h : ∀ (u : aq C W0) (i : Nat) v, (x0 :: x1 :: x2 :: x3 :: y)[i]? = some v -> u.w.cell? ⟨b, o + i, none⟩ = some v) : (∀ u : aq C W0, u.w.cell? ⟨b, o + 1, none⟩ = some x1) /\ (∀ u : aq C W0, u.w.cell? ⟨b, o + 2, none⟩ = some x2) /\ (∀ u : aq C W0, u.w.cell? ⟨b, o + 3, none⟩ = some x3) := ⟨fun u => h u 1 _ rfl, fun u => h u 2 _ rfl, fun u => h u 3 _ rfl⟩
theorem cf4 {C : Nat} {W0 : World} {b o : Nat} {x0 x1 x2 x3 x4 : Value} {y : List Value} (h : ∀ (u : aq C W0) (i : Nat) v, (x0 :: x1 :: x2 :: x3 :: x4 :: y)[i]? = some v -> u.w.cell? ⟨b, o + i, none⟩ = some v) : (∀ u : aq C W0, u.w.cell? ⟨b, o + 1, none⟩ = some x1) /\ (∀ u : aq C W0, u.w.cell? ⟨b, o + 2, none⟩ = some x2) /\ (∀ u : aq C W0, u.w.cell? ⟨b, o + 3, none⟩ = some x3) /\ (∀ u : aq C W0, u.w.cell? ⟨b, o + 4, none⟩ = some x4) := ⟨fun u => h u 1 _ rfl, fun u => h u 2 _ rfl, fun u => h u 3 _ rfl, fun u => h u 4 _ rfl⟩
theorem cf9 {C : Nat} {W0 : World} {b o : Nat} {x0 x1 x2 x3 x4 x5 x6 x7 x8 x9 : Value} {y : List Value} (h : ∀ (u : aq C W0) (i : Nat) v, (x0 :: x1 :: x2 :: x3 :: x4 :: x5 :: x6 :: x7 :: x8 :: x9 :: y)[i]? = some v -> u.w.cell? ⟨b, o + i, none⟩ = some v) : (∀ u : aq C W0, u.w.cell? ⟨b, o + 1, none⟩ = some x1) /\ (∀ u : aq C W0, u.w.cell? ⟨b, o + 2, none⟩ = some x2) /\ (∀ u : aq C W0, u.w.cell? ⟨b, o + 3, none⟩ = some x3) /\ (∀ u : aq C W0, u.w.cell? ⟨b, o + 4, none⟩ = some x4) /\ (∀ u : aq C W0, u.w.cell? ⟨b, o + 5, none⟩ = some x5) /\ (∀ u : aq C W0, u.w.cell? ⟨b, o + 6, none⟩ = some x6) /\ (∀ u : aq C W0, u.w.cell? ⟨b, o + 7, none⟩ = some x7) /\ (∀ u : aq C W0, u.w.cell? ⟨b, o + 8, none⟩ = some x8) /\ (∀ u : aq C W0, u.w.cell? ⟨b, o + 9, none⟩ = some x9) := ⟨fun u => h u 1 _ rfl, fun u => h u 2 _ rfl, fun u => h u 3 _ rfl, fun u => h u 4 _ rfl, fun u => h u 5 _ rfl, fun u => h u 6 _ rfl, fun u => h u 7 _ rfl, fun u => h u 8 _ rfl, fun u => h u 9 _ rfl⟩
theorem cx4 {C : Nat} {W0 : World} {b : Nat} {x0 x1 x2 x3 : Value} {y : List Value} (h : ∀ (u : aq C W0) (i : Nat) v, (x0 :: x1 :: x2 :: x3 :: y)[i]? = some v -> u.w.cell? ⟨b, i, none⟩ = some v) (u : aq C W0) : u.w.cell? ⟨b, 0, none⟩ = some x0 /\ u.w.cell? ⟨b, 1, none⟩ = some x1 /\ u.w.cell? ⟨b, 2, none⟩ = some x2 /\ u.w.cell? ⟨b, 3, none⟩ = some x3 := ⟨h u 0 _ rfl, h u 1 _ rfl, h u 2 _ rfl, h u 3 _ rfl⟩
theorem cx5 {C : Nat} {W0 : World} {b : Nat} {x0 x1 x2 x3 x4 : Value} {y : List Value} (h : ∀ (u : aq C W0) (i : Nat) v, (x0 :: x1 :: x2 :: x3 :: x4 :: y)[i]? = some v -> u.w.cell? ⟨b, i, none⟩ = some v) (u : aq C W0) : u.w.cell? ⟨b, 0, none⟩ = some x0 /\ u.w.cell? ⟨b, 1, none⟩ = some x1 /\ u.w.cell? ⟨b, 2, none⟩ = some x2 /\ u.w.cell? ⟨b, 3, none⟩ = some x3 /\ u.w.cell? ⟨b, 4, none⟩ = some x4 := ⟨h u 0 _ rfl, h u 1 _ rfl, h u 2 _ rfl, h u 3 _ rfl, h u 4 _ rfl⟩
theorem cx6 {C : Nat} {W0 : World} {b : Nat} {x0 x1 x2 x3 x4 x5 : Value} {y : List Value} (h : ∀ (u : aq C W0) (i : Nat) v, (x0 :: x1 :: x2 :: x3 :: x4 :: x5 :: y)[i]? = some v -> u.w.cell? ⟨b, i, none⟩ = some v) (u : aq C W0) : u.w.cell? ⟨b, 0, none⟩ = some x0 /\ u.w.cell? ⟨b, 1, none⟩ = some x1 /\ u.w.cell? ⟨b, 2, none⟩ = some x2 /\ u.w.cell? ⟨b, 3, none⟩ = some x3 /\ u.w.cell? ⟨b, 4, none⟩ = some x4 /\ u.w.cell? ⟨b, 5, none⟩ = some x5 := ⟨h u 0 _ rfl, h u 1 _ rfl, h u 2 _ rfl, h u 3 _ rfl, h u 4 _ rfl, h u 5 _ rfl⟩
theorem cx10 {C : Nat} {W0 : World} {b : Nat} {x0 x1 x2 x3 x4 x5 x6 x7 x8 x9 : Value} {y : List Value} (h : ∀ (u : aq C W0) (i : Nat) v, (x0 :: x1 :: x2 :: x3 :: x4 :: x5 :: x6 :: x7 :: x8 :: x9 :: y)[i]? = some v -> u.w.cell? ⟨b, i, none⟩ = some v) (u : aq C W0) : u.w.cell? ⟨b, 0, none⟩ = some x0 /\ u.w.cell? ⟨b, 1, none⟩ = some x1 /\ u.w.cell? ⟨b, 2, none⟩ = some x2 /\ u.w.cell? ⟨b, 3, none⟩ = some x3 /\ u.w.cell? ⟨b, 4, none⟩ = some x4 /\ u.w.cell? ⟨b, 5, none⟩ = some x5 /\ u.w.cell? ⟨b, 6, none⟩ = some x6 /\ u.w.cell? ⟨b, 7, none⟩ = some x7 /\ u.w.cell? ⟨b, 8, none⟩ = some x8 /\ u.w.cell? ⟨b, 9, none⟩ = some x9 := ⟨h u 0 _ rfl, h u 1 _ rfl, h u 2 _ rfl, h u 3 _ rfl, h u 4 _ rfl, h u 5 _ rfl, h u 6 _ rfl, h u 7 _ rfl, h u 8 _ rfl, h u 9 _ rfl⟩
theorem cx11 {C : Nat} {W0 : World} {b : Nat} {x0 x1 x2 x3 x4 x5 x6 x7 x8 x9 x10 : Value} {y : List Value} (h : ∀ (u : aq C W0) (i : Nat) v, (x0 :: x1 :: x2 :: x3 :: x4 :: x5 :: x6 :: x7 :: x8 :: x9 :: x10 :: y)[i]? = some v -> u.w.cell? ⟨b, i, none⟩ = some v) (u : aq C W0) : u.w.cell? ⟨b, 0, none⟩ = some x0 /\ u.w.cell? ⟨b, 1, none⟩ = some x1 /\ u.w.cell? ⟨b, 2, none⟩ = some x2 /\ u.w.cell? ⟨b, 3, none⟩ = some x3 /\ u.w.cell? ⟨b, 4, none⟩ = some x4 /\ u.w.cell? ⟨b, 5, none⟩ = some x5 /\ u.w.cell? ⟨b, 6, none⟩ = some x6 /\ u.w.cell? ⟨b, 7, none⟩ = some x7 /\ u.w.cell? ⟨b, 8, none⟩ = some x8 /\ u.w.cell? ⟨b, 9, none⟩ = some x9 /\ u.w.cell? ⟨b, 10, none⟩ = some x10 := ⟨h u 0 _ rfl, h u 1 _ rfl, h u 2 _ rfl, h u 3 _ rfl, h u 4 _ rfl, h u 5 _ rfl, h u 6 _ rfl, h u 7 _ rfl, h u 8 _ rfl, h u 9 _ rfl, h u 10 _ rfl⟩
theorem cx13 {C : Nat} {W0 : World} {b : Nat} {x0 x1 x2 x3 x4 x5 x6 x7 x8 x9 x10 x11 x12 : Value} {y : List Value} (h : ∀ (u : aq C W0) (i : Nat) v, (x0 :: x1 :: x2 :: x3 :: x4 :: x5 :: x6 :: x7 :: x8 :: x9 :: x10 :: x11 :: x12 :: y)[i]? = some v -> u.w.cell? ⟨b, i, none⟩ = some v) (u : aq C W0) : u.w.cell? ⟨b, 0, none⟩ = some x0 /\ u.w.cell? ⟨b, 1, none⟩ = some x1 /\ u.w.cell? ⟨b, 2, none⟩ = some x2 /\ u.w.cell? ⟨b, 3, none⟩ = some x3 /\ u.w.cell? ⟨b, 4, none⟩ = some x4 /\ u.w.cell? ⟨b, 5, none⟩ = some x5 /\ u.w.cell? ⟨b, 6, none⟩ = some x6 /\ u.w.cell? ⟨b, 7, none⟩ = some x7 /\ u.w.cell? ⟨b, 8, none⟩ = some x8 /\ u.w.cell? ⟨b, 9, none⟩ = some x9 /\ u.w.cell? ⟨b, 10, none⟩ = some x10 /\ u.w.cell? ⟨b, 11, none⟩ = some x11 /\ u.w.cell? ⟨b, 12, none⟩ = some x12 := ⟨h u 0 _ rfl, h u 1 _ rfl, h u 2 _ rfl, h u 3 _ rfl, h u 4 _ rfl, h u 5 _ rfl, h u 6 _ rfl, h u 7 _ rfl, h u 8 _ rfl, h u 9 _ rfl, h u 10 _ rfl, h u 11 _ rfl, h u 12 _ rfl⟩
theorem cx14 {C : Nat} {W0 : World} {b : Nat} {x0 x1 x2 x3 x4 x5 x6 x7 x8 x9 x10 x11 x12 x13 : Value} {y : List Value} (h : ∀ (u : aq C W0) (i : Nat) v, (x0 :: x1 :: x2 :: x3 :: x4 :: x5 :: x6 :: x7 :: x8 :: x9 :: x10 :: x11 :: x12 :: x13 :: y)[i]? = some v -> u.w.cell? ⟨b, i, none⟩ = some v) (u : aq C W0) : u.w.cell? ⟨b, 0, none⟩ = some x0 /\ u.w.cell? ⟨b, 1, none⟩ = some x1 /\ u.w.cell? ⟨b, 2, none⟩ = some x2 /\ u.w.cell? ⟨b, 3, none⟩ = some x3 /\ u.w.cell? ⟨b, 4, none⟩ = some x4 /\ u.w.cell? ⟨b, 5, none⟩ = some x5 /\ u.w.cell? ⟨b, 6, none⟩ = some x6 /\ u.w.cell? ⟨b, 7, none⟩ = some x7 /\ u.w.cell? ⟨b, 8, none⟩ = some x8 /\ u.w.cell? ⟨b, 9, none⟩ = some x9 /\ u.w.cell? ⟨b, 10, none⟩ = some x10 /\ u.w.cell? ⟨b, 11, none⟩ = some x11 /\ u.w.cell? ⟨b, 12, none⟩ = some x12 /\ u.w.cell? ⟨b, 13, none⟩ = some x13 := ⟨h u 0 _ rfl, h u 1 _ rfl, h u 2 _ rfl, h u 3 _ rfl, h u 4 _ rfl, h u 5 _ rfl, h u 6 _ rfl, h u 7 _ rfl, h u 8 _ rfl, h u 9 _ rfl, h u 10 _ rfl, h u 11 _ rfl, h u 12 _ rfl, h u 13 _ rfl⟩
end Go.Proofs.YteljlahcdipilaaGreat
namespace Go.Proofs.YteljlahcdipilaaGreat
open Go.Shelf Go.Proofs Go.RowKit Go.Lib
def oG : Go.Shelf.Ren := ⟨fun | 144 => 43 | 143 => 76 | 219 => 94 | 217 => 107 | 225 => 108 | 224 => 109 | 267 => 110 | 266 => 126 | 314 => 127 | n => n, fun | 9 => 9 | 4 => 4 | 3 => 3 | 5 => 5 | 46 => 160 | 146 => 181 | 51 => 180 | n => n, fun | 1 => 0 | n => n⟩
theorem rU : Go.Proofs.Lays.n144 Tryz.prog oG := {
  mixed := by kernel_rfl
  f143 := Tryz.func76.trans (congrArg some (by kernel_rfl))
  f144 := Tryz.func43.trans (congrArg some (by kernel_rfl))
  f217 := Tryz.func107.trans (congrArg some (by kernel_rfl))
  f219 := Tryz.func94.trans (congrArg some (by kernel_rfl))
  f224 := Tryz.func109.trans (congrArg some (by kernel_rfl))
  f225 := Tryz.func108.trans (congrArg some (by kernel_rfl))
  f266 := Tryz.func126.trans (congrArg some (by kernel_rfl))
  f267 := Tryz.func110.trans (congrArg some (by kernel_rfl))
  f314 := Tryz.func127.trans (congrArg some (by kernel_rfl))
  t3 := Tryz.underlying3
  a3 := Tryz.isAgg3
  z3 := Tryz.sizeOf3
  v3 := Tryz.zeroValue3
  t4 := Tryz.underlying4
  a4 := Tryz.isAgg4
  z4 := Tryz.sizeOf4
  v4 := Tryz.zeroValue4
  t5 := Tryz.underlying5
  a5 := Tryz.isAgg5
  z5 := Tryz.sizeOf5
  v5 := Tryz.zeroValue5
  t9 := Tryz.underlying9
  a9 := Tryz.isAgg9
  z9 := Tryz.sizeOf9
  v9 := Tryz.zeroValue9
  t46 := Tryz.underlying160
  a46 := Tryz.isAgg160
  z46 := Tryz.sizeOf160
  v46 := Tryz.zeroValue160
  t51 := Tryz.underlying180
  a51 := Tryz.isAgg180
  z51 := Tryz.sizeOf180
  v51 := Tryz.zeroValue180
  t146 := Tryz.underlying181
  a146 := Tryz.isAgg181
  z146 := Tryz.sizeOf181
  v146 := Tryz.zeroValue181
  g1 := by kernel_rfl }
theorem strings_Contains_one (s : ByteArray) (c : UInt8) (w : World) :
    Calls Tryz.prog 43 #[.string s, .string ⟨#[c]⟩] w fun e w' => e = .returned (.bool (decide (0 <= Lib.indexByte s.data.toList c))) /\ w' = w := Any.strings_Contains_one rU s c w
theorem strings_Contains (s sub : ByteArray) (m : Int) (w : World) (hs : s.size < 4294967281) (hm : w.cell? ⟨0, 0, none⟩ = some (.int .i64 m)) :
    Calls Tryz.prog 43 #[.string s, .string sub] w fun e w' => e = .returned (.bool (Lib.contains s.data.toList sub.data.toList)) /\ w' = w := Any.strings_Contains rU s sub m w hs hm
end Go.Proofs.YteljlahcdipilaaGreat
namespace Go.Proofs.YteljlahcdipilaaGreat
open Go.RowKit
mutual
def dV : Vt -> Vt -> Bool
  | .mk k b i s l ks, .mk k' b' i' s' l' ks' => decide (k = k') && decide (b = b') && decide (i = i') && decide (s = s') && decide (ks = ks') && dl l l'
def dl : List Vt -> List Vt -> Bool
  | [], [] => true
  | t :: ts, u :: us => dV t u && dl ts us
  | [], _ :: _ => false
  | _ :: _, [] => false
end
theorem kF {l m : List Vt} (h : l.length ≠ m.length) : dl l m = false := by
 induction l generalizing m with
 | nil => cases m with
  | nil => exact absurd rfl h
  | cons u us => rfl
 | cons t ts ih => cases m with
  | nil => rfl
  | cons u us => simp only [dl, ih (m := us) (fun e => h (by simp [e])), Bool.and_false]
theorem mh {l m : List Vt} : ∀ {j : Nat} {t u : Vt}, l[j]? = some t -> m[j]? = some u -> dl (l.drop j) (m.drop j) = (dV t u && dl (l.drop (j + 1)) (m.drop (j + 1))) := by
 intro j t u h k;obtain ⟨h1, h2⟩ := List.getElem?_eq_some_iff.1 h;obtain ⟨k1, k2⟩ := List.getElem?_eq_some_iff.1 k;rw [List.drop_eq_getElem_cons h1, List.drop_eq_getElem_cons k1, h2, k2];simp only [dl]
theorem jz (x y : ByteArray) : (x.toList == y.toList) = decide (x = y) := by
 rw [gZ, gZ, Bool.eq_iff_iff, beq_iff_eq, decide_eq_true_eq];constructor
 ·intro h; apply ByteArray.ext; exact Array.ext' h
 ·rintro rfl; rfl
theorem co.get {B : Nat} {w : World} {a : Option Addr} {ks : List ByteArray} (h : co B w a ks) {j : Nat} {x : ByteArray} (hx : ks[j]? = some x) : ∃ b off, a = some ⟨b, off, none⟩ /\ b < B /\ w.cell? ⟨b, off + j, none⟩ = some (.string x) := by
 rcases h with h0 | ⟨b, off, h1, h2, h3⟩
 ·rw [List.map_eq_nil_iff] at h0; rw [h0] at hx; simp at hx
 ·exact ⟨b, off, h1, h2, h3 j _ (by rw [List.getElem?_map, hx]; rfl)⟩
theorem Sq793451 {P : Prop} (h : P := by
 have HK := aa hk;have HM := aa hm;clear hk hm;obtain ⟨R, hR⟩ := nam (decide (ks = ms));have HR := aa hR;rw [hR];clear hR
 by_cases hn : ks.length = ms.length
 rotate_left
 ·have hnb : ((ks.length : Int) != (ms.length : Int)) = true := by simp; omega
  have HN : Hid (R = false) := aa (by rw [<- HR.out]; exact decide_eq_false (fun e => hn (by rw [e])))
  first
  | (guard_hyp z793451a; go_enter Tryz.func124, Tryz.ntmps124)
  | (go_enter Tryz.func52, Tryz.ntmps52)
  go_wp2_with fail;go_ret;exact ⟨by rw [HN.out]; rfl, Below.refl _ _⟩
 have hnb : ((ks.length : Int) != (ms.length : Int)) = false := by simp; omega
 have HNL := aa hn;clear hn
 first
 | (guard_hyp z793451a; go_enter Tryz.func124, Tryz.ntmps124)
 | (go_enter Tryz.func52, Tryz.ntmps52)
 go_wp2_with fail
 first
 | (guard_hyp z793451a; go_loopw [13] (fun iv wr => ∃ j : Nat, iv = .int .i64 j /\ j <= ks.length /\ Below w.heap.size w wr /\ Hid (ks.take j = ms.take j)) (fun iv _ => ks.length - (intOf iv).toNat))
 | (go_loopw [5] (fun iv wr => ∃ j : Nat, iv = .int .i64 j /\ j <= ks.length /\ Below w.heap.size w wr /\ Hid (ks.take j = ms.take j)) (fun iv _ => ks.length - (intOf iv).toNat))
 case atStart => exact ⟨0, rfl, Nat.zero_le _, Below.refl _ _, aa rfl⟩
 case round =>
  obtain ⟨j, rfl, hj, hbr, ht⟩ := hrel;have HBR := aa hbr;clear hbr
  by_cases hlt : j < ks.length
  ·have hlt' : (j : Int) < ks.length := by omega
   have hlm : j < ms.length := by have := HNL.out; omega
   have hlm' : (j : Int) < ms.length := by omega
   have p0 : (0 : Int) <= (j : Int) := by omega
   obtain ⟨x, hx⟩ := aB hlt;obtain ⟨y, hy⟩ := aB hlm;obtain ⟨kb, ko, rfl, _, g1⟩ := co.get (HK.out.below HBR.out hB) hx;obtain ⟨mb, mo, rfl, _, g2⟩ := co.get (HM.out.below HBR.out hB) hy;have HX := aa hx;have HY := aa hy;clear hx hy;have hbe := jz x y
   by_cases he : x = y
   ·have hbt : (x.toList == y.toList) = true := by rw [hbe]; exact decide_eq_true he
    have HU : Hid (ks.take (j + 1) = ms.take (j + 1)) := aa (by rw [dd HX.out, dd HY.out, ht.out, he]);clear hbe he;go_wp2_with fail
    go_quiet (fail)
    go_wp2_with fail;go_roundw;case rel => exact ⟨j + 1, by go_num, by omega, aH HBR.out _, HU⟩
    case measure => simp [intOf]; omega
   ·have hbt : (x.toList == y.toList) = false := by rw [hbe]; exact decide_eq_false he
    have HN : Hid (R = false) := aa (by rw [<- HR.out]; exact decide_eq_false (fun e => he (by have h1 := HX.out; rw [e, HY.out] at h1; exact (Option.some.inj h1).symm)));clear hbe he;go_wp2_with fail
    go_quiet (fail)
    go_wp2_with fail;go_ret;exact ⟨by rw [HN.out]; rfl, aH HBR.out _⟩
  ·have hlt' : ¬ (j : Int) < ks.length := by omega
   have HN : Hid (R = true) := aa (by
    rw [<- HR.out];have h1 := ht.out;rw [List.take_of_length_le (by omega), List.take_of_length_le (by have := HNL.out; omega)] at h1;exact decide_eq_true h1)
   go_wp2_with fail;go_ret;exact ⟨by rw [HN.out]; rfl, HBR.out⟩) : P := h
theorem du (ks ms : List ByteArray) (ka ma : Option Addr) (kc mc : Nat) (B : Nat) (w : World) (hk : co B w ka ks) (hm : co B w ma ms) (hB : B <= w.heap.size) (hkl : ks.length <= 9223372036854775807) (hml : ms.length <= 9223372036854775807) :
    Calls Tryz.prog 52 #[.slice ka ks.length kc, .slice ma ms.length mc] w fun e w' => e = .returned (.bool (decide (ks = ms))) /\ Below w.heap.size w w' := Sq793451
def kG (a : Vt) : Prop := ∀ (b : Vt) (cs ds : List Value) (B : Nat) (w : World), dR B w cs a -> dR B w ds b -> B <= w.heap.size ->
    Calls Tryz.prog 89 #[.agg cs.toArray, .agg ds.toArray] w fun e w' => e = .returned (.bool (dV a b)) /\ Below w.heap.size w w'
theorem nt (l m : List Vt) (ih : ∀ (j : Nat) t, l[j]? = some t -> kG t) (la ma : Option Addr) (lc mc : Nat) (B : Nat) (w : World) (hl : eN B w la 0 l) (hm : eN B w ma 0 m) (hB : B <= w.heap.size) (hll : l.length <= 9223372036854775807) (hml : m.length <= 9223372036854775807) :
    Calls Tryz.prog 104 #[.slice la l.length lc, .slice ma m.length mc] w fun e w' => e = .returned (.bool (dl l m)) /\ Below w.heap.size w w' := by
 have HL := aa hl;have HM := aa hm;have IH := aa ih;clear hl hm ih;obtain ⟨R, hR⟩ := nam (dl l m);have HR := aa hR;rw [hR];clear hR
 by_cases hn : l.length = m.length
 rotate_left
 ·have hnb : ((l.length : Int) != (m.length : Int)) = true := by simp; omega
  have HN : Hid (R = false) := aa (by rw [<- HR.out]; exact kF hn);go_enter Tryz.func104, Tryz.ntmps104;go_wp2_with fail;go_ret;exact ⟨by rw [HN.out]; rfl, Below.refl _ _⟩
 have hnb : ((l.length : Int) != (m.length : Int)) = false := by simp; omega
 have HNL := aa hn;clear hn;go_enter Tryz.func104, Tryz.ntmps104;go_wp2_with fail
 go_loopw [5] (fun iv wr => ∃ j : Nat, iv = .int .i64 j /\ j <= l.length /\ Below w.heap.size w wr /\ Hid (R = dl (l.drop j) (m.drop j))) (fun iv _ => l.length - (intOf iv).toNat)
 case atStart => exact ⟨0, rfl, Nat.zero_le _, Below.refl _ _, aa HR.out.symm⟩
 case round =>
  obtain ⟨j, rfl, hj, hbr, ht⟩ := hrel;have HBR := aa hbr;clear hbr
  by_cases hlt : j < l.length
  ·have hlt' : (j : Int) < l.length := by omega
   have hlm : j < m.length := by have := HNL.out; omega
   have hlm' : (j : Int) < m.length := by omega
   have p0 : (0 : Int) <= (j : Int) := by omega
   obtain ⟨t, hx⟩ := aB hlt;obtain ⟨u, hy⟩ := aB hlm;have hst := mh hx hy;obtain ⟨eb, eo, cs, rfl, heb, hce, hVt⟩ := HL.out.get j t hx;obtain ⟨fb, fo, ds, rfl, hfb, hde, hVu⟩ := HM.out.get j u hy;have hszr := HBR.out.size;have hI1 : ∀ v : aq wr.heap.size wr, dR B v.w cs t := fun v => dR.below (HBR.out.trans (v.below.mono hszr)) hB t cs hVt
   have hI2 : ∀ v : aq wr.heap.size wr, dR B v.w ds u := fun v => dR.below (HBR.out.trans (v.below.mono hszr)) hB u ds hVu
   have HCS := aa (fun v : aq wr.heap.size wr => aJ v (Nat.le_refl _) (IH.out j t hx u cs ds B v.w (hI1 v) (hI2 v) (Nat.le_trans (Nat.le_trans hB hszr) v.below.size)));have g : ∀ (n : Nat) v, cs[n]? = some v -> ∀ x : aq wr.heap.size wr, x.w.cell? ⟨eb, eo + j * 6 + n, none⟩ = some v := fun n v hv x => by
    have h1 := hce n v hv;rw [Nat.zero_add] at h1;rw [Nat.add_assoc, x.below.cell (by show eb < wr.heap.size; omega), HBR.out.cell (by show eb < w.heap.size; omega)];exact h1
   have f : ∀ (n : Nat) v, ds[n]? = some v -> ∀ x : aq wr.heap.size wr, x.w.cell? ⟨fb, fo + j * 6 + n, none⟩ = some v := fun n v hv x => by
    have h1 := hde n v hv;rw [Nat.zero_add] at h1;rw [Nat.add_assoc, x.below.cell (by show fb < wr.heap.size; omega), HBR.out.cell (by show fb < w.heap.size; omega)];exact h1
   clear hI1 hI2 hx hy hce hde;obtain ⟨eq, heq⟩ := nam (dV t u);rw [heq] at HCS hst;clear heq;have HST := aa hst;clear hst;obtain ⟨k1, b1, i1, s1, l1, ks1⟩ := t;obtain ⟨k2, b2, i2, s2, l2, ks2⟩ := u;unfold dR at hVt hVu;obtain ⟨la1, lc1, ka1, kc1, rfl, -⟩ := hVt;obtain ⟨la2, lc2, ka2, kc2, rfl, -⟩ := hVu;have g0 := g 0 _ rfl;have g1 := g 1 _ rfl;have g2 := g 2 _ rfl;have g3 := g 3 _ rfl;have g4 := g 4 _ rfl;have g5 := g 5 _ rfl;have f0 := f 0 _ rfl;have f1 := f 1 _ rfl;have f2 := f 2 _ rfl;have f3 := f 3 _ rfl;have f4 := f 4 _ rfl;have f5 := f 5 _ rfl;simp only [Nat.add_zero] at g0 f0;clear g f;cases eq with
   | true =>
    go_wp2_with fail;refine eV wr.heap.size (by kernel_rfl) (by kernel_rfl) ?_
    repeat (go_big_quiet_step (exact HCS.out _))
    refine wpQuiet_nil ?_;intro w2 hw';obtain ⟨u, hu⟩ := hw';have hb2 := u.below;rw [<- hu] at hb2;clear hu g0 g1 g2 g3 g4 g5 f0 f1 f2 f3 f4 f5;have HB2 := aa hb2;clear hb2;go_wp2_with fail;go_roundw;case rel => exact ⟨j + 1, by go_num, by omega, HBR.out.trans (HB2.out.mono hszr), aa (by rw [ht.out, HST.out, Bool.true_and])⟩
    case measure => simp [intOf]; omega
   | false =>
    go_wp2_with fail;refine eV wr.heap.size (by kernel_rfl) (by kernel_rfl) ?_
    repeat (go_big_quiet_step (exact HCS.out _))
    refine wpQuiet_nil ?_;intro w2 hw';obtain ⟨u, hu⟩ := hw';have hb2 := u.below;rw [<- hu] at hb2;clear hu g0 g1 g2 g3 g4 g5 f0 f1 f2 f3 f4 f5;have HB2 := aa hb2;clear hb2;go_wp2_with fail;go_ret;exact ⟨by rw [ht.out, HST.out, Bool.false_and]; rfl, HBR.out.trans (HB2.out.mono hszr)⟩
  ·have hlt' : ¬ (j : Int) < l.length := by omega
   have HN : Hid (R = true) := aa (by rw [ht.out, List.drop_of_length_le (by omega), List.drop_of_length_le (by have := HNL.out; omega)]; rfl);go_wp2_with fail;go_ret;exact ⟨by rw [HN.out]; rfl, HBR.out⟩
theorem Sq521247 {P : Prop} (h : P := by
 first
 | (guard_hyp z521247a; refine a.down (p := jA) fun k b i s l ks ih c cs ds B w hV hU hB => ?_)
 | (refine a.down (p := kG) fun k b i s l ks ih c cs ds B w hV hU hB => ?_)
 obtain ⟨k', b', i', s', l', ks'⟩ := c;have IH := aa ih;unfold dR at hV hU;obtain ⟨la, lc, ka, kc, rfl, hk64, hi64, ⟨hlc, hlm⟩, ⟨hkc, hkm⟩, hla, hka, hK, hL⟩ := hV;obtain ⟨la', lc', ka', kc', rfl, hk64', hi64', ⟨hlc', hlm'⟩, ⟨hkc', hkm'⟩, hla', hka', hK', hL'⟩ := hU
 first
 |(
  guard_hyp z521247a
  have HN := aa (fun w' (hb : Below w.heap.size w w') => qL ks ks' ka ka' kc kc' B w' (hK.below hb hB) (hK'.below hb hB) (Nat.le_trans hB hb.size) (by omega) (by omega));have HLS := aa (fun w' (hb : Below w.heap.size w w') => lK l l' IH.out la la' lc lc' B w' (eN.mk fun j t ht => by
      obtain ⟨b, off, cs, h1, h2, h3, h4⟩ := hL.get j t ht;exact ⟨b, off, cs, h1, h2, fun q v hv => by rw [hb.cell (by show b < w.heap.size; omega)]; exact h3 q v hv, dR.below hb hB t cs h4⟩) (eN.mk fun j t ht => by
      obtain ⟨b, off, cs, h1, h2, h3, h4⟩ := hL'.get j t ht;exact ⟨b, off, cs, h1, h2, fun q v hv => by rw [hb.cell (by show b < w.heap.size; omega)]; exact h3 q v hv, dR.below hb hB t cs h4⟩) (Nat.le_trans hB hb.size) (by omega) (by omega)))
 |(
  have HN := aa (fun w' (hb : Below w.heap.size w w') => du ks ks' ka ka' kc kc' B w' (hK.below hb hB) (hK'.below hb hB) (Nat.le_trans hB hb.size) (by omega) (by omega));have HLS := aa (fun w' (hb : Below w.heap.size w w') => nt l l' IH.out la la' lc lc' B w' (eN.mk fun j t ht => by
      obtain ⟨b, off, cs, h1, h2, h3, h4⟩ := hL.get j t ht;exact ⟨b, off, cs, h1, h2, fun q v hv => by rw [hb.cell (by show b < w.heap.size; omega)]; exact h3 q v hv, dR.below hb hB t cs h4⟩) (eN.mk fun j t ht => by
      obtain ⟨b, off, cs, h1, h2, h3, h4⟩ := hL'.get j t ht;exact ⟨b, off, cs, h1, h2, fun q v hv => by rw [hb.cell (by show b < w.heap.size; omega)]; exact h3 q v hv, dR.below hb hB t cs h4⟩) (Nat.le_trans hB hb.size) (by omega) (by omega)))
 clear ih hK hL hla hka hK' hL' hla' hka' hk64 hi64 hk64' hi64';obtain ⟨nm, hnm⟩ := nam (decide (ks = ks'));obtain ⟨ls, hls⟩ := nam (dl l l');rw [hnm] at HN;rw [hls] at HLS;have HR := aa (show dV (.mk k b i s l ks) (.mk k' b' i' s' l' ks') = (decide (k = k') && decide (b = b') && decide (i = i') && decide (s = s') && nm && ls) from by rw [<- hnm, <- hls]; unfold dV; rfl);clear hnm hls
 first
 | (guard_hyp z521247a; show Calls Tryz.prog 105 #[.agg #[.int .i64 k, .bool b, .int .i64 i, .string s, .slice la l.length lc, .slice ka ks.length kc], .agg #[.int .i64 k', .bool b', .int .i64 i', .string s', .slice la' l'.length lc', .slice ka' ks'.length kc']] w _)
 | (show Calls Tryz.prog 89 #[.agg #[.int .i64 k, .bool b, .int .i64 i, .string s, .slice la l.length lc, .slice ka ks.length kc], .agg #[.int .i64 k', .bool b', .int .i64 i', .string s', .slice la' l'.length lc', .slice ka' ks'.length kc']] w _)
 rw [HR.out];have HB0 := aa (((Below.refl w.heap.size w).alloc (Nat.le_refl _) (.cells #[.int .i64 k, .bool b, .int .i64 i, .string s, .slice la l.length lc, .slice ka ks.length kc] 64)).alloc (by simp) (.cells #[.int .i64 k', .bool b', .int .i64 i', .string s', .slice la' l'.length lc', .slice ka' ks'.length kc'] 64))
 by_cases e1 : k = k'
 rotate_left
 ·have d1 : (k == k') = false := by simp; exact e1
  have D1 := aa (decide_eq_false e1);clear e1;rw [D1.out]
  first
  | (guard_hyp z521247a; go_enter Tryz.func105, Tryz.ntmps105)
  | (go_enter Tryz.func89, Tryz.ntmps89)
  go_wp2_with fail;go_ret;exact ⟨by simp, HB0.out⟩
 subst e1;have d1 : (k == k) = true := by simp
 cases b <;> cases b'
 ·have z557892a := trivial;exact Sq557892
 ·first
  | (guard_hyp z521247a; go_enter Tryz.func105, Tryz.ntmps105)
  | (go_enter Tryz.func89, Tryz.ntmps89)
  go_wp2_with fail;go_ret;exact ⟨by simp, HB0.out⟩
 ·first
  | (guard_hyp z521247a; go_enter Tryz.func105, Tryz.ntmps105)
  | (go_enter Tryz.func89, Tryz.ntmps89)
  go_wp2_with fail;go_ret;exact ⟨by simp, HB0.out⟩
 ·exact Sq557892) : P := h
theorem Sq557892 {P : Prop} (h : P := by
 by_cases e3 : i = i'
 rotate_left
 ·have d3 : (i == i') = false := by simp; exact e3
  have D3 := aa (decide_eq_false e3);clear e3;rw [D3.out]
  first
  | (guard_hyp z521247a; go_enter Tryz.func105, Tryz.ntmps105)
  | (go_enter Tryz.func89, Tryz.ntmps89)
  go_wp2_with fail;go_ret;exact ⟨by simp, HB0.out⟩
 subst e3;have hbe := jz s s'
 by_cases e4 : s = s'
 rotate_left
 ·have d4 : (s.toList == s'.toList) = false := by rw [hbe]; exact decide_eq_false e4
  have D4 := aa (decide_eq_false e4);clear e4 hbe;rw [D4.out]
  first
  | (guard_hyp z521247a; go_enter Tryz.func105, Tryz.ntmps105)
  | (go_enter Tryz.func89, Tryz.ntmps89)
  go_wp2_with fail;go_ret;exact ⟨by simp, HB0.out⟩
 subst e4;clear hbe;cases nm with
 | false =>
  first
  | (guard_hyp z521247a; go_enter Tryz.func105, Tryz.ntmps105)
  | (go_enter Tryz.func89, Tryz.ntmps89)
  go_wp2_with fail;refine (HN.out _ HB0.out).mono ?_;rintro e w1 ⟨rfl, hb1⟩;go_wp2_with fail;go_ret;exact ⟨by simp, aF HB0.out rfl hb1⟩
 | true =>
  first
  | (guard_hyp z521247a; go_enter Tryz.func105, Tryz.ntmps105)
  | (go_enter Tryz.func89, Tryz.ntmps89)
  go_wp2_with fail;refine (HN.out _ HB0.out).mono ?_;rintro e w1 ⟨rfl, hb1⟩;have HB1 := aa (aF HB0.out rfl hb1)
  first
  |(
   guard_hyp z557892a
   have hBX := ((ae.new w [.int .i64 k, .bool false, .int .i64 i, .string s, .slice la l.length lc, .slice ka ks.length kc] 64).alloc (.cells #[.int .i64 k, .bool false, .int .i64 i, .string s, .slice la' l'.length lc', .slice ka' ks'.length kc'] 64)).below hb1 (by simp; omega);have hBY := (ae.new (w.alloc (.cells #[.int .i64 k, .bool false, .int .i64 i, .string s, .slice la l.length lc, .slice ka ks.length kc] 64)) [.int .i64 k, .bool false, .int .i64 i, .string s, .slice la' l'.length lc', .slice ka' ks'.length kc'] 64).below hb1 (by simp))
  |(
   have hBX := ((ae.new w [.int .i64 k, .bool true, .int .i64 i, .string s, .slice la l.length lc, .slice ka ks.length kc] 64).alloc (.cells #[.int .i64 k, .bool true, .int .i64 i, .string s, .slice la' l'.length lc', .slice ka' ks'.length kc'] 64)).below hb1 (by simp; omega);have hBY := (ae.new (w.alloc (.cells #[.int .i64 k, .bool true, .int .i64 i, .string s, .slice la l.length lc, .slice ka ks.length kc] 64)) [.int .i64 k, .bool true, .int .i64 i, .string s, .slice la' l'.length lc', .slice ka' ks'.length kc'] 64).below hb1 (by simp))
  have x4 := hBX.cell (i := 4) rfl;have y4 : w1.cell? ⟨w.heap.size + 1, 4, none⟩ = some (.slice la' l'.length lc') := by have h := hBY.cell (i := 4) rfl; simpa using h
  clear hb1 hBX hBY;go_wp2_with fail;refine (HLS.out _ HB1.out).mono ?_;rintro e w2 ⟨rfl, hb2⟩;go_wp2_with fail;go_ret;exact ⟨by simp, aF HB1.out rfl hb2⟩) : P := h
theorem vx (a : Vt) : kG a := Sq521247
end Go.Proofs.YteljlahcdipilaaGreat

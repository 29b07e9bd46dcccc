/- Parts X16 of this seat (pruned, scripts that are alike kept once as default arguments: q1, q2, ..). Conditions: each says its own. -/
import Derived.Test.YtndhpdclpgemfaaGreatZ23
namespace Go.Proofs.YtndhpdclpgemfaaGreat
open Go.RowKit Go.Shelf
set_option linter.unusedSimpArgs false
set_option linter.unusedVariables false
set_option maxRecDepth 100000
theorem ge4 {U : Type} {f : U → World} {b : Nat} {x0 x1 x2 x3 : Value} {y : List Value} (h : ∀ (u : U) (i : Nat) v, (x0 :: x1 :: x2 :: x3 :: y)[i]? = some v → (f u).cell? ⟨b, i, none⟩ = some v) : (∀ u : U, (f u).cell? ⟨b, 0, none⟩ = some x0) ∧ (∀ u : U, (f u).cell? ⟨b, 1, none⟩ = some x1) ∧ (∀ u : U, (f u).cell? ⟨b, 2, none⟩ = some x2) ∧ (∀ u : U, (f u).cell? ⟨b, 3, none⟩ = some x3) := ⟨fun u => h u 0 _ rfl, fun u => h u 1 _ rfl, fun u => h u 2 _ rfl, fun u => h u 3 _ rfl⟩
theorem ge5 {U : Type} {f : U → World} {b : Nat} {x0 x1 x2 x3 x4 : Value} {y : List Value} (h : ∀ (u : U) (i : Nat) v, (x0 :: x1 :: x2 :: x3 :: x4 :: y)[i]? = some v → (f u).cell? ⟨b, i, none⟩ = some v) : (∀ u : U, (f u).cell? ⟨b, 0, none⟩ = some x0) ∧ (∀ u : U, (f u).cell? ⟨b, 1, none⟩ = some x1) ∧ (∀ u : U, (f u).cell? ⟨b, 2, none⟩ = some x2) ∧ (∀ u : U, (f u).cell? ⟨b, 3, none⟩ = some x3) ∧ (∀ u : U, (f u).cell? ⟨b, 4, none⟩ = some x4) := ⟨fun u => h u 0 _ rfl, fun u => h u 1 _ rfl, fun u => h u 2 _ rfl, fun u => h u 3 _ rfl, fun u => h u 4 _ rfl⟩
theorem ge10 {U : Type} {f : U → World} {b : Nat} {x0 x1 x2 x3 x4 x5 x6 x7 x8 x9 : Value} {y : List Value} (h : ∀ (u : U) (i : Nat) v, (x0 :: x1 :: x2 :: x3 :: x4 :: x5 :: x6 :: x7 :: x8 :: x9 :: y)[i]? = some v → (f u).cell? ⟨b, i, none⟩ = some v) : (∀ u : U, (f u).cell? ⟨b, 0, none⟩ = some x0) ∧ (∀ u : U, (f u).cell? ⟨b, 1, none⟩ = some x1) ∧ (∀ u : U, (f u).cell? ⟨b, 2, none⟩ = some x2) ∧ (∀ u : U, (f u).cell? ⟨b, 3, none⟩ = some x3) ∧ (∀ u : U, (f u).cell? ⟨b, 4, none⟩ = some x4) ∧ (∀ u : U, (f u).cell? ⟨b, 5, none⟩ = some x5) ∧ (∀ u : U, (f u).cell? ⟨b, 6, none⟩ = some x6) ∧ (∀ u : U, (f u).cell? ⟨b, 7, none⟩ = some x7) ∧ (∀ u : U, (f u).cell? ⟨b, 8, none⟩ = some x8) ∧ (∀ u : U, (f u).cell? ⟨b, 9, none⟩ = some x9) := ⟨fun u => h u 0 _ rfl, fun u => h u 1 _ rfl, fun u => h u 2 _ rfl, fun u => h u 3 _ rfl, fun u => h u 4 _ rfl, fun u => h u 5 _ rfl, fun u => h u 6 _ rfl, fun u => h u 7 _ rfl, fun u => h u 8 _ rfl, fun u => h u 9 _ rfl⟩
theorem ge11 {U : Type} {f : U → World} {b : Nat} {x0 x1 x2 x3 x4 x5 x6 x7 x8 x9 x10 : Value} {y : List Value} (h : ∀ (u : U) (i : Nat) v, (x0 :: x1 :: x2 :: x3 :: x4 :: x5 :: x6 :: x7 :: x8 :: x9 :: x10 :: y)[i]? = some v → (f u).cell? ⟨b, i, none⟩ = some v) : (∀ u : U, (f u).cell? ⟨b, 0, none⟩ = some x0) ∧ (∀ u : U, (f u).cell? ⟨b, 1, none⟩ = some x1) ∧ (∀ u : U, (f u).cell? ⟨b, 2, none⟩ = some x2) ∧ (∀ u : U, (f u).cell? ⟨b, 3, none⟩ = some x3) ∧ (∀ u : U, (f u).cell? ⟨b, 4, none⟩ = some x4) ∧ (∀ u : U, (f u).cell? ⟨b, 5, none⟩ = some x5) ∧ (∀ u : U, (f u).cell? ⟨b, 6, none⟩ = some x6) ∧ (∀ u : U, (f u).cell? ⟨b, 7, none⟩ = some x7) ∧ (∀ u : U, (f u).cell? ⟨b, 8, none⟩ = some x8) ∧ (∀ u : U, (f u).cell? ⟨b, 9, none⟩ = some x9) ∧ (∀ u : U, (f u).cell? ⟨b, 10, none⟩ = some x10) := ⟨fun u => h u 0 _ rfl, fun u => h u 1 _ rfl, fun u => h u 2 _ rfl, fun u => h u 3 _ rfl, fun u => h u 4 _ rfl, fun u => h u 5 _ rfl, fun u => h u 6 _ rfl, fun u => h u 7 _ rfl, fun u => h u 8 _ rfl, fun u => h u 9 _ rfl, fun u => h u 10 _ rfl⟩
theorem ge13 {U : Type} {f : U → World} {b : Nat} {x0 x1 x2 x3 x4 x5 x6 x7 x8 x9 x10 x11 x12 : Value} {y : List Value} (h : ∀ (u : U) (i : Nat) v, (x0 :: x1 :: x2 :: x3 :: x4 :: x5 :: x6 :: x7 :: x8 :: x9 :: x10 :: x11 :: x12 :: y)[i]? = some v → (f u).cell? ⟨b, i, none⟩ = some v) : (∀ u : U, (f u).cell? ⟨b, 0, none⟩ = some x0) ∧ (∀ u : U, (f u).cell? ⟨b, 1, none⟩ = some x1) ∧ (∀ u : U, (f u).cell? ⟨b, 2, none⟩ = some x2) ∧ (∀ u : U, (f u).cell? ⟨b, 3, none⟩ = some x3) ∧ (∀ u : U, (f u).cell? ⟨b, 4, none⟩ = some x4) ∧ (∀ u : U, (f u).cell? ⟨b, 5, none⟩ = some x5) ∧ (∀ u : U, (f u).cell? ⟨b, 6, none⟩ = some x6) ∧ (∀ u : U, (f u).cell? ⟨b, 7, none⟩ = some x7) ∧ (∀ u : U, (f u).cell? ⟨b, 8, none⟩ = some x8) ∧ (∀ u : U, (f u).cell? ⟨b, 9, none⟩ = some x9) ∧ (∀ u : U, (f u).cell? ⟨b, 10, none⟩ = some x10) ∧ (∀ u : U, (f u).cell? ⟨b, 11, none⟩ = some x11) ∧ (∀ u : U, (f u).cell? ⟨b, 12, none⟩ = some x12) := ⟨fun u => h u 0 _ rfl, fun u => h u 1 _ rfl, fun u => h u 2 _ rfl, fun u => h u 3 _ rfl, fun u => h u 4 _ rfl, fun u => h u 5 _ rfl, fun u => h u 6 _ rfl, fun u => h u 7 _ rfl, fun u => h u 8 _ rfl, fun u => h u 9 _ rfl, fun u => h u 10 _ rfl, fun u => h u 11 _ rfl, fun u => h u 12 _ rfl⟩
theorem ge14 {U : Type} {f : U → World} {b : Nat} {x0 x1 x2 x3 x4 x5 x6 x7 x8 x9 x10 x11 x12 x13 : Value} {y : List Value} (h : ∀ (u : U) (i : Nat) v, (x0 :: x1 :: x2 :: x3 :: x4 :: x5 :: x6 :: x7 :: x8 :: x9 :: x10 :: x11 :: x12 :: x13 :: y)[i]? = some v → (f u).cell? ⟨b, i, none⟩ = some v) : (∀ u : U, (f u).cell? ⟨b, 0, none⟩ = some x0) ∧ (∀ u : U, (f u).cell? ⟨b, 1, none⟩ = some x1) ∧ (∀ u : U, (f u).cell? ⟨b, 2, none⟩ = some x2) ∧ (∀ u : U, (f u).cell? ⟨b, 3, none⟩ = some x3) ∧ (∀ u : U, (f u).cell? ⟨b, 4, none⟩ = some x4) ∧ (∀ u : U, (f u).cell? ⟨b, 5, none⟩ = some x5) ∧ (∀ u : U, (f u).cell? ⟨b, 6, none⟩ = some x6) ∧ (∀ u : U, (f u).cell? ⟨b, 7, none⟩ = some x7) ∧ (∀ u : U, (f u).cell? ⟨b, 8, none⟩ = some x8) ∧ (∀ u : U, (f u).cell? ⟨b, 9, none⟩ = some x9) ∧ (∀ u : U, (f u).cell? ⟨b, 10, none⟩ = some x10) ∧ (∀ u : U, (f u).cell? ⟨b, 11, none⟩ = some x11) ∧ (∀ u : U, (f u).cell? ⟨b, 12, none⟩ = some x12) ∧ (∀ u : U, (f u).cell? ⟨b, 13, none⟩ = some x13) := ⟨fun u => h u 0 _ rfl, fun u => h u 1 _ rfl, fun u => h u 2 _ rfl, fun u => h u 3 _ rfl, fun u => h u 4 _ rfl, fun u => h u 5 _ rfl, fun u => h u 6 _ rfl, fun u => h u 7 _ rfl, fun u => h u 8 _ rfl, fun u => h u 9 _ rfl, fun u => h u 10 _ rfl, fun u => h u 11 _ rfl, fun u => h u 12 _ rfl, fun u => h u 13 _ rfl⟩
theorem ge22 {U : Type} {f : U → World} {b : Nat} {x0 x1 x2 x3 x4 x5 x6 x7 x8 x9 x10 x11 x12 x13 x14 x15 x16 x17 x18 x19 x20 x21 : Value} {y : List Value} (h : ∀ (u : U) (i : Nat) v, (x0 :: x1 :: x2 :: x3 :: x4 :: x5 :: x6 :: x7 :: x8 :: x9 :: x10 :: x11 :: x12 :: x13 :: x14 :: x15 :: x16 :: x17 :: x18 :: x19 :: x20 :: x21 :: y)[i]? = some v → (f u).cell? ⟨b, i, none⟩ = some v) : (∀ u : U, (f u).cell? ⟨b, 0, none⟩ = some x0) ∧ (∀ u : U, (f u).cell? ⟨b, 1, none⟩ = some x1) ∧ (∀ u : U, (f u).cell? ⟨b, 2, none⟩ = some x2) ∧ (∀ u : U, (f u).cell? ⟨b, 3, none⟩ = some x3) ∧ (∀ u : U, (f u).cell? ⟨b, 4, none⟩ = some x4) ∧ (∀ u : U, (f u).cell? ⟨b, 5, none⟩ = some x5) ∧ (∀ u : U, (f u).cell? ⟨b, 6, none⟩ = some x6) ∧ (∀ u : U, (f u).cell? ⟨b, 7, none⟩ = some x7) ∧ (∀ u : U, (f u).cell? ⟨b, 8, none⟩ = some x8) ∧ (∀ u : U, (f u).cell? ⟨b, 9, none⟩ = some x9) ∧ (∀ u : U, (f u).cell? ⟨b, 10, none⟩ = some x10) ∧ (∀ u : U, (f u).cell? ⟨b, 11, none⟩ = some x11) ∧ (∀ u : U, (f u).cell? ⟨b, 12, none⟩ = some x12) ∧ (∀ u : U, (f u).cell? ⟨b, 13, none⟩ = some x13) ∧ (∀ u : U, (f u).cell? ⟨b, 14, none⟩ = some x14) ∧ (∀ u : U, (f u).cell? ⟨b, 15, none⟩ = some x15) ∧ (∀ u : U, (f u).cell? ⟨b, 16, none⟩ = some x16) ∧ (∀ u : U, (f u).cell? ⟨b, 17, none⟩ = some x17) ∧ (∀ u : U, (f u).cell? ⟨b, 18, none⟩ = some x18) ∧ (∀ u : U, (f u).cell? ⟨b, 19, none⟩ = some x19) ∧ (∀ u : U, (f u).cell? ⟨b, 20, none⟩ = some x20) ∧ (∀ u : U, (f u).cell? ⟨b, 21, none⟩ = some x21) := ⟨fun u => h u 0 _ rfl, fun u => h u 1 _ rfl, fun u => h u 2 _ rfl, fun u => h u 3 _ rfl, fun u => h u 4 _ rfl, fun u => h u 5 _ rfl, fun u => h u 6 _ rfl, fun u => h u 7 _ rfl, fun u => h u 8 _ rfl, fun u => h u 9 _ rfl, fun u => h u 10 _ rfl, fun u => h u 11 _ rfl, fun u => h u 12 _ rfl, fun u => h u 13 _ rfl, fun u => h u 14 _ rfl, fun u => h u 15 _ rfl, fun u => h u 16 _ rfl, fun u => h u 17 _ rfl, fun u => h u 18 _ rfl, fun u => h u 19 _ rfl, fun u => h u 20 _ rfl, fun u => h u 21 _ rfl⟩
theorem gf3 {U : Type} {f : U → World} {b o : Nat} {x0 x1 x2 x3 : Value} {y : List Value} (h : ∀ (u : U) (i : Nat) v, (x0 :: x1 :: x2 :: x3 :: y)[i]? = some v → (f u).cell? ⟨b, o + i, none⟩ = some v) : (∀ u : U, (f u).cell? ⟨b, o + 1, none⟩ = some x1) ∧ (∀ u : U, (f u).cell? ⟨b, o + 2, none⟩ = some x2) ∧ (∀ u : U, (f u).cell? ⟨b, o + 3, none⟩ = some x3) := ⟨fun u => h u 1 _ rfl, fun u => h u 2 _ rfl, fun u => h u 3 _ rfl⟩
theorem gf4 {U : Type} {f : U → World} {b o : Nat} {x0 x1 x2 x3 x4 : Value} {y : List Value} (h : ∀ (u : U) (i : Nat) v, (x0 :: x1 :: x2 :: x3 :: x4 :: y)[i]? = some v → (f u).cell? ⟨b, o + i, none⟩ = some v) : (∀ u : U, (f u).cell? ⟨b, o + 1, none⟩ = some x1) ∧ (∀ u : U, (f u).cell? ⟨b, o + 2, none⟩ = some x2) ∧ (∀ u : U, (f u).cell? ⟨b, o + 3, none⟩ = some x3) ∧ (∀ u : U, (f u).cell? ⟨b, o + 4, none⟩ = some x4) := ⟨fun u => h u 1 _ rfl, fun u => h u 2 _ rfl, fun u => h u 3 _ rfl, fun u => h u 4 _ rfl⟩
theorem gf9 {U : Type} {f : U → World} {b o : Nat} {x0 x1 x2 x3 x4 x5 x6 x7 x8 x9 : Value} {y : List Value} (h : ∀ (u : U) (i : Nat) v, (x0 :: x1 :: x2 :: x3 :: x4 :: x5 :: x6 :: x7 :: x8 :: x9 :: y)[i]? = some v → (f u).cell? ⟨b, o + i, none⟩ = some v) : (∀ u : U, (f u).cell? ⟨b, o + 1, none⟩ = some x1) ∧ (∀ u : U, (f u).cell? ⟨b, o + 2, none⟩ = some x2) ∧ (∀ u : U, (f u).cell? ⟨b, o + 3, none⟩ = some x3) ∧ (∀ u : U, (f u).cell? ⟨b, o + 4, none⟩ = some x4) ∧ (∀ u : U, (f u).cell? ⟨b, o + 5, none⟩ = some x5) ∧ (∀ u : U, (f u).cell? ⟨b, o + 6, none⟩ = some x6) ∧ (∀ u : U, (f u).cell? ⟨b, o + 7, none⟩ = some x7) ∧ (∀ u : U, (f u).cell? ⟨b, o + 8, none⟩ = some x8) ∧ (∀ u : U, (f u).cell? ⟨b, o + 9, none⟩ = some x9) := ⟨fun u => h u 1 _ rfl, fun u => h u 2 _ rfl, fun u => h u 3 _ rfl, fun u => h u 4 _ rfl, fun u => h u 5 _ rfl, fun u => h u 6 _ rfl, fun u => h u 7 _ rfl, fun u => h u 8 _ rfl, fun u => h u 9 _ rfl⟩
theorem gx4 {U : Type} {f : U → World} {b : Nat} {x0 x1 x2 x3 : Value} {y : List Value} (h : ∀ (u : U) (i : Nat) v, (x0 :: x1 :: x2 :: x3 :: y)[i]? = some v → (f u).cell? ⟨b, i, none⟩ = some v) (u : U) : (f u).cell? ⟨b, 0, none⟩ = some x0 ∧ (f u).cell? ⟨b, 1, none⟩ = some x1 ∧ (f u).cell? ⟨b, 2, none⟩ = some x2 ∧ (f u).cell? ⟨b, 3, none⟩ = some x3 := ⟨h u 0 _ rfl, h u 1 _ rfl, h u 2 _ rfl, h u 3 _ rfl⟩
theorem gx5 {U : Type} {f : U → World} {b : Nat} {x0 x1 x2 x3 x4 : Value} {y : List Value} (h : ∀ (u : U) (i : Nat) v, (x0 :: x1 :: x2 :: x3 :: x4 :: y)[i]? = some v → (f u).cell? ⟨b, i, none⟩ = some v) (u : U) : (f u).cell? ⟨b, 0, none⟩ = some x0 ∧ (f u).cell? ⟨b, 1, none⟩ = some x1 ∧ (f u).cell? ⟨b, 2, none⟩ = some x2 ∧ (f u).cell? ⟨b, 3, none⟩ = some x3 ∧ (f u).cell? ⟨b, 4, none⟩ = some x4 := ⟨h u 0 _ rfl, h u 1 _ rfl, h u 2 _ rfl, h u 3 _ rfl, h u 4 _ rfl⟩
theorem gx10 {U : Type} {f : U → World} {b : Nat} {x0 x1 x2 x3 x4 x5 x6 x7 x8 x9 : Value} {y : List Value} (h : ∀ (u : U) (i : Nat) v, (x0 :: x1 :: x2 :: x3 :: x4 :: x5 :: x6 :: x7 :: x8 :: x9 :: y)[i]? = some v → (f u).cell? ⟨b, i, none⟩ = some v) (u : U) : (f u).cell? ⟨b, 0, none⟩ = some x0 ∧ (f u).cell? ⟨b, 1, none⟩ = some x1 ∧ (f u).cell? ⟨b, 2, none⟩ = some x2 ∧ (f u).cell? ⟨b, 3, none⟩ = some x3 ∧ (f u).cell? ⟨b, 4, none⟩ = some x4 ∧ (f u).cell? ⟨b, 5, none⟩ = some x5 ∧ (f u).cell? ⟨b, 6, none⟩ = some x6 ∧ (f u).cell? ⟨b, 7, none⟩ = some x7 ∧ (f u).cell? ⟨b, 8, none⟩ = some x8 ∧ (f u).cell? ⟨b, 9, none⟩ = some x9 := ⟨h u 0 _ rfl, h u 1 _ rfl, h u 2 _ rfl, h u 3 _ rfl, h u 4 _ rfl, h u 5 _ rfl, h u 6 _ rfl, h u 7 _ rfl, h u 8 _ rfl, h u 9 _ rfl⟩
theorem gx11 {U : Type} {f : U → World} {b : Nat} {x0 x1 x2 x3 x4 x5 x6 x7 x8 x9 x10 : Value} {y : List Value} (h : ∀ (u : U) (i : Nat) v, (x0 :: x1 :: x2 :: x3 :: x4 :: x5 :: x6 :: x7 :: x8 :: x9 :: x10 :: y)[i]? = some v → (f u).cell? ⟨b, i, none⟩ = some v) (u : U) : (f u).cell? ⟨b, 0, none⟩ = some x0 ∧ (f u).cell? ⟨b, 1, none⟩ = some x1 ∧ (f u).cell? ⟨b, 2, none⟩ = some x2 ∧ (f u).cell? ⟨b, 3, none⟩ = some x3 ∧ (f u).cell? ⟨b, 4, none⟩ = some x4 ∧ (f u).cell? ⟨b, 5, none⟩ = some x5 ∧ (f u).cell? ⟨b, 6, none⟩ = some x6 ∧ (f u).cell? ⟨b, 7, none⟩ = some x7 ∧ (f u).cell? ⟨b, 8, none⟩ = some x8 ∧ (f u).cell? ⟨b, 9, none⟩ = some x9 ∧ (f u).cell? ⟨b, 10, none⟩ = some x10 := ⟨h u 0 _ rfl, h u 1 _ rfl, h u 2 _ rfl, h u 3 _ rfl, h u 4 _ rfl, h u 5 _ rfl, h u 6 _ rfl, h u 7 _ rfl, h u 8 _ rfl, h u 9 _ rfl, h u 10 _ rfl⟩
theorem gx13 {U : Type} {f : U → World} {b : Nat} {x0 x1 x2 x3 x4 x5 x6 x7 x8 x9 x10 x11 x12 : Value} {y : List Value} (h : ∀ (u : U) (i : Nat) v, (x0 :: x1 :: x2 :: x3 :: x4 :: x5 :: x6 :: x7 :: x8 :: x9 :: x10 :: x11 :: x12 :: y)[i]? = some v → (f u).cell? ⟨b, i, none⟩ = some v) (u : U) : (f u).cell? ⟨b, 0, none⟩ = some x0 ∧ (f u).cell? ⟨b, 1, none⟩ = some x1 ∧ (f u).cell? ⟨b, 2, none⟩ = some x2 ∧ (f u).cell? ⟨b, 3, none⟩ = some x3 ∧ (f u).cell? ⟨b, 4, none⟩ = some x4 ∧ (f u).cell? ⟨b, 5, none⟩ = some x5 ∧ (f u).cell? ⟨b, 6, none⟩ = some x6 ∧ (f u).cell? ⟨b, 7, none⟩ = some x7 ∧ (f u).cell? ⟨b, 8, none⟩ = some x8 ∧ (f u).cell? ⟨b, 9, none⟩ = some x9 ∧ (f u).cell? ⟨b, 10, none⟩ = some x10 ∧ (f u).cell? ⟨b, 11, none⟩ = some x11 ∧ (f u).cell? ⟨b, 12, none⟩ = some x12 := ⟨h u 0 _ rfl, h u 1 _ rfl, h u 2 _ rfl, h u 3 _ rfl, h u 4 _ rfl, h u 5 _ rfl, h u 6 _ rfl, h u 7 _ rfl, h u 8 _ rfl, h u 9 _ rfl, h u 10 _ rfl, h u 11 _ rfl, h u 12 _ rfl⟩
theorem gx14 {U : Type} {f : U → World} {b : Nat} {x0 x1 x2 x3 x4 x5 x6 x7 x8 x9 x10 x11 x12 x13 : Value} {y : List Value} (h : ∀ (u : U) (i : Nat) v, (x0 :: x1 :: x2 :: x3 :: x4 :: x5 :: x6 :: x7 :: x8 :: x9 :: x10 :: x11 :: x12 :: x13 :: y)[i]? = some v → (f u).cell? ⟨b, i, none⟩ = some v) (u : U) : (f u).cell? ⟨b, 0, none⟩ = some x0 ∧ (f u).cell? ⟨b, 1, none⟩ = some x1 ∧ (f u).cell? ⟨b, 2, none⟩ = some x2 ∧ (f u).cell? ⟨b, 3, none⟩ = some x3 ∧ (f u).cell? ⟨b, 4, none⟩ = some x4 ∧ (f u).cell? ⟨b, 5, none⟩ = some x5 ∧ (f u).cell? ⟨b, 6, none⟩ = some x6 ∧ (f u).cell? ⟨b, 7, none⟩ = some x7 ∧ (f u).cell? ⟨b, 8, none⟩ = some x8 ∧ (f u).cell? ⟨b, 9, none⟩ = some x9 ∧ (f u).cell? ⟨b, 10, none⟩ = some x10 ∧ (f u).cell? ⟨b, 11, none⟩ = some x11 ∧ (f u).cell? ⟨b, 12, none⟩ = some x12 ∧ (f u).cell? ⟨b, 13, none⟩ = some x13 := ⟨h u 0 _ rfl, h u 1 _ rfl, h u 2 _ rfl, h u 3 _ rfl, h u 4 _ rfl, h u 5 _ rfl, h u 6 _ rfl, h u 7 _ rfl, h u 8 _ rfl, h u 9 _ rfl, h u 10 _ rfl, h u 11 _ rfl, h u 12 _ rfl, h u 13 _ rfl⟩
theorem take_succ_get {α : Type} {l : List α} {j : Nat} {x : α} (h : l[j]? = some x) : l.take (j + 1) = l.take j ++ [x] := by rw [List.take_add_one, h]; rfl
theorem wtXs_app (a b : List Ex) : wtXs (a ++ b) = wtXs a + wtXs b := by rw [wtXs_sum, wtXs_sum, wtXs_sum]; simp
theorem wtS_app (a b : List ByteArray) : wtS (a ++ b) = wtS a + wtS b := by unfold wtS; simp
theorem wtXs_take {az : List Ex} {j : Nat} {t : Ex} (h : az[j]? = some t) : wtXs (az.take j) + wtX t ≤ wtXs az := by
 have h1 : az = az.take (j + 1) ++ az.drop (j + 1) := (List.take_append_drop _ _).symm
 have h2 : wtXs az = wtXs (az.take (j + 1)) + wtXs (az.drop (j + 1)) := by rw [← wtXs_app, ← h1]
 rw [h2, take_succ_get h, wtXs_app]
 simp only [wtXs]
 omega
theorem wtS_take {az : List ByteArray} {j : Nat} {t : ByteArray} (h : az[j]? = some t) : wtS (az.take j) + (t.size + 1) ≤ wtS az := by
 have h1 : az = az.take (j + 1) ++ az.drop (j + 1) := (List.take_append_drop _ _).symm
 have h2 : wtS az = wtS (az.take (j + 1)) + wtS (az.drop (j + 1)) := by rw [← wtS_app, ← h1]
 have h3 : wtS [t] = t.size + 1 := by simp [wtS]
 rw [h2, take_succ_get h, wtS_app, h3]
 omega
theorem texts_sum (l : List Ex) : ((l.map textX).map fun x => x.length + 2).sum ≤ 64 * wtXs l := by
 induction l with
 | nil => simp
 | cons t ts ih => have := textX_len t; simp only [List.map_cons, List.sum_cons, wtXs]; omega
theorem row_len (az : List Ex) : (jn (az.map textX)).length ≤ 64 * wtXs az := jn_bound _ _ (texts_sum az)
theorem props_len (ns : List ByteArray) (az : List Ex) : (jn (withK ns (az.map textX))).length ≤ 6 * wtS ns + 64 * wtXs az :=
  jn_bound _ _ (Nat.le_trans (withK_sum ns (az.map textX)) (Nat.add_le_add_left (texts_sum az) _))
def ahead (j : Nat) (xs : List (List UInt8)) : List UInt8 := if j = 0 then [] else jn xs ++ [44, 32]
theorem row_step {az : List Ex} {j : Nat} {t : Ex} (h : az[j]? = some t) : jn ((az.take (j + 1)).map textX) = ahead j ((az.take j).map textX) ++ textX t := by
 have hj : j < az.length := (List.getElem?_eq_some_iff.1 h).1
 rw [take_succ_get h, List.map_append, List.map_cons, List.map_nil, jn_snoc]
 unfold ahead
 by_cases h0 : j = 0
 ·subst h0; rw [if_pos rfl, if_pos (by simp)]; rfl
 ·rw [if_neg h0, if_neg (by intro e; have := congrArg List.length e; simp only [List.length_map, List.length_take, List.length_nil] at this; omega)]
theorem props_step {ns : List ByteArray} {az : List Ex} {j : Nat} {t : Ex} {k : ByteArray} (h : az[j]? = some t) (hk : ns[j]? = some k) :
    jn (withK (ns.take (j + 1)) ((az.take (j + 1)).map textX)) = ahead j (withK (ns.take j) ((az.take j).map textX)) ++ (keyTL k ++ [58, 32] ++ textX t) := by
 have hj : j < az.length := (List.getElem?_eq_some_iff.1 h).1
 have hj2 : j < ns.length := (List.getElem?_eq_some_iff.1 hk).1
 have hs : withK (ns.take (j + 1)) ((az.take (j + 1)).map textX) = withK (ns.take j) ((az.take j).map textX) ++ [keyTL k ++ [58, 32] ++ textX t] := by
  rw [take_succ_get h, take_succ_get hk, List.map_append]
  unfold withK
  rw [List.zipWith_append (by simp; omega)]
  rfl
 rw [hs, jn_snoc]
 unfold ahead
 by_cases h0 : j = 0
 ·subst h0; rw [if_pos rfl, if_pos (by simp [withK])]; rfl
 ·rw [if_neg h0, if_neg (by intro e; have := congrArg List.length e; simp only [withK, List.length_zipWith, List.length_map, List.length_take, List.length_nil] at this; omega)]
theorem levelB_range (s : ByteArray) : 0 ≤ levelB s ∧ levelB s ≤ 7 := by
 unfold levelB
 repeat' split
 all_goals omega
theorem closeB_range (op : Int) (nm : ByteArray) : 0 ≤ closeB op nm ∧ closeB op nm ≤ 10 := by
 have := levelB_range nm
 unfold closeB
 repeat' split
 all_goals omega
theorem needX_zero (t : Ex) : needX 0 t = textX t := by
 obtain ⟨op, nm, v, ns, az⟩ := t
 unfold needX inP
 have := closeB_range op nm
 rw [if_neg (by simp only [clX]; omega)]
theorem needX_len (need : Int) (t : Ex) : (needX need t).length + 2 ≤ 64 * wtX t := by
 have := textX_len t
 have := inP_len need (clX t, textX t)
 unfold needX
 simp only at this
 omega
theorem ba_app (a b : ByteArray) : (a ++ b).data.toList = a.data.toList ++ b.data.toList := by simp
theorem Kp.of_wrote {B b : Nat} {l' : List UInt8} {W w' : World} (u : Kp B b W) (h : Wrote B b l' u.w w') : ∃ u' : Kp B b W, w' = u'.w := ⟨⟨w', u.below.trans h.2.1, u.kept.trans h.2.2⟩, rfl⟩
def LaySaid (d : Nat) : Prop := ∀ (t : Ex) (cs : List Value) (Bm B b : Nat) (l : List UInt8) (need : Int) (w : World), IsX Bm w cs t → Bm ≤ B → 0 < B → B ≤ w.heap.size → Bld B b l w → ML w → deepB d t = true → wtX t ≤ 4194304 → l.length + 64 * wtX t ≤ 70368744177664 →
  Calls Tryz.prog 177 #[.pointer (some ⟨b, 0, none⟩), .agg cs.toArray, .int .i64 need] w fun e w' => e = .returned (.tuple #[]) ∧ Wrote B b (l ++ needX need t) w w'
def RowSaid (d : Nat) : Prop := ∀ (az : List Ex) (xa : Option Addr) (xc : Nat) (bg en : ByteArray) (Bm B b : Nat) (l : List UInt8) (w : World), RowR (IsX Bm w) 10 Bm w xa az → SlOk xa az.length xc → Bm ≤ B → 0 < B → B ≤ w.heap.size → Bld B b l w → ML w → (∀ (j : Nat) t, az[j]? = some t → deepB d t = true) → wtXs az ≤ 4194304 →
  l.length + bg.size + en.size + 2 + 64 * wtXs az ≤ 70368744177664 → Calls Tryz.prog 180 #[.pointer (some ⟨b, 0, none⟩), .string bg, .slice xa az.length xc, .string en] w fun e w' => e = .returned (.tuple #[]) ∧ Wrote B b (l ++ (bg.data.toList ++ rowX az ++ en.data.toList)) w w'
def PropsSaid (d : Nat) : Prop := ∀ (ns : List ByteArray) (az : List Ex) (ka xa : Option Addr) (kc xc : Nat) (Bm B b : Nat) (l : List UInt8) (w : World), StrRow Bm w ka ns → SlOk ka ns.length kc → RowR (IsX Bm w) 10 Bm w xa az → SlOk xa az.length xc → ns.length = az.length → Bm ≤ B → 0 < B → B ≤ w.heap.size → Bld B b l w → ML w → (∀ (j : Nat) t, az[j]? = some t → deepB d t = true) → wtXs az ≤ 4194304 → wtS ns ≤ 4194304 →
  l.length + 16 + 6 * wtS ns + 64 * wtXs az ≤ 70368744177664 → Calls Tryz.prog 181 #[.agg #[.slice ka ns.length kc, .slice xa az.length xc], .pointer (some ⟨b, 0, none⟩)] w fun e w' => e = .returned (.tuple #[]) ∧ Wrote B b (l ++ propsX ns az) w w'
def BothSaid (d : Nat) : Prop := ∀ (nm : ByteArray) (v : Vt) (ns : List ByteArray) (t0 t1 : Ex) (cs : List Value) (Bm B b : Nat) (l : List UInt8) (w : World), IsX Bm w cs (.mk 10 nm v ns [t0, t1]) → Bm ≤ B → 0 < B → B ≤ w.heap.size → Bld B b l w → ML w → deepB d t0 = true → deepB d t1 = true → wtX (.mk 10 nm v ns [t0, t1]) ≤ 4194304 →
  l.length + 64 * (1 + nm.size + (wtX t0 + wtX t1)) ≤ 70368744177664 → Calls Tryz.prog 182 #[.pointer (some ⟨b, 0, none⟩), .agg cs.toArray] w fun e w' => e = .returned (.tuple #[]) ∧ Wrote B b (l ++ bodyX 10 nm v ns (textXs [t0, t1])) w w'
set_option maxHeartbeats 16000000 in
theorem row_of (d : Nat) (H : LaySaid d) : RowSaid d := by
 intro az xa xc bg en Bm B b l w hAZ hXA hBm h0 hB hbld hML hdp hw hl
 obtain ⟨u0, hu0⟩ := Kp.start B b w
 have hm0 : az.length ≤ 4194304 := by have := wtXs_len az; omega
 obtain ⟨L0, hL0⟩ := nam (l ++ bg.data.toList)
 have hL0l : L0.length = l.length + bg.size := by rw [← hL0]; simp
 have hbgs : bg.size ≤ 70368744177664 := by omega
 have hens : en.size ≤ 70368744177664 := by omega
 have HW1 := Lib.hid (kp_write u0 (bld_string B b l bg u0.w (hu0 ▸ hbld) (by omega) (hu0 ▸ hB)))
 rw [hL0] at HW1
 have HLAY := Lib.hid (fun (t : Ex) (cs : List Value) (Lc : List UInt8) (v : World) (hb : Below B w v) (hx : IsX Bm v cs t) (hbl : Bld B b Lc v) (hd : deepB d t = true) (hwt : wtX t ≤ 4194304) (hLc : Lc.length + 64 * wtX t ≤ 70368744177664) => H t cs Bm B b Lc 0 v hx hBm h0 (Nat.le_trans hB hb.size) hbl (hML.kp hb h0) hd hwt hLc)
 have HAT : Hid (∀ (j : Nat) t, az[j]? = some t → ∃ bb off cs, xa = some ⟨bb, off, none⟩ ∧ bb < Bm ∧ (∀ (u : { v : World // Below B w v }) (q : Nat) v, cs[q]? = some v → u.1.cell? ⟨bb, off + j * 10 + q, none⟩ = some v) ∧ ∀ u : { v : World // Below B w v }, IsX Bm u.1 cs t) := Lib.hid (fun j t ht => hAZ.at_any (U := { v : World // Below B w v }) (f := fun u => u.1) (C := B) hBm (fun u => u.2) ht)
 have HDP := Lib.hid hdp
 have HWT : Hid (∀ (j : Nat) t, az[j]? = some t → wtXs (az.take j) + wtX t ≤ wtXs az) := Lib.hid (fun j t h => wtXs_take h)
 obtain ⟨HL, HLL, HWW, HBB, HU0, HL0, HBM⟩ := hd7 hl hL0l hw hB hu0 hL0 hBm
 obtain ⟨m, hm⟩ := nam az.length
 rw [hm] at hm0 hXA ⊢
 have HM := Lib.hid hm
 have hxc := hXA.1
 clear hAZ hXA hBm h0 hB hbld hML hdp hw hl hL0 hL0l hu0 hm
 go_enter Tryz.func180, Tryz.ntmps180
 go_wp2_with (go_at_call 26; rw [HU0.out]; refine HW1.out.mono ?_; rintro e w2 ⟨rfl, u1, rfl, hbd1⟩; have HBD1 := Lib.hid hbd1; clear hbd1)
 go_loopw [15] (fun iv wr => ∃ (j : Nat) (u : Kp B b w), iv = .int .i64 j ∧ j ≤ m ∧ Hid (Bld B b (L0 ++ jn ((az.take j).map textX)) u.w) ∧ wr = u.w) (fun iv _ => m - (intOf iv).toNat)
 case atStart => exact ⟨0, u1, rfl, Nat.zero_le _, Lib.hid (by rw [List.take_zero, List.map_nil, jn_nil, List.append_nil]; exact HBD1.out), rfl⟩
 case round =>
  obtain ⟨j, u, rfl, hj, HBD, rfl⟩ := hrel
  by_cases hlt : j < m
  ·have hlt' : (j : Int) < m := by omega
   have hj0 : (0 : Int) ≤ (j : Int) := by omega
   have hwi : IntKind.i64.wrap ((j : Int) + 1) = (j : Int) + 1 := IntWalk.i64_in _ (by omega)
   obtain ⟨t2, ht2⟩ := get_some (l := az) (j := j) (by have := HM.out; omega)
   obtain ⟨eb, eo, cs2, rfl, heb, hcs, hx2⟩ := HAT.out j t2 ht2
   obtain ⟨op2, nm2, v2, ns2, az2⟩ := t2
   obtain ⟨k2, bo2, i2, s2, l2, ks2, la2, lc2, ka2, kc2, na2, nc2, xa2, xc2, -, rfl, -⟩ := (hx2 ⟨u.w, u.below⟩).cells
   have hst := row_step ht2
   have hwt1 := HWT.out j _ ht2
   have hdd := HDP.out j _ ht2
   have hrl := row_len (az.take j)
   obtain ⟨T, hT⟩ : ∃ T, T = Ex.mk op2 nm2 v2 ns2 az2 := ⟨_, rfl⟩
   rw [← hT] at hst hwt1 hdd hx2
   have g0 : u.w.cell? ⟨eb, eo + j * 10, none⟩ = some (.int .i64 op2) := hcs ⟨u.w, u.below⟩ 0 _ rfl
   have g1 := hcs ⟨u.w, u.below⟩ 1 _ rfl
   have g2 := hcs ⟨u.w, u.below⟩ 2 _ rfl
   have g3 := hcs ⟨u.w, u.below⟩ 3 _ rfl
   have g4 := hcs ⟨u.w, u.below⟩ 4 _ rfl
   have g5 := hcs ⟨u.w, u.below⟩ 5 _ rfl
   have g6 := hcs ⟨u.w, u.below⟩ 6 _ rfl
   have g7 := hcs ⟨u.w, u.below⟩ 7 _ rfl
   have g8 := hcs ⟨u.w, u.below⟩ 8 _ rfl
   have g9 := hcs ⟨u.w, u.below⟩ 9 _ rfl
   obtain ⟨W4, v4, hW4, hv4, hB4, hbd4, hbe4, hwr4, hce4⟩ := box_kp u.w (Nat.le_trans HBB.out u.below.size) HBD.out [.int .i64 op2, .string nm2, .int .i64 k2, .bool bo2, .int .i64 i2, .string s2, .slice la2 l2.length lc2, .slice ka2 ks2.length kc2, .slice na2 ns2.length nc2, .slice xa2 az2.length xc2] 36 (by decide)
   obtain ⟨z0, z1, z2, z3, z4, z5, z6, z7, z8, z9⟩ := gx10 hce4 v4
   rw [← hv4, ← hW4] at z0 z1 z2 z3 z4 z5 z6 z7 z8 z9
   have y0 := fun v => hce4 v 0 _ rfl
   have y1 := fun v => hce4 v 1 _ rfl
   have y2 := fun v => hce4 v 2 _ rfl
   have y3 := fun v => hce4 v 3 _ rfl
   have y4 := fun v => hce4 v 4 _ rfl
   have y5 := fun v => hce4 v 5 _ rfl
   have y6 := fun v => hce4 v 6 _ rfl
   have y7 := fun v => hce4 v 7 _ rfl
   have y8 := fun v => hce4 v 8 _ rfl
   have y9 := fun v => hce4 v 9 _ rfl
   have HCALL := Lib.hid (fun (v : Kp B b W4) (Lc : List UInt8) (hbl : Bld B b Lc v.w) (hLc : Lc.length + 64 * wtX T ≤ 70368744177664) => kp_write v (HLAY.out T _ Lc v.w (u.below.trans (hbe4 v)) (hx2 ⟨v.w, u.below.trans (hbe4 v)⟩) hbl hdd (by have := HWW.out; omega) hLc))
   have HLJ : Hid ((L0 ++ jn ((az.take j).map textX)).length + 2 + 64 * wtX T ≤ 70368744177664) := Lib.hid (by have := HL.out; have := HLL.out; rw [List.length_append]; omega)
   have HCM := Lib.hid (kp_write v4 (bld_string B b _ ⟨#[44, 32]⟩ v4.w hbd4 (by have := HLJ.out; have h2 : (ByteArray.mk #[44, 32]).size = 2 := rfl; omega) (Nat.le_trans HBB.out (Nat.le_trans u.below.size (hbe4 v4).size))))
   have HEND : Hid (∀ (v : Kp B b W4), Bld B b (L0 ++ jn ((az.take (j + 1)).map textX)) v.w → ∃ u' : Kp B b w, v.w = u'.w ∧ Bld B b (L0 ++ jn ((az.take (j + 1)).map textX)) u'.w) := Lib.hid (fun v h => by obtain ⟨u', hu'⟩ := u.of_wrote (hwr4 v _ h); exact ⟨u', hu', hu' ▸ h⟩)
   obtain ⟨HST, HB4, HW4, HV4⟩ := hd4 hst hbd4 hW4 hv4
   have hT' := Lib.hid hT
   clear hcs hx2 ht2 hst hwt1 hdd hrl hbd4 hW4 hv4 hB4 hbe4 hwr4 hce4 hT
   generalize l2.length = y11 at *
   generalize ks2.length = y12 at *
   generalize ns2.length = y13 at *
   generalize az2.length = y14 at *
   by_cases hz : j = 0
   ·have hz1 : decide ((0 : Int) < (j : Int)) = false := by simp; omega
    have hz2 : decide (0 < j) = false := by simp; omega
    have HZ := Lib.hid hz
    clear hz
    go_wp2_with (go_at_call 177; (try rw [HW4.out, HV4.out]); refine (HCALL.out _ _ HB4.out (by have := HLJ.out; omega)).mono ?_; rintro e w2 ⟨rfl, v5, rfl, hbd5⟩; have HF : Hid (Bld B b (L0 ++ jn ((az.take (j + 1)).map textX)) v5.w) := Lib.hid (by rw [HST.out]; unfold ahead; rw [if_pos HZ.out]; have h := hbd5; rw [needX_zero, HZ.out, List.take_zero, List.map_nil, jn_nil, List.append_nil] at h; simpa using h); clear hbd5)
    obtain ⟨u', hu', hbu⟩ := HEND.out _ HF.out
    rw [hu']
    go_roundw
    case rel => exact ⟨j + 1, u', by go_num, by omega, Lib.hid hbu, rfl⟩
    case measure => simp [intOf]; omega
   ·have hz1 : decide ((0 : Int) < (j : Int)) = true := by simp; omega
    have hz2 : decide (0 < j) = true := by simp; omega
    have HZ := Lib.hid hz
    clear hz
    go_wp2_with (go_at_call 26; (try rw [HW4.out, HV4.out]); refine HCM.out.mono ?_; rintro e w2 ⟨rfl, v5, rfl, hbd5⟩; have HF5 : Hid (Bld B b (L0 ++ (jn ((az.take j).map textX) ++ [44, 32])) v5.w) := Lib.hid (by rw [← List.append_assoc]; exact hbd5); clear hbd5)
    go_wp2_with (go_at_call 177; refine (HCALL.out _ _ HF5.out (by have := HLJ.out; simp only [List.length_append, List.length_cons, List.length_nil] at this ⊢; omega)).mono ?_; rintro e w2 ⟨rfl, v6, rfl, hbd6⟩; have HF : Hid (Bld B b (L0 ++ jn ((az.take (j + 1)).map textX)) v6.w) := Lib.hid (by rw [HST.out]; unfold ahead; rw [if_neg HZ.out]; rw [needX_zero] at hbd6; simpa using hbd6); clear hbd6)
    obtain ⟨u', hu', hbu⟩ := HEND.out _ HF.out
    rw [hu']
    go_roundw
    case rel => exact ⟨j + 1, u', by go_num, by omega, Lib.hid hbu, rfl⟩
    case measure => simp [intOf]; omega
  ·have hlt' : ¬ (j : Int) < m := by omega
   have hjm : j = m := by omega
   have HFIN : Hid (Bld B b (L0 ++ rowX az) u.w) := Lib.hid (by have h := HBD.out; rw [hjm, List.take_of_length_le (by have := HM.out; omega)] at h; exact h)
   have hrl := row_len az
   have HWE := Lib.hid (kp_write u (bld_string B b _ en u.w HFIN.out (by have := HL.out; have := HLL.out; unfold rowX; rw [List.length_append]; omega) (Nat.le_trans HBB.out u.below.size)))
   clear hrl hjm
   go_wp2_with (go_at_call 26; refine HWE.out.mono ?_; rintro e w2 ⟨rfl, v5, rfl, hbd5⟩; have HF5 := Lib.hid hbd5; clear hbd5)
   go_end0
   exact ⟨rfl, by have h := HF5.out; rw [← HL0.out] at h; simpa using h, v5.below, v5.kept⟩
set_option maxHeartbeats 16000000 in
theorem props_of (d : Nat) (H : LaySaid d) : PropsSaid d := by
 intro ns az ka xa kc xc Bm B b l w hNS hNA hAZ hXA hlen hBm h0 hB hbld hML hdp hw hks hl
 have hm0 : az.length ≤ 4194304 := by have := wtXs_len az; omega
 have hn0 : ns.length ≤ 4194304 := by have := wtS_len ns; omega
 obtain ⟨n, hn⟩ := nam ns.length
 obtain ⟨m, hm⟩ := nam az.length
 rw [hm] at hm0 hXA hlen ⊢
 rw [hn] at hn0 hNA hlen ⊢
 obtain ⟨HM, HN, HNM⟩ := hd3 hm hn hlen
 obtain ⟨W0, u0, hW0, hu0, hsz, hbd0, hbe, hwr, hce⟩ := box_kp w hB hbld [.slice ka n kc, .slice xa m xc] 206 (by decide)
 have e0 := fun u => hce u 0 _ rfl
 have e1 := fun u => hce u 1 _ rfl
 have x0 := hce u0 0 _ rfl
 have x1 := hce u0 1 _ rfl
 rw [← hu0, ← hW0] at x0 x1
 obtain ⟨L0, hL0⟩ := nam (l ++ [123])
 have hL0l : L0.length = l.length + 1 := by rw [← hL0]; simp
 have HW1 := Lib.hid (kp_write u0 (bld_byte B b l 123 u0.w hbd0 (by omega) (Nat.le_trans hB (hbe u0).size) (by omega)))
 rw [show l ++ [UInt8.ofNat 123] = L0 from hL0] at HW1
 have HLAY := Lib.hid (fun (t : Ex) (cs : List Value) (Lc : List UInt8) (v : Kp B b W0) (hx : IsX Bm v.w cs t) (hbl : Bld B b Lc v.w) (hd : deepB d t = true) (hwt : wtX t ≤ 4194304) (hLc : Lc.length + 64 * wtX t ≤ 70368744177664) => kp_write v (H t cs Bm B b Lc 0 v.w hx hBm h0 (Nat.le_trans hB (hbe v).size) hbl (hML.kp (hbe v) h0) hd hwt hLc))
 have HKEY := Lib.hid (fun (x : ByteArray) (hx : x.size ≤ 1099511627776) (v : Kp B b W0) (Lc : List UInt8) (hbl : Bld B b Lc v.w) => kp_grow v hsz hbl (skeyT_any x v.w hx (hML.kp (hbe v) h0)))
 have HWS := Lib.hid (fun (x : ByteArray) (v : Kp B b W0) (Lc : List UInt8) (hbl : Bld B b Lc v.w) (hx : Lc.length + x.size ≤ 140737488355328) => kp_write v (bld_string B b Lc x v.w hbl hx (Nat.le_trans hB (hbe v).size)))
 have HWB := Lib.hid (fun (v : Kp B b W0) (Lc : List UInt8) (hbl : Bld B b Lc v.w) (hx : Lc.length + 1 ≤ 140737488355328) => kp_write v (bld_byte B b Lc 125 v.w hbl hx (Nat.le_trans hB (hbe v).size) (by omega)))
 have HAT : Hid (∀ (j : Nat) t, az[j]? = some t → ∃ bb off cs, xa = some ⟨bb, off, none⟩ ∧ bb < Bm ∧ (∀ (u : Kp B b W0) (q : Nat) v, cs[q]? = some v → u.w.cell? ⟨bb, off + j * 10 + q, none⟩ = some v) ∧ ∀ u : Kp B b W0, IsX Bm u.w cs t) := Lib.hid (fun j t ht => hAZ.at_any (f := Kp.w) (C := B) hBm hbe ht)
 have HNT : Hid (∀ (j : Nat) x, ns[j]? = some x → ∃ bb off, ka = some ⟨bb, off, none⟩ ∧ bb < Bm ∧ ∀ u : Kp B b W0, u.w.cell? ⟨bb, off + j, none⟩ = some (.string x)) := Lib.hid (fun j x hx => hNS.at_any (f := Kp.w) (C := B) hBm hbe hx)
 have HDP := Lib.hid hdp
 have HWT : Hid (∀ (j : Nat) t, az[j]? = some t → wtXs (az.take j) + wtX t ≤ wtXs az) := Lib.hid (fun j t h => wtXs_take h)
 have HWN : Hid (∀ (j : Nat) t, ns[j]? = some t → wtS (ns.take j) + (t.size + 1) ≤ wtS ns) := Lib.hid (fun j t h => wtS_take h)
 obtain ⟨HL, HLL, HWW, HKS, HU0, HW0, HL0, HWR⟩ := hd8 hl hL0l hw hks hu0 hW0 hL0 hwr
 have hxc := hXA.1
 have hkc := hNA.1
 clear hAZ hXA hBm h0 hB hbld hML hdp hw hl hL0 hL0l hu0 hW0 hm hn hlen hNS hNA hbe hwr hce hsz hbd0 hks
 go_enter Tryz.func181, Tryz.ntmps181
 go_wp2_with (go_at_call 24; rw [HW0.out, HU0.out]; refine HW1.out.mono ?_; rintro e w2 ⟨rfl, u1, rfl, hbd1⟩; have HBD1 := Lib.hid hbd1; clear hbd1)
 go_loopw [11] (fun iv wr => ∃ (j : Nat) (u : Kp B b W0), iv = .int .i64 j ∧ j ≤ n ∧ Hid (Bld B b (L0 ++ jn (withK (ns.take j) ((az.take j).map textX))) u.w) ∧ wr = u.w) (fun iv _ => n - (intOf iv).toNat)
 case atStart => exact ⟨0, u1, rfl, Nat.zero_le _, Lib.hid (by rw [List.take_zero, show withK [] _ = [] from rfl, jn_nil, List.append_nil]; exact HBD1.out), rfl⟩
 case round =>
  obtain ⟨j, u, rfl, hj, HBD, rfl⟩ := hrel
  by_cases hlt : j < n
  ·have hlt' : (j : Int) < n := by omega
   have hltm : (j : Int) < m := by have := HNM.out; omega
   have hj0 : (0 : Int) ≤ (j : Int) := by omega
   have hwi : IntKind.i64.wrap ((j : Int) + 1) = (j : Int) + 1 := IntWalk.i64_in _ (by omega)
   obtain ⟨x, hx⟩ := get_some (l := ns) (j := j) (by have := HN.out; omega)
   obtain ⟨kb, ko, rfl, hkb, hkc2⟩ := HNT.out j x hx
   obtain ⟨t2, ht2⟩ := get_some (l := az) (j := j) (by have := HM.out; have := HNM.out; omega)
   obtain ⟨eb, eo, cs2, rfl, heb, hcs, hx2⟩ := HAT.out j t2 ht2
   obtain ⟨op2, nm2, v2, ns2, az2⟩ := t2
   obtain ⟨k2, bo2, i2, s2, l2, ks2, la2, lc2, ka2, kc2, na2, nc2, xa2, xc2, -, rfl, -⟩ := (hx2 u).cells
   have hst := props_step ht2 hx
   have hwt1 := HWT.out j _ ht2
   have hwn1 := HWN.out j _ hx
   have hdd := HDP.out j _ ht2
   have hrl := props_len (ns.take j) (az.take j)
   obtain ⟨T, hT⟩ : ∃ T, T = Ex.mk op2 nm2 v2 ns2 az2 := ⟨_, rfl⟩
   rw [← hT] at hst hwt1 hdd hx2
   have g0 : ∀ u : Kp B b W0, u.w.cell? ⟨eb, eo + j * 10, none⟩ = some (.int .i64 op2) := fun u => hcs u 0 _ rfl
   obtain ⟨g1, g2, g3, g4, g5, g6, g7, g8, g9⟩ := gf9 hcs
   obtain ⟨K, hK⟩ := nam (keyT x)
   have hKs : K.size ≤ 4 * x.size + 2 := by have h1 := keyTL_len x; unfold keyTL at h1; rw [hK] at h1; simpa using h1
   have hKS : (K ++ ⟨#[58, 32]⟩ : ByteArray).size = K.size + 2 := by simp; rfl
   have hKL : (K ++ ⟨#[58, 32]⟩ : ByteArray).data.toList = keyTL x ++ [58, 32] := by rw [ba_app]; unfold keyTL; rw [hK]
   have HKL := Lib.hid hKL
   have HKK := Lib.hid (HKEY.out x (by have := HKS.out; omega))
   rw [hK] at HKK
   have HLAY2 := Lib.hid (fun (v : Kp B b W0) (Lc : List UInt8) (hbl : Bld B b Lc v.w) (hLc : Lc.length + 64 * wtX T ≤ 70368744177664) => HLAY.out T _ Lc v (hx2 v) hbl hdd (by have := HWW.out; omega) hLc)
   have HLJ : Hid ((L0 ++ jn (withK (ns.take j) ((az.take j).map textX))).length + 8 + 4 * x.size + 64 * wtX T ≤ 70368744177664) := Lib.hid (by have := HL.out; have := HLL.out; rw [List.length_append]; omega)
   have HKTL : Hid ((keyTL x).length ≤ 4 * x.size + 2) := Lib.hid (keyTL_len x)
   have hKm : K.size ≤ 140737488355328 := by have := HKS.out; omega
   have HST := Lib.hid hst
   clear hcs hx2 ht2 hst hwt1 hwn1 hdd hrl hT hx hK hKL
   generalize l2.length = y1 at *
   generalize ks2.length = y2 at *
   generalize ns2.length = y3 at *
   generalize az2.length = y4 at *
   by_cases hz : j = 0
   ·have hz1 : decide ((0 : Int) < (j : Int)) = false := by simp; omega
    have hz2 : decide (0 < j) = false := by simp; omega
    have HZ := Lib.hid hz
    clear hz
    have HF5 : Hid (Bld B b (L0 ++ []) u.w) := Lib.hid (by have h := HBD.out; rw [HZ.out, List.take_zero, show withK [] _ = [] from rfl, jn_nil] at h; exact h)
    go_wp2_with (go_at_call 16; refine (HKK.out _ _ HF5.out).mono ?_; rintro e w2 ⟨rfl, v6, rfl, hbd6⟩; have HF6 := Lib.hid hbd6; clear hbd6)
    go_wp2_with (go_at_call 26; refine (HWS.out _ _ _ HF6.out (by have := HLJ.out; simp only [List.length_append, List.length_cons, List.length_nil, hKS] at this ⊢; omega)).mono ?_; rintro e w2 ⟨rfl, v7, rfl, hbd7⟩; have HF7 : Hid (Bld B b (L0 ++ ([] ++ (keyTL x ++ [58, 32]))) v7.w) := Lib.hid (by rw [← HKL.out]; simpa using hbd7); clear hbd7)
    go_wp2_with (go_at_call 177; refine (HLAY2.out _ _ HF7.out (by have := HLJ.out; have := HKTL.out; simp only [List.length_append, List.length_cons, List.length_nil] at *; omega)).mono ?_; rintro e w2 ⟨rfl, v8, rfl, hbd8⟩; have HF : Hid (Bld B b (L0 ++ jn (withK (ns.take (j + 1)) ((az.take (j + 1)).map textX))) v8.w) := Lib.hid (by rw [HST.out]; unfold ahead; rw [if_pos HZ.out]; rw [needX_zero] at hbd8; simpa using hbd8); clear hbd8)
    go_roundw
    case rel => exact ⟨j + 1, v8, by go_num, by omega, HF, rfl⟩
    case measure => simp [intOf]; omega
   ·have hz1 : decide ((0 : Int) < (j : Int)) = true := by simp; omega
    have hz2 : decide (0 < j) = true := by simp; omega
    have HZ := Lib.hid hz
    clear hz
    go_wp2_with (go_at_call 26; refine (HWS.out _ _ _ HBD.out (by have := HLJ.out; have h2 : (ByteArray.mk #[44, 32]).size = 2 := rfl; omega)).mono ?_; rintro e w2 ⟨rfl, v5, rfl, hbd5⟩; have HF5 : Hid (Bld B b (L0 ++ (jn (withK (ns.take j) ((az.take j).map textX)) ++ [44, 32])) v5.w) := Lib.hid (by rw [← List.append_assoc]; exact hbd5); clear hbd5)
    go_wp2_with (go_at_call 16; refine (HKK.out _ _ HF5.out).mono ?_; rintro e w2 ⟨rfl, v6, rfl, hbd6⟩; have HF6 := Lib.hid hbd6; clear hbd6)
    go_wp2_with (go_at_call 26; refine (HWS.out _ _ _ HF6.out (by have := HLJ.out; simp only [List.length_append, List.length_cons, List.length_nil, hKS] at this ⊢; omega)).mono ?_; rintro e w2 ⟨rfl, v7, rfl, hbd7⟩; have HF7 : Hid (Bld B b (L0 ++ ((jn (withK (ns.take j) ((az.take j).map textX)) ++ [44, 32]) ++ (keyTL x ++ [58, 32]))) v7.w) := Lib.hid (by rw [← HKL.out]; simpa using hbd7); clear hbd7)
    go_wp2_with (go_at_call 177; refine (HLAY2.out _ _ HF7.out (by have := HLJ.out; have := HKTL.out; simp only [List.length_append, List.length_cons, List.length_nil] at *; omega)).mono ?_; rintro e w2 ⟨rfl, v8, rfl, hbd8⟩; have HF : Hid (Bld B b (L0 ++ jn (withK (ns.take (j + 1)) ((az.take (j + 1)).map textX))) v8.w) := Lib.hid (by rw [HST.out]; unfold ahead; rw [if_neg HZ.out]; rw [needX_zero] at hbd8; simpa using hbd8); clear hbd8)
    go_roundw
    case rel => exact ⟨j + 1, v8, by go_num, by omega, HF, rfl⟩
    case measure => simp [intOf]; omega
  ·have hlt' : ¬ (j : Int) < n := by omega
   have hjm : j = n := by omega
   have hrl := props_len ns az
   have HFIN : Hid (Bld B b (L0 ++ jn (withK ns (az.map textX))) u.w) := Lib.hid (by have h := HBD.out; rw [hjm, List.take_of_length_le (by have := HN.out; omega), List.take_of_length_le (by have := HM.out; have := HNM.out; omega)] at h; exact h)
   have HWE := Lib.hid (HWB.out u _ HFIN.out (by have := HL.out; have := HLL.out; rw [List.length_append]; omega))
   clear hrl hjm
   go_wp2_with (go_at_call 24; refine HWE.out.mono ?_; rintro e w2 ⟨rfl, v5, rfl, hbd5⟩; have HF5 := Lib.hid hbd5; clear hbd5)
   go_end0
   exact ⟨rfl, HWR.out v5 _ (by have h := HF5.out; rw [← HL0.out] at h; unfold propsX; simpa using h)⟩
end Go.Proofs.YtndhpdclpgemfaaGreat

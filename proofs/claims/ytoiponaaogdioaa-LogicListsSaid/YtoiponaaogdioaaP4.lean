/- The walks of the laws of layer 2. Conditions: slices are readable rows. -/
import Derived.Test.YtoiponaaogdioaaP3
import Derived.WalkKit
import Derived.ProofKit
import Derived.OpenShut
import Derived.Outline
import Derived.WalkLawsBesides
import Derived.WalkSpells
import Derived.Deep.QuietTactic
import Derived.BigQuiet
import Derived.WalkSmall
import Derived.Lib.Hide
namespace Go.Proofs.Ytoiponaaogdioaa
open Go.RowKit



theorem Calls.below {P : Program} {f : FuncId} {args : Array Value} {w W : World} {v : Value} (h : Calls P f args w fun e w' => e = .returned v ∧ Below w.heap.size w w') (hb : Below W.heap.size W w) :
    Calls P f args w fun e w' => e = .returned v ∧ Below W.heap.size W w' := h.mono fun _ _ ⟨he, hk⟩ => ⟨he, below_step hb rfl hk⟩

theorem IsRow.below {k : IntKind} {w w' : World} {a : Option Addr} {len cap : Nat} {zs : List Int} (h : IsRow k w a len cap zs) (hb : Below w.heap.size w w') : IsRow k w' a len cap zs := by
  rcases h with h | ⟨x, h1, h2, h3, h4, h5, h6⟩
  · exact .inl h
  · refine .inr ⟨x, h1, h2, h3, h4, fun i hi => ?_, h6⟩
    have hc := h5 i hi
    rw [hb.cell (World.block_lt_of_cell? _ _ hc)]; exact hc

theorem tables_walk (a b : Int) (x : Bool) (w : World) : Calls Try.prog 4 #[.int .i64 a, .int .i64 b, .bool x] w fun e w' => e = .returned (.bool true) ∧ Below w.heap.size w w' := by
  have hB0 : Below w.heap.size w w := Below.refl _ _
  cases x
  all_goals
    go_enter Try.func4, Try.ntmps4
    go_wp2_with (first
    | (go_at_call 8; refine (of_any _ _).mono ?_; rintro e w' ⟨rfl, rfl⟩)
    | (go_at_call 13; refine (rof_any _ _).mono ?_; rintro e w' ⟨rfl, rfl⟩)
    | (go_at_call 14; refine (is_any _ _).mono ?_; rintro e w' ⟨rfl, rfl⟩)
    | (go_at_call 15; refine (not_any _ _).mono ?_; rintro e w' ⟨rfl, rfl⟩)
    | (go_at_call 16; refine (rnot_any _ _).mono ?_; rintro e w' ⟨rfl, rfl⟩)
    | (go_at_call 17; refine (rand_any _ _ _).mono ?_; rintro e w' ⟨rfl, rfl⟩)
    | (go_at_call 18; refine (ror_any _ _ _).mono ?_; rintro e w' ⟨rfl, rfl⟩)
    | (go_at_call 19; refine (rxor_any _ _ _).mono ?_; rintro e w' ⟨rfl, rfl⟩)
    | (go_at_call 9; refine (Calls.below (and_any _ _ _) (by assumption)).mono ?_; rintro e w' ⟨rfl, hB⟩)
    | (go_at_call 10; refine (Calls.below (or_any _ _ _) (by assumption)).mono ?_; rintro e w' ⟨rfl, hB⟩)
    | (go_at_call 11; refine (Calls.below (xor_any _ _ _) (by assumption)).mono ?_; rintro e w' ⟨rfl, hB⟩)
    | (go_at_call 12; refine (Calls.below (works_any _) (by assumption)).mono ?_; rintro e w' ⟨rfl, hB⟩))
    go_ret
    exact ⟨rfl, by assumption⟩

theorem known_walk (a : Int) (b : Bool) (w : World) : Calls Try.prog 3 #[.int .i64 a, .bool b] w fun e w' => e = .returned (.bool true) ∧ Below w.heap.size w w' := by
  have hB0 : Below w.heap.size w w := Below.refl _ _
  have e1 : ∀ t, tAnd 0 t = 0 := fun t => by simp [tAnd]
  have e2 : ∀ t, tOr 1 t = 1 := fun t => by simp [tOr]
  have e3 : ∀ t, tXor t 2 = 2 := fun t => by simp [tXor]
  have e4 : tAnd 1 2 = 2 := rfl
  have e5 : tOr 0 2 = 2 := rfl
  rcases tKnown_cases a with ⟨rfl, h⟩ | ⟨rfl, h⟩ | ⟨h0, h1, h⟩
  all_goals
    clear h
    try (have f1 : tAnd a 2 = 2 := by simp [tAnd, *])
    try (have f2 : tOr a 2 = 2 := by simp [tOr, *])
    cases b
  all_goals
    go_enter Try.func3, Try.ntmps3
    go_wp2_with (first
    | (go_at_call 8; refine (of_any _ _).mono ?_; rintro e w' ⟨rfl, rfl⟩)
    | (go_at_call 13; refine (rof_any _ _).mono ?_; rintro e w' ⟨rfl, rfl⟩)
    | (go_at_call 14; refine (is_any _ _).mono ?_; rintro e w' ⟨rfl, rfl⟩)
    | (go_at_call 15; refine (not_any _ _).mono ?_; rintro e w' ⟨rfl, rfl⟩)
    | (go_at_call 16; refine (rnot_any _ _).mono ?_; rintro e w' ⟨rfl, rfl⟩)
    | (go_at_call 17; refine (rand_any _ _ _).mono ?_; rintro e w' ⟨rfl, rfl⟩)
    | (go_at_call 18; refine (ror_any _ _ _).mono ?_; rintro e w' ⟨rfl, rfl⟩)
    | (go_at_call 19; refine (rxor_any _ _ _).mono ?_; rintro e w' ⟨rfl, rfl⟩)
    | (go_at_call 9; refine (Calls.below (and_any _ _ _) (by assumption)).mono ?_; rintro e w' ⟨rfl, hB⟩)
    | (go_at_call 10; refine (Calls.below (or_any _ _ _) (by assumption)).mono ?_; rintro e w' ⟨rfl, hB⟩)
    | (go_at_call 11; refine (Calls.below (xor_any _ _ _) (by assumption)).mono ?_; rintro e w' ⟨rfl, hB⟩)
    | (go_at_call 12; refine (Calls.below (works_any _) (by assumption)).mono ?_; rintro e w' ⟨rfl, hB⟩))
    go_ret
    exact ⟨rfl, by assumption⟩

theorem lists_walk (a : Option Addr) (len cap : Nat) (zs : List Int) (w : World) (h : IsRow .i64 w a len cap zs) : Calls Try.prog 5 #[.slice a len cap] w fun e w' => e = .returned (.bool true) ∧ Below w.heap.size w w' := by
  have hB0 : Below w.heap.size w w := Below.refl _ _
  go_enter Try.func5, Try.ntmps5
  go_wp2_with fail
  refine (Calls.below (all_any a len cap zs _ h) (by assumption)).mono ?_; rintro e w1 ⟨rfl, hB1⟩
  have h1 := h.below hB1
  go_wp2_with fail
  refine (rall_any a len cap zs _ h1).mono ?_; rintro e w' ⟨rfl, rfl⟩
  go_wp2_with fail
  refine (Calls.below (any_any a len cap zs _ h1) (by assumption)).mono ?_; rintro e w2 ⟨rfl, hB2⟩
  have h2 := h.below hB2
  go_wp2_with fail
  refine (rany_any a len cap zs _ h2).mono ?_; rintro e w' ⟨rfl, rfl⟩
  go_wp2_with fail
  refine (Calls.below (works_any _) (by assumption)).mono ?_; rintro e w3 ⟨rfl, hB3⟩
  go_wp2_with fail
  go_ret
  exact ⟨rfl, hB3⟩
end Go.Proofs.Ytoiponaaogdioaa

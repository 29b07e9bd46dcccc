/- Contracts of Or, Xor, Of, Is and of the reference functions of one or two truths. Conditions: none. -/
import Derived.Test.YtoiponaaogdioaaP1
import Derived.WalkKit
import Derived.ProofKit
import Derived.OpenShut
import Derived.Outline
import Derived.WalkLawsBesides
import Derived.WalkSpells
import Derived.Deep.QuietTactic
import Derived.BigQuiet
import Derived.WalkSmall
import Derived.Lib.Hide
namespace Go.Proofs.Ytoiponaaogdioaa
open Go.RowKit

theorem or_eq (a b : Int) : tNot (tAnd (tNot a) (tNot b)) = tOr a b := by
  rcases tKnown_cases a with ⟨rfl, _⟩ | ⟨rfl, _⟩ | ⟨h0, h1, _⟩ <;> rcases tKnown_cases b with ⟨rfl, _⟩ | ⟨rfl, _⟩ | ⟨k0, k1, _⟩ <;> simp [tNot, tAnd, tOr, *]
theorem xor_eq (a b : Int) : tOr (tAnd a (tNot b)) (tAnd (tNot a) b) = tXor a b := by
  rcases tKnown_cases a with ⟨rfl, _⟩ | ⟨rfl, _⟩ | ⟨h0, h1, _⟩ <;> rcases tKnown_cases b with ⟨rfl, _⟩ | ⟨rfl, _⟩ | ⟨k0, k1, _⟩ <;> simp [tNot, tAnd, tOr, tXor, *]
theorem or_any (a b : Int) (w : World) : Calls Try.prog 10 #[.int .i64 a, .int .i64 b] w fun e w' => e = .returned (.int .i64 (tOr a b)) ∧ Below w.heap.size w w' := by
  go_enter Try.func10, Try.ntmps10
  go_wp2_with fail
  refine (not_any a _).mono ?_; rintro e w' ⟨rfl, rfl⟩
  go_wp2_with fail
  refine (not_any b _).mono ?_; rintro e w' ⟨rfl, rfl⟩
  go_wp2_with fail
  refine (and_any _ _ _).mono ?_; rintro e w' ⟨rfl, hb⟩
  go_wp2_with fail
  refine (not_any _ _).mono ?_; rintro e w' ⟨rfl, rfl⟩
  go_wp2_with fail
  go_ret
  refine ⟨?_, hb⟩
  rw [or_eq]; rfl

theorem xor_any (a b : Int) (w : World) : Calls Try.prog 11 #[.int .i64 a, .int .i64 b] w fun e w' => e = .returned (.int .i64 (tXor a b)) ∧ Below w.heap.size w w' := by
  go_enter Try.func11, Try.ntmps11
  go_wp2_with fail
  refine (not_any _ _).mono ?_; rintro e w' ⟨rfl, rfl⟩
  go_wp2_with fail
  refine (and_any _ _ _).mono ?_; rintro e w1 ⟨rfl, hb⟩
  go_wp2_with fail
  refine (not_any _ _).mono ?_; rintro e w' ⟨rfl, rfl⟩
  go_wp2_with fail
  refine (and_any _ _ _).mono ?_; rintro e w2 ⟨rfl, hb2⟩
  go_wp2_with fail
  refine (or_any _ _ _).mono ?_; rintro e w3 ⟨rfl, hb3⟩
  go_wp2_with fail
  go_ret
  refine ⟨?_, hb.trans ((hb2.mono hb.size).trans (hb3.mono (Nat.le_trans hb.size hb2.size)))⟩
  rw [xor_eq]; rfl

theorem of_any (b : Bool) (w : World) : Calls Try.prog 8 #[.bool b] w fun e w' => e = .returned (.int .i64 (if b then 1 else 0)) ∧ w = w' := by
  cases b
  all_goals
    go_enter Try.func8, Try.ntmps8
    go_wp2
    go_ret
    exact ⟨rfl, rfl⟩
theorem rof_any (b : Bool) (w : World) : Calls Try.prog 13 #[.bool b] w fun e w' => e = .returned (.int .i64 (if b then 1 else 0)) ∧ w = w' := by
  cases b
  all_goals
    go_enter Try.func13, Try.ntmps13
    go_wp2
    go_ret
    exact ⟨rfl, rfl⟩
theorem is_any (a : Int) (w : World) : Calls Try.prog 14 #[.int .i64 a] w fun e w' => e = .returned (.bool (a == 1)) ∧ w = w' := by
  go_enter Try.func14, Try.ntmps14
  go_wp2
  go_ret
  exact ⟨rfl, rfl⟩
theorem rnot_any (a : Int) (w : World) : Calls Try.prog 16 #[.int .i64 a] w fun e w' => e = .returned (.int .i64 (tNot a)) ∧ w = w' := by
  rcases tKnown_cases a with ⟨rfl, h⟩ | ⟨rfl, h⟩ | ⟨h0, h1, h⟩
  all_goals
    clear h
    try (have h0' : (a == 0) = false := by simpa using h0)
    try (have h1' : (a == 1) = false := by simpa using h1)
    go_enter Try.func16, Try.ntmps16
    go_wp2
    go_ret
    refine ⟨?_, rfl⟩
    first | rfl | (simp [tNot, *])
theorem rknown_any (a : Int) (w : World) : Calls Try.prog 25 #[.int .i64 a] w fun e w' => e = .returned (.bool (a == 1 || a == 0)) ∧ w = w' := by
  rcases tKnown_cases a with ⟨rfl, h⟩ | ⟨rfl, h⟩ | ⟨h0, h1, h⟩
  all_goals
    clear h
    try (have h0' : (a == 0) = false := by simpa using h0)
    try (have h1' : (a == 1) = false := by simpa using h1)
    go_enter Try.func25, Try.ntmps25
    go_wp2
    go_ret
    refine ⟨?_, rfl⟩
    first | rfl | (simp [*])
theorem rand_any (a b : Int) (w : World) : Calls Try.prog 17 #[.int .i64 a, .int .i64 b] w fun e w' => e = .returned (.int .i64 (tAnd a b)) ∧ w = w' := by
  rcases tKnown_cases a with ⟨rfl, h⟩ | ⟨rfl, h⟩ | ⟨h0, h1, h⟩ <;> rcases tKnown_cases b with ⟨rfl, k⟩ | ⟨rfl, k⟩ | ⟨k0, k1, k⟩
  all_goals
    clear h k
    try (have h0' : (a == 0) = false := by simpa using h0)
    try (have h1' : (a == 1) = false := by simpa using h1)
    try (have k0' : (b == 0) = false := by simpa using k0)
    try (have k1' : (b == 1) = false := by simpa using k1)
    go_enter Try.func17, Try.ntmps17
    go_wp2
    go_ret
    refine ⟨?_, rfl⟩
    first | rfl | (simp [tAnd, *])
theorem ror_any (a b : Int) (w : World) : Calls Try.prog 18 #[.int .i64 a, .int .i64 b] w fun e w' => e = .returned (.int .i64 (tOr a b)) ∧ w = w' := by
  rcases tKnown_cases a with ⟨rfl, h⟩ | ⟨rfl, h⟩ | ⟨h0, h1, h⟩ <;> rcases tKnown_cases b with ⟨rfl, k⟩ | ⟨rfl, k⟩ | ⟨k0, k1, k⟩
  all_goals
    clear h k
    try (have h0' : (a == 0) = false := by simpa using h0)
    try (have h1' : (a == 1) = false := by simpa using h1)
    try (have k0' : (b == 0) = false := by simpa using k0)
    try (have k1' : (b == 1) = false := by simpa using k1)
    go_enter Try.func18, Try.ntmps18
    go_wp2
    go_ret
    refine ⟨?_, rfl⟩
    first | rfl | (simp [tOr, *])
theorem rxor_any (a b : Int) (w : World) : Calls Try.prog 19 #[.int .i64 a, .int .i64 b] w fun e w' => e = .returned (.int .i64 (tXor a b)) ∧ w = w' := by
  rcases tKnown_cases a with ⟨rfl, h⟩ | ⟨rfl, h⟩ | ⟨h0, h1, h⟩ <;> rcases tKnown_cases b with ⟨rfl, k⟩ | ⟨rfl, k⟩ | ⟨k0, k1, k⟩
  all_goals
    clear h k
    try (have h0' : (a == 0) = false := by simpa using h0)
    try (have h1' : (a == 1) = false := by simpa using h1)
    try (have k0' : (b == 0) = false := by simpa using k0)
    try (have k1' : (b == 1) = false := by simpa using k1)
    go_enter Try.func19, Try.ntmps19
    go_wp2
    go_ret
    refine ⟨?_, rfl⟩
    first | rfl | (simp [tXor, *])
end Go.Proofs.Ytoiponaaogdioaa

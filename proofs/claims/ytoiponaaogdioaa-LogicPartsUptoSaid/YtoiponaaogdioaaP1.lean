/- The truth tables of package logic and of its reference: contracts of known, Not, And. Conditions: none. -/
import Derived.Test.YtoiponaaogdioaaProg
import Derived.WalkKit
import Derived.ProofKit
import Derived.OpenShut
import Derived.Outline
import Derived.WalkLawsBesides
import Derived.WalkSpells
import Derived.Deep.QuietTactic
import Derived.BigQuiet
import Derived.WalkSmall
import Derived.Lib.Hide
namespace Go.Proofs.Ytoiponaaogdioaa
open Go.RowKit

def tKnown (a : Int) : Int := if a = 0 ∨ a = 1 then a else 2
theorem tKnown_cases (a : Int) : (a = 0 ∧ tKnown a = 0) ∨ (a = 1 ∧ tKnown a = 1) ∨ (a ≠ 0 ∧ a ≠ 1 ∧ tKnown a = 2) := by
  unfold tKnown; by_cases h0 : a = 0
  · simp [h0]
  · by_cases h1 : a = 1 <;> simp [h0, h1]
def tNot (a : Int) : Int := if a = 0 then 1 else if a = 1 then 0 else 2
def tAnd (a b : Int) : Int := if a = 0 ∨ b = 0 then 0 else if a = 1 ∧ b = 1 then 1 else 2
def tOr (a b : Int) : Int := if a = 1 ∨ b = 1 then 1 else if a = 0 ∧ b = 0 then 0 else 2
def tXor (a b : Int) : Int := if (a = 0 ∨ a = 1) ∧ (b = 0 ∨ b = 1) then (if a = b then 0 else 1) else 2

theorem known_any (a : Int) (w : World) : Calls Try.prog 24 #[.int .i64 a] w fun e w' => e = .returned (.int .i64 (tKnown a)) ∧ w = w' := by
  rcases tKnown_cases a with ⟨rfl, h⟩ | ⟨rfl, h⟩ | ⟨h0, h1, h⟩
  · rw [h]; clear h
    go_enter Try.func24, Try.ntmps24
    go_wp2
    go_ret
    exact ⟨rfl, rfl⟩
  · rw [h]; clear h
    go_enter Try.func24, Try.ntmps24
    go_wp2
    go_ret
    exact ⟨rfl, rfl⟩
  · rw [h]; clear h
    have h0' : (a == 0) = false := by simpa using h0
    have h1' : (a == 1) = false := by simpa using h1
    clear h0 h1
    go_enter Try.func24, Try.ntmps24
    go_wp2
    go_ret
    exact ⟨rfl, rfl⟩


theorem known_v (a v : Int) (h : tKnown a = v) (w : World) : Calls Try.prog 24 #[.int .i64 a] w fun e w' => e = .returned (.int .i64 v) ∧ w' = w :=
  (known_any a w).mono fun _ _ ⟨he, hw⟩ => ⟨by rw [he, h], hw.symm⟩

theorem not_any (a : Int) (w : World) : Calls Try.prog 15 #[.int .i64 a] w fun e w' => e = .returned (.int .i64 (tNot a)) ∧ w = w' := by
  have i0 : ∀ w, (Instr.index 36 (.agg #[.int .i64 1, .int .i64 0, .int .i64 2]) (.int .i64 0)).run Try.prog w = .ok (.int .i64 1) w := fun _ => by kernel_rfl
  have i1 : ∀ w, (Instr.index 36 (.agg #[.int .i64 1, .int .i64 0, .int .i64 2]) (.int .i64 1)).run Try.prog w = .ok (.int .i64 0) w := fun _ => by kernel_rfl
  have i2 : ∀ w, (Instr.index 36 (.agg #[.int .i64 1, .int .i64 0, .int .i64 2]) (.int .i64 2)).run Try.prog w = .ok (.int .i64 2) w := fun _ => by kernel_rfl
  rcases tKnown_cases a with ⟨rfl, h⟩ | ⟨rfl, h⟩ | ⟨h0, h1, h⟩
  all_goals
    have H := Lib.hid h; clear h
    go_enter Try.func15, Try.ntmps15
    go_wp2_with (go_at_call 24; refine (known_v _ _ H.out _).mono ?_; rintro e w' ⟨rfl, rfl⟩)
    go_ret
    refine ⟨?_, rfl⟩
    first | rfl | (simp [tNot, *])
set_option maxHeartbeats 400000 in
theorem and_any (a b : Int) (w : World) : Calls Try.prog 9 #[.int .i64 a, .int .i64 b] w fun e w' => e = .returned (.int .i64 (tAnd a b)) ∧ Below w.heap.size w w' := by
  rcases tKnown_cases a with ⟨rfl, h⟩ | ⟨rfl, h⟩ | ⟨h0, h1, h⟩ <;> rcases tKnown_cases b with ⟨rfl, k⟩ | ⟨rfl, k⟩ | ⟨k0, k1, k⟩
  all_goals
    have H := Lib.hid h; clear h
    have K := Lib.hid k; clear k
    go_enter Try.func9, Try.ntmps9
    go_wp2_with fail
    go_quiet (first | (go_at_call 24; with_reducible exact Calls.quiet_of_same (known_v _ _ H.out _)) | (go_at_call 24; with_reducible exact Calls.quiet_of_same (known_v _ _ K.out _)))
    go_wp2
    go_ret
    refine ⟨?_, below_drewN ((Below.refl _ _).alloc (Nat.le_refl _) _) _⟩
    first | rfl | (simp [tAnd, *])

end Go.Proofs.Ytoiponaaogdioaa

/- Layer 5: the contracts of Letter, Digit, Hex. Written by genS4.py. Conditions: none. -/
import Derived.Test.YtangldmjgidgcaaProg
import Derived.Test.YtangldmjgidgcaaS3
import Derived.Outline
namespace Go.Proofs.Ytangldmjgidgcaa
open Go.RowKit
set_option linter.unusedSimpArgs false
set_option linter.unusedVariables false

def letter (c : Nat) : Bool := decide ((97 ≤ c ∧ c ≤ 122) ∨ (65 ≤ c ∧ c ≤ 90) ∨ c = 95)
def digt (c : Nat) : Bool := decide (48 ≤ c ∧ c ≤ 57)
def hexv (c : Nat) : Int := if 48 ≤ c ∧ c ≤ 57 then (c : Int) - 48 else if 97 ≤ c ∧ c ≤ 102 then (c : Int) - 97 + 10 else if 65 ≤ c ∧ c ≤ 70 then (c : Int) - 65 + 10 else -1

set_option maxRecDepth 20000 in
theorem letter_any (c : Nat) (hc : c < 256) (w : World) :
    Calls Try.prog 31 #[.int .u8 c] w fun e w' => e = .returned (.bool (letter c)) ∧ w = w' := by
  by_cases a : 97 ≤ c
  · have a' : (97 : Int) ≤ c := by omega
    by_cases b : c ≤ 122
    · have b' : (c : Int) ≤ 122 := by omega
      have HE : Hid (letter c = true) := Lib.hid (decide_eq_true (by omega))
      rw [HE.out]
      go_enter Try.func31, Try.ntmps31
      go_wp2_with fail
      go_ret
      exact ⟨rfl, rfl⟩
    · have b' : ¬ (c : Int) ≤ 122 := by omega
      have u1 : (65 : Int) ≤ c := by omega
      have u2 : ¬ (c : Int) ≤ 90 := by omega
      have hq : ((c : Int) == 95) = false := by simp; omega
      have HE : Hid (letter c = false) := Lib.hid (decide_eq_false (by omega))
      rw [HE.out]
      go_enter Try.func31, Try.ntmps31
      go_wp2_with fail
      go_ret
      exact ⟨rfl, rfl⟩
  · have a' : ¬ (97 : Int) ≤ c := by omega
    by_cases b : 65 ≤ c
    · have b' : (65 : Int) ≤ c := by omega
      by_cases d : c ≤ 90
      · have d' : (c : Int) ≤ 90 := by omega
        have HE : Hid (letter c = true) := Lib.hid (decide_eq_true (by omega))
        rw [HE.out]
        go_enter Try.func31, Try.ntmps31
        go_wp2_with fail
        go_ret
        exact ⟨rfl, rfl⟩
      · have d' : ¬ (c : Int) ≤ 90 := by omega
        by_cases e : c = 95
        · have e' : ((c : Int) == 95) = true := by simp; omega
          have HE : Hid (letter c = true) := Lib.hid (decide_eq_true (by omega))
          rw [HE.out]
          go_enter Try.func31, Try.ntmps31
          go_wp2_with fail
          go_ret
          exact ⟨rfl, rfl⟩
        · have e' : ((c : Int) == 95) = false := by simp; omega
          have HE : Hid (letter c = false) := Lib.hid (decide_eq_false (by omega))
          rw [HE.out]
          go_enter Try.func31, Try.ntmps31
          go_wp2_with fail
          go_ret
          exact ⟨rfl, rfl⟩
    · have b' : ¬ (65 : Int) ≤ c := by omega
      have hq : ((c : Int) == 95) = false := by simp; omega
      have HE : Hid (letter c = false) := Lib.hid (decide_eq_false (by omega))
      rw [HE.out]
      go_enter Try.func31, Try.ntmps31
      go_wp2_with fail
      go_ret
      exact ⟨rfl, rfl⟩

set_option maxRecDepth 20000 in
theorem digit_any (c : Nat) (hc : c < 256) (w : World) :
    Calls Try.prog 32 #[.int .u8 c] w fun e w' => e = .returned (.bool (digt c)) ∧ w = w' := by
  by_cases a : 48 ≤ c
  · have a' : (48 : Int) ≤ c := by omega
    by_cases b : c ≤ 57
    · have b' : (c : Int) ≤ 57 := by omega
      have HE : Hid (digt c = true) := Lib.hid (decide_eq_true (by omega))
      rw [HE.out]
      go_enter Try.func32, Try.ntmps32
      go_wp2_with fail
      go_ret
      exact ⟨rfl, rfl⟩
    · have b' : ¬ (c : Int) ≤ 57 := by omega
      have HE : Hid (digt c = false) := Lib.hid (decide_eq_false (by omega))
      rw [HE.out]
      go_enter Try.func32, Try.ntmps32
      go_wp2_with fail
      go_ret
      exact ⟨rfl, rfl⟩
  · have a' : ¬ (48 : Int) ≤ c := by omega
    have HE : Hid (digt c = false) := Lib.hid (decide_eq_false (by omega))
    rw [HE.out]
    go_enter Try.func32, Try.ntmps32
    go_wp2_with fail
    go_ret
    exact ⟨rfl, rfl⟩

set_option maxRecDepth 20000 in
theorem hexv_any (c : Nat) (hc : c < 256) (w : World) :
    Calls Try.prog 42 #[.int .u8 c] w fun e w' => e = .returned (.int .i64 (hexv c)) ∧ w = w' := by
  have D := Lib.hid (digit_any c hc w)
  by_cases g : 48 ≤ c ∧ c ≤ 57
  · have g1 : (48 : Int) ≤ c := by omega
    have g2 : (c : Int) ≤ 57 := by omega
    have HE : Hid (hexv c = (c : Int) - 48) := Lib.hid (by unfold hexv; (repeat' split) <;> omega)
    have HD : Hid (digt c = true) := Lib.hid (decide_eq_true (by omega))
    rw [HE.out]
    rw [HD.out] at D
    go_enter Try.func42, Try.ntmps42
    go_wp2_with fail
    refine D.out.mono ?_; rintro e w' ⟨rfl, rfl⟩
    go_wp2_with fail
    go_ret
    exact ⟨rfl, rfl⟩
  by_cases a : 97 ≤ c
  · have a' : (97 : Int) ≤ c := by omega
    by_cases b : c ≤ 102
    · have b' : (c : Int) ≤ 102 := by omega
      have HE : Hid (hexv c = (c : Int) - 97 + 10) := Lib.hid (by unfold hexv; (repeat' split) <;> omega)
      have HD : Hid (digt c = false) := Lib.hid (decide_eq_false (by omega))
      rw [HE.out]
      rw [HD.out] at D
      go_enter Try.func42, Try.ntmps42
      go_wp2_with fail
      refine D.out.mono ?_; rintro e w' ⟨rfl, rfl⟩
      go_wp2_with fail
      go_ret
      exact ⟨rfl, rfl⟩
    · have b' : ¬ (c : Int) ≤ 102 := by omega
      have u1 : (65 : Int) ≤ c := by omega
      have u2 : ¬ (c : Int) ≤ 70 := by omega
      have HE : Hid (hexv c = -1) := Lib.hid (by unfold hexv; (repeat' split) <;> omega)
      have HD : Hid (digt c = false) := Lib.hid (decide_eq_false (by omega))
      rw [HE.out]
      rw [HD.out] at D
      go_enter Try.func42, Try.ntmps42
      go_wp2_with fail
      refine D.out.mono ?_; rintro e w' ⟨rfl, rfl⟩
      go_wp2_with fail
      go_ret
      exact ⟨rfl, rfl⟩
  · have a' : ¬ (97 : Int) ≤ c := by omega
    by_cases b : 65 ≤ c
    · have b' : (65 : Int) ≤ c := by omega
      by_cases d : c ≤ 70
      · have d' : (c : Int) ≤ 70 := by omega
        have HE : Hid (hexv c = (c : Int) - 65 + 10) := Lib.hid (by unfold hexv; (repeat' split) <;> omega)
        have HD : Hid (digt c = false) := Lib.hid (decide_eq_false (by omega))
        rw [HE.out]
        rw [HD.out] at D
        go_enter Try.func42, Try.ntmps42
        go_wp2_with fail
        refine D.out.mono ?_; rintro e w' ⟨rfl, rfl⟩
        go_wp2_with fail
        go_ret
        exact ⟨rfl, rfl⟩
      · have d' : ¬ (c : Int) ≤ 70 := by omega
        have HE : Hid (hexv c = -1) := Lib.hid (by unfold hexv; (repeat' split) <;> omega)
        have HD : Hid (digt c = false) := Lib.hid (decide_eq_false (by omega))
        rw [HE.out]
        rw [HD.out] at D
        go_enter Try.func42, Try.ntmps42
        go_wp2_with fail
        refine D.out.mono ?_; rintro e w' ⟨rfl, rfl⟩
        go_wp2_with fail
        go_ret
        exact ⟨rfl, rfl⟩
    · have b' : ¬ (65 : Int) ≤ c := by omega
      have HE : Hid (hexv c = -1) := Lib.hid (by unfold hexv; (repeat' split) <;> omega)
      have HD : Hid (digt c = false) := Lib.hid (decide_eq_false (by omega))
      rw [HE.out]
      rw [HD.out] at D
      go_enter Try.func42, Try.ntmps42
      go_wp2_with fail
      refine D.out.mono ?_; rintro e w' ⟨rfl, rfl⟩
      go_wp2_with fail
      go_ret
      exact ⟨rfl, rfl⟩
end Go.Proofs.Ytangldmjgidgcaa

/- Contracts of num.Add, Sub, size, signed, Neg and of the references Add, Sub, Neg: each gives the whole number if it is one of 64 bits, else 0 and the overflow's number. Conditions: the arguments are numbers of 64 bits. -/
import Derived.Test.YtkmjchpmbndpiaaProg
import Derived.Test.YtkmjchpmbndpiaaBase
import Derived.Outline
namespace Go.Proofs.Ytkmjchpmbndpiaa
open Go.RowKit
set_option linter.unusedSimpArgs false
set_option linter.unusedVariables false

def In64 (n : Int) : Prop := -9223372036854775808 ≤ n ∧ n ≤ 9223372036854775807
instance (n : Int) : Decidable (In64 n) := by unfold In64; exact inferInstance
def chkV (n : Int) : Int := if In64 n then n else 0
def chkE (n : Int) : Int := if In64 n then 0 else 4
theorem In64.of_wf {n : Int} (h : (Lit.int .i64 n).wf = true) : In64 n := by
  simpa [Lit.wf, IntKind.min, IntKind.max, IntKind.signed, IntKind.bits, In64] using h
theorem chk_in {n : Int} (h : In64 n) : chkV n = n ∧ chkE n = 0 := by simp [chkV, chkE, h]
theorem chk_out {n : Int} (h : ¬ In64 n) : chkV n = 0 ∧ chkE n = 4 := by simp [chkV, chkE, h]

theorem ret_two {a b c d : Int} (h1 : a = c) (h2 : b = d) : Ending.returned (.tuple #[.int .i64 a, .int .i64 b]) = .returned (.tuple #[.int .i64 c, .int .i64 d]) := by rw [h1, h2]

theorem chk_cases (n : Int) : (In64 n ∧ chkV n = n ∧ chkE n = 0) ∨ (¬ In64 n ∧ chkV n = 0 ∧ chkE n = 4) := by
  by_cases h : In64 n
  · exact .inl ⟨h, chk_in h⟩
  · exact .inr ⟨h, chk_out h⟩
theorem add_end (a b s : Int) (ha : In64 a) (hb : In64 b) (hs : wrap64 (a + b) = s) : ((a < 0 ↔ b < 0) ∧ ¬ (s < 0 ↔ a < 0) ∧ chkV (a + b) = 0 ∧ chkE (a + b) = 4) ∨ (¬ ((a < 0 ↔ b < 0) ∧ ¬ (s < 0 ↔ a < 0)) ∧ chkV (a + b) = s ∧ chkE (a + b) = 0) := by
  have h := chk_cases (a + b)
  (unfold In64 at *; unfold wrap64 at hs; omega)
theorem sub_end (a b s : Int) (ha : In64 a) (hb : In64 b) (hs : wrap64 (a - b) = s) : (¬ (a < 0 ↔ b < 0) ∧ ¬ (s < 0 ↔ a < 0) ∧ chkV (a - b) = 0 ∧ chkE (a - b) = 4) ∨ (¬ (¬ (a < 0 ↔ b < 0) ∧ ¬ (s < 0 ↔ a < 0)) ∧ chkV (a - b) = s ∧ chkE (a - b) = 0) := by
  have h := chk_cases (a - b)
  (unfold In64 at *; unfold wrap64 at hs; omega)

theorem add_any (a b : Int) (w : World) (ha : In64 a) (hb : In64 b) : Calls Try.prog 9 #[.int .i64 a, .int .i64 b] w fun e w' => e = .returned (.tuple #[.int .i64 (chkV (a + b)), .int .i64 (chkE (a + b))]) ∧ w = w' := by
  obtain ⟨s, hs⟩ : ∃ s, wrap64 (a + b) = s := ⟨_, rfl⟩
  have hc := Lib.hid (add_end a b s ha hb hs)
  clear ha hb
  by_cases h1 : a < 0 <;> by_cases h2 : b < 0 <;> by_cases h3 : s < 0
  all_goals
    go_enter Try.func9, Try.ntmps9
    go_wp2
    go_ret2
    have hc := hc.out
    exact ⟨ret_two (by omega) (by omega), rfl⟩
theorem sub_any (a b : Int) (w : World) (ha : In64 a) (hb : In64 b) : Calls Try.prog 11 #[.int .i64 a, .int .i64 b] w fun e w' => e = .returned (.tuple #[.int .i64 (chkV (a - b)), .int .i64 (chkE (a - b))]) ∧ w = w' := by
  obtain ⟨s, hs⟩ : ∃ s, wrap64 (a - b) = s := ⟨_, rfl⟩
  have hc := Lib.hid (sub_end a b s ha hb hs)
  clear ha hb
  by_cases h1 : a < 0 <;> by_cases h2 : b < 0 <;> by_cases h3 : s < 0
  all_goals
    go_enter Try.func11, Try.ntmps11
    go_wp2
    go_ret2
    have hc := hc.out
    exact ⟨ret_two (by omega) (by omega), rfl⟩

theorem ret_u64 {a b : Int} (h : a = b) : Ending.returned (.int .u64 a) = .returned (.int .u64 b) := by rw [h]
theorem size_any (a : Int) (w : World) (ha : In64 a) : Calls Try.prog 27 #[.int .i64 a] w fun e w' => e = .returned (.int .u64 (a.natAbs : Int)) ∧ w = w' := by
  by_cases h1 : a < 0
  all_goals
    go_enter Try.func27, Try.ntmps27
    go_wp2
    go_ret
    refine ⟨ret_u64 ?_, rfl⟩
    unfold In64 at ha
    simp only [IntKind.wrap_u64]
    omega
theorem signed_any (m : Int) (b : Bool) (w : World) (h0 : 0 ≤ m) (hm : m ≤ 18446744073709551615) : Calls Try.prog 26 #[.int .u64 m, .bool b] w fun e w' => e = .returned (.tuple #[.int .i64 (chkV (if b then -m else m)), .int .i64 (chkE (if b then -m else m))]) ∧ w = w' := by
  have HM := Lib.hid hm; clear hm
  have HC := Lib.hid (chk_cases (if b then -m else m))
  cases b
  · by_cases h : m < 9223372036854775808
    all_goals
      go_enter Try.func26, Try.ntmps26
      go_wp2
      go_ret2
      have hc := HC.out
      have hm := HM.out
      simp only [In64, Bool.false_eq_true, if_false] at hc ⊢
      exact ⟨ret_two (by omega) (by omega), trivial⟩
  · by_cases h : m ≤ 9223372036854775808
    all_goals
      go_enter Try.func26, Try.ntmps26
      go_wp2
      go_ret2
      have hc := HC.out
      have hm := HM.out
      simp only [In64, if_true] at hc ⊢
      refine ⟨ret_two ?_ ?_, trivial⟩
      · first | omega | (simp only [IntKind.wrap_u64, wrap64]; omega)
      · omega
theorem natAbs_le {a : Int} (ha : In64 a) : (a.natAbs : Int) ≤ 9223372036854775808 := by unfold In64 at ha; omega

theorem neg_any (a : Int) (w : World) (ha : In64 a) : Calls Try.prog 13 #[.int .i64 a] w fun e w' => e = .returned (.tuple #[.int .i64 (chkV (-a)), .int .i64 (chkE (-a))]) ∧ w = w' := by
  have HL := Lib.hid (natAbs_le ha)
  have HS := Lib.hid (size_any a w ha)
  by_cases h : 0 < a
  all_goals
    clear ha
    go_enter Try.func13, Try.ntmps13
    go_wp2_with fail
    refine HS.out.mono ?_; rintro e w' ⟨rfl, rfl⟩
    have h0 : (0 : Int) ≤ a.natAbs := by omega
    generalize hq : (a.natAbs : Int) = q at *
    have HQ := Lib.hid hq; clear hq
    go_wp2_with fail
    refine (signed_any q _ _ h0 (by have := HL.out; omega)).mono ?_; rintro e w' ⟨rfl, rfl⟩
    go_wp2_with fail
    go_ret2
    have hq := HQ.out
    refine ⟨?_, rfl⟩
  · simp only; rw [show -a = -q from by omega]; rfl
  · simp only; rw [show -a = q from by omega]; rfl

theorem radd_any (a b : Int) (w : World) (ha : In64 a) (hb : In64 b) : Calls Try.prog 10 #[.int .i64 a, .int .i64 b] w fun e w' => e = .returned (.tuple #[.int .i64 (chkV (a + b)), .int .i64 (chkE (a + b))]) ∧ w = w' := by
  have HC := Lib.hid (chk_cases (a + b))
  have HA := Lib.hid ha
  have HB := Lib.hid hb
  have e1 : 0 < b → wrap64 (9223372036854775807 - b) = 9223372036854775807 - b := fun h => by unfold In64 at hb; unfold wrap64; omega
  have e2 : b < 0 → wrap64 (-9223372036854775808 - b) = -9223372036854775808 - b := fun h => by unfold In64 at hb; unfold wrap64; omega
  have e3 : In64 (a + b) → wrap64 (a + b) = a + b := fun h => by unfold In64 at h; unfold wrap64; omega
  have E3 := Lib.hid e3
  clear ha hb e3
  by_cases h1 : 0 < b
  · have f1 := e1 h1
    clear e1 e2
    by_cases h2 : 9223372036854775807 - b < a
    all_goals
      go_enter Try.func10, Try.ntmps10
      go_wp2
      go_ret2
      have hc := HC.out
      have ha := HA.out
      have hb := HB.out
      have e3 := E3.out
      unfold In64 at *
      exact ⟨ret_two (by omega) (by omega), rfl⟩
  · by_cases h3 : b < 0
    · have f2 := e2 h3
      clear e1 e2
      by_cases h2 : a < -9223372036854775808 - b
      all_goals
        go_enter Try.func10, Try.ntmps10
        go_wp2
        go_ret2
        have hc := HC.out
        have ha := HA.out
        have hb := HB.out
        have e3 := E3.out
        unfold In64 at *
        exact ⟨ret_two (by omega) (by omega), rfl⟩
    · clear e1 e2
      go_enter Try.func10, Try.ntmps10
      go_wp2
      go_ret2
      have hc := HC.out
      have ha := HA.out
      have hb := HB.out
      have e3 := E3.out
      unfold In64 at *
      exact ⟨ret_two (by omega) (by omega), rfl⟩
end Go.Proofs.Ytkmjchpmbndpiaa

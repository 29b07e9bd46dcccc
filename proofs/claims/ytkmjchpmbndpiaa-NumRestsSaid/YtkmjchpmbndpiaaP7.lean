/- The walk of NumRests. Conditions: the arguments are numbers of 64 bits. -/
import Derived.Test.YtkmjchpmbndpiaaP6
namespace Go.Proofs.Ytkmjchpmbndpiaa
open Go.RowKit
set_option linter.unusedSimpArgs false
set_option linter.unusedVariables false

theorem tmod_sign (a b : Int) (hb : b ≠ 0) : (a.tmod b < 0 → a < 0) ∧ (0 < a.tmod b → ¬ a < 0) ∧ (0 < b → a.tmod b < b ∧ -b < a.tmod b) ∧ (b < 0 → b < a.tmod b ∧ a.tmod b < -b) ∧
    ((a.tdiv b) * b = a - a.tmod b) ∧ (¬ a < 0 → 0 ≤ a.tmod b ∧ a.tmod b ≤ a) ∧ (a < 0 → a ≤ a.tmod b ∧ a.tmod b ≤ 0) := by
  obtain ⟨x, y, hx, hy, sa, sb⟩ := signs a b
  have h0 := tmod_abs a b x y sa sb
  have h1 : (x : Int) % y ≤ x := by have := Nat.mod_le x y; omega
  have h2 : 0 ≤ (x : Int) % y := Int.emod_nonneg _ (by omega)
  have h3 : (x : Int) % y < y := Int.emod_lt_of_pos _ (by omega)
  have h4 : (a.tdiv b) * b = a - a.tmod b := by have := Int.mul_tdiv_add_tmod a b; rw [Int.mul_comm]; omega
  generalize a.tdiv b * b = q at *
  by_cases h : a < 0
  · rw [decide_eq_true h] at h0; simp only [if_true] at h0; omega
  · rw [decide_eq_false h] at h0; simp only [Bool.false_eq_true, if_false] at h0; omega

set_option maxHeartbeats 2000000 in
theorem rests_walk (a b : Int) (w : World) (ha : In64 a) (hb : In64 b) : Calls Try.prog 5 #[.int .i64 a, .int .i64 b] w fun e w' => e = .returned (.bool true) ∧ Below w.heap.size w w' := by
  have D := div_any a b w ha hb
  have E := mod_any a b w ha hb
  have HW := Lib.hid (works_any w)
  by_cases hz : b = 0
  · subst hz
    have HD := Lib.hid D
    have HE := Lib.hid E
    clear ha hb D E
    go_enter Try.func5, Try.ntmps5
    go_wp2_with fail
    refine HD.out.mono ?_; rintro e w' ⟨rfl, rfl⟩
    go_wp2_with fail
    refine HE.out.mono ?_; rintro e w' ⟨rfl, rfl⟩
    go_wp2_with fail
    refine HW.out.mono ?_; rintro e w1 ⟨rfl, hbel⟩
    go_wp2_with fail
    go_ret
    exact ⟨rfl, hbel⟩
  have hz' : (b == 0) = false := by simpa using hz
  obtain ⟨t1, t2, t3, t4, t5, t6, t7⟩ := tmod_sign a b hz
  rw [show modV a b = a.tmod b from by unfold modV; rw [if_neg hz], show modE a b = 0 from by unfold modE; rw [if_neg hz]] at E
  rw [show divV a b = chkV (a.tdiv b) from by unfold divV; rw [if_neg hz], show divE a b = chkE (a.tdiv b) from by unfold divE; rw [if_neg hz]] at D
  have hm := tmod_in a b ha hz
  have hwn : wrap64 (-b) = -b ∨ b = -9223372036854775808 := by unfold In64 at hb; unfold wrap64; omega
  have HWN := Lib.hid hwn
  by_cases hI : In64 (a.tdiv b)
  · rw [(chk_in hI).1, (chk_in hI).2] at D
    have hp : In64 (a.tdiv b * b) := by rw [t5]; unfold In64 at ha ⊢; omega
    have M := mul_any (a.tdiv b) b w hI hb
    have S := add_any (a.tdiv b * b) (a.tmod b) w hp hm
    rw [(chk_in hp).1, (chk_in hp).2] at M
    rw [show a.tdiv b * b + a.tmod b = a from by rw [t5]; omega, (chk_in ha).1, (chk_in ha).2] at S
    rw [t5] at M S
    clear hwn
    have hlow : -9223372036854775808 ≤ b := hb.1
    have HLow := Lib.hid hlow
    generalize a.tmod b = m at *
    generalize a.tdiv b = d at *
    generalize a - m = p at *
    have HD := Lib.hid D
    have HE := Lib.hid E
    have HM := Lib.hid M
    have HS := Lib.hid S
    have T := Lib.hid (show (m < 0 → a < 0) ∧ (0 < m → ¬ a < 0) ∧ (0 < b → m < b ∧ -b < m) ∧ (b < 0 → b < m ∧ m < -b) from ⟨t1, t2, t3, t4⟩)
    clear D E M S t1 t2 t3 t4 t5 t6 t7 hm hI hp ha hb hlow
    have cm : ((m != 0) = false) ∨ ((m != 0) = true ∧ m < 0 ∧ a < 0) ∨ ((m != 0) = true ∧ ¬ m < 0 ∧ ¬ a < 0) := by
      by_cases h0 : m = 0
      · exact .inl (by simp [h0])
      · refine .inr ?_
        have h1 : (m != 0) = true := by simpa using h0
        have := T.out
        by_cases h2 : m < 0
        · exact .inl ⟨h1, h2, by omega⟩
        · exact .inr ⟨h1, h2, by omega⟩
    have cb : (0 < b ∧ wrap64 (-b) = -b ∧ m < b ∧ -b < m) ∨ (b < 0 ∧ ¬ 0 < b ∧ -9223372036854775808 < b ∧ wrap64 (-b) = -b ∧ b < m ∧ m < -b) ∨ (b < 0 ∧ ¬ 0 < b ∧ ¬ -9223372036854775808 < b) := by
      have := T.out
      have := HWN.out
      have := HLow.out
      omega
    clear hz
    rcases cb with ⟨b1, b2, b3, b4⟩ | ⟨b1, b0, b2, b3, b4, b5⟩ | ⟨b1, b0, b2⟩ <;> rcases cm with c1 | ⟨c1, c2, c3⟩ | ⟨c1, c2, c3⟩
    all_goals
      go_enter Try.func5, Try.ntmps5
      go_wp2_with fail
      refine HD.out.mono ?_; rintro e w' ⟨rfl, rfl⟩
      go_wp2_with fail
      refine HE.out.mono ?_; rintro e w' ⟨rfl, rfl⟩
      go_wp2_with fail
      refine HM.out.mono ?_; rintro e w' ⟨rfl, rfl⟩
      go_wp2_with fail
      refine HS.out.mono ?_; rintro e w' ⟨rfl, rfl⟩
      go_wp2_with fail
      refine HW.out.mono ?_; rintro e w1 ⟨rfl, hbel⟩
      go_wp2_with fail
      go_ret
      exact ⟨rfl, hbel⟩
  · have hab : a = -9223372036854775808 ∧ b = -1 := by
      obtain ⟨x, y, hx, hy, sa, sb⟩ := signs a b
      have hxy := abs_tdiv a b x y sa sb
      have h3 : 0 ≤ (x : Int) / y := Int.ediv_nonneg (by omega) (by omega)
      have h4 : (x : Int) / y ≤ x := Int.ediv_le_self _ (by omega)
      have h5 : y = 1 ∨ (x : Int) / y ≤ x / 2 := by
        rcases Nat.lt_or_ge y 2 with h | h
        · left; omega
        · right; have h9 : x / y ≤ x / 2 := Nat.div_le_div_left h (by omega)
          omega
      unfold In64 at *
      omega
    rw [(chk_out hI).1, (chk_out hI).2] at D
    rw [show a.tmod b = 0 from by rw [hab.2, Int.tmod_neg, Int.tmod_one]] at E
    have k1 : (a == -9223372036854775808) = true := beq_iff_eq.2 hab.1
    have k2 : (b == -1) = true := beq_iff_eq.2 hab.2
    have k3 : b < 0 := by omega
    have k4 : -9223372036854775808 < b := by omega
    have k5 : wrap64 (-b) = -b := by omega
    clear t1 t2 t3 t4 t5 t6 t7 hm hI ha hb hwn hz HWN hab
    have HD := Lib.hid D
    have HE := Lib.hid E
    clear D E
    go_enter Try.func5, Try.ntmps5
    go_wp2_with fail
    refine HD.out.mono ?_; rintro e w' ⟨rfl, rfl⟩
    go_wp2_with fail
    refine HE.out.mono ?_; rintro e w' ⟨rfl, rfl⟩
    go_wp2_with fail
    refine HW.out.mono ?_; rintro e w1 ⟨rfl, hbel⟩
    go_wp2_with fail
    go_ret
    exact ⟨rfl, hbel⟩
end Go.Proofs.Ytkmjchpmbndpiaa

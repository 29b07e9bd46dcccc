/- Contracts of the references Sub, Neg, Mul, Div, Mod. Conditions: the arguments are numbers of 64 bits. -/
import Derived.Test.YtkmjchpmbndpiaaP3
namespace Go.Proofs.Ytkmjchpmbndpiaa
open Go.RowKit
set_option linter.unusedSimpArgs false
set_option linter.unusedVariables false

theorem rsub_any (a b : Int) (w : World) (ha : In64 a) (hb : In64 b) : Calls Try.prog 12 #[.int .i64 a, .int .i64 b] w fun e w' => e = .returned (.tuple #[.int .i64 (chkV (a - b)), .int .i64 (chkE (a - b))]) ∧ w = w' := by
  have HC := Lib.hid (chk_cases (a - b))
  have HA := Lib.hid ha
  have HB := Lib.hid hb
  have e1 : b < 0 → wrap64 (9223372036854775807 + b) = 9223372036854775807 + b := fun h => by unfold In64 at hb; unfold wrap64; omega
  have e2 : 0 < b → wrap64 (-9223372036854775808 + b) = -9223372036854775808 + b := fun h => by unfold In64 at hb; unfold wrap64; omega
  have e3 : In64 (a - b) → wrap64 (a - b) = a - b := fun h => by unfold In64 at h; unfold wrap64; omega
  have E3 := Lib.hid e3
  clear ha hb e3
  by_cases h1 : b < 0
  · have f1 := e1 h1
    clear e1 e2
    by_cases h2 : 9223372036854775807 + b < a
    all_goals
      go_enter Try.func12, Try.ntmps12
      go_wp2
      go_ret2
      have hc := HC.out
      have ha := HA.out
      have hb := HB.out
      have e3 := E3.out
      unfold In64 at *
      exact ⟨ret_two (by omega) (by omega), rfl⟩
  · by_cases h3 : 0 < b
    · have f2 := e2 h3
      clear e1 e2
      by_cases h2 : a < -9223372036854775808 + b
      all_goals
        go_enter Try.func12, Try.ntmps12
        go_wp2
        go_ret2
        have hc := HC.out
        have ha := HA.out
        have hb := HB.out
        have e3 := E3.out
        unfold In64 at *
        exact ⟨ret_two (by omega) (by omega), rfl⟩
    · clear e1 e2
      go_enter Try.func12, Try.ntmps12
      go_wp2
      go_ret2
      have hc := HC.out
      have ha := HA.out
      have hb := HB.out
      have e3 := E3.out
      unfold In64 at *
      exact ⟨ret_two (by omega) (by omega), rfl⟩

theorem rneg_any (a : Int) (w : World) (ha : In64 a) : Calls Try.prog 14 #[.int .i64 a] w fun e w' => e = .returned (.tuple #[.int .i64 (chkV (-a)), .int .i64 (chkE (-a))]) ∧ w = w' := by
  have HS := Lib.hid (rsub_any 0 a w (by unfold In64; omega) ha)
  rw [Int.zero_sub] at HS
  clear ha
  go_enter Try.func14, Try.ntmps14
  go_wp2_with fail
  refine HS.out.mono ?_; rintro e w' ⟨rfl, rfl⟩
  go_wp2_with fail
  go_ret2
  exact ⟨rfl, rfl⟩

theorem abs_tdiv (a b : Int) (x y : Nat) (sa : (a < 0 ∧ a = -x) ∨ (¬ a < 0 ∧ a = x)) (sb : (b < 0 ∧ b = -y) ∨ (¬ b < 0 ∧ b = y)) : (a.tdiv b = -((x : Int) / y) ∧ ¬ (a < 0 ∧ b < 0)) ∨ (a.tdiv b = (x : Int) / y ∧ (a < 0 ↔ b < 0)) ∨ (a.tdiv b = (x : Int) / y ∧ y = 0) := by
  have e0 : (x : Int).tdiv y = (x : Int) / y := Int.tdiv_eq_ediv_of_nonneg (by omega)
  rcases sa with ⟨h1, e1⟩ | ⟨h1, e1⟩ <;> rcases sb with ⟨h2, e2⟩ | ⟨h2, e2⟩
  · refine .inr (.inl ⟨?_, by omega⟩); rw [e1, e2, Int.neg_tdiv_neg, e0]
  · refine .inl ⟨?_, by omega⟩; rw [e1, e2, Int.neg_tdiv, e0]
  · refine .inl ⟨?_, by omega⟩; rw [e1, e2, Int.tdiv_neg, e0]
  · refine .inr (.inl ⟨?_, by omega⟩); rw [e1, e2, e0]

/-- The wrapped product divided by one factor is the other one just if nothing was too great. -/
theorem mul_back (a b p : Int) (ha : In64 a) (hb : In64 b) (hz : b ≠ 0) (hp : wrap64 (a * b) = p) (h1 : ¬ (b = -1 ∧ a = -9223372036854775808)) (h2 : ¬ (a = -1 ∧ b = -9223372036854775808)) :
    (wrap64 (p.tdiv b) = a ∧ chkV (a * b) = p ∧ chkE (a * b) = 0) ∨ (wrap64 (p.tdiv b) ≠ a ∧ chkV (a * b) = 0 ∧ chkE (a * b) = 4) := by
  have hc := chk_cases (a * b)
  have hr : (p.tmod b).natAbs < b.natAbs := by
    rw [Int.natAbs_tmod]; exact Nat.mod_lt _ (by omega)
  have hq : b * p.tdiv b + p.tmod b = p := Int.mul_tdiv_add_tmod p b
  by_cases hI : In64 (a * b)
  · have hpe : p = a * b := by unfold In64 at hI; unfold wrap64 at hp; omega
    have hd : p.tdiv b = a := by rw [hpe]; exact Int.mul_tdiv_cancel a hz
    left
    refine ⟨?_, ?_⟩
    · rw [hd]; unfold In64 at ha; unfold wrap64; omega
    · rcases hc with hc | hc
      · omega
      · exact absurd hI hc.1
  · right
    refine ⟨?_, ?_⟩
    · intro hw
      have hpI : In64 p := by unfold wrap64 at hp; unfold In64; omega
      have hqv : p.tdiv b = a := by
        obtain ⟨x, y, hx, hy, sa, sb⟩ := signs p b
        have hxy := abs_tdiv p b x y sa sb
        have h3 : 0 ≤ (x : Int) / y := Int.ediv_nonneg (by omega) (by omega)
        have h4 : (x : Int) / y ≤ x := Int.ediv_le_self _ (by omega)
        by_cases hb1 : b = -1
        · subst hb1
          have : p.tdiv (-1) = -p := by rw [Int.tdiv_neg, Int.tdiv_one]
          rw [this] at hw ⊢
          have h5 : a * -1 = -a := by rw [Int.mul_neg, Int.mul_one]
          rw [h5] at hp hI
          unfold In64 at *; unfold wrap64 at hw hp; omega
        · have h6 : y ≠ 1 ∨ 0 ≤ b := by omega
          have h7 : In64 (p.tdiv b) := by
            unfold In64 at *
            rcases hxy with hxy | hxy | hxy
            · omega
            · by_cases hx2 : p < 0
              · have hy2 : 2 ≤ y := by omega
                have h8 : (x : Int) / y ≤ x / 2 := by
                  have h9 : x / y ≤ x / 2 := Nat.div_le_div_left hy2 (by omega)
                  omega
                omega
              · omega
            · omega
          unfold In64 at h7; unfold wrap64 at hw; omega
      rw [hqv, Int.mul_comm b a] at hq
      unfold In64 at hI ha hb hpI; unfold wrap64 at hp
      generalize a * b = m at *
      omega
    · rcases hc with hc | hc
      · exact absurd hc.1 hI
      · exact hc.2

theorem chk_small {n : Int} (h : In64 n) {a b : Int} (ha : a = n) (hb : b = 0) : a = chkV n ∧ b = chkE n := by rw [(chk_in h).1, (chk_in h).2]; exact ⟨ha, hb⟩

theorem rmul_any (a b : Int) (w : World) (ha : In64 a) (hb : In64 b) : Calls Try.prog 17 #[.int .i64 a, .int .i64 b] w fun e w' => e = .returned (.tuple #[.int .i64 (chkV (a * b)), .int .i64 (chkE (a * b))]) ∧ w = w' := by
  by_cases ha0 : a = 0
  · subst ha0
    rw [Int.zero_mul]
    clear ha hb
    go_enter Try.func17, Try.ntmps17
    go_wp2_with fail
    go_ret2
    exact ⟨rfl, rfl⟩
  by_cases hb0 : b = 0
  · subst hb0
    rw [Int.mul_zero]
    have e0 : (a == 0) = false := by simpa using ha0
    clear ha hb ha0
    go_enter Try.func17, Try.ntmps17
    go_wp2_with fail
    go_ret2
    exact ⟨rfl, rfl⟩
  have e0 : (a == 0) = false := by simpa using ha0
  have f0 : (b == 0) = false := by simpa using hb0
  by_cases h1 : b = -1 ∧ a = -9223372036854775808
  · obtain ⟨rfl, rfl⟩ := h1
    clear ha hb
    go_enter Try.func17, Try.ntmps17
    go_wp2_with fail
    go_ret2
    exact ⟨rfl, rfl⟩
  by_cases h2 : a = -1 ∧ b = -9223372036854775808
  · obtain ⟨rfl, rfl⟩ := h2
    clear ha hb
    go_enter Try.func17, Try.ntmps17
    go_wp2_with fail
    go_ret2
    exact ⟨rfl, rfl⟩
  have ca : ((a == -1) = true ∧ (b == -9223372036854775808) = false) ∨ (a == -1) = false := by
    by_cases h : a = -1
    · exact .inl ⟨beq_iff_eq.2 h, beq_eq_false_iff_ne.2 (fun hb => h2 ⟨h, hb⟩)⟩
    · exact .inr (beq_eq_false_iff_ne.2 h)
  have cb : ((b == -1) = true ∧ (a == -9223372036854775808) = false) ∨ (b == -1) = false := by
    by_cases h : b = -1
    · exact .inl ⟨beq_iff_eq.2 h, beq_eq_false_iff_ne.2 (fun hb => h1 ⟨h, hb⟩)⟩
    · exact .inr (beq_eq_false_iff_ne.2 h)
  obtain ⟨p, hp⟩ : ∃ p, wrap64 (a * b) = p := ⟨_, rfl⟩
  have hm := mul_back a b p ha hb hb0 hp h1 h2
  have cm : ((wrap64 (p.tdiv b) != a) = false ∧ Hid (chkV (a * b) = p ∧ chkE (a * b) = 0)) ∨ ((wrap64 (p.tdiv b) != a) = true ∧ Hid (chkV (a * b) = 0 ∧ chkE (a * b) = 4)) := by
    rcases hm with ⟨h, hk⟩ | ⟨h, hk⟩
    · exact .inl ⟨by simp [h], Lib.hid hk⟩
    · exact .inr ⟨by simp [h], Lib.hid hk⟩
  clear ha hb ha0 h1 h2 hm
  have HP := Lib.hid hp
  rcases cm with ⟨hm, hk⟩ | ⟨hm, hk⟩ <;> rcases ca with ⟨a1, a2⟩ | a1 <;> rcases cb with ⟨b1, b2⟩ | b1
  all_goals
    go_enter Try.func17, Try.ntmps17
    go_wp2_with fail
    go_ret2
    have hk := hk.out
    exact ⟨ret_two (by omega) (by omega), rfl⟩

theorem rdiv_any (a b : Int) (w : World) (ha : In64 a) (hb : In64 b) : Calls Try.prog 19 #[.int .i64 a, .int .i64 b] w fun e w' => e = .returned (.tuple #[.int .i64 (divV a b), .int .i64 (divE a b)]) ∧ w = w' := by
  by_cases hz : b = 0
  · subst hz
    clear ha hb
    go_enter Try.func19, Try.ntmps19
    go_wp2_with fail
    go_ret2
    exact ⟨rfl, rfl⟩
  have f0 : (b == 0) = false := by simpa using hz
  by_cases h1 : a = -9223372036854775808 ∧ b = -1
  · obtain ⟨rfl, rfl⟩ := h1
    clear ha hb
    go_enter Try.func19, Try.ntmps19
    go_wp2_with fail
    go_ret2
    exact ⟨rfl, rfl⟩
  have ca : ((a == -9223372036854775808) = true ∧ (b == -1) = false) ∨ (a == -9223372036854775808) = false := by
    by_cases h : a = -9223372036854775808
    · exact .inl ⟨beq_iff_eq.2 h, beq_eq_false_iff_ne.2 (fun hb => h1 ⟨h, hb⟩)⟩
    · exact .inr (beq_eq_false_iff_ne.2 h)
  have hI : In64 (a.tdiv b) := by
    obtain ⟨x, y, hx, hy, sa, sb⟩ := signs a b
    have hxy := abs_tdiv a b x y sa sb
    have h3 : 0 ≤ (x : Int) / y := Int.ediv_nonneg (by omega) (by omega)
    have h4 : (x : Int) / y ≤ x := Int.ediv_le_self _ (by omega)
    unfold In64 at *
    rcases hxy with hxy | hxy | hxy
    · omega
    · by_cases hx2 : a < 0
      · by_cases hb1 : b = -1
        · omega
        · have hy2 : 2 ≤ y := by omega
          have h8 : (x : Int) / y ≤ x / 2 := by
            have h9 : x / y ≤ x / 2 := Nat.div_le_div_left hy2 (by omega)
            omega
          omega
      · omega
    · omega
  have hw : wrap64 (a.tdiv b) = a.tdiv b := by unfold In64 at hI; unfold wrap64; omega
  have HD : Hid (a.tdiv b = divV a b ∧ 0 = divE a b) := by
    unfold divV divE; rw [if_neg hz, if_neg hz, (chk_in hI).1, (chk_in hI).2]; exact Lib.hid ⟨rfl, rfl⟩
  clear ha hb h1 hI
  rcases ca with ⟨a1, a2⟩ | a1
  all_goals
    go_enter Try.func19, Try.ntmps19
    go_wp2_with fail
    go_ret2
    exact ⟨ret_two (hw.trans HD.out.1) HD.out.2, rfl⟩

theorem rmod_any (a b : Int) (w : World) (ha : In64 a) (hb : In64 b) : Calls Try.prog 21 #[.int .i64 a, .int .i64 b] w fun e w' => e = .returned (.tuple #[.int .i64 (modV a b), .int .i64 (modE a b)]) ∧ w = w' := by
  by_cases hz : b = 0
  · subst hz
    clear ha hb
    go_enter Try.func21, Try.ntmps21
    go_wp2_with fail
    go_ret2
    exact ⟨rfl, rfl⟩
  have f0 : (b == 0) = false := by simpa using hz
  by_cases h1 : b = -1
  · subst h1
    have HD : Hid ((0 : Int) = modV a (-1) ∧ 0 = modE a (-1)) := by
      unfold modV modE; rw [if_neg hz, if_neg hz, Int.tmod_neg, Int.tmod_one]; exact Lib.hid ⟨rfl, rfl⟩
    clear ha hb hz f0
    go_enter Try.func21, Try.ntmps21
    go_wp2_with fail
    go_ret2
    exact ⟨ret_two HD.out.1 HD.out.2, rfl⟩
  have f1 : (b == -1) = false := by simpa using h1
  have hI := tmod_in a b ha hz
  have hw : wrap64 (a.tmod b) = a.tmod b := by unfold In64 at hI; unfold wrap64; omega
  have HD : Hid (a.tmod b = modV a b ∧ 0 = modE a b) := by
    unfold modV modE; rw [if_neg hz, if_neg hz]; exact Lib.hid ⟨rfl, rfl⟩
  clear ha hb h1 hI
  go_enter Try.func21, Try.ntmps21
  go_wp2_with fail
  go_ret2
  exact ⟨ret_two HD.out.1 HD.out.2, rfl⟩
end Go.Proofs.Ytkmjchpmbndpiaa

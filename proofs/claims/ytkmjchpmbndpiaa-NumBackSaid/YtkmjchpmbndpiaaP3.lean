/- Contracts of num.Mul, Div, Mod and of the references Sub, Neg, Mul, Div, Mod. Conditions: the arguments are numbers of 64 bits. -/
import Derived.Test.YtkmjchpmbndpiaaP2
namespace Go.Proofs.Ytkmjchpmbndpiaa
open Go.RowKit
set_option linter.unusedSimpArgs false
set_option linter.unusedVariables false

theorem signs (a b : Int) : ∃ x y : Nat, a.natAbs = x ∧ b.natAbs = y ∧ ((a < 0 ∧ a = -x) ∨ (¬ a < 0 ∧ a = x)) ∧ ((b < 0 ∧ b = -y) ∨ (¬ b < 0 ∧ b = y)) :=
  ⟨a.natAbs, b.natAbs, rfl, rfl, by omega, by omega⟩

theorem mul_any (a b : Int) (w : World) (ha : In64 a) (hb : In64 b) : Calls Try.prog 16 #[.int .i64 a, .int .i64 b] w fun e w' => e = .returned (.tuple #[.int .i64 (chkV (a * b)), .int .i64 (chkE (a * b))]) ∧ w = w' := by
  have hA := natAbs_le ha
  have hB := natAbs_le hb
  have HM := Lib.hid (mul64_any a.natAbs b.natAbs (by omega) (by omega) w)
  have HS := Lib.hid (size_any a w ha)
  have HT := Lib.hid (size_any b w hb)
  obtain ⟨x, y, hx, hy, sa, sb⟩ := signs a b
  rw [hx] at HM HS
  rw [hy] at HM HT
  clear ha hb hA hB hx hy
  have SA := Lib.hid sa
  have SB := Lib.hid sb
  have hp : ((x * y : Nat) : Int) = (x : Int) * y := Int.natCast_mul x y
  generalize hq : x * y = q at *
  have HP := Lib.hid hp
  have HQ := Lib.hid (show x * y = q from hq)
  clear hp hq
  by_cases h : q < 18446744073709551616
  · rw [Nat.div_eq_of_lt h, Nat.mod_eq_of_lt h] at HM
    have HH := Lib.hid h
    clear h
    rcases sa with ⟨h1, e1⟩ | ⟨h1, e1⟩ <;> rcases sb with ⟨h2, e2⟩ | ⟨h2, e2⟩
    all_goals
      clear e1 e2
      go_enter Try.func16, Try.ntmps16
      go_wp2_with fail
      refine HS.out.mono ?_; rintro e w' ⟨rfl, rfl⟩
      go_wp2_with fail
      refine HT.out.mono ?_; rintro e w' ⟨rfl, rfl⟩
      go_wp2_with fail
      refine HM.out.mono ?_; rintro e w' ⟨rfl, rfl⟩
      go_wp2_with fail
      refine (signed_any _ _ _ (by omega) (by have := HH.out; omega)).mono ?_; rintro e w' ⟨rfl, rfl⟩
      go_wp2_with fail
      go_ret2
      have hp := HP.out
      have e1 : a = x ∨ a = -x := by have := SA.out; omega
      have e2 : b = y ∨ b = -y := by have := SB.out; omega
      have s1 := SA.out
      have s2 := SB.out
    · have E : (if false then -(q : Int) else q) = a * b := by
        rw [show a = -(x : Int) from by omega, show b = -(y : Int) from by omega, Int.neg_mul_neg]; exact hp
      exact ⟨ret_two (congrArg chkV E) (congrArg chkE E), rfl⟩
    · have E : (if true then -(q : Int) else q) = a * b := by
        rw [show a = -(x : Int) from by omega, show b = (y : Int) from by omega, Int.neg_mul]; simp only [if_true]; omega
      exact ⟨ret_two (congrArg chkV E) (congrArg chkE E), rfl⟩
    · have E : (if true then -(q : Int) else q) = a * b := by
        rw [show a = (x : Int) from by omega, show b = -(y : Int) from by omega, Int.mul_neg]; simp only [if_true]; omega
      exact ⟨ret_two (congrArg chkV E) (congrArg chkE E), rfl⟩
    · have E : (if false then -(q : Int) else q) = a * b := by
        rw [show a = (x : Int) from by omega, show b = (y : Int) from by omega]; exact hp
      exact ⟨ret_two (congrArg chkV E) (congrArg chkE E), rfl⟩
  · have hd : (0 : Int) < ((q / 18446744073709551616 : Nat) : Int) := by omega
    have HO : Hid (¬ In64 (a * b)) := by
      refine Lib.hid ?_
      have hp := HP.out
      have h3 : a * b = q ∨ a * b = -(q : Int) := by
        rcases sa with ⟨_, e1⟩ | ⟨_, e1⟩ <;> rcases sb with ⟨_, e2⟩ | ⟨_, e2⟩ <;> rw [e1, e2]
        · left; rw [Int.neg_mul_neg]; omega
        · right; rw [Int.neg_mul]; omega
        · right; rw [Int.mul_neg]; omega
        · left; omega
      unfold In64; omega
    clear sa sb
    have HN := Lib.hid h; clear h
    generalize ((q / 18446744073709551616 : Nat) : Int) = hi at *
    generalize ((q % 18446744073709551616 : Nat) : Int) = lo at *
    go_enter Try.func16, Try.ntmps16
    go_wp2_with fail
    refine HS.out.mono ?_; rintro e w' ⟨rfl, rfl⟩
    go_wp2_with fail
    refine HT.out.mono ?_; rintro e w' ⟨rfl, rfl⟩
    go_wp2_with fail
    refine HM.out.mono ?_; rintro e w' ⟨rfl, rfl⟩
    go_wp2_with fail
    go_ret2
    exact ⟨ret_two (chk_out HO.out).1.symm (chk_out HO.out).2.symm, rfl⟩

/-- What a division answers. -/
def divV (a b : Int) : Int := if b = 0 then 0 else chkV (a.tdiv b)
def divE (a b : Int) : Int := if b = 0 then 4 else chkE (a.tdiv b)
def modV (a b : Int) : Int := if b = 0 then 0 else a.tmod b
def modE (a b : Int) : Int := if b = 0 then 4 else 0

theorem tmod_abs (a b : Int) (x y : Nat) (sa : (a < 0 ∧ a = -x) ∨ (¬ a < 0 ∧ a = x)) (sb : (b < 0 ∧ b = -y) ∨ (¬ b < 0 ∧ b = y)) : (if decide (a < 0) = true then -((x : Int) % y) else (x : Int) % y) = a.tmod b := by
  have e0 : (x : Int).tmod y = (x : Int) % y := Int.tmod_eq_emod_of_nonneg (by omega)
  rcases sa with ⟨h1, e1⟩ | ⟨h1, e1⟩ <;> rcases sb with ⟨_, e2⟩ | ⟨_, e2⟩ <;> simp only [h1, decide_true, decide_false, if_true, Bool.false_eq_true, if_false] <;> rw [e1, e2]
  · rw [Int.neg_tmod, Int.tmod_neg, e0]
  · rw [Int.neg_tmod, e0]
  · rw [Int.tmod_neg, e0]
  · rw [e0]
theorem tmod_in (a b : Int) (ha : In64 a) (hb : b ≠ 0) : In64 (a.tmod b) := by
  obtain ⟨x, y, hx, hy, sa, sb⟩ := signs a b
  rw [← tmod_abs a b x y sa sb]
  have h1 : (x : Int) % y ≤ x := by
    have := Nat.mod_le x y; omega
  have h2 : 0 ≤ (x : Int) % y := Int.emod_nonneg _ (by omega)
  unfold In64 at *
  by_cases h : a < 0 <;> simp only [h, decide_true, decide_false, if_true, Bool.false_eq_true, if_false] <;> omega

set_option maxHeartbeats 1000000 in
theorem div_any (a b : Int) (w : World) (ha : In64 a) (hb : In64 b) : Calls Try.prog 18 #[.int .i64 a, .int .i64 b] w fun e w' => e = .returned (.tuple #[.int .i64 (divV a b), .int .i64 (divE a b)]) ∧ w = w' := by
  by_cases hz : b = 0
  · subst hz
    go_enter Try.func18, Try.ntmps18
    go_wp2_with fail
    go_ret2
    exact ⟨rfl, rfl⟩
  · have HA := Lib.hid (natAbs_le ha)
    have HS := Lib.hid (size_any a w ha)
    have HT := Lib.hid (size_any b w hb)
    have hz' : (b == 0) = false := by simpa using hz
    have HZ := Lib.hid hz
    obtain ⟨x, y, hx, hy, sa, sb⟩ := signs a b
    rw [hx] at HS HA
    rw [hy] at HT
    have hy0 : (1 : Int) ≤ y := by omega
    clear ha hb hx hy hz
    have SA := Lib.hid sa
    have SB := Lib.hid sb
    have HL : Hid ((x : Int) / y ≤ 18446744073709551615) := Lib.hid (by
      have h1 : (x : Int) / y ≤ x := Int.ediv_le_self _ (by omega)
      have := HA.out; omega)
    have h00 : 0 ≤ (x : Int) / y := Int.ediv_nonneg (by omega) (by omega)
    have e0 : (x : Int).tdiv y = (x : Int) / y := Int.tdiv_eq_ediv_of_nonneg (by omega)
    have E0 := Lib.hid e0; clear e0
    have hwr : IntKind.u64.wrap ((x : Int) / y) = (x : Int) / y := by rw [IntKind.wrap_u64]; have := HL.out; omega
    rcases sa with ⟨h1, e1⟩ | ⟨h1, e1⟩ <;> rcases sb with ⟨h2, e2⟩ | ⟨h2, e2⟩
    all_goals
      clear e1 e2
      first | (have d1 : decide (a < 0) = true := decide_eq_true h1) | (have d1 : decide (a < 0) = false := decide_eq_false h1)
      first | (have d2 : decide (b < 0) = true := decide_eq_true h2) | (have d2 : decide (b < 0) = false := decide_eq_false h2)
      go_enter Try.func18, Try.ntmps18
      go_wp2_with fail
      refine HS.out.mono ?_; rintro e w' ⟨rfl, rfl⟩
      go_wp2_with fail
      refine HT.out.mono ?_; rintro e w' ⟨rfl, rfl⟩
      go_wp2_with fail
      refine (signed_any ((x : Int) / y) _ _ h00 HL.out).mono ?_; rintro e w' ⟨rfl, rfl⟩
      go_wp2_with fail
      go_ret2
      have s1 := SA.out
      have s2 := SB.out
      unfold divV divE
      rw [if_neg HZ.out, if_neg HZ.out]
    · have E : (if false then -((x : Int) / y) else (x : Int) / y) = a.tdiv b := by
        rw [show a = -(x : Int) from by omega, show b = -(y : Int) from by omega, Int.neg_tdiv_neg, E0.out]; rfl
      exact ⟨ret_two (congrArg chkV E) (congrArg chkE E), rfl⟩
    · have E : (if true then -((x : Int) / y) else (x : Int) / y) = a.tdiv b := by
        rw [show a = -(x : Int) from by omega, show b = (y : Int) from by omega, Int.neg_tdiv, E0.out]; rfl
      exact ⟨ret_two (congrArg chkV E) (congrArg chkE E), rfl⟩
    · have E : (if true then -((x : Int) / y) else (x : Int) / y) = a.tdiv b := by
        rw [show a = (x : Int) from by omega, show b = -(y : Int) from by omega, Int.tdiv_neg, E0.out]; rfl
      exact ⟨ret_two (congrArg chkV E) (congrArg chkE E), rfl⟩
    · have E : (if false then -((x : Int) / y) else (x : Int) / y) = a.tdiv b := by
        rw [show a = (x : Int) from by omega, show b = (y : Int) from by omega, E0.out]; rfl
      exact ⟨ret_two (congrArg chkV E) (congrArg chkE E), rfl⟩

set_option maxHeartbeats 1000000 in
theorem mod_any (a b : Int) (w : World) (ha : In64 a) (hb : In64 b) : Calls Try.prog 20 #[.int .i64 a, .int .i64 b] w fun e w' => e = .returned (.tuple #[.int .i64 (modV a b), .int .i64 (modE a b)]) ∧ w = w' := by
  by_cases hz : b = 0
  · subst hz
    go_enter Try.func20, Try.ntmps20
    go_wp2_with fail
    go_ret2
    exact ⟨rfl, rfl⟩
  · have HA := Lib.hid (natAbs_le ha)
    have HS := Lib.hid (size_any a w ha)
    have HT := Lib.hid (size_any b w hb)
    have hz' : (b == 0) = false := by simpa using hz
    have HZ := Lib.hid hz
    have HI := Lib.hid (tmod_in a b ha hz)
    obtain ⟨x, y, hx, hy, sa, sb⟩ := signs a b
    rw [hx] at HS HA
    rw [hy] at HT
    have hy0 : (1 : Int) ≤ y := by omega
    have HE := Lib.hid (tmod_abs a b x y sa sb)
    clear ha hb hx hy hz
    have HL : Hid ((x : Int) % y ≤ 18446744073709551615) := Lib.hid (by
      have h1 : (x : Int) % y ≤ x := by have := Nat.mod_le x y; omega
      have := HA.out; omega)
    have h00 : 0 ≤ (x : Int) % y := Int.emod_nonneg _ (by omega)
    clear sa sb
    have hwr : IntKind.u64.wrap ((x : Int) % y) = (x : Int) % y := by rw [IntKind.wrap_u64]; have := HL.out; omega
    by_cases h1 : a < 0
    all_goals
      first | (have d1 : decide (a < 0) = true := decide_eq_true h1) | (have d1 : decide (a < 0) = false := decide_eq_false h1)
      go_enter Try.func20, Try.ntmps20
      go_wp2_with fail
      refine HS.out.mono ?_; rintro e w' ⟨rfl, rfl⟩
      go_wp2_with fail
      refine HT.out.mono ?_; rintro e w' ⟨rfl, rfl⟩
      go_wp2_with fail
      refine (signed_any ((x : Int) % y) _ _ h00 HL.out).mono ?_; rintro e w' ⟨rfl, rfl⟩
      go_wp2_with fail
      go_ret2
      have he := HE.out
      have hc := chk_in HI.out
      unfold modV modE
      rw [if_neg HZ.out, if_neg HZ.out]
    · rw [decide_eq_true h1] at he
      exact ⟨ret_two ((congrArg chkV he).trans hc.1) ((congrArg chkE he).trans hc.2), rfl⟩
    · rw [decide_eq_false (by omega)] at he
      exact ⟨ret_two ((congrArg chkV he).trans hc.1) ((congrArg chkE he).trans hc.2), rfl⟩
end Go.Proofs.Ytkmjchpmbndpiaa

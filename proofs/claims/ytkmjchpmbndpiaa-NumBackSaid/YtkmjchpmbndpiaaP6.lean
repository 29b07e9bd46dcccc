/- The walks of NumSums, NumProducts, NumRing. Conditions: the arguments are numbers of 64 bits. -/
import Derived.Test.YtkmjchpmbndpiaaP5
namespace Go.Proofs.Ytkmjchpmbndpiaa
open Go.RowKit
set_option linter.unusedSimpArgs false
set_option linter.unusedVariables false

theorem chkV_in (n : Int) : In64 (chkV n) := by
  unfold chkV; split
  · assumption
  · unfold In64; omega
theorem divV_in (a b : Int) : In64 (divV a b) := by
  unfold divV; split
  · unfold In64; omega
  · exact chkV_in _
theorem modV_in (a b : Int) (ha : In64 a) : In64 (modV a b) := by
  unfold modV; split
  · unfold In64; omega
  · exact tmod_in a b ha (by assumption)

theorem works_any (w : World) : Calls Try.prog 15 #[] w fun e w' => e = .returned (.bool true) ∧ Below w.heap.size w w' := by
  have h2 : In64 2 := by unfold In64; omega
  have h3 : In64 3 := by unfold In64; omega
  have h6 : In64 6 := by unfold In64; omega
  have h7 : In64 (-7) := by unfold In64; omega
  have A := Lib.hid (add_any 2 3 w h2 h3)
  have M := Lib.hid (mul_any 6 (-7) w h6 h7)
  have T := Lib.hid (text_any (-7) w h7)
  rw [show chkV (2 + 3) = 5 from by decide, show chkE (2 + 3) = 0 from by decide] at A
  rw [show chkV (6 * -7) = -42 from by decide, show chkE (6 * -7) = 0 from by decide] at M
  rw [show textOf (-7) = [45, 55] from by decide] at T
  clear h2 h3 h6 h7
  go_enter Try.func15, Try.ntmps15
  go_wp2_with fail
  refine A.out.mono ?_; rintro e w' ⟨rfl, rfl⟩
  go_wp2_with fail
  refine M.out.mono ?_; rintro e w' ⟨rfl, rfl⟩
  go_wp2_with fail
  refine T.out.mono ?_; rintro e w1 ⟨rfl, hb⟩
  go_wp2_with fail
  go_ret
  exact ⟨rfl, hb⟩

theorem sums_walk (a b : Int) (w : World) (ha : In64 a) (hb : In64 b) : Calls Try.prog 3 #[.int .i64 a, .int .i64 b] w fun e w' => e = .returned (.bool true) ∧ Below w.heap.size w w' := by
  have HA := Lib.hid ha
  have HB := Lib.hid hb
  clear ha hb
  go_enter Try.func3, Try.ntmps3
  go_wp2_with fail
  refine (add_any _ _ _ HA.out HB.out).mono ?_; rintro e w' ⟨rfl, rfl⟩
  go_wp2_with fail
  refine (radd_any _ _ _ HA.out HB.out).mono ?_; rintro e w' ⟨rfl, rfl⟩
  go_wp2_with fail
  refine (sub_any _ _ _ HA.out HB.out).mono ?_; rintro e w' ⟨rfl, rfl⟩
  go_wp2_with fail
  refine (rsub_any _ _ _ HA.out HB.out).mono ?_; rintro e w' ⟨rfl, rfl⟩
  go_wp2_with fail
  refine (neg_any _ _ HA.out).mono ?_; rintro e w' ⟨rfl, rfl⟩
  go_wp2_with fail
  refine (rneg_any _ _ HA.out).mono ?_; rintro e w' ⟨rfl, rfl⟩
  go_wp2_with fail
  refine (works_any _).mono ?_; rintro e w1 ⟨rfl, hbel⟩
  go_wp2_with fail
  go_ret
  exact ⟨rfl, hbel⟩

theorem products_walk (a b : Int) (w : World) (ha : In64 a) (hb : In64 b) : Calls Try.prog 4 #[.int .i64 a, .int .i64 b] w fun e w' => e = .returned (.bool true) ∧ Below w.heap.size w w' := by
  have HA := Lib.hid ha
  have HB := Lib.hid hb
  clear ha hb
  go_enter Try.func4, Try.ntmps4
  go_wp2_with fail
  refine (mul_any _ _ _ HA.out HB.out).mono ?_; rintro e w' ⟨rfl, rfl⟩
  go_wp2_with fail
  refine (rmul_any _ _ _ HA.out HB.out).mono ?_; rintro e w' ⟨rfl, rfl⟩
  go_wp2_with fail
  refine (div_any _ _ _ HA.out HB.out).mono ?_; rintro e w' ⟨rfl, rfl⟩
  go_wp2_with fail
  refine (rdiv_any _ _ _ HA.out HB.out).mono ?_; rintro e w' ⟨rfl, rfl⟩
  go_wp2_with fail
  refine (mod_any _ _ _ HA.out HB.out).mono ?_; rintro e w' ⟨rfl, rfl⟩
  go_wp2_with fail
  refine (rmod_any _ _ _ HA.out HB.out).mono ?_; rintro e w' ⟨rfl, rfl⟩
  go_wp2_with fail
  refine (works_any _).mono ?_; rintro e w1 ⟨rfl, hbel⟩
  go_wp2_with fail
  go_ret
  exact ⟨rfl, hbel⟩

set_option maxHeartbeats 1000000 in
theorem ring_walk (a b : Int) (w : World) (ha : In64 a) (hb : In64 b) : Calls Try.prog 6 #[.int .i64 a, .int .i64 b] w fun e w' => e = .returned (.bool true) ∧ Below w.heap.size w w' := by
  have A := add_any a b w ha hb
  have A2 := add_any b a w hb ha
  have M := mul_any a b w ha hb
  have M2 := mul_any b a w hb ha
  rw [Int.add_comm b a] at A2
  rw [Int.mul_comm b a] at M2
  have HW := Lib.hid (works_any w)
  by_cases hI : In64 (a + b)
  · have S := sub_any (a + b) b w hI hb
    rw [Int.add_sub_cancel, (chk_in ha).1, (chk_in ha).2] at S
    rw [(chk_in hI).1, (chk_in hI).2] at A A2
    have HA := Lib.hid A
    have HA2 := Lib.hid A2
    have HS := Lib.hid S
    by_cases hM : In64 (a * b)
    · rw [(chk_in hM).1, (chk_in hM).2] at M M2
      have HM := Lib.hid M
      have HM2 := Lib.hid M2
      by_cases hz : b = 0
      · have hz' : (b == 0) = true := by simpa using hz
        have hz2 : (b != 0) = false := by simpa using hz
        clear hz
        clear A A2 M M2 S hI hM ha hb
        go_enter Try.func6, Try.ntmps6
        go_wp2_with fail
        refine HA.out.mono ?_; rintro e w' ⟨rfl, rfl⟩
        go_wp2_with fail
        refine HA2.out.mono ?_; rintro e w' ⟨rfl, rfl⟩
        go_wp2_with fail
        refine HS.out.mono ?_; rintro e w' ⟨rfl, rfl⟩
        go_wp2_with fail
        refine HM.out.mono ?_; rintro e w' ⟨rfl, rfl⟩
        go_wp2_with fail
        refine HM2.out.mono ?_; rintro e w' ⟨rfl, rfl⟩
        go_wp2_with fail
        refine HW.out.mono ?_; rintro e w1 ⟨rfl, hbel⟩
        go_wp2_with fail
        go_ret
        exact ⟨rfl, hbel⟩
      · have hz' : (b == 0) = false := by simpa using hz
        have hz2 : (b != 0) = true := by simpa using hz
        have D := div_any (a * b) b w hM hb
        have E := mod_any (a * b) b w hM hb
        rw [show divV (a * b) b = a from by unfold divV; rw [if_neg hz, Int.mul_tdiv_cancel a hz]; exact (chk_in ha).1,
            show divE (a * b) b = 0 from by unfold divE; rw [if_neg hz, Int.mul_tdiv_cancel a hz]; exact (chk_in ha).2] at D
        rw [show modV (a * b) b = 0 from by unfold modV; rw [if_neg hz, Int.mul_comm, Int.mul_tmod_right],
            show modE (a * b) b = 0 from by unfold modE; rw [if_neg hz]] at E
        have HD := Lib.hid D
        have HE := Lib.hid E
        clear A A2 M M2 S D E hI hM ha hb
        go_enter Try.func6, Try.ntmps6
        go_wp2_with fail
        refine HA.out.mono ?_; rintro e w' ⟨rfl, rfl⟩
        go_wp2_with fail
        refine HA2.out.mono ?_; rintro e w' ⟨rfl, rfl⟩
        go_wp2_with fail
        refine HS.out.mono ?_; rintro e w' ⟨rfl, rfl⟩
        go_wp2_with fail
        refine HM.out.mono ?_; rintro e w' ⟨rfl, rfl⟩
        go_wp2_with fail
        refine HM2.out.mono ?_; rintro e w' ⟨rfl, rfl⟩
        go_wp2_with fail
        refine HD.out.mono ?_; rintro e w' ⟨rfl, rfl⟩
        go_wp2_with fail
        refine HE.out.mono ?_; rintro e w' ⟨rfl, rfl⟩
        go_wp2_with fail
        refine HW.out.mono ?_; rintro e w1 ⟨rfl, hbel⟩
        go_wp2_with fail
        go_ret
        exact ⟨rfl, hbel⟩
    · rw [(chk_out hM).1, (chk_out hM).2] at M M2
      have HM := Lib.hid M
      have HM2 := Lib.hid M2
      clear A A2 M M2 S hI hM ha hb
      go_enter Try.func6, Try.ntmps6
      go_wp2_with fail
      refine HA.out.mono ?_; rintro e w' ⟨rfl, rfl⟩
      go_wp2_with fail
      refine HA2.out.mono ?_; rintro e w' ⟨rfl, rfl⟩
      go_wp2_with fail
      refine HS.out.mono ?_; rintro e w' ⟨rfl, rfl⟩
      go_wp2_with fail
      refine HM.out.mono ?_; rintro e w' ⟨rfl, rfl⟩
      go_wp2_with fail
      refine HM2.out.mono ?_; rintro e w' ⟨rfl, rfl⟩
      go_wp2_with fail
      refine HW.out.mono ?_; rintro e w1 ⟨rfl, hbel⟩
      go_wp2_with fail
      go_ret
      exact ⟨rfl, hbel⟩
  · rw [(chk_out hI).1, (chk_out hI).2] at A A2
    have HA := Lib.hid A
    have HA2 := Lib.hid A2
    by_cases hM : In64 (a * b)
    · rw [(chk_in hM).1, (chk_in hM).2] at M M2
      have HM := Lib.hid M
      have HM2 := Lib.hid M2
      have hz : b ≠ 0 := by rintro rfl; rw [Int.add_zero] at hI; exact hI ha
      have hz' : (b == 0) = false := by simpa using hz
      have hz2 : (b != 0) = true := by simpa using hz
      have D := div_any (a * b) b w hM hb
      have E := mod_any (a * b) b w hM hb
      rw [show divV (a * b) b = a from by unfold divV; rw [if_neg hz, Int.mul_tdiv_cancel a hz]; exact (chk_in ha).1,
          show divE (a * b) b = 0 from by unfold divE; rw [if_neg hz, Int.mul_tdiv_cancel a hz]; exact (chk_in ha).2] at D
      rw [show modV (a * b) b = 0 from by unfold modV; rw [if_neg hz, Int.mul_comm, Int.mul_tmod_right],
          show modE (a * b) b = 0 from by unfold modE; rw [if_neg hz]] at E
      have HD := Lib.hid D
      have HE := Lib.hid E
      clear A A2 M M2 D E hI hM ha hb
      go_enter Try.func6, Try.ntmps6
      go_wp2_with fail
      refine HA.out.mono ?_; rintro e w' ⟨rfl, rfl⟩
      go_wp2_with fail
      refine HA2.out.mono ?_; rintro e w' ⟨rfl, rfl⟩
      go_wp2_with fail
      refine HM.out.mono ?_; rintro e w' ⟨rfl, rfl⟩
      go_wp2_with fail
      refine HM2.out.mono ?_; rintro e w' ⟨rfl, rfl⟩
      go_wp2_with fail
      refine HD.out.mono ?_; rintro e w' ⟨rfl, rfl⟩
      go_wp2_with fail
      refine HE.out.mono ?_; rintro e w' ⟨rfl, rfl⟩
      go_wp2_with fail
      refine HW.out.mono ?_; rintro e w1 ⟨rfl, hbel⟩
      go_wp2_with fail
      go_ret
      exact ⟨rfl, hbel⟩
    · rw [(chk_out hM).1, (chk_out hM).2] at M M2
      have HM := Lib.hid M
      have HM2 := Lib.hid M2
      clear A A2 M M2 hI hM ha hb
      go_enter Try.func6, Try.ntmps6
      go_wp2_with fail
      refine HA.out.mono ?_; rintro e w' ⟨rfl, rfl⟩
      go_wp2_with fail
      refine HA2.out.mono ?_; rintro e w' ⟨rfl, rfl⟩
      go_wp2_with fail
      refine HM.out.mono ?_; rintro e w' ⟨rfl, rfl⟩
      go_wp2_with fail
      refine HM2.out.mono ?_; rintro e w' ⟨rfl, rfl⟩
      go_wp2_with fail
      refine HW.out.mono ?_; rintro e w1 ⟨rfl, hbel⟩
      go_wp2_with fail
      go_ret
      exact ⟨rfl, hbel⟩

end Go.Proofs.Ytkmjchpmbndpiaa

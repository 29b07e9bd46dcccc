/- The contracts of the references Digits and Parse. Conditions: the text can be read. -/
import Derived.Test.YtkmjchpmbndpiaaP8
namespace Go.Proofs.Ytkmjchpmbndpiaa
open Go.RowKit
set_option linter.unusedSimpArgs false
set_option linter.unusedVariables false

def isNum (l : List UInt8) : Bool := l.all isDig && decide (0 < l.length)

theorem digits_any (d : ByteArray) (w : World) (hm : d.size ≤ 9223372036854775807) : Calls Try.prog 29 #[.string d] w fun e w' => e = .returned (.bool (isNum d.data.toList)) ∧ w = w' := by
  have HL := Lib.hid (len_list d)
  go_enter Try.func29, Try.ntmps29
  go_wp2_with fail
  go_loop [2, 3] (fun _ i => ∃ (k : Nat), k ≤ d.size ∧ i = .int .i64 k ∧ Hid ((d.data.toList.take k).all isDig = true)) (fun _ i => d.size - (intOf i).toNat)
  case atStart => exact ⟨0, Nat.zero_le _, rfl, Lib.hid rfl⟩
  case round =>
    obtain ⟨k, hk, rfl, hh⟩ := hrel
    by_cases hlt : k < d.size
    · obtain ⟨c, hc⟩ : ∃ c, d[k] = c := ⟨_, rfl⟩
      have HG2 : Hid (d.data.toList[k]? = some c) := by rw [get_list d k hlt, hc]; exact Lib.hid rfl
      obtain ⟨n, hcn, hn0, hn3⟩ : ∃ n : Int, (c.toNat : Int) = n ∧ 0 ≤ n ∧ n ≤ 255 := ⟨_, rfl, by omega, by have := c.toNat_lt; omega⟩
      have HCN := Lib.hid hcn
      by_cases h48 : n < 48
      · have HB : Hid (false = isNum d.data.toList) := Lib.hid (by unfold isNum; rw [all_false HG2.out HCN.out (.inl h48)]; rfl)
        go_wp2_with fail
        go_ret
        exact ⟨by rw [← HB.out]; rfl, rfl⟩
      · by_cases h57 : 57 < n
        · have HB : Hid (false = isNum d.data.toList) := Lib.hid (by unfold isNum; rw [all_false HG2.out HCN.out (.inr h57)]; rfl)
          go_wp2_with fail
          go_ret
          exact ⟨by rw [← HB.out]; rfl, rfl⟩
        · go_wp2_with fail
          go_round
          case rel => exact ⟨k + 1, by omega, by go_num, Lib.hid (by rw [take_succ_some HG2.out, List.all_append, hh.out]; simp [(isDig_iff c HCN.out).2 ⟨by omega, by omega⟩])⟩
          case measure => simp [intOf]; omega
    · obtain rfl : k = d.size := by omega
      have HA : Hid (d.data.toList.all isDig = true) := Lib.hid (by have := hh.out; rw [← HL.out, List.take_length] at this; exact this)
      by_cases hz : (0 : Int) < d.size
      all_goals
        go_wp2_with fail
        go_ret
        refine ⟨?_, rfl⟩
        unfold isNum
        rw [HA.out, HL.out]
        first | (rw [decide_eq_true (by omega)]; rfl) | (rw [decide_eq_false (by omega)]; rfl)

/-- What the reference holds after k digits: the number so far, which fits. -/
def sgn (b : Bool) (v : Nat) : Int := if b then -(v : Int) else v
theorem sgn_snoc (b : Bool) (v c : Nat) : sgn b (v * 10 + c) = sgn b v * 10 + sgn b c := by cases b <;> simp [sgn]; omega
theorem sgn_out {b : Bool} {v u : Nat} (h : ¬ In64 (sgn b v)) (hu : v ≤ u) : ¬ In64 (sgn b u) := by
  unfold In64 sgn at *; cases b <;> simp only [Bool.false_eq_true, if_false, if_true] at * <;> omega
theorem valOf_mono (l : List UInt8) (k : Nat) : valOf (l.take k) ≤ valOf l := by
  conv => rhs; rw [← List.take_append_drop k l]
  generalize l.take k = a
  generalize l.drop k = t
  induction t generalizing a with
  | nil => simp
  | cons c t ih =>
    rw [show a ++ c :: t = (a ++ [c]) ++ t from by simp]
    refine Nat.le_trans ?_ (ih (a ++ [c]))
    rw [valOf_snoc]; omega
theorem parseS_val {b : Bool} {l : List UInt8} (ha : l.all isDig = true) (h0 : l ≠ []) (hz : ¬ (l.head? = some 48 ∧ (1 < l.length ∨ b = true))) : parseS b l = (chkV (sgn b (valOf l)), chkE (sgn b (valOf l))) := by
  unfold parseS
  rw [if_neg (by rintro (h | h | h); exact h0 h; exact hz h; rw [ha] at h; cases h)]
  rfl
theorem parseS_over {b : Bool} {l : List UInt8} (ha : l.all isDig = true) (h0 : l ≠ []) (hz : ¬ (l.head? = some 48 ∧ (1 < l.length ∨ b = true))) {v : Nat} (hv : v ≤ valOf l) (ho : ¬ In64 (sgn b v)) : parseS b l = (0, 4) := by
  rw [parseS_val ha h0 hz, (chk_out (sgn_out ho hv)).1, (chk_out (sgn_out ho hv)).2]
theorem parseS_in {b : Bool} {l : List UInt8} (ha : l.all isDig = true) (h0 : l ≠ []) (hz : ¬ (l.head? = some 48 ∧ (1 < l.length ∨ b = true))) {n : Int} (hn : n = sgn b (valOf l)) (ho : In64 n) : parseS b l = (n, 0) := by
  subst hn; rw [parseS_val ha h0 hz, (chk_in ho).1, (chk_in ho).2]
theorem parseS_nodig {b : Bool} {l : List UInt8} (h : isNum l = false) : parseS b l = (0, 1) := by
  unfold isNum at h
  unfold parseS; rw [if_pos]
  cases ha : l.all isDig with
  | false => exact .inr (.inr rfl)
  | true =>
    rw [ha] at h
    have : ¬ 0 < l.length := by simpa using h
    exact .inl (List.length_eq_zero_iff.1 (by omega))

set_option maxHeartbeats 1000000 in
theorem rparse_loop_b (d s : ByteArray) (w : World) (hs : 0 < s.size) (hsm : s.size ≤ 9223372036854775807) (hlen : (d.size : Int) < s.size) (hm : d.size ≤ 9223372036854775807) (h0 : 0 < d.size) (HA : Hid (d.data.toList.all isDig = true)) (HG : Hid (¬ (d.data.toList.head? = some 48 ∧ (1 < d.data.toList.length ∨ true = true)))) (hb : ((s[0].toNat : Int) == 45) = true) (hd : s.extract 1 s.size = d) (hz : ((d[0].toNat : Int) == 48) = false) :
    Calls Try.prog 23 #[.string s] w fun e w' => e = .returned (.tuple #[.int .i64 (parseS true d.data.toList).1, .int .i64 (parseS true d.data.toList).2]) ∧ w = w' := by
  have HL := Lib.hid (len_list d)
  have HDG := Lib.hid (digits_any d w hm)
  have HN := Lib.hid (ne_list d h0)
  unfold isNum at HDG
  rw [HA.out, HL.out, decide_eq_true h0] at HDG
  go_enter Try.func23, Try.ntmps23
  go_wp2_with fail
  refine HDG.out.mono ?_; rintro e w' ⟨rfl, rfl⟩
  go_wp2_with fail
  go_loop [2, 3, 5, 6, 7, 8, 9] (fun _ _ m i _ _ _ => ∃ (k : Nat) (n : Int), k ≤ d.size ∧ i = .int .i64 k ∧ m = .int .i64 n ∧ Hid (n = sgn true (valOf (d.data.toList.take k)) ∧ In64 n)) (fun _ _ _ i _ _ _ => d.size - (intOf i).toNat)
  case atStart => exact ⟨0, 0, Nat.zero_le _, rfl, rfl, Lib.hid ⟨rfl, by unfold In64; omega⟩⟩
  case round =>
    obtain ⟨k, n, hk, rfl, rfl, hh⟩ := hrel
    by_cases hlt : k < d.size
    · obtain ⟨c, hc⟩ : ∃ c, d[k] = c := ⟨_, rfl⟩
      have HG2 : Hid (d.data.toList[k]? = some c) := by rw [get_list d k hlt, hc]; exact Lib.hid rfl
      obtain ⟨q, hcn, hn0, hn3⟩ : ∃ n : Int, (c.toNat : Int) = n ∧ 48 ≤ n ∧ n ≤ 57 := by
        have h := List.all_eq_true.1 HA.out c (List.mem_of_getElem? HG2.out)
        exact ⟨_, rfl, (isDig_iff c rfl).1 h⟩
      have HV : Hid (sgn true (valOf (d.data.toList.take (k + 1))) = n * 10 + (-(q - 48))) := Lib.hid (by
        rw [take_succ_some HG2.out, valOf_snoc, sgn_snoc, ← hh.out.1]
        have : sgn true (c.toNat - 48) = -(q - 48) := by simp only [sgn, Bool.false_eq_true, if_false, if_true]; omega
        rw [this])
      have HT10 : Hid (In64 10) := Lib.hid (by unfold In64; omega)
      have M := rmul_any n 10 w hh.out.2 HT10.out
      by_cases hI : In64 (n * 10)
      · rw [(chk_in hI).1, (chk_in hI).2] at M
        have HM := Lib.hid M
        have A := radd_any (n * 10) (-(q - 48)) w hI (by unfold In64; omega)
        rw [← HV.out] at A
        clear M
        have HI := Lib.hid hI
        clear hI
        by_cases hJ : In64 (sgn true (valOf (d.data.toList.take (k + 1))))
        · rw [(chk_in hJ).1, (chk_in hJ).2] at A
          have HJ := Lib.hid hJ
          clear hJ
          have HAd := Lib.hid A
          clear A
          go_wp2_with fail
          refine HM.out.mono ?_; rintro e w' ⟨rfl, rfl⟩
          go_wp2_with fail
          refine HAd.out.mono ?_; rintro e w' ⟨rfl, rfl⟩
          go_wp2_with fail
          go_round
          case rel => exact ⟨k + 1, _, by omega, by go_num, rfl, Lib.hid ⟨rfl, HJ.out⟩⟩
          case measure => simp [intOf]; omega
        · rw [(chk_out hJ).1, (chk_out hJ).2] at A
          have HP := Lib.hid (parseS_over (b := true) HA.out HN.out (by simpa using HG.out) (valOf_mono d.data.toList (k + 1)) hJ)
          clear hJ
          have HAd := Lib.hid A
          clear A
          go_wp2_with fail
          refine HM.out.mono ?_; rintro e w' ⟨rfl, rfl⟩
          go_wp2_with fail
          refine HAd.out.mono ?_; rintro e w' ⟨rfl, rfl⟩
          go_wp2_with fail
          go_ret2
          exact ⟨pair_ret HP.out, rfl⟩
      · rw [(chk_out hI).1, (chk_out hI).2] at M
        have HM := Lib.hid M
        clear M
        have HP := Lib.hid (parseS_over (b := true) (v := valOf (d.data.toList.take k) * 10) HA.out HN.out (by simpa using HG.out) (Nat.le_trans (by rw [take_succ_some HG2.out, valOf_snoc]; omega) (valOf_mono d.data.toList (k + 1)))
          (by have := sgn_snoc true (valOf (d.data.toList.take k)) 0; rw [Nat.add_zero] at this; rw [this, ← hh.out.1]; simpa [sgn] using hI))
        clear hI
        go_wp2_with fail
        refine HM.out.mono ?_; rintro e w' ⟨rfl, rfl⟩
        go_wp2_with fail
        go_ret2
        exact ⟨pair_ret HP.out, rfl⟩
    · obtain rfl : k = d.size := by omega
      have HP := Lib.hid (parseS_in (b := true) HA.out HN.out (by simpa using HG.out) (by have := hh.out.1; rw [← HL.out, List.take_length] at this; exact this) hh.out.2)
      go_wp2_with fail
      go_ret2
      exact ⟨pair_ret HP.out, rfl⟩

set_option maxHeartbeats 1000000 in
theorem rparse_loop_n (d : ByteArray) (w : World) (hm : d.size ≤ 9223372036854775807) (h0 : 0 < d.size) (HA : Hid (d.data.toList.all isDig = true)) (HG : Hid (¬ (d.data.toList.head? = some 48 ∧ (1 < d.data.toList.length ∨ false = true)))) (hb : ((d[0].toNat : Int) == 45) = false) (hz : ((d[0].toNat : Int) == 48) = false) :
    Calls Try.prog 23 #[.string d] w fun e w' => e = .returned (.tuple #[.int .i64 (parseS false d.data.toList).1, .int .i64 (parseS false d.data.toList).2]) ∧ w = w' := by
  have HL := Lib.hid (len_list d)
  have HDG := Lib.hid (digits_any d w hm)
  have HN := Lib.hid (ne_list d h0)
  unfold isNum at HDG
  rw [HA.out, HL.out, decide_eq_true h0] at HDG
  go_enter Try.func23, Try.ntmps23
  go_wp2_with fail
  refine HDG.out.mono ?_; rintro e w' ⟨rfl, rfl⟩
  go_wp2_with fail
  go_loop [2, 3, 5, 6, 7, 8, 9] (fun _ _ m i _ _ _ => ∃ (k : Nat) (n : Int), k ≤ d.size ∧ i = .int .i64 k ∧ m = .int .i64 n ∧ Hid (n = sgn false (valOf (d.data.toList.take k)) ∧ In64 n)) (fun _ _ _ i _ _ _ => d.size - (intOf i).toNat)
  case atStart => exact ⟨0, 0, Nat.zero_le _, rfl, rfl, Lib.hid ⟨rfl, by unfold In64; omega⟩⟩
  case round =>
    obtain ⟨k, n, hk, rfl, rfl, hh⟩ := hrel
    by_cases hlt : k < d.size
    · obtain ⟨c, hc⟩ : ∃ c, d[k] = c := ⟨_, rfl⟩
      have HG2 : Hid (d.data.toList[k]? = some c) := by rw [get_list d k hlt, hc]; exact Lib.hid rfl
      obtain ⟨q, hcn, hn0, hn3⟩ : ∃ n : Int, (c.toNat : Int) = n ∧ 48 ≤ n ∧ n ≤ 57 := by
        have h := List.all_eq_true.1 HA.out c (List.mem_of_getElem? HG2.out)
        exact ⟨_, rfl, (isDig_iff c rfl).1 h⟩
      have HV : Hid (sgn false (valOf (d.data.toList.take (k + 1))) = n * 10 + (q - 48)) := Lib.hid (by
        rw [take_succ_some HG2.out, valOf_snoc, sgn_snoc, ← hh.out.1]
        have : sgn false (c.toNat - 48) = q - 48 := by simp only [sgn, Bool.false_eq_true, if_false, if_true]; omega
        rw [this])
      have HT10 : Hid (In64 10) := Lib.hid (by unfold In64; omega)
      have M := rmul_any n 10 w hh.out.2 HT10.out
      by_cases hI : In64 (n * 10)
      · rw [(chk_in hI).1, (chk_in hI).2] at M
        have HM := Lib.hid M
        have A := radd_any (n * 10) (q - 48) w hI (by unfold In64; omega)
        rw [← HV.out] at A
        clear M
        have HI := Lib.hid hI
        clear hI
        by_cases hJ : In64 (sgn false (valOf (d.data.toList.take (k + 1))))
        · rw [(chk_in hJ).1, (chk_in hJ).2] at A
          have HJ := Lib.hid hJ
          clear hJ
          have HAd := Lib.hid A
          clear A
          go_wp2_with fail
          refine HM.out.mono ?_; rintro e w' ⟨rfl, rfl⟩
          go_wp2_with fail
          refine HAd.out.mono ?_; rintro e w' ⟨rfl, rfl⟩
          go_wp2_with fail
          go_round
          case rel => exact ⟨k + 1, _, by omega, by go_num, rfl, Lib.hid ⟨rfl, HJ.out⟩⟩
          case measure => simp [intOf]; omega
        · rw [(chk_out hJ).1, (chk_out hJ).2] at A
          have HP := Lib.hid (parseS_over (b := false) HA.out HN.out (by simpa using HG.out) (valOf_mono d.data.toList (k + 1)) hJ)
          clear hJ
          have HAd := Lib.hid A
          clear A
          go_wp2_with fail
          refine HM.out.mono ?_; rintro e w' ⟨rfl, rfl⟩
          go_wp2_with fail
          refine HAd.out.mono ?_; rintro e w' ⟨rfl, rfl⟩
          go_wp2_with fail
          go_ret2
          exact ⟨pair_ret HP.out, rfl⟩
      · rw [(chk_out hI).1, (chk_out hI).2] at M
        have HM := Lib.hid M
        clear M
        have HP := Lib.hid (parseS_over (b := false) (v := valOf (d.data.toList.take k) * 10) HA.out HN.out (by simpa using HG.out) (Nat.le_trans (by rw [take_succ_some HG2.out, valOf_snoc]; omega) (valOf_mono d.data.toList (k + 1)))
          (by have := sgn_snoc false (valOf (d.data.toList.take k)) 0; rw [Nat.add_zero] at this; rw [this, ← hh.out.1]; simpa [sgn] using hI))
        clear hI
        go_wp2_with fail
        refine HM.out.mono ?_; rintro e w' ⟨rfl, rfl⟩
        go_wp2_with fail
        go_ret2
        exact ⟨pair_ret HP.out, rfl⟩
    · obtain rfl : k = d.size := by omega
      have HP := Lib.hid (parseS_in (b := false) HA.out HN.out (by simpa using HG.out) (by have := hh.out.1; rw [← HL.out, List.take_length] at this; exact this) hh.out.2)
      go_wp2_with fail
      go_ret2
      exact ⟨pair_ret HP.out, rfl⟩

set_option maxHeartbeats 1000000 in
theorem rparse_loop_z (d : ByteArray) (w : World) (hm : d.size ≤ 9223372036854775807) (h0 : 0 < d.size) (HA : Hid (d.data.toList.all isDig = true)) (HG : Hid (¬ (d.data.toList.head? = some 48 ∧ (1 < d.data.toList.length ∨ false = true)))) (hb : ((d[0].toNat : Int) == 45) = false) (hz : ((d[0].toNat : Int) == 48) = true) (hone : (d.toList == [48]) = true) :
    Calls Try.prog 23 #[.string d] w fun e w' => e = .returned (.tuple #[.int .i64 (parseS false d.data.toList).1, .int .i64 (parseS false d.data.toList).2]) ∧ w = w' := by
  have HL := Lib.hid (len_list d)
  have HDG := Lib.hid (digits_any d w hm)
  have HN := Lib.hid (ne_list d h0)
  unfold isNum at HDG
  rw [HA.out, HL.out, decide_eq_true h0] at HDG
  go_enter Try.func23, Try.ntmps23
  go_wp2_with fail
  refine HDG.out.mono ?_; rintro e w' ⟨rfl, rfl⟩
  go_wp2_with fail
  go_loop [2, 3, 5, 6, 7, 8, 9] (fun _ _ m i _ _ _ => ∃ (k : Nat) (n : Int), k ≤ d.size ∧ i = .int .i64 k ∧ m = .int .i64 n ∧ Hid (n = sgn false (valOf (d.data.toList.take k)) ∧ In64 n)) (fun _ _ _ i _ _ _ => d.size - (intOf i).toNat)
  case atStart => exact ⟨0, 0, Nat.zero_le _, rfl, rfl, Lib.hid ⟨rfl, by unfold In64; omega⟩⟩
  case round =>
    obtain ⟨k, n, hk, rfl, rfl, hh⟩ := hrel
    by_cases hlt : k < d.size
    · obtain ⟨c, hc⟩ : ∃ c, d[k] = c := ⟨_, rfl⟩
      have HG2 : Hid (d.data.toList[k]? = some c) := by rw [get_list d k hlt, hc]; exact Lib.hid rfl
      obtain ⟨q, hcn, hn0, hn3⟩ : ∃ n : Int, (c.toNat : Int) = n ∧ 48 ≤ n ∧ n ≤ 57 := by
        have h := List.all_eq_true.1 HA.out c (List.mem_of_getElem? HG2.out)
        exact ⟨_, rfl, (isDig_iff c rfl).1 h⟩
      have HV : Hid (sgn false (valOf (d.data.toList.take (k + 1))) = n * 10 + (q - 48)) := Lib.hid (by
        rw [take_succ_some HG2.out, valOf_snoc, sgn_snoc, ← hh.out.1]
        have : sgn false (c.toNat - 48) = q - 48 := by simp only [sgn, Bool.false_eq_true, if_false, if_true]; omega
        rw [this])
      have HT10 : Hid (In64 10) := Lib.hid (by unfold In64; omega)
      have M := rmul_any n 10 w hh.out.2 HT10.out
      by_cases hI : In64 (n * 10)
      · rw [(chk_in hI).1, (chk_in hI).2] at M
        have HM := Lib.hid M
        have A := radd_any (n * 10) (q - 48) w hI (by unfold In64; omega)
        rw [← HV.out] at A
        clear M
        have HI := Lib.hid hI
        clear hI
        by_cases hJ : In64 (sgn false (valOf (d.data.toList.take (k + 1))))
        · rw [(chk_in hJ).1, (chk_in hJ).2] at A
          have HJ := Lib.hid hJ
          clear hJ
          have HAd := Lib.hid A
          clear A
          go_wp2_with fail
          refine HM.out.mono ?_; rintro e w' ⟨rfl, rfl⟩
          go_wp2_with fail
          refine HAd.out.mono ?_; rintro e w' ⟨rfl, rfl⟩
          go_wp2_with fail
          go_round
          case rel => exact ⟨k + 1, _, by omega, by go_num, rfl, Lib.hid ⟨rfl, HJ.out⟩⟩
          case measure => simp [intOf]; omega
        · rw [(chk_out hJ).1, (chk_out hJ).2] at A
          have HP := Lib.hid (parseS_over (b := false) HA.out HN.out (by simpa using HG.out) (valOf_mono d.data.toList (k + 1)) hJ)
          clear hJ
          have HAd := Lib.hid A
          clear A
          go_wp2_with fail
          refine HM.out.mono ?_; rintro e w' ⟨rfl, rfl⟩
          go_wp2_with fail
          refine HAd.out.mono ?_; rintro e w' ⟨rfl, rfl⟩
          go_wp2_with fail
          go_ret2
          exact ⟨pair_ret HP.out, rfl⟩
      · rw [(chk_out hI).1, (chk_out hI).2] at M
        have HM := Lib.hid M
        clear M
        have HP := Lib.hid (parseS_over (b := false) (v := valOf (d.data.toList.take k) * 10) HA.out HN.out (by simpa using HG.out) (Nat.le_trans (by rw [take_succ_some HG2.out, valOf_snoc]; omega) (valOf_mono d.data.toList (k + 1)))
          (by have := sgn_snoc false (valOf (d.data.toList.take k)) 0; rw [Nat.add_zero] at this; rw [this, ← hh.out.1]; simpa [sgn] using hI))
        clear hI
        go_wp2_with fail
        refine HM.out.mono ?_; rintro e w' ⟨rfl, rfl⟩
        go_wp2_with fail
        go_ret2
        exact ⟨pair_ret HP.out, rfl⟩
    · obtain rfl : k = d.size := by omega
      have HP := Lib.hid (parseS_in (b := false) HA.out HN.out (by simpa using HG.out) (by have := hh.out.1; rw [← HL.out, List.take_length] at this; exact this) hh.out.2)
      go_wp2_with fail
      go_ret2
      exact ⟨pair_ret HP.out, rfl⟩
end Go.Proofs.Ytkmjchpmbndpiaa

/- The contract of the reference Parse. Conditions: the text can be read. -/
import Derived.Test.YtkmjchpmbndpiaaP9
namespace Go.Proofs.Ytkmjchpmbndpiaa
open Go.RowKit
set_option linter.unusedSimpArgs false
set_option linter.unusedVariables false

theorem isNum_true {l : List UInt8} (h : isNum l = true) : l.all isDig = true ∧ 0 < l.length := by
  unfold isNum at h; simpa only [Bool.and_eq_true, decide_eq_true_eq] using h
theorem beq_false_of {l m : List UInt8} (h : l ≠ m) : (l == m) = false := beq_eq_false_iff_ne.2 h

set_option maxHeartbeats 1000000 in
theorem rparse_any (s : ByteArray) (w : World) (hs : s.size ≤ 9223372036854775807) : Calls Try.prog 23 #[.string s] w fun e w' => e = .returned (.tuple #[.int .i64 (parseOf s.data.toList).1, .int .i64 (parseOf s.data.toList).2]) ∧ w = w' := by
  by_cases h0 : s.size = 0
  · have hl : s.data.toList = [] := List.length_eq_zero_iff.1 (by simpa using h0)
    have hr : Hid (parseOf s.data.toList = (0, 1)) := Lib.hid (by rw [hl]; rfl)
    have hz : ¬ (0 : Int) < s.size := by omega
    have HDG := Lib.hid (digits_any s w hs)
    rw [hl, show isNum [] = false from rfl] at HDG
    clear h0 hl hs
    go_enter Try.func23, Try.ntmps23
    go_wp2_with fail
    refine HDG.out.mono ?_; rintro e w' ⟨rfl, rfl⟩
    go_wp2_with fail
    go_ret2
    exact ⟨pair_ret hr.out, rfl⟩
  · have h1 : 0 < s.size := by omega
    have hhd := head_list s h1
    have hb : ((s[0].toNat : Int) == 45) = decide (s[0] = 45) := u8_beq s[0] 45
    by_cases hc : s[0] = 45
    · rw [decide_eq_true hc] at hb
      obtain ⟨d, hd⟩ : ∃ d, s.extract 1 s.size = d := ⟨_, rfl⟩
      have hl : s.data.toList.tail = d.data.toList := by
        rw [← hd, Lib.extract_to_end, List.drop_one]
      have hdz : d.size = s.size - 1 := by rw [← len_list, ← len_list, ← hl, List.length_tail]
      have hp : parseOf s.data.toList = parseS true d.data.toList := by
        unfold parseOf; rw [hhd, hc, if_pos rfl, hl]
      have hs0 : (s.toList == [48]) = false := beq_false_of (by
        rw [ByteArray.toList_eq]; intro h; rw [h] at hhd; simp at hhd; rw [← hhd] at hc; exact absurd hc (by decide))
      rw [hp]
      clear hl hhd hp hc h0
      have hm : d.size ≤ 9223372036854775807 := by omega
      cases hn : isNum d.data.toList with
      | false =>
        have hr := Lib.hid (parseS_nodig (b := true) hn)
        have HDG := Lib.hid (digits_any d w hm)
        rw [hn] at HDG
        clear hdz hn hm hs
        go_enter Try.func23, Try.ntmps23
        go_wp2_with fail
        refine HDG.out.mono ?_; rintro e w' ⟨rfl, rfl⟩
        go_wp2_with fail
        go_ret2
        exact ⟨pair_ret hr.out, rfl⟩
      | true =>
        obtain ⟨ha, hln⟩ := isNum_true hn
        have h2 : 0 < d.size := by rw [len_list] at hln; exact hln
        have hz : ((d[0].toNat : Int) == 48) = decide (d[0] = 48) := u8_beq d[0] 48
        have hhd := head_list d h2
        by_cases hc : d[0] = 48
        · rw [decide_eq_true hc] at hz
          have hr : Hid (parseS true d.data.toList = (0, 1)) := Lib.hid (parseS_lead (.inr ⟨by rw [hhd, hc], .inr rfl⟩))
          have HDG := Lib.hid (digits_any d w hm)
          rw [hn] at HDG
          clear hdz hhd hc hn ha hln hm hs
          go_enter Try.func23, Try.ntmps23
          go_wp2_with fail
          refine HDG.out.mono ?_; rintro e w' ⟨rfl, rfl⟩
          go_wp2_with fail
          go_ret2
          exact ⟨pair_ret hr.out, rfl⟩
        · rw [decide_eq_false hc] at hz
          exact rparse_loop_b d s w h1 hs (by omega) hm h2 (Lib.hid ha) (Lib.hid (by rw [hhd]; simp [hc])) hb hd hz
    · rw [decide_eq_false hc] at hb
      have hp : parseOf s.data.toList = parseS false s.data.toList := by
        unfold parseOf; rw [hhd, if_neg (by simpa using hc)]
      rw [hp]
      cases hn : isNum s.data.toList with
      | false =>
        have hr := Lib.hid (parseS_nodig (b := false) hn)
        have HDG := Lib.hid (digits_any s w hs)
        rw [hn] at HDG
        clear hn hs hp hhd hc h0
        go_enter Try.func23, Try.ntmps23
        go_wp2_with fail
        refine HDG.out.mono ?_; rintro e w' ⟨rfl, rfl⟩
        go_wp2_with fail
        go_ret2
        exact ⟨pair_ret hr.out, rfl⟩
      | true =>
        obtain ⟨ha, hln⟩ := isNum_true hn
        have hz : ((s[0].toNat : Int) == 48) = decide (s[0] = 48) := u8_beq s[0] 48
        by_cases hc2 : s[0] = 48
        · rw [decide_eq_true hc2] at hz
          by_cases hlen : s.size = 1
          · have hl : s.toList = [48] := by
              rw [ByteArray.toList_eq]
              have h3 := len_list s
              rw [hc2] at hhd
              cases hq : s.data.toList with
              | nil => rw [hq] at h3; simp at h3; omega
              | cons c t =>
                rw [hq] at h3 hhd
                simp at h3 hhd
                have : t = [] := List.length_eq_zero_iff.1 (by omega)
                rw [hhd, this]
            exact rparse_loop_z s w hs h1 (Lib.hid ha) (Lib.hid (by rw [len_list, hlen]; rintro ⟨_, h | h⟩; omega; cases h)) hb hz (by rw [hl]; rfl)
          · have hr : Hid (parseS false s.data.toList = (0, 1)) := Lib.hid (parseS_lead (.inr ⟨by rw [hhd, hc2], .inl (by rw [len_list]; omega)⟩))
            have hs0 : (s.toList == [48]) = false := beq_false_of (by
              rw [ByteArray.toList_eq]; intro h; have h3 := len_list s; rw [h] at h3; simp at h3; omega)
            have HDG := Lib.hid (digits_any s w hs)
            rw [hn] at HDG
            clear hp hc hc2 hhd h0 hn ha hlen hs
            go_enter Try.func23, Try.ntmps23
            go_wp2_with fail
            refine HDG.out.mono ?_; rintro e w' ⟨rfl, rfl⟩
            go_wp2_with fail
            go_ret2
            exact ⟨pair_ret hr.out, rfl⟩
        · rw [decide_eq_false hc2] at hz
          exact rparse_loop_n s w hs h1 (Lib.hid ha) (Lib.hid (by rw [hhd]; simp [hc2])) hb hz
end Go.Proofs.Ytkmjchpmbndpiaa

/- Layer 24: the walk of ChainFirst. Conditions: the list can be read. -/
import Derived.Test.YtelmaaokaakpbaaP9
namespace Go.Proofs.Ytelmaaokaakpbaa
open Go.RowKit
set_option linter.unusedSimpArgs false
set_option linter.unusedVariables false

set_option maxRecDepth 100000 in
set_option maxHeartbeats 16000000 in
theorem first_walk (a : Option Addr) (cap : Nat) (os : List Act4) (t v u : Int) (commit : Bool) (W : World) (h1 : os.length ≤ maxLen) (HLO : Hid (-9223372036854775808 ≤ t))
    (hc : Cells W.heap.size W a (os.flatMap Act4.cells)) :
    Calls Try.prog 4 #[.slice a os.length cap, .int .i64 t, .int .i64 v, .int .i64 u, .bool commit] W fun e w' => e = .returned (.bool true) ∧ Below W.heap.size W w' := by
  unfold maxLen at h1
  go_enter Try.func4, Try.ntmps4
  go_wp2_with fail
  refine (new_h (Below.refl _ _)).mono ?_; rintro e w1 ⟨rfl, hh⟩
  go_wp2_with fail
  go_loopw [12] (fun i wr => ∃ (k : Nat) (s : St), k ≤ os.length ∧ k ≤ 200 ∧ i = .int .i64 k ∧ Hid (s.l.length ≤ k) ∧ Hid (Owned s) ∧ Has W W.heap.size s wr) (fun i _ => os.length - (intOf i).toNat)
  case atStart => exact ⟨0, s0, Nat.zero_le _, by omega, rfl, Lib.hid (Nat.le_refl _), Lib.hid (.inl rfl), hh⟩
  case round =>
    obtain ⟨k, s, hk, hk2, rfl, hl, how, hs⟩ := hrel
    clear hh
    by_cases hlt : k < os.length ∧ k < 200
    · obtain ⟨hlt, hlt2⟩ := hlt
      obtain ⟨o, ho⟩ : ∃ o, os[k]? = some o := ⟨_, List.getElem?_eq_getElem hlt⟩
      obtain ⟨b, off, rfl, hbs, c0, c1, c2, c3⟩ := act_cells hc hs.is ho
      clear ho
      go_wp2_with fail
      refine (do_h o hs (by have := hl.out; omega)).mono ?_; rintro e w2 ⟨rfl, hs2⟩
      clear c0 c1 c2 c3
      go_wp2_with fail
      go_roundw
      case rel => exact ⟨k + 1, _, by omega, by omega, by go_num, Lib.hid (by have := hl.out; have := doS_len s o; omega), Lib.hid (doS_owned s o how.out), hs2⟩
      case measure => simp [intOf]; omega
    · have htest : (k < os.length ∧ ¬ k < 200) ∨ ¬ k < os.length := by omega
      have hl2 : Hid (s.l.length ≤ 200) := Lib.hid (by have := hl.out; omega)
      have HO := Lib.hid (owner_h hs)
      have hwho : ((s.who != 0) = false ∧ Hid (freeS s = s)) ∨ ((s.who != 0) = true ∧ Hid (abortS s s.who = (freeS s, 0))) := by
        rcases how.out with h | h
        · exact .inl ⟨by simp [h], Lib.hid (if_pos h)⟩
        · refine .inr ⟨by simp; omega, Lib.hid ?_⟩
          rw [abort_ok h rfl]; unfold freeS; rw [if_neg (by omega)]
      clear hlt hl how
      rcases hwho with ⟨hw, hfr⟩ | ⟨hw, hfr⟩
      · have HF : Has W W.heap.size (freeS s) wr := by rw [hfr.out]; exact hs
        rcases htest with ⟨ht1, ht2⟩ | ht1
        all_goals
          go_wp2_with fail
          refine HO.out.mono ?_; rintro e w' ⟨rfl, rfl⟩
          go_wp2_with fail
          have HL : Hid ((freeS s).l.length ≤ 200) := by rw [freeS_l]; exact hl2
          have HW := Lib.hid (freeS_who s)
          clear hfr hs hl2 HO
          generalize freeS s = f at *
          refine (newest_h HF (by have := HL.out; omega)).mono ?_; rintro e w2 ⟨rfl, HF2⟩
          clear HF
          obtain ⟨nn, hnn⟩ : ∃ nn, newest f.l = nn := ⟨_, rfl⟩
          have HN := Lib.hid hnn
          rw [hnn]
          clear hnn
          have hlo := HLO.out
          by_cases hmx : nn ≤ t
          · by_cases hbig : 4611686018427387904 ≤ t
            · go_wp2_with fail
              refine (works_h HF2.is).mono ?_; rintro e w3 ⟨rfl, hb3⟩
              go_wp2_with fail
              go_ret
              exact ⟨rfl, hb3⟩
            · have HNT : Hid (newest f.l ≤ t ∨ f.l = []) := Lib.hid (.inl (by have := HN.out; omega))
              have E1 := Lib.hid (may_free HW.out (by omega : (1 : Int) ≤ 101) HNT.out)
              have E2 : Hid (mayE ⟨f.l, 101, v, false⟩ 102 t = 6) := Lib.hid (may_held (by show (1 : Int) ≤ 101; omega) (by omega) (by show (101 : Int) ≠ 102; omega))
              go_wp2_with fail
              refine (write_h 101 t v 0 ⟨f.l, 101, v, false⟩ HF2 (by have := HL.out; omega) E1.out (write_ok E1.out)).mono ?_; rintro e w3 ⟨rfl, HF3⟩
              go_wp2_with fail
              refine (write_h 102 t u 6 ⟨f.l, 101, v, false⟩ HF3 (by have := HL.out; simp only; omega) E2.out (write_no (by rw [E2.out]; omega))).mono ?_; rintro e w4 ⟨rfl, HF4⟩
              go_wp2_with fail
              refine (erase_h 102 t 6 ⟨f.l, 101, v, false⟩ HF4 (by have := HL.out; simp only; omega) (erase_no E2.out (by omega))).mono ?_; rintro e w5 ⟨rfl, HF5⟩
              go_wp2_with fail
              refine (read_h t 101 v true HF5 (by have := HL.out; simp only; omega) (read_own (who := 101) (by omega) rfl)).mono ?_; rintro e w' ⟨rfl, rfl⟩
              cases commit
              · go_wp2_with fail
                refine (abort_h 101 0 ⟨f.l, 0, 0, false⟩ HF5 (abort_ok (by omega) rfl)).mono ?_; rintro e w6 ⟨rfl, HF6⟩
                go_wp2_with fail
                refine (write_h 102 t u 0 ⟨f.l, 102, u, false⟩ HF6 (by have := HL.out; simp only; omega) (may_free rfl (by omega) HNT.out) (write_ok (may_free rfl (by omega) HNT.out))).mono ?_; rintro e w7 ⟨rfl, HF7⟩
                go_wp2_with fail
                refine (works_h HF7.is).mono ?_; rintro e w8 ⟨rfl, hb8⟩
                go_wp2_with fail
                go_ret
                exact ⟨rfl, hb8⟩
              · go_wp2_with fail
                refine (commit_h 101 (t + 1) 0 ⟨f.l ++ [⟨t + 1, v, false⟩], 0, 0, false⟩ HF5 (by have := HL.out; simp only; omega) (commit_ok (who := 101) (by omega) rfl (by rcases HNT.out with h | h; exact .inl (by simp only; omega); exact .inr h))).mono ?_; rintro e w6 ⟨rfl, HF6⟩
                go_wp2_with fail
                refine (read_h (t + 1) 102 v true HF6 (by have := HL.out; simp; omega) ((read_not (by simp)).trans (seen_last _ _ (Int.le_refl _) rfl))).mono ?_; rintro e w' ⟨rfl, rfl⟩
                go_wp2_with fail
                refine (write_h 102 t u 6 ⟨f.l ++ [⟨t + 1, v, false⟩], 0, 0, false⟩ HF6 (by have := HL.out; simp; omega) (may_late (by omega) (by rw [newest_snoc]; simp only; omega) (by simp)) (write_no (by rw [may_late (by omega) (by rw [newest_snoc]; simp only; omega) (by simp)]; omega))).mono ?_; rintro e w7 ⟨rfl, HF7⟩
                go_wp2_with fail
                refine (write_h 102 (t + 1) u 0 ⟨f.l ++ [⟨t + 1, v, false⟩], 102, u, false⟩ HF7 (by have := HL.out; simp; omega) (may_free rfl (by omega) (.inl (by rw [newest_snoc]; exact Int.le_refl _))) (write_ok (may_free rfl (by omega) (.inl (by rw [newest_snoc]; exact Int.le_refl _))))).mono ?_; rintro e w8 ⟨rfl, HF8⟩
                go_wp2_with fail
                refine (works_h HF8.is).mono ?_; rintro e w9 ⟨rfl, hb9⟩
                go_wp2_with fail
                go_ret
                exact ⟨rfl, hb9⟩
          · by_cases hbig : 4611686018427387904 ≤ nn
            · go_wp2_with fail
              refine (works_h HF2.is).mono ?_; rintro e w3 ⟨rfl, hb3⟩
              go_wp2_with fail
              go_ret
              exact ⟨rfl, hb3⟩
            · have HNT : Hid (newest f.l ≤ nn ∨ f.l = []) := Lib.hid (.inl (by have := HN.out; omega))
              have E1 := Lib.hid (may_free HW.out (by omega : (1 : Int) ≤ 101) HNT.out)
              have E2 : Hid (mayE ⟨f.l, 101, v, false⟩ 102 nn = 6) := Lib.hid (may_held (by show (1 : Int) ≤ 101; omega) (by omega) (by show (101 : Int) ≠ 102; omega))
              go_wp2_with fail
              refine (write_h 101 nn v 0 ⟨f.l, 101, v, false⟩ HF2 (by have := HL.out; omega) E1.out (write_ok E1.out)).mono ?_; rintro e w3 ⟨rfl, HF3⟩
              go_wp2_with fail
              refine (write_h 102 nn u 6 ⟨f.l, 101, v, false⟩ HF3 (by have := HL.out; simp only; omega) E2.out (write_no (by rw [E2.out]; omega))).mono ?_; rintro e w4 ⟨rfl, HF4⟩
              go_wp2_with fail
              refine (erase_h 102 nn 6 ⟨f.l, 101, v, false⟩ HF4 (by have := HL.out; simp only; omega) (erase_no E2.out (by omega))).mono ?_; rintro e w5 ⟨rfl, HF5⟩
              go_wp2_with fail
              refine (read_h nn 101 v true HF5 (by have := HL.out; simp only; omega) (read_own (who := 101) (by omega) rfl)).mono ?_; rintro e w' ⟨rfl, rfl⟩
              cases commit
              · go_wp2_with fail
                refine (abort_h 101 0 ⟨f.l, 0, 0, false⟩ HF5 (abort_ok (by omega) rfl)).mono ?_; rintro e w6 ⟨rfl, HF6⟩
                go_wp2_with fail
                refine (write_h 102 nn u 0 ⟨f.l, 102, u, false⟩ HF6 (by have := HL.out; simp only; omega) (may_free rfl (by omega) HNT.out) (write_ok (may_free rfl (by omega) HNT.out))).mono ?_; rintro e w7 ⟨rfl, HF7⟩
                go_wp2_with fail
                refine (works_h HF7.is).mono ?_; rintro e w8 ⟨rfl, hb8⟩
                go_wp2_with fail
                go_ret
                exact ⟨rfl, hb8⟩
              · go_wp2_with fail
                refine (commit_h 101 (nn + 1) 0 ⟨f.l ++ [⟨nn + 1, v, false⟩], 0, 0, false⟩ HF5 (by have := HL.out; simp only; omega) (commit_ok (who := 101) (by omega) rfl (by rcases HNT.out with h | h; exact .inl (by simp only; omega); exact .inr h))).mono ?_; rintro e w6 ⟨rfl, HF6⟩
                go_wp2_with fail
                refine (read_h (nn + 1) 102 v true HF6 (by have := HL.out; simp; omega) ((read_not (by simp)).trans (seen_last _ _ (Int.le_refl _) rfl))).mono ?_; rintro e w' ⟨rfl, rfl⟩
                go_wp2_with fail
                refine (write_h 102 nn u 6 ⟨f.l ++ [⟨nn + 1, v, false⟩], 0, 0, false⟩ HF6 (by have := HL.out; simp; omega) (may_late (by omega) (by rw [newest_snoc]; simp only; omega) (by simp)) (write_no (by rw [may_late (by omega) (by rw [newest_snoc]; simp only; omega) (by simp)]; omega))).mono ?_; rintro e w7 ⟨rfl, HF7⟩
                go_wp2_with fail
                refine (write_h 102 (nn + 1) u 0 ⟨f.l ++ [⟨nn + 1, v, false⟩], 102, u, false⟩ HF7 (by have := HL.out; simp; omega) (may_free rfl (by omega) (.inl (by rw [newest_snoc]; exact Int.le_refl _))) (write_ok (may_free rfl (by omega) (.inl (by rw [newest_snoc]; exact Int.le_refl _))))).mono ?_; rintro e w8 ⟨rfl, HF8⟩
                go_wp2_with fail
                refine (works_h HF8.is).mono ?_; rintro e w9 ⟨rfl, hb9⟩
                go_wp2_with fail
                go_ret
                exact ⟨rfl, hb9⟩
      · have HAb := Lib.hid (abort_h s.who 0 (freeS s) hs hfr.out)
        rcases htest with ⟨ht1, ht2⟩ | ht1
        all_goals
          go_wp2_with fail
          refine HO.out.mono ?_; rintro e w' ⟨rfl, rfl⟩
          go_wp2_with fail
          refine HAb.out.mono ?_; rintro e wa ⟨rfl, HF⟩
          clear HAb
          go_wp2_with fail
          have HL : Hid ((freeS s).l.length ≤ 200) := by rw [freeS_l]; exact hl2
          have HW := Lib.hid (freeS_who s)
          clear hfr hs hl2 HO
          generalize freeS s = f at *
          refine (newest_h HF (by have := HL.out; omega)).mono ?_; rintro e w2 ⟨rfl, HF2⟩
          clear HF
          obtain ⟨nn, hnn⟩ : ∃ nn, newest f.l = nn := ⟨_, rfl⟩
          have HN := Lib.hid hnn
          rw [hnn]
          clear hnn
          have hlo := HLO.out
          by_cases hmx : nn ≤ t
          · by_cases hbig : 4611686018427387904 ≤ t
            · go_wp2_with fail
              refine (works_h HF2.is).mono ?_; rintro e w3 ⟨rfl, hb3⟩
              go_wp2_with fail
              go_ret
              exact ⟨rfl, hb3⟩
            · have HNT : Hid (newest f.l ≤ t ∨ f.l = []) := Lib.hid (.inl (by have := HN.out; omega))
              have E1 := Lib.hid (may_free HW.out (by omega : (1 : Int) ≤ 101) HNT.out)
              have E2 : Hid (mayE ⟨f.l, 101, v, false⟩ 102 t = 6) := Lib.hid (may_held (by show (1 : Int) ≤ 101; omega) (by omega) (by show (101 : Int) ≠ 102; omega))
              go_wp2_with fail
              refine (write_h 101 t v 0 ⟨f.l, 101, v, false⟩ HF2 (by have := HL.out; omega) E1.out (write_ok E1.out)).mono ?_; rintro e w3 ⟨rfl, HF3⟩
              go_wp2_with fail
              refine (write_h 102 t u 6 ⟨f.l, 101, v, false⟩ HF3 (by have := HL.out; simp only; omega) E2.out (write_no (by rw [E2.out]; omega))).mono ?_; rintro e w4 ⟨rfl, HF4⟩
              go_wp2_with fail
              refine (erase_h 102 t 6 ⟨f.l, 101, v, false⟩ HF4 (by have := HL.out; simp only; omega) (erase_no E2.out (by omega))).mono ?_; rintro e w5 ⟨rfl, HF5⟩
              go_wp2_with fail
              refine (read_h t 101 v true HF5 (by have := HL.out; simp only; omega) (read_own (who := 101) (by omega) rfl)).mono ?_; rintro e w' ⟨rfl, rfl⟩
              cases commit
              · go_wp2_with fail
                refine (abort_h 101 0 ⟨f.l, 0, 0, false⟩ HF5 (abort_ok (by omega) rfl)).mono ?_; rintro e w6 ⟨rfl, HF6⟩
                go_wp2_with fail
                refine (write_h 102 t u 0 ⟨f.l, 102, u, false⟩ HF6 (by have := HL.out; simp only; omega) (may_free rfl (by omega) HNT.out) (write_ok (may_free rfl (by omega) HNT.out))).mono ?_; rintro e w7 ⟨rfl, HF7⟩
                go_wp2_with fail
                refine (works_h HF7.is).mono ?_; rintro e w8 ⟨rfl, hb8⟩
                go_wp2_with fail
                go_ret
                exact ⟨rfl, hb8⟩
              · go_wp2_with fail
                refine (commit_h 101 (t + 1) 0 ⟨f.l ++ [⟨t + 1, v, false⟩], 0, 0, false⟩ HF5 (by have := HL.out; simp only; omega) (commit_ok (who := 101) (by omega) rfl (by rcases HNT.out with h | h; exact .inl (by simp only; omega); exact .inr h))).mono ?_; rintro e w6 ⟨rfl, HF6⟩
                go_wp2_with fail
                refine (read_h (t + 1) 102 v true HF6 (by have := HL.out; simp; omega) ((read_not (by simp)).trans (seen_last _ _ (Int.le_refl _) rfl))).mono ?_; rintro e w' ⟨rfl, rfl⟩
                go_wp2_with fail
                refine (write_h 102 t u 6 ⟨f.l ++ [⟨t + 1, v, false⟩], 0, 0, false⟩ HF6 (by have := HL.out; simp; omega) (may_late (by omega) (by rw [newest_snoc]; simp only; omega) (by simp)) (write_no (by rw [may_late (by omega) (by rw [newest_snoc]; simp only; omega) (by simp)]; omega))).mono ?_; rintro e w7 ⟨rfl, HF7⟩
                go_wp2_with fail
                refine (write_h 102 (t + 1) u 0 ⟨f.l ++ [⟨t + 1, v, false⟩], 102, u, false⟩ HF7 (by have := HL.out; simp; omega) (may_free rfl (by omega) (.inl (by rw [newest_snoc]; exact Int.le_refl _))) (write_ok (may_free rfl (by omega) (.inl (by rw [newest_snoc]; exact Int.le_refl _))))).mono ?_; rintro e w8 ⟨rfl, HF8⟩
                go_wp2_with fail
                refine (works_h HF8.is).mono ?_; rintro e w9 ⟨rfl, hb9⟩
                go_wp2_with fail
                go_ret
                exact ⟨rfl, hb9⟩
          · by_cases hbig : 4611686018427387904 ≤ nn
            · go_wp2_with fail
              refine (works_h HF2.is).mono ?_; rintro e w3 ⟨rfl, hb3⟩
              go_wp2_with fail
              go_ret
              exact ⟨rfl, hb3⟩
            · have HNT : Hid (newest f.l ≤ nn ∨ f.l = []) := Lib.hid (.inl (by have := HN.out; omega))
              have E1 := Lib.hid (may_free HW.out (by omega : (1 : Int) ≤ 101) HNT.out)
              have E2 : Hid (mayE ⟨f.l, 101, v, false⟩ 102 nn = 6) := Lib.hid (may_held (by show (1 : Int) ≤ 101; omega) (by omega) (by show (101 : Int) ≠ 102; omega))
              go_wp2_with fail
              refine (write_h 101 nn v 0 ⟨f.l, 101, v, false⟩ HF2 (by have := HL.out; omega) E1.out (write_ok E1.out)).mono ?_; rintro e w3 ⟨rfl, HF3⟩
              go_wp2_with fail
              refine (write_h 102 nn u 6 ⟨f.l, 101, v, false⟩ HF3 (by have := HL.out; simp only; omega) E2.out (write_no (by rw [E2.out]; omega))).mono ?_; rintro e w4 ⟨rfl, HF4⟩
              go_wp2_with fail
              refine (erase_h 102 nn 6 ⟨f.l, 101, v, false⟩ HF4 (by have := HL.out; simp only; omega) (erase_no E2.out (by omega))).mono ?_; rintro e w5 ⟨rfl, HF5⟩
              go_wp2_with fail
              refine (read_h nn 101 v true HF5 (by have := HL.out; simp only; omega) (read_own (who := 101) (by omega) rfl)).mono ?_; rintro e w' ⟨rfl, rfl⟩
              cases commit
              · go_wp2_with fail
                refine (abort_h 101 0 ⟨f.l, 0, 0, false⟩ HF5 (abort_ok (by omega) rfl)).mono ?_; rintro e w6 ⟨rfl, HF6⟩
                go_wp2_with fail
                refine (write_h 102 nn u 0 ⟨f.l, 102, u, false⟩ HF6 (by have := HL.out; simp only; omega) (may_free rfl (by omega) HNT.out) (write_ok (may_free rfl (by omega) HNT.out))).mono ?_; rintro e w7 ⟨rfl, HF7⟩
                go_wp2_with fail
                refine (works_h HF7.is).mono ?_; rintro e w8 ⟨rfl, hb8⟩
                go_wp2_with fail
                go_ret
                exact ⟨rfl, hb8⟩
              · go_wp2_with fail
                refine (commit_h 101 (nn + 1) 0 ⟨f.l ++ [⟨nn + 1, v, false⟩], 0, 0, false⟩ HF5 (by have := HL.out; simp only; omega) (commit_ok (who := 101) (by omega) rfl (by rcases HNT.out with h | h; exact .inl (by simp only; omega); exact .inr h))).mono ?_; rintro e w6 ⟨rfl, HF6⟩
                go_wp2_with fail
                refine (read_h (nn + 1) 102 v true HF6 (by have := HL.out; simp; omega) ((read_not (by simp)).trans (seen_last _ _ (Int.le_refl _) rfl))).mono ?_; rintro e w' ⟨rfl, rfl⟩
                go_wp2_with fail
                refine (write_h 102 nn u 6 ⟨f.l ++ [⟨nn + 1, v, false⟩], 0, 0, false⟩ HF6 (by have := HL.out; simp; omega) (may_late (by omega) (by rw [newest_snoc]; simp only; omega) (by simp)) (write_no (by rw [may_late (by omega) (by rw [newest_snoc]; simp only; omega) (by simp)]; omega))).mono ?_; rintro e w7 ⟨rfl, HF7⟩
                go_wp2_with fail
                refine (write_h 102 (nn + 1) u 0 ⟨f.l ++ [⟨nn + 1, v, false⟩], 102, u, false⟩ HF7 (by have := HL.out; simp; omega) (may_free rfl (by omega) (.inl (by rw [newest_snoc]; exact Int.le_refl _))) (write_ok (may_free rfl (by omega) (.inl (by rw [newest_snoc]; exact Int.le_refl _))))).mono ?_; rintro e w8 ⟨rfl, HF8⟩
                go_wp2_with fail
                refine (works_h HF8.is).mono ?_; rintro e w9 ⟨rfl, hb9⟩
                go_wp2_with fail
                go_ret
                exact ⟨rfl, hb9⟩
end Go.Proofs.Ytelmaaokaakpbaa

/- Layer 24: the walk of ChainAborts. Conditions: the list can be read. -/
import Derived.Test.YtelmaaokaakpbaaP9
namespace Go.Proofs.Ytelmaaokaakpbaa
open Go.RowKit
set_option linter.unusedSimpArgs false
set_option linter.unusedVariables false

set_option maxRecDepth 100000 in
set_option maxHeartbeats 16000000 in
theorem aborts_walk (a : Option Addr) (cap : Nat) (os : List Act4) (who v t : Int) (W : World) (h1 : os.length ≤ maxLen)
    (hc : Cells W.heap.size W a (os.flatMap Act4.cells)) :
    Calls Try.prog 7 #[.slice a os.length cap, .int .i64 who, .int .i64 v, .int .i64 t] W fun e w' => e = .returned (.bool true) ∧ Below W.heap.size W w' := by
  unfold maxLen at h1
  go_enter Try.func7, Try.ntmps7
  go_wp2_with fail
  refine (new_h (Below.refl _ _)).mono ?_; rintro e w1 ⟨rfl, hh⟩
  go_wp2_with fail
  go_loopw [10] (fun i wr => ∃ (k : Nat) (s : St), k ≤ os.length ∧ k ≤ 200 ∧ i = .int .i64 k ∧ Hid (s.l.length ≤ k) ∧ Hid (Owned s) ∧ Has W W.heap.size s wr) (fun i _ => os.length - (intOf i).toNat)
  case atStart => exact ⟨0, s0, Nat.zero_le _, by omega, rfl, Lib.hid (Nat.le_refl _), Lib.hid (.inl rfl), hh⟩
  case round =>
    obtain ⟨k, s, hk, hk2, rfl, hl, how, hs⟩ := hrel
    clear hh
    by_cases hlt : k < os.length ∧ k < 200
    · obtain ⟨hlt, hlt2⟩ := hlt
      obtain ⟨o, ho⟩ : ∃ o, os[k]? = some o := ⟨_, List.getElem?_eq_getElem hlt⟩
      obtain ⟨b, off, rfl, hbs, c0, c1, c2, c3⟩ := act_cells hc hs.is ho
      clear ho
      go_wp2_with fail
      refine (do_h o hs (by have := hl.out; omega)).mono ?_; rintro e w2 ⟨rfl, hs2⟩
      clear c0 c1 c2 c3
      go_wp2_with fail
      go_roundw
      case rel => exact ⟨k + 1, _, by omega, by omega, by go_num, Lib.hid (by have := hl.out; have := doS_len s o; omega), Lib.hid (doS_owned s o how.out), hs2⟩
      case measure => simp [intOf]; omega
    · have htest : (k < os.length ∧ ¬ k < 200) ∨ ¬ k < os.length := by omega
      have hl2 : Hid (s.l.length ≤ 200) := Lib.hid (by have := hl.out; omega)
      have HO := Lib.hid (owner_h hs)
      have hwho : ((s.who != 0) = false ∧ Hid (freeS s = s)) ∨ ((s.who != 0) = true ∧ Hid (abortS s s.who = (freeS s, 0))) := by
        rcases how.out with h | h
        · exact .inl ⟨by simp [h], Lib.hid (if_pos h)⟩
        · refine .inr ⟨by simp; omega, Lib.hid ?_⟩
          rw [abort_ok h rfl]; unfold freeS; rw [if_neg (by omega)]
      clear hlt hl how
      rcases hwho with ⟨hw, hfr⟩ | ⟨hw, hfr⟩
      · have HF : Has W W.heap.size (freeS s) wr := by rw [hfr.out]; exact hs
        rcases htest with ⟨ht1, ht2⟩ | ht1
        all_goals
          go_wp2_with fail
          refine HO.out.mono ?_; rintro e w' ⟨rfl, rfl⟩
          have HL : Hid ((freeS s).l.length ≤ 1000000) := by rw [freeS_l]; exact Lib.hid (by have := hl2.out; omega)
          have HW := Lib.hid (freeS_who s)
          clear hfr hs hl2 HO
          generalize freeS s = f at *
          by_cases hwl : who < 1
          · go_wp2_with fail
            refine (write_h who t v 21 f HF HL.out (may_low hwl) (write_no (by rw [may_low hwl]; omega))).mono ?_; rintro e w2 ⟨rfl, HF2⟩
            go_wp2_with fail
            refine (works_h HF2.is).mono ?_; rintro e w3 ⟨rfl, hb3⟩
            go_wp2_with fail
            go_ret
            exact ⟨rfl, hb3⟩
          · have h1w : 1 ≤ who := by omega
            obtain ⟨p, hp⟩ : ∃ p, seenV f.l t = p := ⟨_, rfl⟩
            have HP := Lib.hid hp
            clear hp
            obtain ⟨nn, hnn⟩ : ∃ nn, newest f.l = nn := ⟨_, rfl⟩
            have HN := Lib.hid hnn
            have E1 := Lib.hid (may_free (t := nn) HW.out h1w (.inl (by rw [hnn]; exact Int.le_refl _)))
            have HNw := Lib.hid (fun (w : World) (h : Has W W.heap.size f w) => newest_h h HL.out)
            rw [hnn] at HNw
            clear hnn
            go_wp2_with fail
            refine (read_h t 0 p.1 p.2 HF HL.out ((read_zero _ t).trans HP.out)).mono ?_; rintro e w' ⟨rfl, rfl⟩
            go_wp2_with fail
            refine (live_h HF).mono ?_; rintro e w' ⟨rfl, rfl⟩
            go_wp2_with fail
            refine (HNw.out _ HF).mono ?_; rintro e w2 ⟨rfl, HF2⟩
            go_wp2_with fail
            refine (write_h who nn v 0 ⟨f.l, who, v, false⟩ HF2 HL.out E1.out (write_ok E1.out)).mono ?_; rintro e w3 ⟨rfl, HF3⟩
            have HB3 : Hid ((St.mk f.l who v false).l.length ≤ 1000000) := HL
            have HN3 := Lib.hid (newest_h HF3 HB3.out)
            rw [show newest (St.mk f.l who v false).l = nn from HN.out] at HN3
            by_cases hpos : (0 : Int) < f.l.length
            · go_wp2_with fail
              refine (live_h HF3).mono ?_; rintro e w' ⟨rfl, rfl⟩
              go_wp2_with fail
              refine HN3.out.mono ?_; rintro e w4 ⟨rfl, HF4⟩
              by_cases hneg : nn < 0
              · go_wp2_with fail
                refine (works_h HF4.is).mono ?_; rintro e w5 ⟨rfl, hb5⟩
                go_wp2_with fail
                go_ret
                exact ⟨rfl, hb5⟩
              · go_wp2_with fail
                refine (read_h t 0 p.1 p.2 HF4 HB3.out ((read_zero _ t).trans HP.out)).mono ?_; rintro e w' ⟨rfl, rfl⟩
                go_wp2_with fail
                refine (read_h t who v true HF4 HB3.out (read_own h1w rfl)).mono ?_; rintro e w' ⟨rfl, rfl⟩
                go_wp2_with fail
                refine (abort_h who 0 ⟨f.l, 0, 0, false⟩ HF4 (abort_ok h1w rfl)).mono ?_; rintro e w5 ⟨rfl, HF5⟩
                go_wp2_with fail
                refine (abort_h who 23 ⟨f.l, 0, 0, false⟩ HF5 (if_pos (.inr (by simp only; omega)))).mono ?_; rintro e w6 ⟨rfl, HF6⟩
                go_wp2_with fail
                refine (read_h t who p.1 p.2 HF6 HB3.out ((read_not (by simp only; omega)).trans HP.out)).mono ?_; rintro e w' ⟨rfl, rfl⟩
                go_wp2_with fail
                refine (live_h HF6).mono ?_; rintro e w' ⟨rfl, rfl⟩
                go_wp2_with fail
                refine (owner_h HF6).mono ?_; rintro e w' ⟨rfl, rfl⟩
                go_wp2_with fail
                refine (works_h HF6.is).mono ?_; rintro e w7 ⟨rfl, hb7⟩
                go_wp2_with fail
                go_ret
                exact ⟨rfl, hb7⟩
            · have HF4 := HF3
              go_wp2_with fail
              refine (live_h HF3).mono ?_; rintro e w' ⟨rfl, rfl⟩
              go_wp2_with fail
              refine (read_h t 0 p.1 p.2 HF4 HB3.out ((read_zero _ t).trans HP.out)).mono ?_; rintro e w' ⟨rfl, rfl⟩
              go_wp2_with fail
              refine (read_h t who v true HF4 HB3.out (read_own h1w rfl)).mono ?_; rintro e w' ⟨rfl, rfl⟩
              go_wp2_with fail
              refine (abort_h who 0 ⟨f.l, 0, 0, false⟩ HF4 (abort_ok h1w rfl)).mono ?_; rintro e w5 ⟨rfl, HF5⟩
              go_wp2_with fail
              refine (abort_h who 23 ⟨f.l, 0, 0, false⟩ HF5 (if_pos (.inr (by simp only; omega)))).mono ?_; rintro e w6 ⟨rfl, HF6⟩
              go_wp2_with fail
              refine (read_h t who p.1 p.2 HF6 HB3.out ((read_not (by simp only; omega)).trans HP.out)).mono ?_; rintro e w' ⟨rfl, rfl⟩
              go_wp2_with fail
              refine (live_h HF6).mono ?_; rintro e w' ⟨rfl, rfl⟩
              go_wp2_with fail
              refine (owner_h HF6).mono ?_; rintro e w' ⟨rfl, rfl⟩
              go_wp2_with fail
              refine (works_h HF6.is).mono ?_; rintro e w7 ⟨rfl, hb7⟩
              go_wp2_with fail
              go_ret
              exact ⟨rfl, hb7⟩
      · have HAb := Lib.hid (abort_h s.who 0 (freeS s) hs hfr.out)
        rcases htest with ⟨ht1, ht2⟩ | ht1
        all_goals
          go_wp2_with fail
          refine HO.out.mono ?_; rintro e w' ⟨rfl, rfl⟩
          go_wp2_with fail
          refine HAb.out.mono ?_; rintro e wa ⟨rfl, HF⟩
          clear HAb
          have HL : Hid ((freeS s).l.length ≤ 1000000) := by rw [freeS_l]; exact Lib.hid (by have := hl2.out; omega)
          have HW := Lib.hid (freeS_who s)
          clear hfr hs hl2 HO
          generalize freeS s = f at *
          by_cases hwl : who < 1
          · go_wp2_with fail
            refine (write_h who t v 21 f HF HL.out (may_low hwl) (write_no (by rw [may_low hwl]; omega))).mono ?_; rintro e w2 ⟨rfl, HF2⟩
            go_wp2_with fail
            refine (works_h HF2.is).mono ?_; rintro e w3 ⟨rfl, hb3⟩
            go_wp2_with fail
            go_ret
            exact ⟨rfl, hb3⟩
          · have h1w : 1 ≤ who := by omega
            obtain ⟨p, hp⟩ : ∃ p, seenV f.l t = p := ⟨_, rfl⟩
            have HP := Lib.hid hp
            clear hp
            obtain ⟨nn, hnn⟩ : ∃ nn, newest f.l = nn := ⟨_, rfl⟩
            have HN := Lib.hid hnn
            have E1 := Lib.hid (may_free (t := nn) HW.out h1w (.inl (by rw [hnn]; exact Int.le_refl _)))
            have HNw := Lib.hid (fun (w : World) (h : Has W W.heap.size f w) => newest_h h HL.out)
            rw [hnn] at HNw
            clear hnn
            go_wp2_with fail
            refine (read_h t 0 p.1 p.2 HF HL.out ((read_zero _ t).trans HP.out)).mono ?_; rintro e w' ⟨rfl, rfl⟩
            go_wp2_with fail
            refine (live_h HF).mono ?_; rintro e w' ⟨rfl, rfl⟩
            go_wp2_with fail
            refine (HNw.out _ HF).mono ?_; rintro e w2 ⟨rfl, HF2⟩
            go_wp2_with fail
            refine (write_h who nn v 0 ⟨f.l, who, v, false⟩ HF2 HL.out E1.out (write_ok E1.out)).mono ?_; rintro e w3 ⟨rfl, HF3⟩
            have HB3 : Hid ((St.mk f.l who v false).l.length ≤ 1000000) := HL
            have HN3 := Lib.hid (newest_h HF3 HB3.out)
            rw [show newest (St.mk f.l who v false).l = nn from HN.out] at HN3
            by_cases hpos : (0 : Int) < f.l.length
            · go_wp2_with fail
              refine (live_h HF3).mono ?_; rintro e w' ⟨rfl, rfl⟩
              go_wp2_with fail
              refine HN3.out.mono ?_; rintro e w4 ⟨rfl, HF4⟩
              by_cases hneg : nn < 0
              · go_wp2_with fail
                refine (works_h HF4.is).mono ?_; rintro e w5 ⟨rfl, hb5⟩
                go_wp2_with fail
                go_ret
                exact ⟨rfl, hb5⟩
              · go_wp2_with fail
                refine (read_h t 0 p.1 p.2 HF4 HB3.out ((read_zero _ t).trans HP.out)).mono ?_; rintro e w' ⟨rfl, rfl⟩
                go_wp2_with fail
                refine (read_h t who v true HF4 HB3.out (read_own h1w rfl)).mono ?_; rintro e w' ⟨rfl, rfl⟩
                go_wp2_with fail
                refine (abort_h who 0 ⟨f.l, 0, 0, false⟩ HF4 (abort_ok h1w rfl)).mono ?_; rintro e w5 ⟨rfl, HF5⟩
                go_wp2_with fail
                refine (abort_h who 23 ⟨f.l, 0, 0, false⟩ HF5 (if_pos (.inr (by simp only; omega)))).mono ?_; rintro e w6 ⟨rfl, HF6⟩
                go_wp2_with fail
                refine (read_h t who p.1 p.2 HF6 HB3.out ((read_not (by simp only; omega)).trans HP.out)).mono ?_; rintro e w' ⟨rfl, rfl⟩
                go_wp2_with fail
                refine (live_h HF6).mono ?_; rintro e w' ⟨rfl, rfl⟩
                go_wp2_with fail
                refine (owner_h HF6).mono ?_; rintro e w' ⟨rfl, rfl⟩
                go_wp2_with fail
                refine (works_h HF6.is).mono ?_; rintro e w7 ⟨rfl, hb7⟩
                go_wp2_with fail
                go_ret
                exact ⟨rfl, hb7⟩
            · have HF4 := HF3
              go_wp2_with fail
              refine (live_h HF3).mono ?_; rintro e w' ⟨rfl, rfl⟩
              go_wp2_with fail
              refine (read_h t 0 p.1 p.2 HF4 HB3.out ((read_zero _ t).trans HP.out)).mono ?_; rintro e w' ⟨rfl, rfl⟩
              go_wp2_with fail
              refine (read_h t who v true HF4 HB3.out (read_own h1w rfl)).mono ?_; rintro e w' ⟨rfl, rfl⟩
              go_wp2_with fail
              refine (abort_h who 0 ⟨f.l, 0, 0, false⟩ HF4 (abort_ok h1w rfl)).mono ?_; rintro e w5 ⟨rfl, HF5⟩
              go_wp2_with fail
              refine (abort_h who 23 ⟨f.l, 0, 0, false⟩ HF5 (if_pos (.inr (by simp only; omega)))).mono ?_; rintro e w6 ⟨rfl, HF6⟩
              go_wp2_with fail
              refine (read_h t who p.1 p.2 HF6 HB3.out ((read_not (by simp only; omega)).trans HP.out)).mono ?_; rintro e w' ⟨rfl, rfl⟩
              go_wp2_with fail
              refine (live_h HF6).mono ?_; rintro e w' ⟨rfl, rfl⟩
              go_wp2_with fail
              refine (owner_h HF6).mono ?_; rintro e w' ⟨rfl, rfl⟩
              go_wp2_with fail
              refine (works_h HF6.is).mono ?_; rintro e w7 ⟨rfl, hb7⟩
              go_wp2_with fail
              go_ret
              exact ⟨rfl, hb7⟩
end Go.Proofs.Ytelmaaokaakpbaa

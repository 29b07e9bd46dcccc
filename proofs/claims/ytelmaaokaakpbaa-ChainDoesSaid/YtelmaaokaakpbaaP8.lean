/- Layer 24: the walk of ChainSees. Conditions: the lists can be read. -/
import Derived.Test.YtelmaaokaakpbaaP7
namespace Go.Proofs.Ytelmaaokaakpbaa
open Go.RowKit
set_option linter.unusedSimpArgs false
set_option linter.unusedVariables false

set_option maxRecDepth 100000 in
set_option maxHeartbeats 4000000 in
theorem sees_walk (a : Option Addr) (cap : Nat) (os : List Act4) (a2 : Option Addr) (cap2 : Nat) (os2 : List Act4) (t : Int) (W : World) (h1 : os.length ≤ maxLen) (h2 : os2.length ≤ maxLen)
    (hc : Cells W.heap.size W a (os.flatMap Act4.cells)) (hc2 : Cells W.heap.size W a2 (os2.flatMap Act4.cells)) :
    Calls Try.prog 3 #[.slice a os.length cap, .slice a2 os2.length cap2, .int .i64 t] W fun e w' => e = .returned (.bool true) ∧ Below W.heap.size W w' := by
  unfold maxLen at h1 h2
  go_enter Try.func3, Try.ntmps3
  go_wp2_with fail
  refine (new_h (Below.refl _ _)).mono ?_; rintro e w1 ⟨rfl, hh⟩
  go_wp2_with fail
  go_loopw [8] (fun i wr => ∃ (k : Nat) (s : St), k ≤ os.length ∧ k ≤ 200 ∧ i = .int .i64 k ∧ Hid (s.l.length ≤ k) ∧ Has W W.heap.size s wr) (fun i _ => os.length - (intOf i).toNat)
  case atStart => exact ⟨0, s0, Nat.zero_le _, by omega, rfl, Lib.hid (Nat.le_refl _), hh⟩
  case round =>
    obtain ⟨k, s, hk, hk2, rfl, hl, hs⟩ := hrel
    clear hh
    by_cases hlt : k < os.length ∧ k < 200
    · obtain ⟨hlt, hlt2⟩ := hlt
      obtain ⟨o, ho⟩ : ∃ o, os[k]? = some o := ⟨_, List.getElem?_eq_getElem hlt⟩
      obtain ⟨b, off, rfl, hbs, c0, c1, c2, c3⟩ := act_cells hc hs.is ho
      clear ho
      go_wp2_with fail
      refine (do_h o hs (by have := hl.out; omega)).mono ?_; rintro e w2 ⟨rfl, hs2⟩
      clear c0 c1 c2 c3
      go_wp2_with fail
      go_roundw
      case rel => exact ⟨k + 1, _, by omega, by omega, by go_num, Lib.hid (by have := hl.out; have := doS_len s o; omega), hs2⟩
      case measure => simp [intOf]; omega
    · have HR := Lib.hid (read_h t 0 (seenV s.l t).1 (seenV s.l t).2 hs (by have := hl.out; omega) (read_zero s t))
      obtain ⟨p, hp⟩ : ∃ p, seenV s.l t = p := ⟨_, rfl⟩
      have HP := Lib.hid hp
      rw [hp] at HR
      clear hp
      have htest : (k < os.length ∧ ¬ k < 200) ∨ ¬ k < os.length := by omega
      have hl2 : Hid (s.l.length ≤ 200) := Lib.hid (by have := hl.out; omega)
      clear hlt hl
      rcases htest with ⟨ht1, ht2⟩ | ht1
      all_goals
        go_wp2_with fail
        refine HR.out.mono ?_; rintro e w' ⟨rfl, rfl⟩
        go_wp2_with fail
        obtain ⟨wo, hwo⟩ : ∃ wo : World, wo = wr := ⟨_, rfl⟩
        go_loopw [11, 12, 13, 14] (fun i _ _ _ wr => ∃ (k : Nat) (s : St), k ≤ os2.length ∧ k ≤ 200 ∧ i = .int .i64 k ∧ Hid (s.l.length ≤ 200 + k) ∧ Hid (seenV s.l t = p) ∧ Has W W.heap.size s wr) (fun i _ _ _ _ => os2.length - (intOf i).toNat)
        case atStart => exact ⟨0, s, Nat.zero_le _, by omega, rfl, hl2, HP, hs⟩
        case round =>
          clear hs HP HR hl2 hwo
          obtain ⟨k, s, hk, hk2, rfl, hl, hp, hs⟩ := hrel
          by_cases hlt : k < os2.length ∧ k < 200
          · obtain ⟨hlt, hlt2⟩ := hlt
            obtain ⟨o, ho⟩ : ∃ o, os2[k]? = some o := ⟨_, List.getElem?_eq_getElem hlt⟩
            obtain ⟨b, off, rfl, hbs, c0, c1, c2, c3⟩ := act_cells hc2 hs.is ho
            clear ho
            have hcase : ((o.kind == 3) = true ∧ o.at_ ≤ t) ∨ ((o.kind == 3) = false ∧ (o.kind == 5) = true ∧ t < o.at_) ∨
                (((o.kind == 3) = true ∧ ¬ o.at_ ≤ t ∧ (o.kind == 5) = false ∨ (o.kind == 3) = false ∧ (o.kind == 5) = true ∧ ¬ t < o.at_ ∨ (o.kind == 3) = false ∧ (o.kind == 5) = false) ∧
                  Hid (seenV (doS s o).l t = p)) := by
              have hst := step_seen s o t
              by_cases k3 : o.kind = 3
              · have hk5 : ¬ o.kind = 5 := by omega
                by_cases k4 : o.at_ ≤ t
                · exact .inl ⟨beq_iff_eq.2 k3, k4⟩
                · exact .inr (.inr ⟨.inl ⟨beq_iff_eq.2 k3, k4, beq_eq_false_iff_ne.2 hk5⟩, Lib.hid ((hst (fun h => k4 h.2) (fun h => hk5 h.1)).trans hp.out)⟩)
              · by_cases k5 : o.kind = 5
                · by_cases k4 : t < o.at_
                  · exact .inr (.inl ⟨beq_eq_false_iff_ne.2 k3, beq_iff_eq.2 k5, k4⟩)
                  · exact .inr (.inr ⟨.inr (.inl ⟨beq_eq_false_iff_ne.2 k3, beq_iff_eq.2 k5, k4⟩), Lib.hid ((hst (fun h => k3 h.1) (fun h => k4 h.2)).trans hp.out)⟩)
                · exact .inr (.inr ⟨.inr (.inr ⟨beq_eq_false_iff_ne.2 k3, beq_eq_false_iff_ne.2 k5⟩), Lib.hid ((hst (fun h => k3 h.1) (fun h => k5 h.1)).trans hp.out)⟩)
            rcases hcase with ⟨k3, k4⟩ | ⟨k3, k5, k4⟩ | ⟨hck, hp2⟩
            · go_wp2_with fail
              go_roundw
              case rel => exact ⟨k + 1, s, by omega, by omega, by go_num, Lib.hid (by have := hl.out; omega), hp, hs.below ((Below.refl _ _).alloc (Nat.le_refl _) _)⟩
              case measure => simp [intOf]; omega
            · go_wp2_with fail
              go_roundw
              case rel => exact ⟨k + 1, s, by omega, by omega, by go_num, Lib.hid (by have := hl.out; omega), hp, hs.below ((Below.refl _ _).alloc (Nat.le_refl _) _)⟩
              case measure => simp [intOf]; omega
            · have hsa : Has W W.heap.size s (wr.alloc (.cells #[.int .i64 o.kind, .int .i64 o.who, .int .i64 o.at_, .int .i64 o.v] 27)) := hs.below ((Below.refl _ _).alloc (Nat.le_refl _) _)
              have HDo := Lib.hid (do_h o hsa (by have := hl.out; omega))
              rcases hck with ⟨k3, k4, k5⟩ | ⟨k3, k5, k4⟩ | ⟨k3, k5⟩
              all_goals
                go_wp2_with fail
                refine HDo.out.mono ?_; rintro e w2 ⟨rfl, hs2⟩
                have HR2 := Lib.hid (read_h t 0 p.1 p.2 hs2 (by have := hl.out; have := doS_len s o; omega) ((read_zero _ t).trans hp2.out))
                go_wp2_with fail
                refine HR2.out.mono ?_; rintro e w' ⟨rfl, rfl⟩
                go_wp2_with fail
                go_roundw
                case rel => exact ⟨k + 1, _, by omega, by omega, by go_num, Lib.hid (by have := hl.out; have := doS_len s o; omega), hp2, hs2⟩
                case measure => simp [intOf]; omega
          · have htest : (k < os2.length ∧ ¬ k < 200) ∨ ¬ k < os2.length := by omega
            clear hlt
            rcases htest with ⟨ht3, ht4⟩ | ht3
            all_goals
              go_wp2_with fail
              refine (works_h hs.is).mono ?_; rintro e w5 ⟨rfl, hb5⟩
              go_wp2_with fail
              go_ret
              exact ⟨rfl, hb5⟩
end Go.Proofs.Ytelmaaokaakpbaa

/- Layer 24: the walk of ChainPruned. Conditions: the lists can be read; the second one takes at most 2^47 - 4096 bytes. -/
import Derived.Test.YtelmaaokaakpbaaP10
namespace Go.Proofs.Ytelmaaokaakpbaa
open Go.RowKit
set_option linter.unusedSimpArgs false
set_option linter.unusedVariables false

theorem Try.infoI : (Try.prog.info? 2).map (fun i => (i.zero, i.size, i.bytes)) = some (some (.int .i64 0), 1, 8) := by kernel_rfl

set_option maxRecDepth 100000 in
set_option maxHeartbeats 16000000 in
theorem pruned_walk (a : Option Addr) (cap : Nat) (os : List Act4) (a2 : Option Addr) (cap2 : Nat) (ts : List Int) (t : Int) (W : World) (h1 : os.length ≤ maxLen) (hcap2 : a2 = none → cap2 = 0) (hreach : ts.length * 8 ≤ 140737488351232)
    (hc : Cells W.heap.size W a (os.flatMap Act4.cells)) (hc2 : Cells W.heap.size W a2 (ts.map (.int .i64))) :
    Calls Try.prog 6 #[.slice a os.length cap, .int .i64 t, .slice a2 ts.length cap2] W fun e w' => e = .returned (.bool true) ∧ Below W.heap.size W w' := by
  unfold maxLen at h1
  have HC2 := Lib.hid hcap2
  clear hcap2
  obtain ⟨i0, hi0, hz0, hz1, hz2⟩ := info_parts Try.infoI
  go_enter Try.func6, Try.ntmps6
  go_wp2_with fail
  refine (new_h (Below.refl _ _)).mono ?_; rintro e w1 ⟨rfl, hh1⟩
  go_wp2_with fail
  refine (new_2 hh1).mono ?_; rintro e w2 ⟨rfl, hh⟩
  clear hh1
  obtain ⟨b2, hb2⟩ : ∃ b2, w1.heap.size = b2 := ⟨_, rfl⟩
  rw [hb2] at hh
  rw [hb2]
  clear hb2
  go_wp2_with fail
  go_loopw [9] (fun i wr => ∃ (k : Nat) (s : St), k ≤ os.length ∧ k ≤ 200 ∧ i = .int .i64 k ∧ Hid (s.l.length ≤ k) ∧ Has2 W W.heap.size s b2 s wr) (fun i _ => os.length - (intOf i).toNat)
  case atStart => exact ⟨0, s0, Nat.zero_le _, by omega, rfl, Lib.hid (Nat.le_refl _), hh⟩
  case round =>
    obtain ⟨k, s, hk, hk2, rfl, hl, hs⟩ := hrel
    clear hh
    by_cases hlt : k < os.length ∧ k < 200
    · obtain ⟨hlt, hlt2⟩ := hlt
      obtain ⟨o, ho⟩ : ∃ o, os[k]? = some o := ⟨_, List.getElem?_eq_getElem hlt⟩
      have HO := Lib.hid ho
      obtain ⟨b, off, rfl, hbs, c0, c1, c2, c3⟩ := act_cells hc hs.is ho
      clear ho
      by_cases h5 : o.kind = 5
      · have k5 : (o.kind != 5) = false := by simp [h5]
        clear h5
        go_wp2_with fail
        go_roundw
        case rel => exact ⟨k + 1, s, by omega, by omega, by go_num, Lib.hid (by have := hl.out; omega), hs⟩
        case measure => simp [intOf]; omega
      · have k5 : (o.kind != 5) = true := by simpa using h5
        clear h5
        go_wp2_with fail
        refine (do_2 o hs (by have := hl.out; omega)).mono ?_; rintro e w3 ⟨rfl, hs3⟩
        obtain ⟨b', off', hab, _, c0, c1, c2, c3⟩ := act_cells hc hs3.is HO.out
        injection hab with hab; injection hab with e1 e2; subst e1 e2
        go_wp2_with fail
        refine (do_2 o hs3.swap (by have := hl.out; omega)).mono ?_; rintro e w4 ⟨rfl, hs4⟩
        clear c0 c1 c2 c3
        go_wp2_with fail
        go_roundw
        case rel => exact ⟨k + 1, _, by omega, by omega, by go_num, Lib.hid (by have := hl.out; have := doS_len s o; omega), hs4.swap⟩
        case measure => simp [intOf]; omega
    · have htest : (k < os.length ∧ ¬ k < 200) ∨ ¬ k < os.length := by omega
      have hl2 : Hid (s.l.length ≤ 1000000) := Lib.hid (by have := hl.out; omega)
      clear hlt hl hk hk2
      obtain ⟨pn, hpn⟩ : ∃ pn, pruneN s.l t = pn := ⟨_, rfl⟩
      have HPN : Hid (pruneN s.l t = pn ∧ pn ≤ s.l.length) := Lib.hid ⟨hpn, by rw [← hpn]; exact pruneN_le _ _⟩
      have HPr := Lib.hid (prune_2 (s1 := s) t pn ⟨s.l.drop pn, s.who, s.val, s.gone⟩ hs hl2.out (by unfold pruneS; rw [hpn]))
      have HAg : Hid (pruneS ⟨s.l.drop pn, s.who, s.val, s.gone⟩ t = (⟨s.l.drop pn, s.who, s.val, s.gone⟩, 0)) := Lib.hid (by
        unfold pruneS; rw [← hpn]; simp only [pruned_again]; rfl)
      have HLn : Hid ((s.l.drop pn).length ≤ 1000000) := Lib.hid (by rw [List.length_drop]; have := hl2.out; omega)
      have HFew : Hid (¬ (newest (s.l.drop pn) ≤ t ∧ 1 < (s.l.drop pn).length)) := Lib.hid (by rw [← hpn]; exact pruned_few _ _)
      have HSeen : Hid (∀ u, t ≤ u → seenV (s.l.drop pn) u = seenV s.l u) := Lib.hid (fun u hu => by rw [← hpn]; exact seenV_drop hu)
      clear hpn
      have hq1 := hl2.out
      have hq2 := HPN.out.2
      rcases htest with ⟨ht1, ht2⟩ | ht1
      all_goals
        go_wp2_with fail
        refine (live_h hs.left).mono ?_; rintro e w' ⟨rfl, rfl⟩
        go_wp2_with fail
        refine HPr.out.mono ?_; rintro e w3 ⟨rfl, hp3⟩
        have HLv := Lib.hid (live_h hp3.left)
        rw [show (((St.mk (s.l.drop pn) s.who s.val s.gone).l.length : Nat) : Int) = (s.l.length : Int) - pn from by show (((s.l.drop pn).length : Nat) : Int) = _; rw [List.length_drop]; have := HPN.out.2; omega] at HLv
        go_wp2_with fail
        refine HLv.out.mono ?_; rintro e w' ⟨rfl, rfl⟩
        go_wp2_with fail
        refine (prune_2 t 0 ⟨s.l.drop pn, s.who, s.val, s.gone⟩ hp3 HLn.out HAg.out).mono ?_; rintro e w4 ⟨rfl, hp4⟩
        clear hp3 HLv
        have hB4 := hp4.is
        have hs4 := hB4.size
        have hc24 := hc2.below hB4 (Nat.le_refl _)
        have HOF : (w4.alloc (.cells #[.int .i64 t] 2)).ownsRow w4.heap.size 2 1 (.slice (some ⟨w4.heap.size, 0, none⟩) 1 1) 1 [.int .i64 t] := own_full w4 [.int .i64 t] (Nat.le_refl _) (by unfold maxLen; simp)
        go_wp2_with (at_builtin; refine append_cells rfl _ _ 47 rfl w4.heap.size 2 i0 (.int .i64 0) 8 Try.underlying47 hi0 hz0 hz1 hz2 rfl _ 1 [.int .i64 t] rfl HOF a2 ts.length cap2 _ (ts.map (.int .i64)) rfl HC2.out (by simp) (hc24.alloc' _) ?c2 ?c3 ?c4 ?c5 ?_)
        case c2 => intro u hu; simp at hu; obtain ⟨q, _, rfl⟩ := hu; rfl
        case c3 => unfold maxLen; omega
        case c4 => omega
        case c5 => simp
        intro v1 w5 hown5 hg5
        have hB5 : Below w4.heap.size w4 w5 := ((Below.refl _ _).alloc (Nat.le_refl _) _).grown hg5 (by simp) (fun k hk => by simp [Value.ownBlock] at hk; omega)
        have hp5 := hp4.below hB5
        clear hg5 HOF hc24
        obtain ⟨a5, cap5, hv5, hc5⟩ := Cells.of_own hown5
        clear hown5
        rw [hv5]
        clear hv5
        have hlen5 : ([Value.int .i64 t] ++ ts.map (.int .i64)) = (t :: ts).map (.int .i64) := rfl
        have HC5 : Hid (Cells w5.heap.size w5 a5 ((t :: ts).map (.int .i64))) := by rw [← hlen5]; exact Lib.hid hc5
        clear hc5 hlen5
        go_wp2_with fail
        go_loop [13, 14, 15, 16, 17] (fun i _ _ _ _ => ∃ k : Nat, k ≤ 1 + ts.length ∧ i = .int .i64 k) (fun i _ _ _ _ => 1 + ts.length - (intOf i).toNat)
        case atStart => exact ⟨0, Nat.zero_le _, rfl⟩
        case round =>
          obtain ⟨j, hj, rfl⟩ := hrel
          by_cases hlt : j < 1 + ts.length
          · obtain ⟨u, hu⟩ : ∃ u, (t :: ts)[j]? = some u := ⟨_, List.getElem?_eq_getElem (by simp; omega)⟩
            obtain ⟨g5, off5, rfl, hg5, cu⟩ : ∃ b off, a5 = some ⟨b, off, none⟩ ∧ b < w5.heap.size ∧ w5.cell? ⟨b, off + j, none⟩ = some (.int .i64 u) := by
              rcases HC5.out with h | ⟨b, off, h1, h2, h3⟩
              · cases h
              · exact ⟨b, off, h1, h2, h3 j _ (by rw [List.getElem?_map, hu]; rfl)⟩
            clear hu
            by_cases hut : u < t
            · go_wp2_with fail
              go_round
              case rel => exact ⟨j + 1, by omega, by go_num⟩
              case measure => simp [intOf]; omega
            · obtain ⟨p, hp⟩ : ∃ p, seenV s.l u = p := ⟨_, rfl⟩
              have HR1 := Lib.hid (read_h u 0 p.1 p.2 hp5.left HLn.out ((read_zero _ u).trans ((HSeen.out u (by omega)).trans hp)))
              have HR2 := Lib.hid (read_h u 0 p.1 p.2 hp5.swap.left hl2.out ((read_zero _ u).trans hp))
              clear hp
              go_wp2_with fail
              refine HR1.out.mono ?_; rintro e w' ⟨rfl, rfl⟩
              go_wp2_with fail
              refine HR2.out.mono ?_; rintro e w' ⟨rfl, rfl⟩
              go_wp2_with fail
              go_round
              case rel => exact ⟨j + 1, by omega, by go_num⟩
              case measure => simp [intOf]; omega
          · have HN := Lib.hid (newest_2 hp5 HLn.out)
            obtain ⟨nn, hnn⟩ : ∃ nn, newest (s.l.drop pn) = nn := ⟨_, rfl⟩
            have HNN : Hid (nn ≤ t → (s.l.drop pn).length ≤ 1) := Lib.hid (fun h => by have := HFew.out; rw [hnn] at this; omega)
            rw [show newest (St.mk (s.l.drop pn) s.who s.val s.gone).l = nn from hnn] at HN
            clear hnn
            go_wp2_with fail
            refine HN.out.mono ?_; rintro e w6 ⟨rfl, hp6⟩
            by_cases hnt : nn ≤ t
            · have hle := HNN.out hnt
              have hle' : ¬ (1 : Int) < (((St.mk (s.l.drop pn) s.who s.val s.gone).l.length : Nat) : Int) := by show ¬ (1 : Int) < (((s.l.drop pn).length : Nat) : Int); omega
              obtain ⟨q, hq⟩ : ∃ q : Int, (((St.mk (s.l.drop pn) s.who s.val s.gone).l.length : Nat) : Int) = q := ⟨_, rfl⟩
              have HL6 := Lib.hid (live_h hp6.left)
              rw [hq] at HL6 hle'
              clear hq hle
              go_wp2_with fail
              refine HL6.out.mono ?_; rintro e w' ⟨rfl, rfl⟩
              go_wp2_with fail
              refine (works_h hp6.is).mono ?_; rintro e w7 ⟨rfl, hb7⟩
              go_wp2_with fail
              go_ret
              exact ⟨rfl, hb7⟩
            · go_wp2_with fail
              refine (works_h hp6.is).mono ?_; rintro e w7 ⟨rfl, hb7⟩
              go_wp2_with fail
              go_ret
              exact ⟨rfl, hb7⟩
end Go.Proofs.Ytelmaaokaakpbaa

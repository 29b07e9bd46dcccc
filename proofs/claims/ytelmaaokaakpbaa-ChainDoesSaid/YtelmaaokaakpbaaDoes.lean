/- Layer 24: the walk of ChainDoes. Conditions: the list can be read. -/
import Derived.Test.YtelmaaokaakpbaaStep
namespace Go.Proofs.Ytelmaaokaakpbaa
open Go.RowKit
set_option linter.unusedSimpArgs false
set_option linter.unusedVariables false

theorem act_cells' {W wr : World} {b off : Nat} {os : List Act4} (hc : Cells W.heap.size W (some ⟨b, off, none⟩) (os.flatMap Act4.cells)) (hb : Below W.heap.size W wr) {k : Nat} {o : Act4} (hk : os[k]? = some o) :
    wr.cell? ⟨b, off + k * 4, none⟩ = some (.int .i64 o.kind) ∧ wr.cell? ⟨b, off + k * 4 + 1, none⟩ = some (.int .i64 o.who) ∧ wr.cell? ⟨b, off + k * 4 + 2, none⟩ = some (.int .i64 o.at_) ∧ wr.cell? ⟨b, off + k * 4 + 3, none⟩ = some (.int .i64 o.v) := by
  obtain ⟨b', off', h, _, c⟩ := act_cells hc hb hk
  injection h with h; injection h with e1 e2; subst e1 e2; exact c
theorem Two.of_below {W w w' : World} {b1 b2 : Nat} {s : St} (h : Two W b1 b2 s w) (hb : Below w.heap.size w w') : Two W b1 b2 s w' := by
  obtain ⟨o1, o2, h1, h2, h3, h4⟩ := h
  exact ⟨o1, o2, h1.of_heap (fun k hk => hb.block k (h1.own_lt k hk).2), h2.of_heap (fun k hk => hb.block k (h2.own_lt k hk).2), h3, h4.trans (hb.mono h4.size)⟩
theorem Two.drew {W w : World} {b1 b2 : Nat} {s : St} (h : Two W b1 b2 s w) : Two W b1 b2 s w.drew := h.of_below (Below.refl _ w).drew
theorem Two.start {W w : World} {b1 : Nat} (h : Has W b1 s0 w) : Two W b1 w.heap.size s0 (w.alloc (.cells #[.slice none 0 0, .int .i64 0, .int .i64 0, .int .i64 0, .bool false] 43)) := by
  obtain ⟨o1, h1, h2⟩ := h
  refine ⟨o1, [w.heap.size], h1.alloc _, ⟨none, 0, 0, 0, false, Block.new w _ _, by simpa [rowV, s0] using World.ownsRow_nil _ _ _ _, h2.size, .inl rfl, fun h => absurd rfl h, .inl ⟨rfl, rfl⟩⟩, fun k hk hk2 => ?_, h2.alloc h2.size _⟩
  simp at hk2; subst hk2
  have := (h1.own_lt _ hk).2; omega
theorem Two.rcells {W w : World} {b1 b2 : Nat} {s : St} (h : Two W b1 b2 s w) : ∃ ra rcap, w.cell? ⟨b2, 0, none⟩ = some (.slice ra s.l.length rcap) ∧ w.cell? ⟨b2, 1, none⟩ = some (.int .i64 s.who) := by
  obtain ⟨o1, o2, h1, h2, h3, h4⟩ := h
  obtain ⟨a, cap, x, y, z, hb, _⟩ := h2
  exact ⟨a, cap, hb.cell (i := 0) rfl, hb.cell (i := 1) rfl⟩
theorem two_owner {W w : World} {b1 b2 : Nat} {s : St} (h : Two W b1 b2 s w) :
    Calls Try.prog 12 #[.pointer (some ⟨b1, 0, none⟩)] w fun e w' => e = .returned (.int .i64 s.who) ∧ w = w' := by
  obtain ⟨o1, o2, h1, h2, h3, h4⟩ := h
  exact owner_any w _ b1 o1 s h1
theorem two_live {W w : World} {b1 b2 : Nat} {s : St} (h : Two W b1 b2 s w) :
    Calls Try.prog 19 #[.pointer (some ⟨b1, 0, none⟩)] w fun e w' => e = .returned (.int .i64 s.l.length) ∧ w = w' := by
  obtain ⟨o1, o2, h1, h2, h3, h4⟩ := h
  exact live_any w _ b1 o1 s h1
theorem two_newest {W w : World} {b1 b2 : Nat} {s : St} (h : Two W b1 b2 s w) (hm : s.l.length ≤ 1000000) :
    Calls Try.prog 14 #[.pointer (some ⟨b1, 0, none⟩)] w fun e w' => e = .returned (.int .i64 (newest s.l)) ∧ Two W b1 b2 s w' := by
  have hh := h
  obtain ⟨o1, o2, h1, h2, h3, h4⟩ := h
  exact (newest_any w _ b1 o1 s h1 hm).mono fun e w' ⟨a1, a2⟩ => ⟨a1, hh.of_below a2⟩
theorem two_rnewest {W w : World} {b1 b2 : Nat} {s : St} (h : Two W b1 b2 s w) (hm : s.l.length ≤ 1000000) :
    Calls Try.prog 20 #[.pointer (some ⟨b2, 0, none⟩)] w fun e w' => e = .returned (.int .i64 (newest s.l)) ∧ Two W b1 b2 s w' := by
  have hh := h
  obtain ⟨o1, o2, h1, h2, h3, h4⟩ := h
  refine (rnewest_any w _ b2 o2 s h2 hm).mono fun e w' ⟨a1, a2⟩ => ⟨a1, ?_⟩
  obtain ⟨n, rfl⟩ := a2
  exact hh.of_below (below_of w n)

set_option maxRecDepth 100000 in
set_option maxHeartbeats 16000000 in
theorem does_walk (a : Option Addr) (cap : Nat) (os : List Act4) (W : World) (h1 : os.length ≤ maxLen) (hc : Cells W.heap.size W a (os.flatMap Act4.cells)) :
    Calls Try.prog 5 #[.slice a os.length cap] W fun e w' => e = .returned (.bool true) ∧ Below W.heap.size W w' := by
  unfold maxLen at h1
  go_enter Try.func5, Try.ntmps5
  go_wp2_with fail
  refine (new_h (Below.refl _ _)).mono ?_; rintro e w1 ⟨rfl, hh⟩
  have hT := Two.start hh
  obtain ⟨b2, hb2⟩ : ∃ b2, w1.heap.size = b2 := ⟨_, rfl⟩
  go_wp2_with fail
  rw [hb2] at hT
  clear hb2 hh
  go_loopw [5] (fun i wr => ∃ (k : Nat) (s : St), k ≤ os.length ∧ k ≤ 300 ∧ i = .int .i64 k ∧ Hid (s.l.length ≤ k) ∧ Two W W.heap.size b2 s wr) (fun i _ => os.length - (intOf i).toNat)
  case atStart => exact ⟨0, s0, Nat.zero_le _, by omega, rfl, Lib.hid (Nat.le_refl _), hT⟩
  case round =>
    clear hT
    obtain ⟨k, s, hk, hk2, rfl, hl, hs⟩ := hrel
    by_cases hlt : k < os.length ∧ k < 300
    · obtain ⟨hlt, hlt2⟩ := hlt
      obtain ⟨o, ho⟩ : ∃ o, os[k]? = some o := ⟨_, List.getElem?_eq_getElem hlt⟩
      obtain ⟨b, off, rfl, hbs, _⟩ := act_cells hc hs.is ho
      have HOC := Lib.hid (fun (u : World) (hu : Below W.heap.size W u) => (act_cells' hc hu ho : u.cell? ⟨b, off + k * 4, none⟩ = some (.int .i64 o.kind) ∧ u.cell? ⟨b, off + k * 4 + 1, none⟩ = some (.int .i64 o.who) ∧ u.cell? ⟨b, off + k * 4 + 2, none⟩ = some (.int .i64 o.at_) ∧ u.cell? ⟨b, off + k * 4 + 3, none⟩ = some (.int .i64 o.v)))
      clear ho
      have hd := hs.drew
      have HL : Hid (s.l.length ≤ 1000000 ∧ (doS s o).l.length ≤ k + 1 ∧ (doS s o).l.length ≤ 1000000) := Lib.hid (by have := hl.out; have := doS_len s o; omega)
      have HSt := Lib.hid (fun (u : World) (hu : Two W W.heap.size b2 s u) => step_any o hu HL.out.1)
      obtain ⟨s2, hs2⟩ : ∃ s2, doS s o = s2 := ⟨_, rfl⟩
      rw [hs2] at HSt HL
      clear hs2
      have q1 : (0 : Int) ≤ (k : Int) := by omega
      have q2 : (k : Int) < os.length := by omega
      obtain ⟨c0, c1, c2, c3⟩ := HOC.out _ hs.is
      clear HOC
      go_wp2_with fail
      go_region_with (first | (go_at_call 18; refine (HSt.out _ hd).mono ?_; rintro e w2 ⟨rfl, ht⟩; obtain ⟨ra, rcap, r0, r1⟩ := ht.rcells) | (go_at_call 12; refine (two_owner ht).mono ?_; rintro e w' ⟨rfl, rfl⟩) | (go_at_call 19; refine (two_live ht).mono ?_; rintro e w' ⟨rfl, rfl⟩) | (go_at_call 14; refine (two_newest (by first | exact hn | exact ht) HL.out.2.2).mono ?_; rintro e w3 ⟨rfl, hn⟩) | (go_at_call 20; refine (two_rnewest (by first | exact hn | exact ht) HL.out.2.2).mono ?_; rintro e w3 ⟨rfl, hn⟩))
      all_goals go_wp2_with fail
      all_goals
        go_roundw
        case rel => exact ⟨k + 1, s2, by omega, by omega, by go_num, Lib.hid HL.out.2.1, by assumption⟩
        case measure => simp [intOf]; omega
    · have htest : (k < os.length ∧ ¬ k < 300) ∨ ¬ k < os.length := by omega
      clear hlt
      rcases htest with ⟨ht3, ht4⟩ | ht3
      all_goals
        go_wp2_with fail
        refine (works_h hs.is).mono ?_; rintro e w5 ⟨rfl, hb5⟩
        go_wp2_with fail
        go_ret
        exact ⟨rfl, hb5⟩
end Go.Proofs.Ytelmaaokaakpbaa

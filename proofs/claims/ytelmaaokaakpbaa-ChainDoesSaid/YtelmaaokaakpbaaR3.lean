/- Layer 24: the contracts of the reference's Write, Erase, Abort. Conditions: the chain is there. -/
import Derived.Test.YtelmaaokaakpbaaR2
namespace Go.Proofs.Ytelmaaokaakpbaa
open Go.RowKit
set_option linter.unusedSimpArgs false
set_option linter.unusedVariables false

theorem RRep.drewN {w : World} {B b : Nat} {own : List Nat} {s : St} (h : RRep w B b own s) (n : Nat) : RRep (w.drewN n) B b own s := h.of_heap fun _ _ => rfl
/-- The lock of the reference written anew, in a world that is below-equal to w. -/
theorem RMoved.lock {w w1 : World} {B b : Nat} {own : List Nat} {s : St} (h : RRep w B b own s) (hw : Below w.heap.size w w1) (who f v : Int) (g : Bool) (h1 : 1 ≤ who) :
    RMoved B b own { l := s.l, who := who, val := v, gone := g } w ((((w1.setCell ⟨b, 1, none⟩ (.int .i64 who)).setCell ⟨b, 2, none⟩ (.int .i64 f)).setCell ⟨b, 3, none⟩ (.int .i64 v)).setCell ⟨b, 4, none⟩ (.bool g)) := by
  have hlt := h.own_lt
  obtain ⟨a, cap, x, y, z, hb, ho, hB, hw0, hv, hf⟩ := h.below hw
  have hbo : b ∈ own := by rcases hf with ⟨_, rfl⟩ | ⟨g, _, _, rfl⟩ <;> simp
  have hne : (Value.slice a s.l.length cap).ownBlock ≠ some b := by
    rcases hf with ⟨h, _⟩ | ⟨g, hg, hgb, _⟩
    · rw [h]; simp
    · rw [hg]; simpa using hgb
  refine ⟨own, ⟨a, cap, f, v, g, ?_, ?_, hB, .inr h1, fun _ => ⟨rfl, rfl⟩, hf⟩, fun k hk => .inl hk, ((((Kept.of_below hw).setCell (.inl hbo) _).setCell (.inl hbo) _).setCell (.inl hbo) _).setCell (.inl hbo) _⟩
  · exact (((hb.set 1 _).set 2 _).set 3 _).set 4 _
  · exact ownsRow_setCell_other (ownsRow_setCell_other (ownsRow_setCell_other (ownsRow_setCell_other ho hne _) hne _) hne _) hne _
/-- The reference forgets who writes. -/
theorem RMoved.free {w : World} {B b : Nat} {own : List Nat} {s : St} (h : RRep w B b own s) :
    RMoved B b own { l := s.l, who := 0, val := 0, gone := false } w (w.setCell ⟨b, 1, none⟩ (.int .i64 0)) := by
  obtain ⟨a, cap, x, y, z, hb, ho, hB, hw0, hv, hf⟩ := h
  have hbo : b ∈ own := by rcases hf with ⟨_, rfl⟩ | ⟨g, _, _, rfl⟩ <;> simp
  have hne : (Value.slice a s.l.length cap).ownBlock ≠ some b := by
    rcases hf with ⟨h, _⟩ | ⟨g, hg, hgb, _⟩
    · rw [h]; simp
    · rw [hg]; simpa using hgb
  exact ⟨own, ⟨a, cap, x, y, z, hb.set 1 _, ownsRow_setCell_other ho hne _, hB, .inl rfl, fun h => absurd rfl h, hf⟩, fun k hk => .inl hk, (Kept.refl own w).setCell (.inl hbo) _⟩

theorem rwrite_any (w : World) (B b : Nat) (own : List Nat) (s : St) (who t v : Int) (hr : RRep w B b own s) (hm : s.l.length ≤ 1000000) :
    Calls Try.prog 25 #[.pointer (some ⟨b, 0, none⟩), .int .i64 who, .int .i64 t, .int .i64 v] w fun e w' => e = .returned (.int .i64 (mayE s who t)) ∧ RMoved B b own (writeS s who t v) w w' := by
  have HM := Lib.hid (rmay_any w B b own s who t hr hm)
  have HR := Lib.hid hr
  obtain ⟨a, cap, hf, hv, hg, hb, ho, hB, hown, hval, _⟩ := hr
  have c1 := hb.cell (i := 1) rfl
  have c2 := hb.cell (i := 2) rfl
  have c3 := hb.cell (i := 3) rfl
  have c4 := hb.cell (i := 4) rfl
  have f1 := hb.free 1
  have f2 := hb.free 2
  have f3 := hb.free 3
  have f4 := hb.free 4
  clear hb ho hval hown
  by_cases h0 : mayE s who t = 0
  · have HS := Lib.hid (write_ok (v := v) h0)
    have h1w : Hid (1 ≤ who) := Lib.hid (by unfold mayE at h0; split at h0; cases h0; omega)
    rw [h0] at HM ⊢
    clear h0
    go_enter Try.func25, Try.ntmps25
    go_wp2_with fail
    refine HM.out.mono ?_; rintro e w' ⟨rfl, nq, rfl⟩
    go_wp2_with fail
    go_ret
    exact ⟨rfl, by rw [HS.out]; exact RMoved.lock HR.out (below_of w nq) who 0 v false h1w.out⟩
  · have HS := Lib.hid (write_no (v := v) h0)
    have h0' : (mayE s who t == 0) = false := beq_eq_false_iff_ne.2 h0
    generalize mayE s who t = e0 at *
    clear h0
    go_enter Try.func25, Try.ntmps25
    go_wp2_with fail
    refine HM.out.mono ?_; rintro e w' ⟨rfl, nq, rfl⟩
    go_wp2_with fail
    go_ret
    exact ⟨rfl, by rw [HS.out]; exact RMoved.below HR.out (below_of w nq)⟩

theorem rerase_any (w : World) (B b : Nat) (own : List Nat) (s : St) (who t : Int) (hr : RRep w B b own s) (hm : s.l.length ≤ 1000000) :
    Calls Try.prog 26 #[.pointer (some ⟨b, 0, none⟩), .int .i64 who, .int .i64 t] w fun e w' => e = .returned (.int .i64 (eraseS s who t).2) ∧ RMoved B b own (eraseS s who t).1 w w' := by
  have HM := Lib.hid (rmay_any w B b own s who t hr hm)
  have HR := Lib.hid hr
  have HD := Lib.hid (fun n => rread_any (w.drewN n) B b own s t who (hr.drewN n) hm)
  by_cases h0 : mayE s who t = 0
  · have h1w : Hid (1 ≤ who) := Lib.hid (by unfold mayE at h0; split at h0; cases h0; omega)
    rw [h0] at HM
    cases hk : (readS s t who).2 with
    | false =>
      have HS : Hid (eraseS s who t = (s, 23)) := Lib.hid (by unfold eraseS; rw [if_neg (by simp [h0]), if_pos hk])
      rw [hk] at HD
      generalize (readS s t who).1 = rv at *
      clear h0 hk hr
      go_enter Try.func26, Try.ntmps26
      go_wp2_with fail
      refine HM.out.mono ?_; rintro e w' ⟨rfl, nq, rfl⟩
      go_wp2_with fail
      refine (HD.out nq).mono ?_; rintro e w1 ⟨rfl, hb1⟩
      have HB1 := Lib.hid ((below_of w nq).trans hb1)
      clear hb1
      go_wp2_with fail
      go_ret
      exact ⟨by rw [HS.out]; rfl, by rw [HS.out]; exact RMoved.below HR.out HB1.out⟩
    | true =>
      have HS : Hid (eraseS s who t = ({ l := s.l, who := who, val := 0, gone := true }, 0)) := Lib.hid (by unfold eraseS; rw [if_neg (by simp [h0]), if_neg (by simp [hk])])
      rw [hk] at HD
      generalize (readS s t who).1 = rv at *
      clear h0 hk hr
      go_enter Try.func26, Try.ntmps26
      go_wp2_with fail
      refine HM.out.mono ?_; rintro e w' ⟨rfl, nq, rfl⟩
      go_wp2_with fail
      refine (HD.out nq).mono ?_; rintro e w1 ⟨rfl, hb1⟩
      have HB1 := Lib.hid ((below_of w nq).trans hb1)
      clear hb1
      obtain ⟨a, cap, hf, hv, hg, hb, ho, hB, hown, hval, _⟩ := HR.out.below HB1.out
      have c1 := hb.cell (i := 1) rfl
      have c2 := hb.cell (i := 2) rfl
      have c3 := hb.cell (i := 3) rfl
      have c4 := hb.cell (i := 4) rfl
      have f1 := hb.free 1
      have f2 := hb.free 2
      have f3 := hb.free 3
      have f4 := hb.free 4
      clear hb ho hval hown
      go_wp2_with fail
      go_ret
      exact ⟨by rw [HS.out]; rfl, by rw [HS.out]; exact RMoved.lock HR.out HB1.out who 0 0 true h1w.out⟩
  · have HS : Hid (eraseS s who t = (s, mayE s who t)) := Lib.hid (if_pos h0)
    have h0' : (mayE s who t == 0) = false := beq_eq_false_iff_ne.2 h0
    have h1' : (mayE s who t != 0) = true := by simpa using h0
    generalize mayE s who t = e0 at *
    clear h0 hr
    go_enter Try.func26, Try.ntmps26
    go_wp2_with fail
    refine HM.out.mono ?_; rintro e w' ⟨rfl, nq, rfl⟩
    go_wp2_with fail
    go_ret
    exact ⟨by rw [HS.out]; rfl, by rw [HS.out]; exact RMoved.below HR.out (below_of w nq)⟩

theorem rabort_any (w : World) (B b : Nat) (own : List Nat) (s : St) (who : Int) (hr : RRep w B b own s) :
    Calls Try.prog 28 #[.pointer (some ⟨b, 0, none⟩), .int .i64 who] w fun e w' => e = .returned (.int .i64 (abortS s who).2) ∧ RMoved B b own (abortS s who).1 w w' := by
  have HR := Lib.hid hr
  obtain ⟨a, cap, hf, hv, hg, hb, ho, hB, hown, hval, _⟩ := hr
  have c1 := hb.cell (i := 1) rfl
  have f1 := hb.free 1
  clear hb ho hval hown
  by_cases h1 : who < 1
  · have HS : Hid (abortS s who = (s, 23)) := Lib.hid (if_pos (.inl h1))
    go_enter Try.func28, Try.ntmps28
    go_wp2_with fail
    go_ret
    exact ⟨by rw [HS.out]; rfl, by rw [HS.out]; exact RMoved.below HR.out (Below.refl _ _)⟩
  · by_cases h2 : s.who = who
    · have HS : Hid (abortS s who = ({ l := s.l, who := 0, val := 0, gone := false }, 0)) := Lib.hid (if_neg (by rintro (h | h); exact h1 h; exact h h2))
      have q : (s.who != who) = false := by simp [h2]
      clear h2
      go_enter Try.func28, Try.ntmps28
      go_wp2_with fail
      go_ret
      exact ⟨by rw [HS.out]; rfl, by rw [HS.out]; exact RMoved.free HR.out⟩
    · have HS : Hid (abortS s who = (s, 23)) := Lib.hid (if_pos (.inr h2))
      have q : (s.who != who) = true := by simpa using h2
      clear h2
      go_enter Try.func28, Try.ntmps28
      go_wp2_with fail
      go_ret
      exact ⟨by rw [HS.out]; rfl, by rw [HS.out]; exact RMoved.below HR.out (Below.refl _ _)⟩
end Go.Proofs.Ytelmaaokaakpbaa

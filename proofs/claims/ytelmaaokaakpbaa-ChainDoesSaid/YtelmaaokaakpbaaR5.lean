/- Layer 24: the contract of the reference's Commit, every case. Conditions: the chain is there. -/
import Derived.Test.YtelmaaokaakpbaaR4
namespace Go.Proofs.Ytelmaaokaakpbaa
open Go.RowKit
set_option linter.unusedSimpArgs false
set_option linter.unusedVariables false

set_option maxHeartbeats 4000000 in
theorem rcommit_any (w : World) (B b : Nat) (own : List Nat) (s : St) (who f : Int) (hr : RRep w B b own s) (hm : s.l.length ≤ 1000000) :
    Calls Try.prog 27 #[.pointer (some ⟨b, 0, none⟩), .int .i64 who, .int .i64 f] w fun e w' => e = .returned (.int .i64 (commitS s who f).2) ∧ RMoved B b own (commitS s who f).1 w w' := by
  by_cases h1 : who < 1
  · have HS : Hid (commitS s who f = (s, 23)) := Lib.hid (if_pos (.inl h1))
    have HR := Lib.hid hr
    clear hr
    go_enter Try.func27, Try.ntmps27
    go_wp2_with fail
    go_ret
    exact ⟨by rw [HS.out]; rfl, by rw [HS.out]; exact RMoved.below HR.out (Below.refl _ w)⟩
  · by_cases h2 : s.who = who
    · have q : (s.who != who) = false := by simp [h2]
      by_cases hf : 0 < s.l.length ∧ f ≤ newest s.l
      · have HS : Hid (commitS s who f = (s, 21)) := Lib.hid (by unfold commitS; rw [if_neg (by rintro (h | h); exact h1 h; exact h h2), if_pos hf])
        have HN := Lib.hid (rnewest_any w B b own s hr hm)
        have HR := Lib.hid hr
        obtain ⟨a, cap, x, y, z, hb, ho, hB, _⟩ := hr
        have c0 := hb.cell (i := 0) rfl
        have c1 := hb.cell (i := 1) rfl
        have h3' : (0 : Int) < s.l.length := by omega
        have h4 : f ≤ newest s.l := hf.2
        clear hb ho hf h2
        generalize newest s.l = nn at *
        go_enter Try.func27, Try.ntmps27
        go_wp2_with fail
        refine HN.out.mono ?_; rintro e w' ⟨rfl, nq, rfl⟩
        go_wp2_with fail
        go_ret
        exact ⟨by rw [HS.out]; rfl, by rw [HS.out]; exact RMoved.below HR.out (below_of w nq)⟩
      · have HS : Hid (commitS s who f = ({ l := s.l ++ [⟨f, s.val, s.gone⟩], who := 0, val := 0, gone := false }, 0)) := Lib.hid (by unfold commitS; rw [if_neg (by rintro (h | h); exact h1 h; exact h h2), if_neg hf])
        rw [HS.out]
        exact rcommit_good w B b own s who f hr hm h1 q hf
    · have HS : Hid (commitS s who f = (s, 23)) := Lib.hid (if_pos (.inr h2))
      have q : (s.who != who) = true := by simpa using h2
      have HR := Lib.hid hr
      obtain ⟨a, cap, x, y, z, hb, ho, hB, _⟩ := hr
      have c1 := hb.cell (i := 1) rfl
      clear hb ho h2
      go_enter Try.func27, Try.ntmps27
      go_wp2_with fail
      go_ret
      exact ⟨by rw [HS.out]; rfl, by rw [HS.out]; exact RMoved.below HR.out (Below.refl _ w)⟩
end Go.Proofs.Ytelmaaokaakpbaa

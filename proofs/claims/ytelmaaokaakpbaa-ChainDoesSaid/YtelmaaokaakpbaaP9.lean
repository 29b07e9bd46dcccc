/- Layer 24: what the methods answer in the states of ChainFirst and ChainAborts. Conditions: none. -/
import Derived.Test.YtelmaaokaakpbaaP8
namespace Go.Proofs.Ytelmaaokaakpbaa
open Go.RowKit
set_option linter.unusedSimpArgs false
set_option linter.unusedVariables false

/-- Nobody writes, or somebody with a number from 1 on. -/
def Owned (s : St) : Prop := s.who = 0 ∨ 1 ≤ s.who
theorem doS_owned (s : St) (o : Act4) (h : Owned s) : Owned (doS s o) := by
  have hw : ∀ t, mayE s o.who t = 0 → 1 ≤ o.who := fun t ht => by
    unfold mayE at ht
    split at ht
    · cases ht
    · omega
  unfold doS
  split
  · unfold writeS; split
    · exact .inr (hw _ (by assumption))
    · exact h
  · split
    · unfold eraseS; split
      · exact h
      · rename_i hne
        split
        · exact h
        · exact .inr (hw _ (Classical.byContradiction hne))
    · split
      · unfold commitS; split
        · exact h
        · split
          · exact h
          · exact .inl rfl
      · split
        · unfold abortS; split
          · exact h
          · exact .inl rfl
        · split
          · exact h
          · exact h

theorem may_free {s : St} {who t : Int} (h1 : s.who = 0) (h2 : 1 ≤ who) (h3 : newest s.l ≤ t ∨ s.l = []) : mayE s who t = 0 := by
  unfold mayE
  rw [if_neg (by omega), if_neg]
  rintro (h | h)
  · exact h.1 h1
  · rcases h3 with h3 | h3
    · omega
    · rw [h3] at h; simp at h
theorem may_held {s : St} {who t : Int} (h1 : 1 ≤ s.who) (h2 : 1 ≤ who) (h3 : s.who ≠ who) : mayE s who t = 6 := by
  unfold mayE
  rw [if_neg (by omega), if_pos (.inl ⟨by omega, h3⟩)]
theorem may_late {s : St} {who t : Int} (h2 : 1 ≤ who) (h3 : t < newest s.l) (h4 : 0 < s.l.length) : mayE s who t = 6 := by
  unfold mayE
  rw [if_neg (by omega), if_pos (.inr ⟨h4, h3⟩)]
theorem may_low {s : St} {who t : Int} (h2 : who < 1) : mayE s who t = 21 := by unfold mayE; rw [if_pos h2]
theorem write_ok {s : St} {who t v : Int} (h : mayE s who t = 0) : writeS s who t v = { l := s.l, who := who, val := v, gone := false } := if_pos h
theorem write_no {s : St} {who t v : Int} (h : mayE s who t ≠ 0) : writeS s who t v = s := if_neg h
theorem erase_no {s : St} {who t e : Int} (h : mayE s who t = e) (he : e ≠ 0) : eraseS s who t = (s, e) := by unfold eraseS; rw [if_pos (by rw [h]; exact he), h]
theorem abort_ok {s : St} {who : Int} (h1 : 1 ≤ who) (h : s.who = who) : abortS s who = ({ l := s.l, who := 0, val := 0, gone := false }, 0) := by
  unfold abortS; rw [if_neg (by rintro (h2 | h2); omega; exact h2 h)]
theorem commit_ok {s : St} {who f : Int} (h1 : 1 ≤ who) (h : s.who = who) (h2 : newest s.l < f ∨ s.l = []) : commitS s who f = ({ l := s.l ++ [⟨f, s.val, s.gone⟩], who := 0, val := 0, gone := false }, 0) := by
  unfold commitS
  rw [if_neg (by rintro (h3 | h3); omega; exact h3 h), if_neg]
  rintro ⟨h3, h4⟩
  rcases h2 with h2 | h2
  · omega
  · rw [h2] at h3; simp at h3
theorem newest_snoc (l : List V) (v : V) : newest (l ++ [v]) = v.from_ := by unfold newest; simp
theorem seen_last (l : List V) (v : V) {t : Int} (h : v.from_ ≤ t) (hg : v.gone = false) : seenV (l ++ [v]) t = (v.val, true) := by
  have hs : sees (l ++ [v]) t = l.length := by
    unfold sees
    rw [List.length_append, List.length_cons, List.length_nil, Nat.zero_add, lastLe]
    simp [h]
  rw [seen_at (v := v) hs (by simp), hg]; rfl

/-- After the acts: whoever writes has aborted. -/
def freeS (s : St) : St := if s.who = 0 then s else { l := s.l, who := 0, val := 0, gone := false }
theorem freeS_who (s : St) : (freeS s).who = 0 := by
  unfold freeS; split
  · assumption
  · rfl
theorem freeS_l (s : St) : (freeS s).l = s.l := by unfold freeS; split <;> rfl

end Go.Proofs.Ytelmaaokaakpbaa

/- Layer 5: what quoting makes of a text, in plain lists of bytes. Conditions: none. -/
import Derived.Test.YtangldmjgidgcaaS2
namespace Go.Proofs.Ytangldmjgidgcaa
open Go.RowKit
set_option linter.unusedVariables false

/-- The byte of a hexadecimal digit. -/
def hxd (k : Nat) : UInt8 := if k < 10 then UInt8.ofNat (48 + k) else UInt8.ofNat (87 + k)
/-- A byte by its two digits. -/
def hx2 (c : Nat) : List UInt8 := [hxd (c / 16), hxd (c % 16)]
/-- How far a step goes. -/
def stepQ (l : List UInt8) : Nat := if sg l = 0 then 1 else sg l
/-- What a step writes. -/
def pieceQ (l : List UInt8) : List UInt8 :=
  if sg l = 0 ∨ nb l 0 = 127 then [92, 120] ++ hx2 (nb l 0)
  else if nb l 0 = 39 ∨ nb l 0 = 92 then [92, UInt8.ofNat (nb l 0)]
  else if nb l 0 = 10 then [92, 110] else if nb l 0 = 9 then [92, 116] else if nb l 0 = 13 then [92, 114]
  else if nb l 0 < 32 then [92, 120] ++ hx2 (nb l 0) else l.take (sg l)
theorem stepQ_pos (l : List UInt8) : 1 ≤ stepQ l := by unfold stepQ; split <;> omega
theorem stepQ_le {l : List UInt8} (h : l.length ≠ 0) : stepQ l ≤ l.length := by
  have := sg_le (l := l)
  unfold stepQ; split <;> omega
theorem stepQ_le4 (l : List UInt8) : stepQ l ≤ 4 := by
  have := sg_le (l := l)
  unfold stepQ; split <;> omega
theorem pieceQ_le (l : List UInt8) : (pieceQ l).length ≤ 4 := by
  have := sg_le (l := l)
  unfold pieceQ hx2
  repeat' split
  all_goals simp
  omega
/-- What lies between the quotes. -/
def quoteL (l : List UInt8) : List UInt8 := if h : l.length = 0 then [] else pieceQ l ++ quoteL (l.drop (stepQ l))
termination_by l.length
decreasing_by
  have := stepQ_pos l
  simp only [List.length_drop]
  omega
theorem quoteL_nil {l : List UInt8} (h : l.length = 0) : quoteL l = [] := by unfold quoteL; rw [dif_pos h]
theorem quoteL_step {l : List UInt8} (h : l.length ≠ 0) : quoteL l = pieceQ l ++ quoteL (l.drop (stepQ l)) := by rw [quoteL, dif_neg h]
theorem quoteL_len (l : List UInt8) : (quoteL l).length ≤ 4 * l.length := by
  induction hn : l.length using Nat.strongRecOn generalizing l with
  | _ n ih =>
    by_cases h : l.length = 0
    · rw [quoteL_nil h]; simp
    rw [quoteL_step h, List.length_append]
    have h1 := stepQ_pos l
    have h2 := stepQ_le h
    have h3 := pieceQ_le l
    have h4 := ih (l.drop (stepQ l)).length (by simp only [List.length_drop]; omega) (l.drop (stepQ l)) rfl
    simp only [List.length_drop] at h4
    omega
/-- What is written ahead of place i, and that a step goes on with it. -/
def DoneQ (l : List UInt8) (i : Nat) (d : List UInt8) : Prop := i ≤ l.length ∧ d.length ≤ 4 * i ∧ d ++ quoteL (l.drop i) = quoteL l
theorem doneQ_zero (l : List UInt8) : DoneQ l 0 [] := ⟨by omega, by simp, by simp⟩
theorem doneQ_step {l d : List UInt8} {i : Nat} (h : DoneQ l i d) (hi : i < l.length) : DoneQ l (i + stepQ (l.drop i)) (d ++ pieceQ (l.drop i)) := by
  obtain ⟨h1, h2, h3⟩ := h
  have hl : (l.drop i).length ≠ 0 := by simp; omega
  have a := stepQ_le hl
  have b := stepQ_pos (l.drop i)
  have c := pieceQ_le (l.drop i)
  rw [List.length_drop] at a
  refine ⟨by omega, by rw [List.length_append]; omega, ?_⟩
  rw [quoteL_step hl, List.drop_drop] at h3
  rw [← h3, List.append_assoc]
theorem doneQ_end {l d : List UInt8} {i : Nat} (h : DoneQ l i d) (hi : l.length ≤ i) : d = quoteL l := by
  obtain ⟨h1, h2, h3⟩ := h
  rw [quoteL_nil (by simp; omega), List.append_nil] at h3
  exact h3
end Go.Proofs.Ytangldmjgidgcaa

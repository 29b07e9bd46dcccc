/- Layer 5: what quoting makes of a sign, by its rune. Conditions: none. -/
import Derived.Test.YtangldmjgidgcaaS5
import Derived.Test.YtangldmjgidgcaaS2
namespace Go.Proofs.Ytangldmjgidgcaa
open Go.RowKit
set_option linter.unusedVariables false

theorem rv_small {l : List UInt8} (h0 : l.length ≠ 0) (h : rv l < 128) : sg l = 1 ∧ nb l 0 = rv l := by
  have h1 : nb l 0 < 128 := Classical.byContradiction fun hh => by have := rv_big hh; omega
  have h2 := sg_one.2 ⟨h0, h1⟩
  exact ⟨h2, by unfold rv; rw [if_pos h2]⟩
theorem encode_one {l : List UInt8} (h : sg l = 1) : Lib.encodeRune (rv l : Int) = [UInt8.ofNat (nb l 0)] := by
  rw [encode_sign (by omega), h, take_nb l 1 (by have := (sg_le (l := l)).2; omega)]; rfl
theorem pieceQ_1 {l : List UInt8} (h0 : l.length ≠ 0) (h : rv l = 92 ∨ rv l = 39) : pieceQ l = [92] ++ Lib.encodeRune (rv l : Int) := by
  obtain ⟨h1, h2⟩ := rv_small h0 (by omega)
  rw [encode_one h1]
  unfold pieceQ
  rw [if_neg (by omega), if_pos (by omega)]
  rfl
theorem pieceQ_10 {l : List UInt8} (h0 : l.length ≠ 0) (h : rv l = 10) : pieceQ l = [92, 110] := by
  obtain ⟨h1, h2⟩ := rv_small h0 (by omega)
  unfold pieceQ
  rw [if_neg (by omega), if_neg (by omega), if_pos (by omega)]
theorem pieceQ_9 {l : List UInt8} (h0 : l.length ≠ 0) (h : rv l = 9) : pieceQ l = [92, 116] := by
  obtain ⟨h1, h2⟩ := rv_small h0 (by omega)
  unfold pieceQ
  rw [if_neg (by omega), if_neg (by omega), if_neg (by omega), if_pos (by omega)]
theorem pieceQ_13 {l : List UInt8} (h0 : l.length ≠ 0) (h : rv l = 13) : pieceQ l = [92, 114] := by
  obtain ⟨h1, h2⟩ := rv_small h0 (by omega)
  unfold pieceQ
  rw [if_neg (by omega), if_neg (by omega), if_neg (by omega), if_neg (by omega), if_pos (by omega)]
theorem pieceQ_c {l : List UInt8} (h0 : l.length ≠ 0) (h : (rv l < 32 ∧ rv l ≠ 10 ∧ rv l ≠ 9 ∧ rv l ≠ 13) ∨ rv l = 127 ∨ (rv l = 65533 ∧ Lib.hasPrefix l [239, 191, 189] = false)) : pieceQ l = [92, 120] ++ hx2 (nb l 0) := by
  unfold pieceQ
  rcases h with h | h | h
  · obtain ⟨h1, h2⟩ := rv_small h0 (by omega)
    rw [if_neg (by omega), if_neg (by omega), if_neg (by omega), if_neg (by omega), if_neg (by omega), if_pos (by omega)]
  · obtain ⟨h1, h2⟩ := rv_small h0 (by omega)
    rw [if_pos (by omega)]
  · rw [if_pos (.inl ((bad_iff h0).1 h))]
theorem pieceQ_r {l : List UInt8} (h0 : l.length ≠ 0) (h1 : rv l ≠ 92) (h2 : rv l ≠ 39) (h3 : ¬ rv l < 32) (h4 : rv l ≠ 127) (h5 : rv l ≠ 65533 ∨ Lib.hasPrefix l [239, 191, 189] = true) : pieceQ l = Lib.encodeRune (rv l : Int) := by
  have hs : sg l ≠ 0 := fun e => by
    have := (bad_iff h0).2 e
    rcases h5 with h5 | h5
    · exact h5 this.1
    · rw [h5] at this; cases this.2
  rw [encode_sign hs]
  unfold pieceQ
  by_cases hb : nb l 0 < 128
  · have h6 := sg_one.2 ⟨h0, hb⟩
    have h7 : rv l = nb l 0 := by unfold rv; rw [if_pos h6]
    rw [if_neg (by omega), if_neg (by omega), if_neg (by omega), if_neg (by omega), if_neg (by omega), if_neg (by omega)]
  · rw [if_neg (by omega), if_neg (by omega), if_neg (by omega), if_neg (by omega), if_neg (by omega), if_neg (by omega)]
end Go.Proofs.Ytangldmjgidgcaa

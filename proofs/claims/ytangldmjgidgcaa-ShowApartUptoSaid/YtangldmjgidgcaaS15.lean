/- Layer 5: what the reference's Quoted has done ahead of a place, in plain lists. Conditions: none. -/
import Derived.Test.YtangldmjgidgcaaS13
namespace Go.Proofs.Ytangldmjgidgcaa
open Go.RowKit
set_option linter.unusedVariables false

def DoneD (l : List UInt8) (a i : Nat) (d : List UInt8) : Prop := a ≤ i ∧ i ≤ l.length ∧ d.length ≤ i ∧ qd (l.drop a) = (qd (l.drop i)).map fun p => (d ++ p.1, p.2)
theorem doneD_zero (l : List UInt8) (a : Nat) (h : a ≤ l.length) : DoneD l a a [] := by
  refine ⟨by omega, h, by simp, ?_⟩
  cases qd (l.drop a) <;> simp
theorem doneD_end {l d : List UInt8} {a i : Nat} (h : DoneD l a i d) (hi : l.length ≤ i) : qd (l.drop a) = none := by
  obtain ⟨h1, h2, h3, h4⟩ := h
  rw [h4, qd_eq (l.drop i), if_pos (by simp; omega)]; rfl
theorem doneD_quote {l d : List UInt8} {a i : Nat} (h : DoneD l a i d) (hi : i < l.length) (h39 : nb (l.drop i) 0 = 39) : qd (l.drop a) = some (d, l.drop (i + 1)) := by
  obtain ⟨h1, h2, h3, h4⟩ := h
  rw [h4, qd_eq (l.drop i), if_neg (by simp; omega), if_pos h39, List.drop_drop]; simp
theorem doneD_bad {l d : List UInt8} {a i : Nat} (h : DoneD l a i d) (hi : i < l.length) (h39 : nb (l.drop i) 0 ≠ 39) (hb : bad (l.drop i)) : qd (l.drop a) = none := by
  obtain ⟨h1, h2, h3, h4⟩ := h
  rw [h4, qd_eq (l.drop i), if_neg (by simp; omega), if_neg h39, if_pos hb]; rfl
theorem doneD_sign {l d : List UInt8} {a i : Nat} (h : DoneD l a i d) (hi : i < l.length) (h39 : nb (l.drop i) 0 ≠ 39) (hb : ¬ bad (l.drop i)) (h92 : nb (l.drop i) 0 ≠ 92) :
    DoneD l a (i + sg (l.drop i)) (d ++ (l.drop i).take (sg (l.drop i))) := by
  obtain ⟨h1, h2, h3, h4⟩ := h
  have h6 := bad_not hb
  have h7 := (sg_le (l := l.drop i)).2
  rw [List.length_drop] at h7
  refine ⟨by omega, by omega, by rw [List.length_append, List.length_take]; omega, ?_⟩
  rw [h4, qd_eq (l.drop i), if_neg (by simp; omega), if_neg h39, if_neg hb, if_neg h92, List.drop_drop]
  cases qd (l.drop (i + sg (l.drop i))) with
  | none => rfl
  | some q => simp
theorem doneD_escN {l d : List UInt8} {a i : Nat} (h : DoneD l a i d) (hi : i < l.length) (h39 : nb (l.drop i) 0 ≠ 39) (hb : ¬ bad (l.drop i)) (h92 : nb (l.drop i) 0 = 92) (he : escV (l.drop i) = none) : qd (l.drop a) = none := by
  obtain ⟨h1, h2, h3, h4⟩ := h
  rw [h4, qd_eq (l.drop i), if_neg (by simp; omega), if_neg h39, if_neg hb, if_pos h92, he]; rfl
theorem doneD_escS {l d : List UInt8} {a i : Nat} (h : DoneD l a i d) (hi : i < l.length) (h39 : nb (l.drop i) 0 ≠ 39) (hb : ¬ bad (l.drop i)) (h92 : nb (l.drop i) 0 = 92) {x : UInt8} {n : Nat} (he : escV (l.drop i) = some (x, n)) :
    DoneD l a (i + n) (d ++ [x]) := by
  obtain ⟨h1, h2, h3, h4⟩ := h
  have hl := escV_len he
  rw [List.length_drop] at hl
  refine ⟨by omega, by omega, by rw [List.length_append]; simp; omega, ?_⟩
  rw [h4, qd_eq (l.drop i), if_neg (by simp; omega), if_neg h39, if_neg hb, if_pos h92, he]
  dsimp only
  rw [List.drop_drop]
  cases qd (l.drop (i + n)) with
  | none => rfl
  | some q => simp
theorem escV_short {l : List UInt8} (h : l.length < 2) : escV l = none := by unfold escV; rw [if_pos h]
theorem escV_q {l : List UInt8} (h : ¬ l.length < 2) (h1 : nb l 1 = 92 ∨ nb l 1 = 39) : escV l = some (UInt8.ofNat (nb l 1), 2) := by unfold escV; rw [if_neg h, if_pos h1]
theorem escV_n {l : List UInt8} (h : ¬ l.length < 2) (h1 : nb l 1 = 110) : escV l = some (10, 2) := by unfold escV; rw [if_neg h, if_neg (by omega), if_pos h1]
theorem escV_t {l : List UInt8} (h : ¬ l.length < 2) (h1 : nb l 1 = 116) : escV l = some (9, 2) := by unfold escV; rw [if_neg h, if_neg (by omega), if_neg (by omega), if_pos h1]
theorem escV_r {l : List UInt8} (h : ¬ l.length < 2) (h1 : nb l 1 = 114) : escV l = some (13, 2) := by unfold escV; rw [if_neg h, if_neg (by omega), if_neg (by omega), if_neg (by omega), if_pos h1]
theorem escV_no {l : List UInt8} (h : ¬ l.length < 2) (h1 : nb l 1 ≠ 92) (h2 : nb l 1 ≠ 39) (h3 : nb l 1 ≠ 110) (h4 : nb l 1 ≠ 116) (h5 : nb l 1 ≠ 114) (h6 : l.length < 4 ∨ nb l 1 ≠ 120 ∨ hexv (nb l 2) < 0 ∨ hexv (nb l 3) < 0) : escV l = none := by
  unfold escV; rw [if_neg h, if_neg (by omega), if_neg h3, if_neg h4, if_neg h5, if_pos h6]
theorem escV_x {l : List UInt8} (h : ¬ l.length < 4) (h1 : nb l 1 = 120) (h2 : ¬ hexv (nb l 2) < 0) (h3 : ¬ hexv (nb l 3) < 0) : escV l = some (UInt8.ofNat (hexv (nb l 2) * (16 : Int) + hexv (nb l 3)).toNat, 4) := by
  unfold escV; rw [if_neg (by omega), if_neg (by omega), if_neg (by omega), if_neg (by omega), if_neg (by omega), if_neg (by omega)]
/-- What Quoted hands back. -/
def qdV (n : Nat) (o : Option (List UInt8 × List UInt8)) : Value := match o with
  | none => .tuple #[.string ⟨#[]⟩, .int .i64 0, .bool false]
  | some p => .tuple #[.string (strOf p.1), .int .i64 ((n - p.2.length : Nat) : Int), .bool true]
def qdS (l : List UInt8) (at_ : Nat) : Option (List UInt8 × List UInt8) := if at_ < l.length ∧ nb l at_ = 39 then qd (l.drop (at_ + 1)) else none
end Go.Proofs.Ytangldmjgidgcaa

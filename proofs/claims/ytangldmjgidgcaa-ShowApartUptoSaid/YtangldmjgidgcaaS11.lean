/- Layer 5: what a text in quotes stands for, in plain lists of bytes. Conditions: none. -/
import Derived.Test.YtangldmjgidgcaaS4
import Derived.Test.YtangldmjgidgcaaS9
namespace Go.Proofs.Ytangldmjgidgcaa
open Go.RowKit
set_option linter.unusedVariables false

/-- The byte for which an escape stands; a list that begins with a backslash. -/
def escV (l : List UInt8) : Option (UInt8 × Nat) :=
  if l.length < 2 then none
  else if nb l 1 = 92 ∨ nb l 1 = 39 then some (UInt8.ofNat (nb l 1), 2)
  else if nb l 1 = 110 then some (10, 2) else if nb l 1 = 116 then some (9, 2) else if nb l 1 = 114 then some (13, 2)
  else if l.length < 4 ∨ nb l 1 ≠ 120 ∨ hexv (nb l 2) < 0 ∨ hexv (nb l 3) < 0 then none
  else some (UInt8.ofNat (hexv (nb l 2) * 16 + hexv (nb l 3)).toNat, 4)
theorem escV_len {l : List UInt8} {x : UInt8} {n : Nat} (h : escV l = some (x, n)) : (n = 2 ∨ n = 4) ∧ n ≤ l.length := by
  unfold escV at h
  by_cases h1 : l.length < 2
  · rw [if_pos h1] at h; cases h
  rw [if_neg h1] at h
  by_cases h2 : nb l 1 = 92 ∨ nb l 1 = 39
  · rw [if_pos h2] at h; cases h; omega
  rw [if_neg h2] at h
  by_cases h3 : nb l 1 = 110
  · rw [if_pos h3] at h; cases h; omega
  rw [if_neg h3] at h
  by_cases h4 : nb l 1 = 116
  · rw [if_pos h4] at h; cases h; omega
  rw [if_neg h4] at h
  by_cases h5 : nb l 1 = 114
  · rw [if_pos h5] at h; cases h; omega
  rw [if_neg h5] at h
  by_cases h6 : l.length < 4 ∨ nb l 1 ≠ 120 ∨ hexv (nb l 2) < 0 ∨ hexv (nb l 3) < 0
  · rw [if_pos h6] at h; cases h
  rw [if_neg h6] at h; cases h; omega
/-- No sign, a control byte, a quote or a backslash. -/
def bad (l : List UInt8) : Prop := sg l = 0 ∨ nb l 0 < 32 ∨ nb l 0 = 127
instance (l : List UInt8) : Decidable (bad l) := by unfold bad; infer_instance

/-- What stands ahead of the first quote, and what behind it (steps k; more than the bytes never fail). -/
def qdN : Nat → List UInt8 → Option (List UInt8 × List UInt8)
  | 0, _ => none
  | k + 1, l =>
    if l.length = 0 then none else if nb l 0 = 39 then some ([], l.drop 1) else if bad l then none
    else if nb l 0 = 92 then (match escV l with | none => none | some (x, n) => (qdN k (l.drop n)).map fun p => (x :: p.1, p.2))
    else (qdN k (l.drop (sg l))).map fun p => (l.take (sg l) ++ p.1, p.2)
/-- A text between quotes: what it stands for. -/
def uqN : Nat → List UInt8 → Option (List UInt8)
  | 0, _ => some []
  | k + 1, l =>
    if l.length = 0 then some [] else if nb l 0 = 92 then (match escV l with | none => none | some (x, n) => (uqN k (l.drop n)).map fun p => x :: p)
    else if nb l 0 = 39 ∨ bad l then none
    else (uqN k (l.drop (sg l))).map fun p => l.take (sg l) ++ p
theorem bad_not {l : List UInt8} (h : ¬ bad l) : sg l ≠ 0 := fun e => h (.inl e)
theorem qdN_more : ∀ (k : Nat) (l : List UInt8), l.length ≤ k → qdN (k + 1) l = qdN (l.length + 1) l := by
  intro k
  induction k using Nat.strongRecOn with
  | _ k ih =>
    intro l hl
    by_cases hk : k = l.length
    · rw [hk]
    obtain ⟨j, rfl⟩ : ∃ j, k = j + 1 := ⟨k - 1, by omega⟩
    by_cases h0 : l.length = 0
    · simp [qdN, h0]
    have hstep : ∀ n, 1 ≤ n → n ≤ l.length → qdN (j + 1) (l.drop n) = qdN l.length (l.drop n) := fun n h1 h2 => by
      have a := ih j (by omega) (l.drop n) (by simp; omega)
      obtain ⟨m, hm⟩ : ∃ m, l.length = m + 1 := ⟨l.length - 1, by omega⟩
      rw [hm]
      by_cases hmj : m = j
      · rw [hmj]
      have b := ih m (by omega) (l.drop n) (by simp; omega)
      rw [a, b]
    rw [qdN]
    conv => rhs; rw [qdN]
    rw [if_neg h0, if_neg h0]
    by_cases h1 : nb l 0 = 39
    · rw [if_pos h1, if_pos h1]
    rw [if_neg h1, if_neg h1]
    by_cases h2 : bad l
    · rw [if_pos h2, if_pos h2]
    rw [if_neg h2, if_neg h2]
    by_cases h3 : nb l 0 = 92
    · rw [if_pos h3, if_pos h3]
      cases he : escV l with
      | none => rfl
      | some p =>
        obtain ⟨x, n⟩ := p
        have := escV_len he
        simp only []
        rw [hstep n (by omega) this.2]
    · rw [if_neg h3, if_neg h3, hstep (sg l) (by have := bad_not h2; omega) (sg_le).2]
theorem uqN_more : ∀ (k : Nat) (l : List UInt8), l.length ≤ k → uqN k l = uqN l.length l := by
  intro k
  induction k using Nat.strongRecOn with
  | _ k ih =>
    intro l hl
    by_cases hk : k = l.length
    · rw [hk]
    obtain ⟨j, rfl⟩ : ∃ j, k = j + 1 := ⟨k - 1, by omega⟩
    by_cases h0 : l.length = 0
    · rw [uqN, if_pos h0, h0, uqN]
    obtain ⟨m, hm⟩ : ∃ m, l.length = m + 1 := ⟨l.length - 1, by omega⟩
    have hstep : ∀ n, 1 ≤ n → n ≤ l.length → uqN j (l.drop n) = uqN m (l.drop n) := fun n h1 h2 => by
      have a := ih j (by omega) (l.drop n) (by simp; omega)
      have b := ih m (by omega) (l.drop n) (by simp; omega)
      rw [a, b]
    rw [hm, uqN]
    conv => rhs; rw [uqN]
    rw [if_neg h0, if_neg h0]
    by_cases h3 : nb l 0 = 92
    · rw [if_pos h3, if_pos h3]
      cases he : escV l with
      | none => rfl
      | some p =>
        obtain ⟨x, n⟩ := p
        have := escV_len he
        simp only []
        rw [hstep n (by omega) this.2]
    · rw [if_neg h3, if_neg h3]
      by_cases h2 : nb l 0 = 39 ∨ bad l
      · rw [if_pos h2, if_pos h2]
      rw [if_neg h2, if_neg h2, hstep (sg l) (by have := bad_not (fun h => h2 (.inr h)); omega) (sg_le).2]
def qd (l : List UInt8) : Option (List UInt8 × List UInt8) := qdN (l.length + 1) l
def uq (l : List UInt8) : Option (List UInt8) := uqN l.length l
theorem qd_eq (l : List UInt8) : qd l = if l.length = 0 then none else if nb l 0 = 39 then some ([], l.drop 1) else if bad l then none
    else if nb l 0 = 92 then (match escV l with | none => none | some (x, n) => (qd (l.drop n)).map fun p => (x :: p.1, p.2))
    else (qd (l.drop (sg l))).map fun p => (l.take (sg l) ++ p.1, p.2) := by
  unfold qd
  rw [qdN]
  by_cases h0 : l.length = 0
  · rw [if_pos h0, if_pos h0]
  rw [if_neg h0, if_neg h0]
  obtain ⟨m, hm⟩ : ∃ m, l.length = m + 1 := ⟨l.length - 1, by omega⟩
  have hs : ∀ n, 1 ≤ n → n ≤ l.length → qdN l.length (l.drop n) = qdN ((l.drop n).length + 1) (l.drop n) := fun n h1 h2 => by
    rw [hm]; exact qdN_more m (l.drop n) (by simp; omega)
  by_cases h1 : nb l 0 = 39
  · rw [if_pos h1, if_pos h1]
  rw [if_neg h1, if_neg h1]
  by_cases h2 : bad l
  · rw [if_pos h2, if_pos h2]
  rw [if_neg h2, if_neg h2]
  by_cases h3 : nb l 0 = 92
  · rw [if_pos h3, if_pos h3]
    cases he : escV l with
    | none => rfl
    | some p =>
      obtain ⟨x, n⟩ := p
      have := escV_len he
      simp only []
      rw [hs n (by omega) this.2]
  · rw [if_neg h3, if_neg h3, hs (sg l) (by have := bad_not h2; omega) (sg_le).2]
theorem uq_eq (l : List UInt8) : uq l = if l.length = 0 then some [] else if nb l 0 = 92 then (match escV l with | none => none | some (x, n) => (uq (l.drop n)).map fun p => x :: p)
    else if nb l 0 = 39 ∨ bad l then none else (uq (l.drop (sg l))).map fun p => l.take (sg l) ++ p := by
  unfold uq
  by_cases h0 : l.length = 0
  · rw [if_pos h0, h0, uqN]
  obtain ⟨m, hm⟩ : ∃ m, l.length = m + 1 := ⟨l.length - 1, by omega⟩
  have hs : ∀ n, 1 ≤ n → n ≤ l.length → uqN m (l.drop n) = uqN (l.drop n).length (l.drop n) := fun n h1 h2 => uqN_more m (l.drop n) (by simp; omega)
  rw [hm, uqN, if_neg h0, if_neg (show ¬ m + 1 = 0 from by omega)]
  by_cases h3 : nb l 0 = 92
  · rw [if_pos h3, if_pos h3]
    cases he : escV l with
    | none => rfl
    | some p =>
      obtain ⟨x, n⟩ := p
      have := escV_len he
      simp only []
      rw [hs n (by omega) this.2]
  · rw [if_neg h3, if_neg h3]
    by_cases h2 : nb l 0 = 39 ∨ bad l
    · rw [if_pos h2, if_pos h2]
    rw [if_neg h2, if_neg h2, hs (sg l) (by have := bad_not (fun h => h2 (.inr h)); omega) (sg_le).2]
/-- What is read is at most as long. -/
theorem uq_len : ∀ (k : Nat) (l : List UInt8), l.length = k → ∀ t, uq l = some t → t.length ≤ l.length := by
  intro k
  induction k using Nat.strongRecOn with
  | _ k ih =>
    intro l hl t ht
    rw [uq_eq] at ht
    by_cases h0 : l.length = 0
    · rw [if_pos h0] at ht; cases ht; simp
    rw [if_neg h0] at ht
    have key : ∀ (n : Nat) (p : List UInt8), p.length ≤ n → 1 ≤ n → n ≤ l.length → (uq (l.drop n)).map (fun q => p ++ q) = some t → t.length ≤ l.length := fun n p h1 h2 h3 h4 => by
      cases hu : uq (l.drop n) with
      | none => rw [hu] at h4; cases h4
      | some q =>
        rw [hu] at h4
        have := ih (l.drop n).length (by simp; omega) (l.drop n) rfl q hu
        cases h4
        simp at this ⊢
        omega
    by_cases h3 : nb l 0 = 92
    · rw [if_pos h3] at ht
      cases he : escV l with
      | none => rw [he] at ht; cases ht
      | some p =>
        obtain ⟨x, n⟩ := p
        rw [he] at ht
        have := escV_len he
        exact key n [x] (by simp; omega) (by omega) this.2 ht
    · rw [if_neg h3] at ht
      by_cases h2 : nb l 0 = 39 ∨ bad l
      · rw [if_pos h2] at ht; cases ht
      rw [if_neg h2] at ht
      exact key (sg l) (l.take (sg l)) (by simp; omega) (by have := bad_not (fun h => h2 (.inr h)); omega) sg_le.2 ht
end Go.Proofs.Ytangldmjgidgcaa

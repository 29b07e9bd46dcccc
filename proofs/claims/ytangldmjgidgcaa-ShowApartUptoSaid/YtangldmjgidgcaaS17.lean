/- Layer 5: the two ways of reading a text in quotes come to one, in plain lists. Conditions: none. -/
import Derived.Test.YtangldmjgidgcaaS14
import Derived.Test.YtangldmjgidgcaaS15
namespace Go.Proofs.Ytangldmjgidgcaa
open Go.RowKit
set_option linter.unusedVariables false

theorem nb_snoc (m : List UInt8) (k : Nat) (h : k < m.length) : nb (m ++ [39]) k = nb m k := by unfold nb; rw [List.getElem?_append_left h]
theorem nb_snoc_end (m : List UInt8) : nb (m ++ [39]) m.length = 39 := by unfold nb; simp
theorem nb_past (m : List UInt8) (k : Nat) (h : m.length ≤ k) : nb m k = 0 := by unfold nb; rw [List.getElem?_eq_none h]; rfl
theorem tl_snoc (m : List UInt8) (k : Nat) : tl (m ++ [39]) k = tl m k := by
  rw [Bool.eq_iff_iff, tl_true, tl_true, List.length_append, List.length_singleton]
  by_cases h : k < m.length
  · rw [nb_snoc m k h]; omega
  · by_cases h2 : k = m.length
    · subst h2; rw [nb_snoc_end]; omega
    · omega
theorem sg_snoc (m : List UInt8) (h : m.length ≠ 0) : sg (m ++ [39]) = sg m := by
  unfold sg
  rw [tl_snoc, tl_snoc, tl_snoc, nb_snoc m 0 (by omega), if_neg (by simp), if_neg h]
  by_cases h0 : nb m 0 < 128
  · rw [if_pos h0, if_pos h0]
  rw [if_neg h0, if_neg h0]
  by_cases h1 : nb m 0 < 194 ∨ 244 < nb m 0 ∨ tl m 1 = false
  · rw [if_pos h1, if_pos h1]
  rw [if_neg h1, if_neg h1]
  have ht : tl m 1 = true := by
    cases hh : tl m 1 with
    | true => rfl
    | false => exact absurd (.inr (.inr hh)) h1
  rw [nb_snoc m 1 (tl_true.1 ht).1]
theorem bad_snoc (m : List UInt8) (h : m.length ≠ 0) : bad (m ++ [39]) ↔ bad m := by
  unfold bad
  rw [sg_snoc m h, nb_snoc m 0 (by omega)]
theorem hexv_39 : hexv 39 < 0 := by decide
theorem escV_snoc (m : List UInt8) (h : 2 ≤ m.length) : escV (m ++ [39]) = escV m := by
  have h2 : ¬ (m ++ [39]).length < 2 := by rw [List.length_append]; omega
  unfold escV
  rw [if_neg h2, if_neg (show ¬ m.length < 2 from by omega), nb_snoc m 1 (by omega)]
  by_cases h4 : m.length < 4
  · have hc : ((m ++ [39]).length < 4 ∨ nb m 1 ≠ 120 ∨ hexv (nb (m ++ [39]) 2) < 0 ∨ hexv (nb (m ++ [39]) 3) < 0) := by
      by_cases h3 : m.length = 2
      · exact .inl (by rw [List.length_append, h3]; decide)
      · have h3' : m.length = 3 := by omega
        have := nb_snoc_end m
        rw [h3'] at this
        exact .inr (.inr (.inr (by rw [this]; exact hexv_39)))
    rw [if_pos hc, if_pos (show m.length < 4 ∨ _ from .inl h4)]
  · rw [nb_snoc m 2 (by omega), nb_snoc m 3 (by omega)]
    have h5 : ¬ (m ++ [39]).length < 4 := by rw [List.length_append]; omega
    simp only [h4, h5, false_or]
/-- Read to the very end. -/
def fin_ (o : Option (List UInt8 × List UInt8)) : Option (List UInt8) := match o with | some (t, []) => some t | _ => none
theorem fin_map (p : List UInt8) (o : Option (List UInt8 × List UInt8)) : fin_ (o.map fun q => (p ++ q.1, q.2)) = (fin_ o).map fun q => p ++ q := by
  cases o with
  | none => rfl
  | some q =>
    obtain ⟨t, r⟩ := q
    cases r <;> rfl
theorem fin_qd : ∀ (k : Nat) (m : List UInt8), m.length = k → fin_ (qd (m ++ [39])) = uq m := by
  intro k
  induction k using Nat.strongRecOn with
  | _ k ih =>
    intro m hm
    by_cases h0 : m.length = 0
    · rw [uq_eq, if_pos h0, qd_eq, if_neg (by simp), if_pos (by have := nb_snoc_end m; rw [h0] at this; exact this)]
      have : m = [] := List.length_eq_zero_iff.1 h0
      subst this
      rfl
    have hstep : ∀ n, 1 ≤ n → n ≤ m.length → fin_ (qd ((m ++ [39]).drop n)) = uq (m.drop n) := fun n h1 h2 => by
      rw [List.drop_append_of_le_length h2]
      exact ih (m.drop n).length (by rw [List.length_drop]; omega) (m.drop n) rfl
    rw [uq_eq, if_neg h0, qd_eq, if_neg (by simp), nb_snoc m 0 (by omega), sg_snoc m h0]
    by_cases h1 : nb m 0 = 39
    · rw [if_pos h1, if_neg (by omega), if_pos (.inl h1)]
      rw [List.drop_append_of_le_length (by omega)]
      cases hd : m.drop 1 <;> rfl
    rw [if_neg h1]
    by_cases h2 : bad m
    · have h92 : nb m 0 ≠ 92 ∨ nb m 0 = 92 := by omega
      rw [if_pos ((bad_snoc m h0).2 h2)]
      by_cases h3 : nb m 0 = 92
      · exfalso
        have := sg_one.2 ⟨h0, by omega⟩
        rcases h2 with h2 | h2 | h2 <;> omega
      · rw [if_neg h3, if_pos (.inr h2)]; rfl
    rw [if_neg (fun h => h2 ((bad_snoc m h0).1 h))]
    by_cases h3 : nb m 0 = 92
    · rw [if_pos h3, if_pos h3]
      by_cases h4 : m.length = 1
      · have e2 : escV m = none := escV_short (by omega)
        have e1 : escV (m ++ [39]) = some (UInt8.ofNat 39, 2) := by
          have hn : nb (m ++ [39]) 1 = 39 := by have := nb_snoc_end m; rw [h4] at this; exact this
          rw [escV_q (by rw [List.length_append]; simp; omega) (.inr hn), hn]
        rw [e1, e2]
        dsimp only
        have e3 : qd ((m ++ [39]).drop 2) = none := by rw [qd_eq, if_pos (by rw [List.length_drop, List.length_append, h4]; rfl)]
        show fin_ (Option.map _ (qd ((m ++ [39]).drop 2))) = none
        rw [e3]
        rfl
      · rw [escV_snoc m (by omega)]
        cases he : escV m with
        | none => rfl
        | some p =>
          obtain ⟨x, n⟩ := p
          have hl := escV_len he
          dsimp only
          have := fin_map [x] (qd ((m ++ [39]).drop n))
          rw [hstep n (by omega) hl.2] at this
          exact this
    · rw [if_neg h3, if_neg h3, if_neg (fun h => h.elim h1 h2)]
      have h5 := bad_not h2
      have h6 := (sg_le (l := m)).2
      rw [List.take_append_of_le_length h6, fin_map, hstep (sg m) (by omega) h6]
theorem qd_last : ∀ (k : Nat) (l : List UInt8), l.length = k → ∀ t r, qd l = some (t, r) → ∃ j, j < l.length ∧ nb l j = 39 ∧ r = l.drop (j + 1) := by
  intro k
  induction k using Nat.strongRecOn with
  | _ k ih =>
    intro l hl t r h
    rw [qd_eq] at h
    by_cases h0 : l.length = 0
    · rw [if_pos h0] at h; cases h
    rw [if_neg h0] at h
    have key : ∀ (n : Nat) (p : List UInt8), 1 ≤ n → n ≤ l.length → (qd (l.drop n)).map (fun q => (p ++ q.1, q.2)) = some (t, r) → ∃ j, j < l.length ∧ nb l j = 39 ∧ r = l.drop (j + 1) := fun n p h1 h2 h3 => by
      cases hq : qd (l.drop n) with
      | none => rw [hq] at h3; cases h3
      | some q =>
        obtain ⟨t', r'⟩ := q
        rw [hq] at h3
        obtain ⟨j, j1, j2, j3⟩ := ih (l.drop n).length (by rw [List.length_drop]; omega) (l.drop n) rfl t' r' hq
        rw [List.length_drop] at j1
        rw [nb_drop] at j2
        rw [List.drop_drop] at j3
        cases h3
        exact ⟨n + j, by omega, j2, by rw [j3]; congr 1⟩
    by_cases h1 : nb l 0 = 39
    · rw [if_pos h1] at h
      cases h
      exact ⟨0, by omega, h1, rfl⟩
    rw [if_neg h1] at h
    by_cases h2 : bad l
    · rw [if_pos h2] at h; cases h
    rw [if_neg h2] at h
    by_cases h3 : nb l 0 = 92
    · rw [if_pos h3] at h
      cases he : escV l with
      | none => rw [he] at h; cases h
      | some p =>
        obtain ⟨x, n⟩ := p
        rw [he] at h
        have hl := escV_len he
        exact key n [x] (by omega) hl.2 h
    · rw [if_neg h3] at h
      exact key (sg l) (l.take (sg l)) (by have := bad_not h2; omega) sg_le.2 h
theorem fin_some {o : Option (List UInt8 × List UInt8)} {t : List UInt8} (h : fin_ o = some t) : o = some (t, []) := by
  unfold fin_ at h
  split at h
  · cases h; rfl
  · cases h
/-- The reference's way is the program's. -/
theorem unq_same (l : List UInt8) : fin_ (qdS l 0) = unqS l := by
  unfold qdS unqS
  by_cases h0 : 0 < l.length ∧ nb l 0 = 39
  · rw [if_pos h0]
    by_cases h1 : 2 ≤ l.length ∧ nb l 0 = 39 ∧ nb l (l.length - 1) = 39
    · rw [if_pos h1]
      have hm : l.drop 1 = (l.drop 1).take (l.length - 2) ++ [39] := by
        apply List.ext_getElem?
        intro j
        by_cases hj : j < l.length - 2
        · rw [List.getElem?_append_left (by rw [List.length_take, List.length_drop]; omega), List.getElem?_take, if_pos hj]
        · rw [List.getElem?_append_right (by rw [List.length_take, List.length_drop]; omega), List.length_take, List.length_drop, List.getElem?_drop]
          by_cases hj2 : j = l.length - 2
          · subst hj2
            rw [show l.length - 2 - min (l.length - 2) (l.length - 1) = 0 from by omega]
            have h3 := h1.2.2
            unfold nb at h3
            rw [show 1 + (l.length - 2) = l.length - 1 from by omega]
            rw [List.getElem?_eq_getElem (by omega)] at h3 ⊢
            simp at h3
            have h39 : l[l.length - 1] = 39 := UInt8.toNat_inj.1 h3
            rw [h39]; rfl
          · rw [List.getElem?_eq_none (by omega), List.getElem?_eq_none (by simp; omega)]
      rw [show 0 + 1 = 1 from rfl]
      conv => lhs; rw [hm]
      exact fin_qd _ _ rfl
    · rw [if_neg h1]
      cases hf : fin_ (qd (l.drop (0 + 1))) with
      | none => rfl
      | some t =>
        exfalso
        obtain ⟨j, j1, j2, j3⟩ := qd_last _ _ rfl t [] (fin_some hf)
        rw [List.length_drop] at j1
        have h4 : ((l.drop (0 + 1)).drop (j + 1)).length = 0 := by rw [← j3]; rfl
        rw [List.length_drop, List.length_drop] at h4
        rw [nb_drop] at j2
        exact h1 ⟨by omega, h0.2, by rw [show l.length - 1 = 0 + 1 + j from by omega]; exact j2⟩
  · rw [if_neg h0, if_neg (fun h => h0 ⟨by omega, h.2.1⟩)]
    rfl
end Go.Proofs.Ytangldmjgidgcaa

/- Layer 5: two values that may be are told as the same text just if they are the same, in plain trees. Conditions: none. -/
import Derived.Test.YtangldmjgidgcaaS24
import Derived.Test.YtangldmjgidgcaaS18
namespace Go.Proofs.Ytangldmjgidgcaa
open Go.RowKit
set_option linter.unusedVariables false

/-- A quoted text is read to its end, whatever stands behind. -/
theorem qd_esc {l r : List UInt8} {x : UInt8} {n : Nat} (h0 : l.length ≠ 0) (h : nb l 0 = 92) (he : escV l = some (x, n)) (hr : l.drop n = r) : qd l = (qd r).map fun p => ([x] ++ p.1, p.2) := by
  have h1 := sg_one.2 ⟨h0, show nb l 0 < 128 by omega⟩
  rw [qd_eq, if_neg h0, if_neg (by omega), if_neg (by unfold bad; omega), if_pos h, he]
  dsimp only
  rw [hr]
  rfl
theorem qd_piece (l r : List UInt8) (h0 : l.length ≠ 0) : qd (pieceQ l ++ r) = (qd r).map fun p => (l.take (stepQ l) ++ p.1, p.2) := by
  have hb := nb_lt l 0
  have hs1 : ∀ k, nb l 0 = k → k < 128 → sg l = 1 := fun k h1 h2 => sg_one.2 ⟨h0, by omega⟩
  have hst : (sg l = 0 ∨ nb l 0 < 128) → stepQ l = 1 := fun h => by
    unfold stepQ
    rcases h with h | h
    · rw [if_pos h]
    · have := hs1 _ rfl h
      rw [if_neg (by omega)]; exact this
  unfold pieceQ
  by_cases a1 : sg l = 0 ∨ nb l 0 = 127
  · rw [if_pos a1, hst (by omega), take_one h0]
    exact qd_esc (by simp) rfl (escV_hex _ hb r) rfl
  rw [if_neg a1]
  by_cases a2 : nb l 0 = 39 ∨ nb l 0 = 92
  · rw [if_pos a2, hst (by omega), take_one h0]
    have n1 : nb ([92, UInt8.ofNat (nb l 0)] ++ r) 1 = nb l 0 := by
      show (UInt8.ofNat (nb l 0)).toNat = _
      simp; omega
    have e := escV_q (l := [92, UInt8.ofNat (nb l 0)] ++ r) (by simp) (by rw [n1]; omega)
    rw [n1] at e
    exact qd_esc (by simp) rfl e rfl
  rw [if_neg a2]
  by_cases a3 : nb l 0 = 10
  · rw [if_pos a3, hst (by omega), take_one h0, a3]
    exact qd_esc (by simp) rfl (escV_n (by simp) rfl) rfl
  rw [if_neg a3]
  by_cases a4 : nb l 0 = 9
  · rw [if_pos a4, hst (by omega), take_one h0, a4]
    exact qd_esc (by simp) rfl (escV_t (by simp) rfl) rfl
  rw [if_neg a4]
  by_cases a5 : nb l 0 = 13
  · rw [if_pos a5, hst (by omega), take_one h0, a5]
    exact qd_esc (by simp) rfl (escV_r (by simp) rfl) rfl
  rw [if_neg a5]
  by_cases a6 : nb l 0 < 32
  · rw [if_pos a6, hst (by omega), take_one h0]
    exact qd_esc (by simp) rfl (escV_hex _ hb r) rfl
  rw [if_neg a6]
  have h1 : sg l ≠ 0 := fun e => a1 (.inl e)
  have h2 := sg_le (l := l)
  have hS := sg_take r h1
  have n0 := nb_take l r (sg l) 0 (by omega) h2.2
  have hbd : ¬ bad (l.take (sg l) ++ r) := by unfold bad; rw [hS, n0]; omega
  rw [qd_eq, if_neg (by rw [List.length_append, List.length_take]; omega), n0, if_neg (by omega), if_neg hbd, if_neg (by omega), hS]
  rw [show stepQ l = sg l from by unfold stepQ; rw [if_neg h1]]
  have h3 : (l.take (sg l)).length = sg l := by rw [List.length_take]; omega
  rw [List.drop_append_of_le_length (by omega), List.take_append_of_le_length (by omega), List.take_take, Nat.min_self]
  rw [List.drop_of_length_le (by omega), List.nil_append]
theorem qd_quote (r : List UInt8) : ∀ (k : Nat) (l : List UInt8), l.length = k → qd (quoteL l ++ 39 :: r) = some (l, r) := by
  intro k
  induction k using Nat.strongRecOn with
  | _ k ih =>
    intro l hl
    by_cases h0 : l.length = 0
    · rw [quoteL_nil h0, List.length_eq_zero_iff.1 h0, List.nil_append, qd_eq, if_neg (by simp), if_pos (show nb (39 :: r) 0 = 39 from rfl)]; rfl
    · have h1 := stepQ_pos l
      rw [quoteL_step h0, List.append_assoc, qd_piece l _ h0, ih _ (by rw [List.length_drop]; omega) (l.drop (stepQ l)) rfl]
      simp
theorem quote_inj {l m r q : List UInt8} (h : quoteL l ++ 39 :: r = quoteL m ++ 39 :: q) : l = m ∧ r = q := by
  have := qd_quote r _ l rfl
  rw [h, qd_quote q _ m rfl] at this
  injection this with this
  injection this with h1 h2
  exact ⟨h1.symm, h2.symm⟩

/-- Two lists over one class of bytes, each ended by a byte of another one. -/
theorem span_inj (p : UInt8 → Bool) : ∀ (a b r q : List UInt8), a.all p = true → b.all p = true → (∀ c, r.head? = some c → p c = false) → (∀ c, q.head? = some c → p c = false) → a ++ r = b ++ q → a = b ∧ r = q := by
  intro a
  induction a with
  | nil =>
    intro b r q _ hb hr hq h
    cases b with
    | nil => exact ⟨rfl, h⟩
    | cons c cs =>
      rw [List.nil_append] at h
      rw [h] at hr
      have := hr c rfl
      simp only [List.all_cons, Bool.and_eq_true] at hb
      rw [hb.1] at this; cases this
  | cons c cs ih =>
    intro b r q ha hb hr hq h
    simp only [List.all_cons, Bool.and_eq_true] at ha
    cases b with
    | nil =>
      rw [List.nil_append] at h
      rw [← h] at hq
      have := hq c rfl
      rw [ha.1] at this; cases this
    | cons d ds =>
      simp only [List.all_cons, Bool.and_eq_true] at hb
      rw [List.cons_append, List.cons_append] at h
      injection h with h1 h2
      obtain ⟨h3, h4⟩ := ih ds r q ha.2 hb.2 hr hq h2
      exact ⟨by rw [h1, h3], h4⟩
/-- What stands behind a value: nothing, a comma, a bracket. -/
def Term (r : List UInt8) : Prop := ∀ c, r.head? = some c → c = 44 ∨ c = 93 ∨ c = 125
def numc (c : UInt8) : Bool := c == 45 || isDig c
theorem textOf_all {n : Int} (h : In64 n) : (textOf n).all numc = true := by
  have hf := decT_facts 18 n.natAbs (by unfold In64 at h; omega) (by omega)
  unfold textOf
  rw [List.all_append]
  have h2 : (decT n.natAbs).all numc = true := by
    rw [List.all_eq_true]
    intro c hc
    unfold numc
    rw [List.all_eq_true.1 hf.1 c hc, Bool.or_true]
  rw [h2, Bool.and_true]
  split <;> decide
theorem textOf_inj {n m : Int} (hn : In64 n) (hm : In64 m) (h : textOf n = textOf m) : n = m := by
  have f1 := decT_facts 18 n.natAbs (by unfold In64 at hn; omega) (by omega)
  have f2 := decT_facts 18 m.natAbs (by unfold In64 at hm; omega) (by omega)
  have hd : ∀ k, (decT k).all isDig = true → ∀ x, decT k ≠ 45 :: x := fun k hk x e => by
    rw [e] at hk
    simp only [List.all_cons, Bool.and_eq_true] at hk
    exact absurd hk.1 (by decide)
  unfold textOf at h
  by_cases h1 : n < 0
  · rw [if_pos h1] at h
    by_cases h2 : m < 0
    · rw [if_pos h2] at h
      have h3 : decT n.natAbs = decT m.natAbs := by simpa using h
      have h4 := f1.2.1
      rw [h3, f2.2.1] at h4
      omega
    · rw [if_neg h2] at h
      exact absurd h.symm (by simpa using hd _ f2.1 (decT n.natAbs))
  · rw [if_neg h1] at h
    by_cases h2 : m < 0
    · rw [if_pos h2] at h
      exact absurd h (by simpa using hd _ f1.1 (decT m.natAbs))
    · rw [if_neg h2] at h
      have h3 : decT n.natAbs = decT m.natAbs := by simpa using h
      have h4 := f1.2.1
      rw [h3, f2.2.1] at h4
      omega
theorem term_numc {r : List UInt8} (h : Term r) : ∀ c, r.head? = some c → numc c = false := by
  intro c hc
  rcases h c hc with rfl | rfl | rfl <;> decide
theorem text_inj {n m : Int} {r q : List UInt8} (hn : In64 n) (hm : In64 m) (hr : Term r) (hq : Term q) (h : textOf n ++ r = textOf m ++ q) : n = m ∧ r = q := by
  obtain ⟨h1, h2⟩ := span_inj numc _ _ r q (textOf_all hn) (textOf_all hm) (term_numc hr) (term_numc hq) h
  exact ⟨textOf_inj hn hm h1, h2⟩
/-- Keys. -/
def ncharB (c : UInt8) : Bool := nchar c.toNat
theorem nameB_all {l : List UInt8} (h : nameB l = true) : l.all ncharB = true ∧ ∃ c t, l = c :: t ∧ letter c.toNat = true := by
  have := of_decide_eq_true h
  obtain ⟨h1, h2, h3, h4⟩ := this
  constructor
  · rw [List.all_eq_true]
    intro c hc
    obtain ⟨i, hi, he⟩ := List.getElem_of_mem hc
    have := h4 i hi
    unfold nb at this
    rw [List.getElem?_eq_getElem hi, he] at this
    exact this
  · cases l with
    | nil => simp at h1
    | cons c t => exact ⟨c, t, rfl, h3⟩
theorem key_inj {l m r q : List UInt8} (h : keyL l ++ 58 :: r = keyL m ++ 58 :: q) : l = m ∧ r = q := by
  unfold keyL at h
  have h39 : ∀ {x y z : List UInt8}, nameB x = true → x ++ y ≠ 39 :: z := fun {x y z} hx e => by
    obtain ⟨_, c, t, rfl, hc⟩ := nameB_all hx
    injection e with e1 _
    rw [e1] at hc
    exact absurd hc (by decide)
  by_cases a : nameB l = true
  · rw [if_pos a] at h
    by_cases b : nameB m = true
    · rw [if_pos b] at h
      obtain ⟨h1, h2⟩ := span_inj ncharB _ _ _ _ (nameB_all a).1 (nameB_all b).1 (fun c hc => by simp at hc; subst hc; decide) (fun c hc => by simp at hc; subst hc; decide) h
      exact ⟨h1, by simpa using h2⟩
    · rw [if_neg b] at h
      exact absurd h (h39 a)
  · rw [if_neg a] at h
    by_cases b : nameB m = true
    · rw [if_pos b] at h
      exact absurd h.symm (h39 b)
    · rw [if_neg b] at h
      have h2 : quoteL l ++ 39 :: (58 :: r) = quoteL m ++ 39 :: (58 :: q) := by simpa using h
      obtain ⟨h3, h4⟩ := quote_inj h2
      exact ⟨h3, by simpa using h4⟩
/-- The first byte of a value's text. -/
def headK (k : Int) (c : UInt8) : Prop := (k = 0 ∧ c = 110) ∨ (k = 1 ∧ (c = 116 ∨ c = 102)) ∨ (k = 2 ∧ numc c = true) ∨ (k = 3 ∧ c = 39) ∨ (k = 4 ∧ c = 91) ∨ (k = 5 ∧ c = 123) ∨ ((k = 6 ∨ k = 7) ∧ c = 35)
theorem textOf_ne {n : Int} (h : In64 n) : ∃ c t, textOf n = c :: t ∧ numc c = true := by
  have ha := textOf_all h
  cases ht : textOf n with
  | nil =>
    exfalso
    obtain ⟨c, t, hc, _⟩ := (decT_facts 18 n.natAbs (by unfold In64 at h; omega) (by omega)).2.2
    unfold textOf at ht
    rw [hc] at ht
    simp at ht
  | cons c t =>
    rw [ht] at ha
    simp only [List.all_cons, Bool.and_eq_true] at ha
    exact ⟨c, t, rfl, ha.1⟩
theorem headK_one {k k' : Int} {c : UInt8} (h : headK k c) (h' : headK k' c) : k = k' ∨ ((k = 6 ∨ k = 7) ∧ (k' = 6 ∨ k' = 7)) := by
  unfold headK at h h'
  have n1 : numc 110 = false := by decide
  have n2 : numc 116 = false := by decide
  have n3 : numc 102 = false := by decide
  have n4 : numc 39 = false := by decide
  have n5 : numc 91 = false := by decide
  have n6 : numc 123 = false := by decide
  have n7 : numc 35 = false := by decide
  rcases h with ⟨rfl, rfl⟩ | ⟨rfl, rfl | rfl⟩ | ⟨rfl, hc⟩ | ⟨rfl, rfl⟩ | ⟨rfl, rfl⟩ | ⟨rfl, rfl⟩ | ⟨hk, rfl⟩ <;> rcases h' with ⟨rfl, e⟩ | ⟨rfl, e | e⟩ | ⟨rfl, e⟩ | ⟨rfl, e⟩ | ⟨rfl, e⟩ | ⟨rfl, e⟩ | ⟨hk', e⟩ <;> first | exact .inl rfl | exact .inr ⟨by assumption, by assumption⟩ | (exfalso; simp_all; done) | (exfalso; revert e; decide)
end Go.Proofs.Ytangldmjgidgcaa

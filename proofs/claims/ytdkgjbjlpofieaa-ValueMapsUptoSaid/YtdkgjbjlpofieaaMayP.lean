/- Which values may be, in plain trees. Conditions: none. -/
import Derived.Test.YtdkgjbjlpofieaaTree
namespace Go.Proofs.Ytdkgjbjlpofieaa
open Go.RowKit
set_option linter.unusedVariables false

def strLe (x y : ByteArray) : Bool := Op.bytesLess x.toList y.toList || x.toList == y.toList
def kOk (ks : List ByteArray) (i : Nat) : Bool := match ks[i]? with
  | none => true
  | some x => decide (1 ≤ x.size ∧ x.size ≤ 64) && (match ks[i - 1]? with | none => true | some y => decide (i = 0) || !strLe x y)
def keysOk (ks : List ByteArray) : Bool := decide (∀ i, i < ks.length → kOk ks i = true)
def unusedV (k : Int) (b : Bool) (i : Int) (s : ByteArray) (n m : Nat) : Bool :=
  decide ((k = 1 ∨ b = false) ∧ (k = 2 ∨ k = 6 ∨ k = 7 ∨ i = 0) ∧ (k = 3 ∨ s.size = 0) ∧ (k = 4 ∨ k = 5 ∨ n = 0) ∧ (k = 5 ∨ m = 0))
/-- What stands in a value's own cells is as it may be. -/
def headOk (k : Int) (b : Bool) (i : Int) (s : ByteArray) (n : Nat) (ks : List ByteArray) (deep : Int) (parts : Nat) : Bool :=
  decide (parts + 1 ≤ 4096 ∧ 1 ≤ deep ∧ 0 ≤ k ∧ k ≤ 7 ∧ unusedV k b i s n ks.length = true ∧ ¬ ((k = 6 ∨ k = 7) ∧ i < 1) ∧ (k = 5 → ks.length = n ∧ keysOk ks = true))
mutual
def mayV : Vt → Int → Nat → Nat × Bool
  | .mk k b i s l ks, deep, parts => if headOk k b i s l.length ks deep parts then mayVs l (deep - 1) (parts + 1) else (parts + 1, false)
def mayVs : List Vt → Int → Nat → Nat × Bool
  | [], _, parts => (parts, true)
  | t :: ts, deep, parts => match mayV t deep parts with | (n, false) => (n, false) | (n, true) => mayVs ts deep n
end
def mayB (t : Vt) : Bool := (mayV t 32 0).2
theorem mayVs_le (d : Int) (l : List Vt) (h : ∀ (j : Nat) t, l[j]? = some t → ∀ d p, p ≤ 4096 → (mayV t d p).1 ≤ 4097 ∧ ((mayV t d p).2 = true → (mayV t d p).1 ≤ 4096)) :
    ∀ p, p ≤ 4096 → (mayVs l d p).1 ≤ 4097 ∧ ((mayVs l d p).2 = true → (mayVs l d p).1 ≤ 4096) := by
  induction l with
  | nil => intro p hp; simp only [mayVs]; exact ⟨by omega, fun _ => hp⟩
  | cons t ts ih =>
    intro p hp
    have h0 := h 0 t rfl d p hp
    simp only [mayVs]
    cases hm : mayV t d p with
    | mk n ok =>
      rw [hm] at h0
      cases ok with
      | false => exact ⟨h0.1, fun h => by cases h⟩
      | true => exact ih (fun j t ht => h (j + 1) t (by simpa using ht)) n (h0.2 rfl)
theorem mayV_le (t : Vt) : ∀ d p, p ≤ 4096 → (mayV t d p).1 ≤ 4097 ∧ ((mayV t d p).2 = true → (mayV t d p).1 ≤ 4096) := by
  refine t.down (p := fun t => ∀ d p, p ≤ 4096 → (mayV t d p).1 ≤ 4097 ∧ ((mayV t d p).2 = true → (mayV t d p).1 ≤ 4096)) fun k b i s l ks ih d p hp => ?_
  unfold mayV
  cases hh : headOk k b i s l.length ks d p with
  | false => simp; omega
  | true =>
    have : p + 1 ≤ 4096 := by have := of_decide_eq_true hh; exact this.1
    exact mayVs_le (d - 1) l ih (p + 1) this
/-- One step through a list. -/
theorem mayVs_step {l : List Vt} {i : Nat} {t : Vt} (h : l[i]? = some t) (d : Int) (p : Nat) : mayVs (l.drop i) d p = match mayV t d p with | (n, false) => (n, false) | (n, true) => mayVs (l.drop (i + 1)) d n := by
  obtain ⟨h1, h2⟩ := List.getElem?_eq_some_iff.1 h
  rw [List.drop_eq_getElem_cons h1, h2, mayVs]
/-- All that lies within a value that may be. -/
theorem mayV_parts {t : Vt} {d : Int} {p : Nat} (h : (mayV t d p).2 = true) : ∃ k b i s l ks, t = .mk k b i s l ks ∧ headOk k b i s l.length ks d p = true ∧ ∀ (j : Nat) u, l[j]? = some u → ∃ q, (mayV u (d - 1) q).2 = true := by
  obtain ⟨k, b, i, s, l, ks⟩ := t
  refine ⟨k, b, i, s, l, ks, rfl, ?_⟩
  unfold mayV at h
  cases hh : headOk k b i s l.length ks d p with
  | false => rw [hh] at h; cases h
  | true =>
    rw [hh, if_pos rfl] at h
    refine ⟨rfl, ?_⟩
    clear hh
    generalize p + 1 = q at h
    induction l generalizing q with
    | nil => intro j u hu; simp at hu
    | cons t ts ih =>
      intro j u hu
      simp only [mayVs] at h
      cases hm : mayV t (d - 1) q with
      | mk n ok =>
        rw [hm] at h
        cases ok with
        | false => cases h
        | true =>
          cases j with
          | zero => simp at hu; subst hu; exact ⟨q, by rw [hm]⟩
          | succ j => exact ih n h j u (by simpa using hu)
end Go.Proofs.Ytdkgjbjlpofieaa

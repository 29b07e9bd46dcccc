/- Layer 3: rows of values of their own memory, grown and written. Conditions: none. -/
import Derived.Test.YtdkgjbjlpofieaaCopyL
namespace Go.Proofs.Ytdkgjbjlpofieaa
open Go.RowKit
set_option linter.unusedSimpArgs false
set_option linter.unusedVariables false

theorem IsO.six {w : World} {cs : List Value} {t : Vt} {bs : List Nat} (h : IsO w cs t bs) : cs.length = 6 := by
  obtain ⟨k, b, i, s, l, ks⟩ := t
  unfold IsO at h
  obtain ⟨la, lc, ka, kc, b1, b2, rfl, _⟩ := h
  rfl
/-- Only the cells of the row's own elements count. -/
theorem IsOs.cur {w : World} (l : List Vt) : ∀ (cur cur' : List Value) (n : Nat) (bs : List Nat), IsOs w cur n l bs → (∀ q, n * 6 ≤ q → q < (n + l.length) * 6 → cur'[q]? = cur[q]?) → IsOs w cur' n l bs := by
  induction l with
  | nil => intro cur cur' n bs h _; unfold IsOs at h ⊢; exact h
  | cons u us ih =>
    intro cur cur' n bs h hq
    unfold IsOs at h ⊢
    obtain ⟨cs, b1, b2, h1, h2, h3, h4⟩ := h
    refine ⟨cs, b1, b2, h1, fun j v hv => ?_, h3, ih cur cur' (n + 1) b2 h4 (fun q g1 g2 => hq q (by omega) (by simp; omega))⟩
    have hj : j < 6 := by have := (List.getElem?_eq_some_iff.1 hv).1; have := h3.six; omega
    rw [hq (n * 6 + j) (by omega) (by simp; omega)]
    exact h2 j v hv
/-- One element more. -/
theorem IsOs.snoc {w : World} {cs : List Value} {t : Vt} {b : List Nat} (ht : IsO w cs t b) (l : List Vt) : ∀ (cur : List Value) (n : Nat) (bs : List Nat), IsOs w cur n l bs →
    (∀ (j : Nat) v, cs[j]? = some v → cur[(n + l.length) * 6 + j]? = some v) → IsOs w cur n (l ++ [t]) (bs ++ b) := by
  induction l with
  | nil =>
    intro cur n bs h hc
    unfold IsOs at h
    subst h
    simp only [List.nil_append]
    unfold IsOs
    exact ⟨cs, b, [], by simp, by simpa using hc, ht, by unfold IsOs; rfl⟩
  | cons u us ih =>
    intro cur n bs h hc
    unfold IsOs at h
    obtain ⟨cs', b1, b2, h1, h2, h3, h4⟩ := h
    simp only [List.cons_append]
    unfold IsOs
    refine ⟨cs', b1, b2 ++ b, by rw [h1, List.append_assoc], h2, h3, ih cur (n + 1) b2 h4 (fun j v hv => ?_)⟩
    have := hc j v hv
    rwa [show n + (u :: us).length = n + 1 + us.length from by simp; omega] at this
/-- The cells of a row of values, one behind the other. -/
theorem row_cells {B : Nat} {w : World} {a : Option Addr} (l : List Vt) : ∀ (n : Nat), IsVs B w a n l → ∃ RC : List Value, RC.length = l.length * 6 ∧ (∀ v ∈ RC, v.oneCell' = true) ∧
    (∀ (j : Nat) t, l[j]? = some t → ∃ cs, cs.length = 6 ∧ IsV B w cs t ∧ ∀ (q : Nat) v, cs[q]? = some v → RC[j * 6 + q]? = some v) ∧
    (l ≠ [] → ∃ b off, a = some ⟨b, off, none⟩ ∧ b < B ∧ ∀ (q : Nat) v, RC[q]? = some v → w.cell? ⟨b, off + (n * 6 + q), none⟩ = some v) := by
  induction l with
  | nil => intro n _; exact ⟨[], rfl, by simp, by simp, fun h => absurd rfl h⟩
  | cons u us ih =>
    intro n h
    unfold IsVs at h
    obtain ⟨⟨b, off, cs, h1, h2, h3, h4⟩, h5⟩ := h
    obtain ⟨RC, g1, g2, g3, g4⟩ := ih (n + 1) h5
    have h6 : cs.length = 6 ∧ ∀ v ∈ cs, v.oneCell' = true := by
      obtain ⟨k, b, i, s, l2, ks⟩ := u
      unfold IsV at h4
      obtain ⟨la, lc, ka, kc, rfl, _⟩ := h4
      exact ⟨rfl, by intro v hv; simp at hv; rcases hv with rfl | rfl | rfl | rfl | rfl | rfl <;> rfl⟩
    refine ⟨cs ++ RC, by simp [g1, h6.1]; omega, ?_, ?_, fun _ => ⟨b, off, h1, h2, fun q v hv => ?_⟩⟩
    · intro v hv
      rcases List.mem_append.1 hv with h | h
      · exact h6.2 v h
      · exact g2 v h
    · intro j t ht
      cases j with
      | zero =>
        simp at ht; subst ht
        refine ⟨cs, h6.1, h4, fun q v hv => ?_⟩
        have hq : q < cs.length := (List.getElem?_eq_some_iff.1 hv).1
        rw [Nat.zero_mul, Nat.zero_add, List.getElem?_append_left hq]; exact hv
      | succ j =>
        obtain ⟨cs', f1, f2, f3⟩ := g3 j t (by simpa using ht)
        refine ⟨cs', f1, f2, fun q v hv => ?_⟩
        rw [List.getElem?_append_right (by omega), show (j + 1) * 6 + q - cs.length = j * 6 + q from by omega]
        exact f3 q v hv
    · by_cases hq : q < cs.length
      · rw [List.getElem?_append_left hq] at hv
        exact h3 q v hv
      · rw [List.getElem?_append_right (by omega)] at hv
        have hne : us ≠ [] := by rintro rfl; simp at g1; rw [g1] at hv; simp at hv
        obtain ⟨b', off', e1, e2, e3⟩ := g4 hne
        rw [h1] at e1
        cases e1
        have := e3 (q - cs.length) v hv
        rwa [show (n + 1) * 6 + (q - cs.length) = n * 6 + q from by omega] at this
/-- Six cells in a row written. -/
def set6 (w : World) (g o : Nat) (v0 v1 v2 v3 v4 v5 : Value) : World := (((((w.setCell ⟨g, o, none⟩ v0).setCell ⟨g, o + 1, none⟩ v1).setCell ⟨g, o + 2, none⟩ v2).setCell ⟨g, o + 3, none⟩ v3).setCell ⟨g, o + 4, none⟩ v4).setCell ⟨g, o + 5, none⟩ v5
def put6 (cur : List Value) (o : Nat) (v0 v1 v2 v3 v4 v5 : Value) : List Value := (((((cur.set o v0).set (o + 1) v1).set (o + 2) v2).set (o + 3) v3).set (o + 4) v4).set (o + 5) v5
theorem Block.set6 {w : World} {g : Nat} {cur : List Value} {ty : TypeId} (h : Block w g cur ty) (o : Nat) (v0 v1 v2 v3 v4 v5 : Value) : Block (set6 w g o v0 v1 v2 v3 v4 v5) g (put6 cur o v0 v1 v2 v3 v4 v5) ty :=
  (((((h.set o v0).set (o + 1) v1).set (o + 2) v2).set (o + 3) v3).set (o + 4) v4).set (o + 5) v5
theorem put6_len (cur : List Value) (o : Nat) (v0 v1 v2 v3 v4 v5 : Value) : (put6 cur o v0 v1 v2 v3 v4 v5).length = cur.length := by simp [put6]
theorem put6_out (cur : List Value) (o : Nat) (v0 v1 v2 v3 v4 v5 : Value) (q : Nat) (hq : q < o ∨ o + 6 ≤ q) : (put6 cur o v0 v1 v2 v3 v4 v5)[q]? = cur[q]? := by
  unfold put6
  rw [List.getElem?_set_ne (by omega), List.getElem?_set_ne (by omega), List.getElem?_set_ne (by omega), List.getElem?_set_ne (by omega), List.getElem?_set_ne (by omega), List.getElem?_set_ne (by omega)]
theorem put6_in (cur : List Value) (o : Nat) (v0 v1 v2 v3 v4 v5 : Value) (ho : o + 6 ≤ cur.length) (q : Nat) (v : Value) (hv : [v0, v1, v2, v3, v4, v5][q]? = some v) : (put6 cur o v0 v1 v2 v3 v4 v5)[o + q]? = some v := by
  unfold put6
  match q, hv with
  | 0, hv => cases hv; simp [List.getElem?_set]; omega
  | 1, hv => cases hv; simp [List.getElem?_set]; omega
  | 2, hv => cases hv; simp [List.getElem?_set]; omega
  | 3, hv => cases hv; simp [List.getElem?_set]; omega
  | 4, hv => cases hv; simp [List.getElem?_set]; omega
  | 5, hv => cases hv; simp [List.getElem?_set]; omega
theorem set6_size (w : World) (g o : Nat) (v0 v1 v2 v3 v4 v5 : Value) : (set6 w g o v0 v1 v2 v3 v4 v5).heap.size = w.heap.size := by simp [set6, World.setCell]
theorem set6_other (w : World) (g o : Nat) (v0 v1 v2 v3 v4 v5 : Value) (k : Nat) (hk : k ≠ g) : (set6 w g o v0 v1 v2 v3 v4 v5).heap[k]? = w.heap[k]? := by
  unfold set6
  rw [Below.heap_setCell _ _ _ _ hk, Below.heap_setCell _ _ _ _ hk, Below.heap_setCell _ _ _ _ hk, Below.heap_setCell _ _ _ _ hk, Below.heap_setCell _ _ _ _ hk, Below.heap_setCell _ _ _ _ hk]
theorem set6_below {B : Nat} {a w : World} (h : Below B a w) (g o : Nat) (hg : B ≤ g) (v0 v1 v2 v3 v4 v5 : Value) : Below B a (set6 w g o v0 v1 v2 v3 v4 v5) :=
  (((((h.setCell hg v0).setCell hg v1).setCell hg v2).setCell hg v3).setCell hg v4).setCell hg v5
/-- What a copy is: the same value, all of whose memory is new. -/
def CopyP (t : Vt) (w : World) (e : Ending) (w' : World) : Prop :=
  ∃ cs bs, e = .returned (.agg cs.toArray) ∧ Below w.heap.size w w' ∧ IsO w' cs t bs ∧ bs.Nodup ∧ ∀ b ∈ bs, w.heap.size ≤ b ∧ b < w'.heap.size
end Go.Proofs.Ytdkgjbjlpofieaa

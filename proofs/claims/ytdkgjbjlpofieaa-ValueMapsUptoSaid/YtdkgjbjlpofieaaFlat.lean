/- Rows of structs as flat lists of cells. Conditions: none. -/
import Derived.Test.YtdkgjbjlpofieaaRowO
import Derived.Test.YtdkgjbjlpofieaaRow
namespace Go.Proofs.Ytdkgjbjlpofieaa
open Go.RowKit
set_option linter.unusedSimpArgs false
set_option linter.unusedVariables false

/-- A slice's numbers. -/
def SlOk (a : Option Addr) (n c : Nat) : Prop := (n ≤ c ∧ c ≤ 9223372036854775807) ∧ (a = none → c = 0)
/-- A row of structs below block B. -/
def RowR {α : Type} (R : List Value → α → Prop) (size B : Nat) (w : World) (a : Option Addr) (l : List α) : Prop :=
  ∀ (i : Nat) (o : α), l[i]? = some o → ∃ b off cs, a = some ⟨b, off, none⟩ ∧ b < B ∧ cs.length = size ∧ (∀ j v, cs[j]? = some v → w.cell? ⟨b, off + (i * size + j), none⟩ = some v) ∧ R cs o
/-- These cells are those elements, one behind the other. -/
structure FlatR {α : Type} (R : List Value → α → Prop) (size : Nat) (cl : List Value) (l : List α) : Prop where
  len : cl.length = l.length * size
  one : ∀ u ∈ cl, u.oneCell' = true
  get : ∀ (i : Nat) (o : α), l[i]? = some o → R ((cl.drop (i * size)).take size) o
section
variable {α : Type} {R R' : List Value → α → Prop} {size B B' : Nat} {w w' : World} {a : Option Addr} {l m : List α} {cl dl cs : List Value} {o x : α} {i : Nat}
theorem FlatR.nil : FlatR R size [] ([] : List α) := ⟨by simp, by simp, by simp⟩
theorem FlatR.single (h : R cs x) (hl : cs.length = size) (h1 : ∀ u ∈ cs, u.oneCell' = true) : FlatR R size cs [x] := by
  refine ⟨by simp [hl], h1, fun i o ho => ?_⟩
  cases i with
  | zero => simp at ho; subst ho; simpa [← hl] using h
  | succ i => simp at ho
theorem FlatR.mono (h : FlatR R size cl l) (hR : ∀ cs x, R cs x → R' cs x) : FlatR R' size cl l := ⟨h.len, h.one, fun i o ho => hR _ _ (h.get i o ho)⟩
theorem FlatR.append (h : FlatR R size cl l) (h2 : FlatR R size dl m) : FlatR R size (cl ++ dl) (l ++ m) := by
  refine ⟨by simp [h.len, h2.len, Nat.add_mul], fun u hu => ?_, fun i o ho => ?_⟩
  · rcases List.mem_append.1 hu with hu | hu
    · exact h.one u hu
    · exact h2.one u hu
  · by_cases hi : i < l.length
    · rw [List.getElem?_append_left hi] at ho
      have := h.get i o ho
      have h3 : i * size + size ≤ cl.length := by rw [h.len, ← Nat.succ_mul]; exact Nat.mul_le_mul_right _ hi
      rw [List.drop_append_of_le_length (by omega), List.take_append_of_le_length (by rw [List.length_drop]; omega)]
      exact this
    · rw [List.getElem?_append_right (by omega)] at ho
      have := h2.get _ o ho
      have h3 : cl.length ≤ i * size := by rw [h.len]; exact Nat.mul_le_mul_right _ (by omega)
      rw [List.drop_append, List.drop_eq_nil_of_le h3, List.nil_append, h.len, ← Nat.sub_mul]
      exact this
theorem FlatR.take (h : FlatR R size cl l) (k : Nat) (hk : k ≤ l.length) : FlatR R size (cl.take (k * size)) (l.take k) := by
  have h3 : k * size ≤ cl.length := by rw [h.len]; exact Nat.mul_le_mul_right _ hk
  refine ⟨by rw [List.length_take, List.length_take, Nat.min_eq_left h3, Nat.min_eq_left hk], fun u hu => h.one u (List.mem_of_mem_take hu), fun i o ho => ?_⟩
  have hi : i < k := by have := (List.getElem?_eq_some_iff.1 ho).1; rw [List.length_take] at this; omega
  rw [List.getElem?_take_of_lt hi] at ho
  have := h.get i o ho
  have h4 : i * size + size ≤ k * size := by rw [← Nat.succ_mul]; exact Nat.mul_le_mul_right _ hi
  rw [List.drop_take, List.take_take, Nat.min_eq_left (by omega)]
  exact this
theorem FlatR.drop (h : FlatR R size cl l) (k : Nat) : FlatR R size (cl.drop (k * size)) (l.drop k) := by
  refine ⟨by rw [List.length_drop, List.length_drop, h.len, Nat.sub_mul], fun u hu => h.one u (List.mem_of_mem_drop hu), fun i o ho => ?_⟩
  rw [List.getElem?_drop] at ho
  have := h.get _ o ho
  rw [List.drop_drop, ← Nat.add_mul]
  exact this
theorem FlatR.cell (h : FlatR R size cl l) (ho : l[i]? = some o) : ∃ cs, cs.length = size ∧ R cs o ∧ ∀ (j : Nat) v, cs[j]? = some v → cl[i * size + j]? = some v := by
  have hi : i < l.length := (List.getElem?_eq_some_iff.1 ho).1
  have h4 : i * size + size ≤ cl.length := by rw [h.len, ← Nat.succ_mul]; exact Nat.mul_le_mul_right _ hi
  refine ⟨(cl.drop (i * size)).take size, by rw [List.length_take, List.length_drop]; omega, h.get i o ho, fun j v hv => ?_⟩
  have hj : j < size := by have := (List.getElem?_eq_some_iff.1 hv).1; rw [List.length_take] at this; omega
  rw [List.getElem?_take_of_lt hj, List.getElem?_drop] at hv
  exact hv
/-- A row below block B, as a flat list of cells. -/
theorem RowR.flat (h : RowR R size B w a l) (h1 : ∀ cs x, R cs x → ∀ u ∈ cs, u.oneCell' = true) (hs : 0 < size) : ∃ cl, FlatR R size cl l ∧ Cells B w a cl := by
  cases l with
  | nil => exact ⟨[], FlatR.nil, .inl rfl⟩
  | cons y ys =>
    obtain ⟨b, off, cs0, rfl, hb, hl0, hc0, hR0⟩ := h 0 y rfl
    obtain ⟨cl, hcl⟩ : ∃ cl : List Value, cl = (List.range ((y :: ys).length * size)).map fun k => (w.cell? ⟨b, off + k, none⟩).getD default := ⟨_, rfl⟩
    have hlen : cl.length = (y :: ys).length * size := by rw [hcl]; simp
    have hget : ∀ (i : Nat) (o : α), (y :: ys)[i]? = some o → ∃ cs, cs.length = size ∧ R cs o ∧ (∀ (j : Nat) v, cs[j]? = some v → w.cell? ⟨b, off + (i * size + j), none⟩ = some v) ∧ (cl.drop (i * size)).take size = cs := fun i o ho => by
      obtain ⟨b', off', cs, e, _, hl, hc, hR⟩ := h i o ho
      injection e with e; injection e with e1 e2; subst e1 e2
      refine ⟨cs, hl, hR, hc, List.ext_getElem? fun j => ?_⟩
      have hi : i < (y :: ys).length := (List.getElem?_eq_some_iff.1 ho).1
      have h4 : i * size + size ≤ (y :: ys).length * size := by rw [← Nat.succ_mul]; exact Nat.mul_le_mul_right _ hi
      by_cases hj : j < size
      · rw [List.getElem?_take_of_lt hj, List.getElem?_drop, hcl, List.getElem?_map, List.getElem?_range (by omega)]
        have := hc j cs[j] (List.getElem?_eq_getElem (by omega))
        rw [Option.map_some, this, List.getElem?_eq_getElem (by omega)]
        rfl
      · rw [List.getElem?_eq_none (by rw [List.length_take]; omega), List.getElem?_eq_none (by omega)]
    have hall : ∀ k, k < cl.length → ∃ v, cl[k]? = some v ∧ w.cell? ⟨b, off + k, none⟩ = some v ∧ v.oneCell' = true := fun k hk => by
      rw [hlen] at hk
      have hq : k / size < (y :: ys).length := Nat.div_lt_of_lt_mul (by rwa [Nat.mul_comm])
      obtain ⟨cs, hl, hR, hc, ht⟩ := hget (k / size) _ (List.getElem?_eq_getElem hq)
      have hm := Nat.mod_lt k hs
      have e : k / size * size + k % size = k := by rw [Nat.mul_comm]; exact Nat.div_add_mod k size
      have h5 : cs[k % size]? = some cs[k % size] := List.getElem?_eq_getElem (by omega)
      have h6 := hc _ _ h5
      rw [e] at h6
      refine ⟨cs[k % size], ?_, h6, h1 _ _ hR _ (List.getElem_mem _)⟩
      rw [hcl, List.getElem?_map, List.getElem?_range (by omega), Option.map_some, h6]
      rfl
    refine ⟨cl, ⟨hlen, fun u hu => ?_, fun i o ho => ?_⟩, .inr ⟨b, off, rfl, hb, fun k v hv => ?_⟩⟩
    · obtain ⟨k, hk⟩ := List.getElem?_of_mem hu
      obtain ⟨v, e1, _, e2⟩ := hall k (List.getElem?_eq_some_iff.1 hk).1
      rw [e1] at hk; injection hk with hk; subst hk; exact e2
    · obtain ⟨cs, _, hR, _, ht⟩ := hget i o ho
      rw [ht]; exact hR
    · obtain ⟨v', e1, e2, _⟩ := hall k (List.getElem?_eq_some_iff.1 hv).1
      rw [e1] at hv; injection hv with hv; subst hv; exact e2
theorem FlatR.row (h : FlatR R size cl l) (hs : 0 < size) (hc : Cells B w a cl) : RowR R size B w a l := by
  intro i o ho
  obtain ⟨cs, hl, hR, hg⟩ := h.cell ho
  rcases hc with hc | ⟨b, off, rfl, hb, hc⟩
  · have hi : i < l.length := (List.getElem?_eq_some_iff.1 ho).1
    have := h.len
    rw [hc] at this
    have h2 : 0 < l.length * size := Nat.mul_pos (by omega) hs
    simp at this
    omega
  · exact ⟨b, off, cs, rfl, hb, hl, fun j v hv => hc _ v (hg j v hv), hR⟩
/-- An own row is a row below the end of the memory. -/
theorem own_cells {base : Nat} {ty : TypeId} {v : Value} {n : Nat} (h : w.ownsRow base ty size v n cl) : ∃ a c, v = .slice a n c ∧ SlOk a n c ∧ Cells w.heap.size w a cl := by
  obtain ⟨h1, h2⟩ := h
  rcases h2 with ⟨rfl, h3⟩ | ⟨g, cap, cur, rfl, hb, hh, hn, hm, hs, ht⟩
  · refine ⟨none, 0, by rw [h3], ⟨⟨by omega, by omega⟩, fun _ => rfl⟩, .inl ?_⟩
    exact List.eq_nil_of_length_eq_zero (by rw [h1, h3]; simp)
  · refine ⟨some ⟨g, 0, none⟩, cap, rfl, ⟨⟨hn, by unfold maxLen at hm; omega⟩, (fun e => by cases e)⟩, .inr ⟨g, 0, rfl, (Array.getElem?_eq_some_iff.1 hh).1, fun k v hv => ?_⟩⟩
    rw [← ht] at hv
    have hk : k < n * size := by have := (List.getElem?_eq_some_iff.1 hv).1; rw [List.length_take] at this; omega
    rw [List.getElem?_take_of_lt hk] at hv
    rw [Array.getElem?_toList] at hv
    simp [World.cell?, hh, hv]
theorem Cells.dropN {vs : List Value} (h : Cells B w a vs) (k : Nat) : Cells B w (Option.map (fun x => x.add k) a) (vs.drop k) := by
  rcases h with h | ⟨b, off, h1, h2, h3⟩
  · exact .inl (by simp [h])
  · subst h1
    refine .inr ⟨b, off + k, by simp [Addr.add_lit], h2, fun i v hi => ?_⟩
    rw [List.getElem?_drop] at hi
    rw [Nat.add_assoc]; exact h3 _ v hi
theorem Cells.takeN {vs : List Value} (h : Cells B w a vs) (k : Nat) : Cells B w a (vs.take k) := by
  rcases h with h | ⟨b, off, h1, h2, h3⟩
  · exact .inl (by simp [h])
  · refine .inr ⟨b, off, h1, h2, fun i v hi => h3 i v ?_⟩
    rw [List.getElem?_take] at hi
    split at hi
    · exact hi
    · cases hi
end
end Go.Proofs.Ytdkgjbjlpofieaa

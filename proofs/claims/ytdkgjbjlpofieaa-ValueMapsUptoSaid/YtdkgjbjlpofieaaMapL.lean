/- Layer 3: the struct that value.Map fills: its two rows grow. Conditions: none. -/
import Derived.Test.YtdkgjbjlpofieaaStab
import Derived.Test.YtdkgjbjlpofieaaRow
namespace Go.Proofs.Ytdkgjbjlpofieaa
open Go.RowKit
set_option linter.unusedSimpArgs false
set_option linter.unusedVariables false

/-- What stands behind a region that appends: the act and the world are found by the first order walked. -/
def Mid (A : Nat → Nat → Act) (F : Nat → Nat → World → World) (R : Nat → Nat → World → Prop) : Exit → Act → World → Prop
  | .normal, a, w => ∃ g c w1, R g c w1 ∧ a = A g c ∧ w = F g c w1
  | _, _, _ => False
theorem wp_mid {P : Program} {c : Code} {Q : Exit → Act → World → Prop} {a : Act} {w : World} (A : Nat → Nat → Act) (F : Nat → Nat → World → World) (R : Nat → Nat → World → Prop)
    (h : c.wp P (Mid A F R) a w) (k : ∀ g c w1, R g c w1 → Q .normal (A g c) (F g c w1)) : c.wp P Q a w := by
  refine Code.wp_mono ?_ h
  intro e a w h
  cases e with
  | normal =>
    obtain ⟨g, c, w1, hr, rfl, rfl⟩ := h
    exact k g c w1 hr
  | _ => exact h.elim
/-- The struct in block X, with a row of keys and a row of values. -/
structure St (X : Nat) (w2 wr : World) (kv lv : Value) (k j : Nat) (kc lc : List Value) : Prop where
  blk : Block wr X [.int .i64 5, .bool false, .int .i64 0, .string ⟨#[]⟩, lv, kv] 26
  ko : wr.ownsRow (X + 1) 9 1 kv k kc
  lo : wr.ownsRow (X + 1) 26 6 lv j lc
  ne : ∀ b, kv.ownBlock = some b → lv.ownBlock ≠ some b
  bel : Below X w2 wr
theorem St.keys {X : Nat} {w2 wr w1 : World} {kv lv v : Value} {k j gg : Nat} {kc lc kc' : List Value} {Y : Obj} (h : St X w2 wr kv lv k j kc lc) (hown : w1.ownsRow (X + 1) 9 1 v (k + 1) kc')
    (hg : ((wr.alloc Y).drew).grownBy w1 kv.ownBlock) (hv : v.ownBlock = some gg) (hat : kv.ownBlock = some gg ∨ gg = wr.heap.size + 1) : St X w2 (w1.setCell ⟨X, 5, none⟩ v) v lv (k + 1) j kc' lc := by
  have hX : X < wr.heap.size := h.blk.lt
  have hK : ∀ b, kv.ownBlock = some b → X + 1 ≤ b ∧ b < wr.heap.size := h.ko.lt
  have hL : ∀ b, lv.ownBlock = some b → X + 1 ≤ b ∧ b < wr.heap.size := h.lo.lt
  have hb : ∀ b, b < wr.heap.size → kv.ownBlock ≠ some b → w1.heap[b]? = wr.heap[b]? := fun b hb hn => by
    rw [hg.block b (by show b < (wr.alloc Y).heap.size; simp; omega) (fun e => hn e.symm)]
    exact Below.heap_alloc _ _ _ hb
  have hgX : gg ≠ X := by
    rcases hat with e | e
    · have := hK gg e; omega
    · omega
  refine ⟨?_, own_setCell hown (by rw [hv]; simpa using hgX) _, ?_, ?_, ?_⟩
  · exact (h.blk.of_heap (hb X hX (fun e => by have := hK X e; omega))).set 5 v
  · refine own_setCell (own_of_heap h.lo fun b e => hb b (hL b e).2 (fun e' => h.ne b e' e)) (fun e => by have := hL X e; omega) _
  · intro b e
    rw [hv] at e
    injection e with e
    subst e
    rcases hat with e | e
    · exact h.ne _ e
    · intro e'; have := hL _ e'; omega
  · refine Below.setCell (Below.grown ((h.bel.alloc (by have := h.bel.size; omega) Y).drew) hg (by show X ≤ (wr.alloc Y).heap.size; simp; omega) (fun b e => by have := hK b e; omega)) (Nat.le_refl _) _
theorem St.vals {X : Nat} {w2 wr w1 : World} {kv lv v : Value} {k j gg : Nat} {kc lc lc' : List Value} {Y : Obj} (h : St X w2 wr kv lv k j kc lc) (hown : w1.ownsRow (X + 1) 26 6 v (j + 1) lc')
    (hg : ((wr.alloc Y).drew).grownBy w1 lv.ownBlock) (hv : v.ownBlock = some gg) (hat : lv.ownBlock = some gg ∨ gg = wr.heap.size + 1) : St X w2 (w1.setCell ⟨X, 4, none⟩ v) kv v k (j + 1) kc lc' := by
  have hX : X < wr.heap.size := h.blk.lt
  have hK : ∀ b, kv.ownBlock = some b → X + 1 ≤ b ∧ b < wr.heap.size := h.ko.lt
  have hL : ∀ b, lv.ownBlock = some b → X + 1 ≤ b ∧ b < wr.heap.size := h.lo.lt
  have hb : ∀ b, b < wr.heap.size → lv.ownBlock ≠ some b → w1.heap[b]? = wr.heap[b]? := fun b hb hn => by
    rw [hg.block b (by show b < (wr.alloc Y).heap.size; simp; omega) (fun e => hn e.symm)]
    exact Below.heap_alloc _ _ _ hb
  have hgX : gg ≠ X := by
    rcases hat with e | e
    · have := hL gg e; omega
    · omega
  refine ⟨?_, ?_, own_setCell hown (by rw [hv]; simpa using hgX) _, ?_, ?_⟩
  · exact (h.blk.of_heap (hb X hX (fun e => by have := hL X e; omega))).set 4 v
  · refine own_setCell (own_of_heap h.ko fun b e => hb b (hK b e).2 (fun e' => h.ne b e e')) (fun e => by have := hK X e; omega) _
  · intro b e e'
    rw [hv] at e'
    injection e' with e'
    subst e'
    rcases hat with e1 | e1
    · exact h.ne _ e e1
    · have := hK _ e; omega
  · refine Below.setCell (Below.grown ((h.bel.alloc (by have := h.bel.size; omega) Y).drew) hg (by show X ≤ (wr.alloc Y).heap.size; simp; omega) (fun b e => by have := hL b e; omega)) (Nat.le_refl _) _
/-- Six cells of a block written one behind the other: each reads as it was written. -/
theorem six_cells {w : World} {g : Nat} {a0 a1 a2 a3 a4 a5 : Value} {t : TypeId} (h : Block w g [a0, a1, a2, a3, a4, a5] t) (v0 v1 v2 v3 v4 v5 : Value) :
    (w.setCell ⟨g, 0, none⟩ v0).cell? ⟨g, 0, none⟩ = some v0 ∧ ((w.setCell ⟨g, 0, none⟩ v0).setCell ⟨g, 1, none⟩ v1).cell? ⟨g, 1, none⟩ = some v1 ∧ (((w.setCell ⟨g, 0, none⟩ v0).setCell ⟨g, 1, none⟩ v1).setCell ⟨g, 2, none⟩ v2).cell? ⟨g, 2, none⟩ = some v2 ∧
    ((((w.setCell ⟨g, 0, none⟩ v0).setCell ⟨g, 1, none⟩ v1).setCell ⟨g, 2, none⟩ v2).setCell ⟨g, 3, none⟩ v3).cell? ⟨g, 3, none⟩ = some v3 ∧ (((((w.setCell ⟨g, 0, none⟩ v0).setCell ⟨g, 1, none⟩ v1).setCell ⟨g, 2, none⟩ v2).setCell ⟨g, 3, none⟩ v3).setCell ⟨g, 4, none⟩ v4).cell? ⟨g, 4, none⟩ = some v4 ∧
    ((((((w.setCell ⟨g, 0, none⟩ v0).setCell ⟨g, 1, none⟩ v1).setCell ⟨g, 2, none⟩ v2).setCell ⟨g, 3, none⟩ v3).setCell ⟨g, 4, none⟩ v4).setCell ⟨g, 5, none⟩ v5).cell? ⟨g, 5, none⟩ = some v5 := by
  have h0 := h.set 0 v0
  have h1 := h0.set 1 v1
  have h2 := h1.set 2 v2
  have h3 := h2.set 3 v3
  have h4 := h3.set 4 v4
  have h5 := h4.set 5 v5
  exact ⟨h0.cell rfl, h1.cell rfl, h2.cell rfl, h3.cell rfl, h4.cell rfl, h5.cell rfl⟩
/-- The map of names and values, taken in an order. -/
def mapT (ks : List ByteArray) (ts : List Vt) (L : List Nat) : Vt := .mk 5 false 0 ⟨#[]⟩ (L.map fun p => ts.getD p (.mk 0 false 0 ⟨#[]⟩ [] [])) (L.map fun p => ks.getD p ⟨#[]⟩)
theorem range_getD {α : Type} (l : List α) (d : α) : (List.range l.length).map (fun p => l.getD p d) = l := by
  apply List.ext_getElem?
  intro i
  by_cases h : i < l.length
  · simp [h]
  · simp [h]
theorem perm_sum {l m : List Nat} (h : l.Perm m) : l.sum = m.sum := by
  induction h with
  | nil => rfl
  | cons x _ ih => simp [ih]
  | swap x y l => simp; omega
  | trans _ _ h1 h2 => exact h1.trans h2
theorem wt_mapT {ks : List ByteArray} {ts : List Vt} {L : List Nat} (h : L.Perm (List.range ks.length)) (hl : ks.length = ts.length) : wtV (mapT ks ts L) = 1 + (ks.map fun k => k.size + 1).sum + wtVs ts := by
  unfold mapT wtV
  rw [wtVs_sum, wtVs_sum, List.map_map, List.map_map]
  have h1 := perm_sum (h.map ((fun k : ByteArray => k.size + 1) ∘ fun p => ks.getD p ⟨#[]⟩))
  have h2 := perm_sum (h.map (wtV ∘ fun p => ts.getD p (.mk 0 false 0 ⟨#[]⟩ [] [])))
  rw [h1, h2, ← List.map_map, range_getD, hl, ← List.map_map, range_getD]
  show 1 + 0 + _ + _ = _
  omega
/-- These are the cells of the first k values, in that order. -/
def ValsOf (B : Nat) (w : World) (ts : List Vt) (L : List Nat) (vl : List (List Value)) (k : Nat) : Prop := vl.length = k ∧ ∀ (i : Nat) cs p t, vl[i]? = some cs → L[i]? = some p → ts[p]? = some t → cs.length = 6 ∧ IsV B w cs t
theorem ValsOf.snoc {B : Nat} {w : World} {ts : List Vt} {L : List Nat} {vl : List (List Value)} {k p : Nat} {cs : List Value} {t : Vt} (h : ValsOf B w ts L vl k) (hp : L[k]? = some p) (ht : ts[p]? = some t) (h6 : cs.length = 6) (hV : IsV B w cs t) : ValsOf B w ts L (vl ++ [cs]) (k + 1) := by
  refine ⟨by simp [h.1], fun i cs' p' t' h1 h2 h3 => ?_⟩
  by_cases hi : i < vl.length
  · rw [List.getElem?_append_left hi] at h1
    exact h.2 i cs' p' t' h1 h2 h3
  · have hik : i = k := by
      have := (List.getElem?_eq_some_iff.1 h1).1
      have := h.1
      simp at *
      omega
    subst hik
    rw [List.getElem?_append_right (by omega), h.1, Nat.sub_self] at h1
    cases h1
    rw [hp] at h2
    cases h2
    rw [ht] at h3
    cases h3
    exact ⟨h6, hV⟩
/-- The struct, filled, is the map. -/
theorem St.isV {X n kc lc B : Nat} {ka la : Option Addr} {w w2 wr : World} {ks : List ByteArray} {ts : List Vt} {L : List Nat} {vl : List (List Value)} (h : St X w2 wr (.slice ka n kc) (.slice la n lc) n n (L.map fun p => .string (ks.getD p ⟨#[]⟩)) (vl.flatMap fun cs => cs))
    (hv : ValsOf B w ts L vl n) (hL : L.length = n) (hm : ∀ p ∈ L, p < ts.length) (hB : Below w.heap.size w wr) (hBw : B ≤ w.heap.size) : IsV wr.heap.size wr [.int .i64 5, .bool false, .int .i64 0, .string ⟨#[]⟩, .slice la n lc, .slice ka n kc] (mapT ks ts L) := by
  unfold mapT IsV
  refine ⟨la, lc, ka, kc, by simp [hL], by unfold in64; omega, by unfold in64; omega, ?_, ?_, own_capz h.lo, own_capz h.ko, ?_, IsVs.mk fun i t hi => ?_⟩
  · have := own_cap h.lo; unfold maxLen at this; simp [hL]; omega
  · have := own_cap h.ko; unfold maxLen at this; simp [hL]; omega
  · have := own_cells_of h.ko
    unfold StrRow
    rw [List.map_map]
    exact this
  · rw [List.getElem?_map] at hi
    cases hp : L[i]? with
    | none => rw [hp] at hi; cases hi
    | some p =>
      rw [hp] at hi
      have hpt := hm p (List.mem_of_getElem? hp)
      obtain ⟨t', ht'⟩ := get_some hpt
      have hi' : t = t' := by
        injection hi with hi
        rw [← hi]
        show ts.getD p _ = t'
        rw [List.getD_eq_getElem?_getD, ht']
        rfl
      subst hi'
      have hil : i < vl.length := by have := (List.getElem?_eq_some_iff.1 hp).1; have := hv.1; omega
      obtain ⟨cs, hcs⟩ := get_some hil
      have h6 : ∀ o ∈ vl, (fun cs : List Value => cs) o = o ∧ o.length = 6 := fun o ho => by
        obtain ⟨q, hq⟩ := List.mem_iff_getElem?.1 ho
        have hql : q < L.length := by have := (List.getElem?_eq_some_iff.1 hq).1; have := hv.1; omega
        obtain ⟨p', hp'⟩ := get_some hql
        obtain ⟨t'', ht''⟩ := get_some (hm p' (List.mem_of_getElem? hp'))
        exact ⟨rfl, (hv.2 q o p' t'' hq hp' ht'').1⟩
      obtain ⟨b, off, h1, h2, h3⟩ := (own_cells_of h.lo).elem (fun o ho => (h6 o ho).2) (by omega) hcs
      exact ⟨b, off, cs, h1, h2, fun j v hj => by rw [Nat.zero_add]; exact h3 j v hj, IsV.mono (Nat.le_trans hBw hB.size) _ _ (IsV.below hB hBw _ _ (hv.2 i cs p t hcs hp ht').2)⟩
end Go.Proofs.Ytdkgjbjlpofieaa

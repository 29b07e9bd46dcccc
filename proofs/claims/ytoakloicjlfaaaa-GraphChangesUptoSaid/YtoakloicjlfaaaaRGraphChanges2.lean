/- The texts G25, G26, G42, G29, G27 of this seat, one behind the other. Conditions: each says its own. -/
import Derived.Deep.MidRow
import Derived.Test.YtoakloicjlfaaaaRGraphChanges1

/- Layer 14: rows of structs that are changed in place. Conditions: none. -/
namespace Go.Proofs.Ytoakloicjlfaaaa
open Go.RowKit
set_option linter.unusedSimpArgs false
set_option linter.unusedVariables false

/-- These cells are that element, whose own memory lies in blocks of P. -/
def Keeps {α : Type} (R : World → List Value → α → List Nat → Prop) (P : Nat → Prop) (w : World) (cs : List Value) (x : α) : Prop := ∃ bs, R w cs x bs ∧ ∀ b ∈ bs, P b
section
variable {α : Type} {R : World → List Value → α → List Nat → Prop} {P : Nat → Prop} {size : Nat} {w w' : World}
theorem Keeps.same (hR : OwnElem R size) {cs : List Value} {x : α} (h : Keeps R P w cs x) (hs : ∀ b, P b → w'.heap[b]? = w.heap[b]?) : Keeps R P w' cs x := by
 obtain ⟨bs, h1, h2⟩ := h
 exact ⟨bs, hR.same h1 (fun b hb => hs b (h2 b hb)), h2⟩
/-- One by one in place of cells. -/
def setMany : List Value → Nat → List Value → List Value
 | cl, _, [] => cl
 | cl, k, v :: vs => setMany (cl.set k v) (k + 1) vs
theorem setMany_eq : ∀ (cs cl : List Value) (k : Nat), k + cs.length ≤ cl.length → setMany cl k cs = cl.take k ++ cs ++ cl.drop (k + cs.length)
 | [], cl, k, _ => by simp [setMany]
 | v :: vs, cl, k, h => by
  have hk : k < cl.length := by simp at h; omega
  show setMany (cl.set k v) (k + 1) vs = _
  rw [setMany_eq vs (cl.set k v) (k + 1) (by simp at h ⊢; omega), List.set_eq_take_append_cons_drop, if_pos hk]
  have h1 : (cl.take k).length = k := by rw [List.length_take]; omega
  have e1 : List.take (k + 1) (cl.take k ++ v :: cl.drop (k + 1)) = cl.take k ++ [v] := by
   rw [List.take_append, h1, List.take_of_length_le (by omega), show k + 1 - k = 1 from by omega]; rfl
  have e2 : List.drop (k + 1 + vs.length) (cl.take k ++ v :: cl.drop (k + 1)) = cl.drop (k + (v :: vs).length) := by
   rw [List.drop_append, h1, List.drop_eq_nil_of_le (by omega), List.nil_append, show k + 1 + vs.length - k = vs.length + 1 from by omega, List.drop_succ_cons, List.drop_drop]
   congr 1
   simp; omega
  rw [e1, e2]
  simp
theorem FlatR.setAt {R : List Value → α → Prop} {cl cs : List Value} {l : List α} {i : Nat} {x : α} (h : FlatR R size cl l) (hx : R cs x) (hl : cs.length = size) (h1 : ∀ u ∈ cs, u.oneCell' = true) (hi : i < l.length) : FlatR R size (setMany cl (i * size) cs) (l.set i x) := by
 have h4 : i * size + size ≤ cl.length := by rw [h.len, ← Nat.succ_mul]; exact Nat.mul_le_mul_right _ hi
 rw [setMany_eq _ _ _ (by omega), List.set_eq_take_append_cons_drop, if_pos hi, hl]
 have h2 := ((h.take i (by omega)).append (FlatR.single hx hl h1)).append (h.drop (i + 1))
 rw [Nat.add_mul, Nat.one_mul] at h2
 simpa using h2
theorem own_set {base : Nat} {ty : TypeId} {g n c k : Nat} {cl : List Value} (h : w.ownsRow base ty size (.slice (some ⟨g, 0, none⟩) n c) n cl) (v : Value) : (w.setCell ⟨g, k, none⟩ v).ownsRow base ty size (.slice (some ⟨g, 0, none⟩) n c) n (cl.set k v) := by
 obtain ⟨h1, h2⟩ := h
 refine ⟨by simpa using h1, ?_⟩
 rcases h2 with ⟨h2, _⟩ | ⟨g', cap, cur, e1, e2, e3, e4, e5, e6, e7⟩
 ·cases h2
 ·injection e1 with e1 _ ec
  injection e1 with e1
  injection e1 with e1
  subst e1 ec
  have hb : Block w g cur.toList ty := by unfold Block; simpa using e3
  have hs := hb.set k v
  refine .inr ⟨g, c, cur.setIfInBounds k v, rfl, e2, ?_, e4, e5, by simpa using e6, ?_⟩
  ·unfold Block at hs
   rw [hs]
   congr 2
   apply Array.ext'
   simp
  ·rw [Array.toList_setIfInBounds, List.take_set, e7]
theorem own_cell {base : Nat} {ty : TypeId} {g n c k : Nat} {cl : List Value} {v : Value} (h : w.ownsRow base ty size (.slice (some ⟨g, 0, none⟩) n c) n cl) (hk : cl[k]? = some v) : w.cell? ⟨g, k, none⟩ = some v := by
 obtain ⟨a, c', e, _, hc⟩ := own_cells h
 injection e with e1
 subst e1
 rcases hc with hc | ⟨b, off, e1, _, hc⟩
 ·rw [hc] at hk; cases hk
 ·injection e1 with e1
  injection e1 with e1 e2
  subst e1 e2
  have := hc k v hk
  rwa [Nat.zero_add] at this
theorem own_free {base : Nat} {ty : TypeId} {g n c k : Nat} {cl : List Value} (h : w.ownsRow base ty size (.slice (some ⟨g, 0, none⟩) n c) n cl) : w.frozen? ⟨g, k, none⟩ = false := by
 obtain ⟨_, h2⟩ := h
 rcases h2 with ⟨h2, _⟩ | ⟨g', cap, cur, e1, _, e3, _⟩
 ·cases h2
 ·injection e1 with e1
  injection e1 with e1
  injection e1 with e1
  subst e1
  simp [World.frozen?, e3]
theorem own_some {base : Nat} {ty : TypeId} {a : Option Addr} {n c : Nat} {cl : List Value} (h : w.ownsRow base ty size (.slice a n c) n cl) (hn : 0 < n) : ∃ g, a = some ⟨g, 0, none⟩ ∧ base ≤ g ∧ g < w.heap.size := by
 obtain ⟨_, h2⟩ := h
 rcases h2 with ⟨_, h2⟩ | ⟨g', cap, cur, e1, e2, e3, _⟩
 ·omega
 ·injection e1 with e1
  exact ⟨g', e1, e2, (Array.getElem?_eq_some_iff.1 e3).1⟩
theorem IsRows.flat {cl : List Value} {bs : List Nat} {l : List α} (hR : OwnElem R size) (h : IsRows (R w) size cl 0 l bs) (hl : cl.length = l.length * size) (h1 : ∀ cs x b, R w cs x b → ∀ u ∈ cs, u.oneCell' = true) (hs : 0 < size) : FlatR (Keeps R (· ∈ bs) w) size cl l := by
 have hget : ∀ (i : Nat) (o : α), l[i]? = some o → ∃ cs, cs.length = size ∧ (cl.drop (i * size)).take size = cs ∧ ∃ b, R w cs o b ∧ ∀ q ∈ b, q ∈ bs := fun i o ho => by
  obtain ⟨cs, c1, c2, c3, g1, g2, g3⟩ := isRows_all l 0 bs h i o ho
  rw [Nat.zero_add] at g2
  have hi : i < l.length := (List.getElem?_eq_some_iff.1 ho).1
  have h4 : i * size + size ≤ cl.length := by rw [hl, ← Nat.succ_mul]; exact Nat.mul_le_mul_right _ hi
  refine ⟨cs, hR.len g3, List.ext_getElem? fun j => ?_, c2, g3, fun q hq => by rw [g1]; simp [hq]⟩
  by_cases hj : j < size
  ·rw [List.getElem?_take_of_lt hj, List.getElem?_drop]
   have := hR.len g3
   rw [g2 j cs[j] (List.getElem?_eq_getElem (by omega)), List.getElem?_eq_getElem (by omega)]
  ·rw [List.getElem?_eq_none (by rw [List.length_take]; omega), List.getElem?_eq_none (by have := hR.len g3; omega)]
 refine ⟨hl, fun u hu => ?_, fun i o ho => ?_⟩
 ·obtain ⟨k, hk⟩ := List.getElem?_of_mem hu
  have hkl : k < l.length * size := by have := (List.getElem?_eq_some_iff.1 hk).1; omega
  have hq : k / size < l.length := Nat.div_lt_of_lt_mul (by rwa [Nat.mul_comm])
  obtain ⟨cs, e1, e2, b, e3, _⟩ := hget (k / size) _ (List.getElem?_eq_getElem hq)
  have hm := Nat.mod_lt k hs
  have e : k / size * size + k % size = k := by rw [Nat.mul_comm]; exact Nat.div_add_mod k size
  have h5 : cs[k % size]? = some u := by rw [← e2, List.getElem?_take_of_lt hm, List.getElem?_drop, e]; exact hk
  exact h1 _ _ _ e3 u (List.mem_of_getElem? h5)
 ·obtain ⟨cs, _, e2, b, e3, e4⟩ := hget i o ho
  rw [e2]; exact ⟨b, e3, e4⟩
theorem IsNO.one : ∀ (cs : List Value) (n : Nt) (b : List Nat), IsNO w cs n b → ∀ u ∈ cs, u.oneCell' = true := by
 intro cs n b ⟨la, lc, ka, kc, va, vc, b1, b2, b3, h, _⟩ u hu
 subst h
 simp at hu
 rcases hu with rfl | rfl | rfl | rfl <;> rfl
theorem IsEO.one : ∀ (cs : List Value) (n : Et) (b : List Nat), IsEO w cs n b → ∀ u ∈ cs, u.oneCell' = true := by
 intro cs n b ⟨ka, kc, va, vc, b2, b3, h, _⟩ u hu
 subst h
 simp at hu
 rcases hu with rfl | rfl | rfl | rfl | rfl | rfl <;> rfl
/-- The row of such a state, as it is read. -/
theorem FlatR.ownRow {R' : List Value → α → Prop} {base : Nat} {ty : TypeId} {a : Option Addr} {n c : Nat} {cl : List Value} {l : List α} (hf : FlatR (Keeps R P w) size cl l) (hown : w.ownsRow base ty size (.slice a n c) n cl) (hs : 0 < size) (hR : ∀ cs x, Keeps R P w cs x → R' cs x) : SlOk a n c ∧ RowR R' size w.heap.size w a l := by
 obtain ⟨a', c', e, h1, h2⟩ := own_cells hown
 injection e with e1 _ e3
 subst e1 e3
 exact ⟨h1, (hf.mono hR).row hs h2⟩
end
theorem swap_list {α : Type} {l : List α} {n y : α} {m : Nat} (hy : l[m]? = some y) : ((l.take (m + 1) ++ n :: l.drop (m + 1)).set (m + 1) y).set m n = l.take m ++ n :: l.drop m := by
 have hm : m < l.length := (List.getElem?_eq_some_iff.1 hy).1
 have e1 : l.take (m + 1) = l.take m ++ [y] := take_succ_some hy
 have e2 : l.drop m = y :: l.drop (m + 1) := drop_some hy
 have hl : (l.take m).length = m := by rw [List.length_take]; omega
 rw [e1, e2, List.append_assoc, List.singleton_append]
 rw [List.set_append, hl, if_neg (by omega), show m + 1 - m = 1 from by omega]
 show (l.take m ++ y :: y :: l.drop (m + 1)).set m n = _
 rw [List.set_append, hl, if_neg (by omega), Nat.sub_self]
 rfl
end Go.Proofs.Ytoakloicjlfaaaa

/- Layer 14: a row that is changed in place, step by step. Conditions: none. -/
namespace Go.Proofs.Ytoakloicjlfaaaa
open Go.RowKit
set_option linter.unusedSimpArgs false
set_option linter.unusedVariables false

/-- Cells stored one behind the other. -/
abbrev setW (w : World) (g k : Nat) (cs : List Value) : World := w.setCells g k cs
theorem setW_other : ∀ (cs : List Value) (w : World) (g k q : Nat), q ≠ g → (setW w g k cs).heap[q]? = w.heap[q]?
 | [], _, _, _, _, _ => rfl
 | v :: vs, w, g, k, q, h => (setW_other vs _ g (k + 1) q h).trans (Below.heap_setCell _ _ _ _ h)
theorem setW_size : ∀ (cs : List Value) (w : World) (g k : Nat), (setW w g k cs).heap.size = w.heap.size
 | [], _, _, _ => rfl
 | v :: vs, w, g, k => (setW_size vs _ g (k + 1)).trans (by simp [World.setCell])
theorem setW_own {ty : TypeId} {size base g n c : Nat} : ∀ (cs : List Value) (w : World) (k : Nat) (cl : List Value), w.ownsRow base ty size (.slice (some ⟨g, 0, none⟩) n c) n cl → (setW w g k cs).ownsRow base ty size (.slice (some ⟨g, 0, none⟩) n c) n (setMany cl k cs)
 | [], _, _, _, h => h
 | v :: vs, w, k, cl, h => setW_own vs _ (k + 1) _ (own_set h v)
theorem Bx.far {w W : World} {L : List (List Value × TypeId)} (h : Bx w L W) {g : Nat} (hg : w.heap.size + L.length ≤ g) (k : Nat) (v : Value) : Bx w L (W.setCell ⟨g, k, none⟩ v) :=
 ⟨h.bel.setCell (by show w.heap.size ≤ g; omega) v, by simp [World.setCell]; exact h.len, fun i c t hi => (h.blk i c t hi).set_other (by have := (List.getElem?_eq_some_iff.1 hi).1; simp; omega) v⟩
theorem Bx.drew {w W : World} {L : List (List Value × TypeId)} (h : Bx w L W) : Bx w L W.drew := ⟨h.bel.drew, h.len, fun i c t hi => (h.blk i c t hi).drew⟩
theorem setW_bx {w : World} {L : List (List Value × TypeId)} {g : Nat} (hg : w.heap.size + L.length ≤ g) : ∀ (cs : List Value) (W : World) (k : Nat), Bx w L W → Bx w L (setW W g k cs)
 | [], _, _, h => h
 | v :: vs, W, k, h => setW_bx hg vs _ (k + 1) (h.far hg k v)
theorem own_there {ty : TypeId} {size base g n c k m : Nat} {cl : List Value} {w : World} (h : w.ownsRow base ty size (.slice (some ⟨g, 0, none⟩) n c) n cl) (hk : k + m ≤ cl.length) : w.there g k m := fun j hj => ⟨by rw [own_cell h (List.getElem?_eq_getElem (show k + j < cl.length by omega))]; rfl, own_free h⟩
theorem own_thereAt {ty : TypeId} {size base g n c p : Nat} {cl : List Value} {w : World} (h : w.ownsRow base ty size (.slice (some ⟨g, 0, none⟩) n c) n cl) (hp : p < n) : w.there g (p * size) size :=
 own_there h (by rw [h.1, ← Nat.succ_mul]; exact Nat.mul_le_mul_right _ hp)
theorem Block.there {w : World} {b : Nat} {cs : List Value} {t : TypeId} (h : Block w b cs t) : w.there b 0 cs.length := fun j hj => ⟨by rw [h.cell (show cs[0 + j]? = some (cs[0 + j]'(by omega)) from List.getElem?_eq_getElem _)]; rfl, h.free _⟩
theorem step_store_mid {P : Program} {ops : Array Oper} {o : Oper} {a : Act} {w : World} {K : Act → World → Prop} {Q : Exit → Act → World → Prop} {E : Prop} (hgd : o.guard = none) (ty : TypeId) (x y : Operand) (ho : o.op = .store ty x y)
    (b k : Nat) (cells : Array Value) (hx : a.eval x = .pointer (some ⟨b, k, none⟩)) (hy : a.eval y = .agg cells) (ht : w.there b k cells.size) (hi : (P.info? ty).map (·.size) = some cells.size) (h1 : cells.all (·.oneCell') = true)
    (h : K (a.put o.dst undef) (w.setCells b k cells.toList)) : if Region.wanted o (yielded ops a.tmps) = true then Oper.wp P o a w K Q else E := by
  rw [if_pos (by simp [Region.wanted, hgd])]
  exact wp_store_mid ty x y ho b k cells hx hy ht hi h1 h
/-- The row in block g is changed, and nothing else is (since wz). -/
structure InsSt {α : Type} (R : World → List Value → α → List Nat → Prop) (P : Nat → Prop) (ty : TypeId) (size B1 : Nat) (w : World) (L : List (List Value × TypeId)) (g c m : Nat) (wz : World) (l : List α) (cl : List Value) (wr : World) : Prop where
 bx : Bx w L wr
 ln : l.length = m
 own : wr.ownsRow B1 ty size (.slice (some ⟨g, 0, none⟩) m c) m cl
 flat : FlatR (Keeps R P wr) size cl l
 kp : ∀ q, q ≠ g → wr.heap[q]? = wz.heap[q]?
 sz : wr.heap.size = wz.heap.size
section
variable {α : Type} {R : World → List Value → α → List Nat → Prop} {P : Nat → Prop} {ty : TypeId} {size B1 g c m : Nat} {w wz wr : World} {L : List (List Value × TypeId)} {l : List α} {cl cs : List Value} {x : α}
theorem InsSt.drew (hR : OwnElem R size) (h : InsSt R P ty size B1 w L g c m wz l cl wr) : InsSt R P ty size B1 w L g c m wz l cl wr.drew :=
 ⟨h.bx.drew, h.ln, own_of_heap h.own fun _ _ => rfl, h.flat.mono fun _ _ hk => hk.same hR fun _ _ => rfl, h.kp, h.sz⟩
theorem InsSt.put (hR : OwnElem R size) (h : InsSt R P ty size B1 w L g c m wz l cl wr) (hg : w.heap.size + L.length ≤ g) (hP : ∀ q, P q → q ≠ g) {i : Nat} (hi : i < l.length) (hx : Keeps R P wr cs x) (h1 : ∀ u ∈ cs, u.oneCell' = true) :
    InsSt R P ty size B1 w L g c m wz (l.set i x) (setMany cl (i * size) cs) (setW wr g (i * size) cs) := by
  have hk : ∀ cs' y, Keeps R P wr cs' y → Keeps R P (setW wr g (i * size) cs) cs' y := fun _ _ h => h.same hR fun q hq => setW_other _ _ _ _ _ (hP q hq)
  refine ⟨setW_bx hg _ _ _ h.bx, by rw [List.length_set]; exact h.ln, setW_own _ _ _ _ h.own, (h.flat.mono hk).setAt (hk _ _ hx) (by obtain ⟨_, h2, _⟩ := hx; exact hR.len h2) h1 hi, fun q hq => (setW_other _ _ _ _ _ hq).trans (h.kp q hq), (setW_size _ _ _ _).trans h.sz⟩
theorem RowG.keep {lv : Value} {j : Nat} {bs : List Nat} {w' : World} (hR : OwnElem R size) (h : RowG R ty size B1 wr lv j cl l bs) (hs : ∀ q, q ∈ bs ∨ lv.ownBlock = some q → w'.heap[q]? = wr.heap[q]?) (hz : wr.heap.size ≤ w'.heap.size) : RowG R ty size B1 w' lv j cl l bs :=
 ⟨own_of_heap h.own fun k e => hs k (.inr e), h.os.same hR l 0 bs fun b hb' => hs b (.inl hb'), h.nd, fun b hb' => ⟨(h.lt b hb').1, Nat.lt_of_lt_of_le (h.lt b hb').2 hz⟩, h.ne, h.len⟩
theorem RowG.flat {lv : Value} {j : Nat} {bs : List Nat} (hR : OwnElem R size) (h1 : ∀ w cs x b, R w cs x b → ∀ u ∈ cs, u.oneCell' = true) (hs : 0 < size) (h : RowG R ty size B1 wr lv j cl l bs) : FlatR (Keeps R (· ∈ bs) wr) size cl l :=
 h.os.flat hR (by rw [h.own.1, h.len]) (h1 wr) hs
theorem FlatR.grow {cl cs : List Value} {Y : Obj} {w5 w7 : World} {row : Option Nat} (hR : OwnElem R size) (hf : FlatR (Keeps R P w5) size cl l) (hx : Keeps R P w5 cs x) (h1 : ∀ u ∈ cs, u.oneCell' = true) (hgrow : (w5.alloc Y).grownBy w7 row) (hP : ∀ q, P q → q < w5.heap.size ∧ row ≠ some q) :
    FlatR (Keeps R P w7) size (cl ++ cs) (l ++ [x]) := by
  have hk : ∀ cs' y, Keeps R P w5 cs' y → Keeps R P w7 cs' y := fun _ _ h => h.same hR fun q hq => by
    rw [hgrow.block q (by simp; have := (hP q hq).1; omega) (fun e => (hP q hq).2 e.symm)]
    exact Below.heap_alloc _ _ _ (hP q hq).1
  exact (hf.mono hk).append (FlatR.single (hk _ _ hx) (by obtain ⟨_, h2, _⟩ := hx; exact hR.len h2) h1)
theorem Keeps.imp {P' : Nat → Prop} {cs : List Value} (h : Keeps R P w cs x) (hP : ∀ q, P q → P' q) : Keeps R P' w cs x := by
 obtain ⟨bs, h1, h2⟩ := h
 exact ⟨bs, h1, fun b hb => hP b (h2 b hb)⟩
end
theorem RowG.readN {B1 : Nat} {wr : World} {a : Option Addr} {n c : Nat} {cl : List Value} {l : List Nt} {bs : List Nat} {ty : TypeId} (h : RowG IsNO ty 4 B1 wr (.slice a n c) n cl l bs) : SlOk a n c ∧ RowR (IsN wr.heap.size wr) 4 wr.heap.size wr a l :=
 (h.flat ownIsNO (fun _ => IsNO.one) (by decide)).ownRow h.own (by decide) (fun cs x ⟨b, h1, h2⟩ => h1.isN (fun q hq => (h.lt q (h2 q hq)).2))
theorem RowG.readE {B1 : Nat} {wr : World} {a : Option Addr} {n c : Nat} {cl : List Value} {l : List Et} {bs : List Nat} {ty : TypeId} (h : RowG IsEO ty 6 B1 wr (.slice a n c) n cl l bs) : SlOk a n c ∧ RowR (IsE wr.heap.size wr) 6 wr.heap.size wr a l :=
 (h.flat ownIsEO (fun _ => IsEO.one) (by decide)).ownRow h.own (by decide) (fun cs x ⟨b, h1, h2⟩ => h1.isE (fun q hq => (h.lt q (h2 q hq)).2))
/-- The graph lies in blocks from M on: it is read alike wherever these stand as in W. -/
def Lies (M : Nat) (W : World) (cs : List Value) (g : Gt) : Prop := ∀ u : World, W.heap.size ≤ u.heap.size → (∀ q, M ≤ q → q < W.heap.size → u.heap[q]? = W.heap[q]?) → IsG u.heap.size u cs g
theorem Lies.mono {M M' : Nat} {W : World} {cs : List Value} {g : Gt} (h : Lies M W cs g) (hM : M' ≤ M) : Lies M' W cs g := fun u h1 h2 => h u h1 (fun q h3 h4 => h2 q (Nat.le_trans hM h3) h4)
/-- What comes is a code and a graph that can be read, in new memory. -/
def ResK (r : Int × Gt) (w : World) (e : Ending) (w' : World) : Prop :=
 ∃ cs, e = .returned (.tuple #[.agg cs.toArray, .int .i64 r.1]) ∧ Below w.heap.size w w' ∧ Lies w.heap.size w' cs r.2
theorem IsGO.lies {w : World} {cs : List Value} {g : Gt} {bs : List Nat} {M : Nat} (h : IsGO w cs g bs) (hs : ∀ b ∈ bs, M ≤ b ∧ b < w.heap.size) : Lies M w cs g :=
 fun u h1 h2 => (h.same fun b hb => h2 b (hs b hb).1 (hs b hb).2).isG (fun b hb => Nat.lt_of_lt_of_le (hs b hb).2 h1)
theorem ResP.resK {r : Int × Gt} {w w' : World} {e : Ending} (h : ResP r w e w') : ResK r w e w' := by
 obtain ⟨cs, bs, h1, h2, h3, h4, h5⟩ := h
 exact ⟨cs, h1, h2, h3.lies h5⟩
/-- The end: the graph is told out of a box of its own. -/
theorem ins_node {P : Nat → Prop} {B1 g c m M : Nat} {w wz wr W : World} {L : List (List Value × TypeId)} {l : List Nt} {cl c2 : List Value} {b2 : List Nat} {e : Option Addr} {ec b : Nat} {es : List Et}
    (h : InsSt IsNO P 38 4 B1 w L g c m wz l cl wr) (ho : RowG IsEO 40 6 M wz (.slice e es.length ec) es.length c2 es b2) (hK : ∀ q, q ∈ b2 ∨ (Value.slice e es.length ec).ownBlock = some q → q ≠ g ∧ b + 1 ≤ q) (hP : ∀ q, P q → b + 1 ≤ q ∧ q < wr.heap.size) (hgb : b + 1 ≤ g)
    (hW : ∀ q, q ≠ b → W.heap[q]? = wr.heap[q]?) (hz : W.heap.size = wr.heap.size) : Lies (b + 1) W [.slice (some ⟨g, 0, none⟩) m c, .slice e es.length ec] ⟨l, es⟩ := by
  intro u hzu hu
  have hW' : ∀ q, b + 1 ≤ q → q < wr.heap.size → u.heap[q]? = wr.heap[q]? := fun q h1 h2 => by rw [hu q h1 (by rw [hz]; exact h2), hW q (by omega)]
  have hk : ∀ cs y, Keeps IsNO P wr cs y → Keeps IsNO P u cs y := fun _ _ h => h.same ownIsNO fun q hq => hW' q (hP q hq).1 (hP q hq).2
  have h1 := (h.flat.mono hk).ownRow (R' := IsN u.heap.size u) (own_of_heap h.own fun k e => hW' k (by injection e with e; subst e; exact hgb) (h.own.lt k e).2) (by decide) (fun cs x ⟨b, h1, h2⟩ => h1.isN (fun q hq => by have := (hP q (h2 q hq)).2; omega))
  have h2 := (ho.keep ownIsEO (w' := u) (fun q hq => by rw [hW' q (hK q hq).2 (by rw [h.sz]; rcases hq with hq | hq; exact (ho.lt q hq).2; exact (ho.own.lt q hq).2), h.kp q (hK q hq).1]) (by have := h.sz; omega)).readE
  have hln := h.ln
  subst hln
  exact ⟨_, _, _, _, rfl, h1.1, h2.1, h1.2, h2.2⟩
theorem ins_edge {P : Nat → Prop} {B1 g c m M : Nat} {w wz wr W : World} {L : List (List Value × TypeId)} {l : List Et} {cl c2 : List Value} {b2 : List Nat} {e : Option Addr} {ec b : Nat} {es : List Nt}
    (h : InsSt IsEO P 40 6 B1 w L g c m wz l cl wr) (ho : RowG IsNO 38 4 M wz (.slice e es.length ec) es.length c2 es b2) (hK : ∀ q, q ∈ b2 ∨ (Value.slice e es.length ec).ownBlock = some q → q ≠ g ∧ b + 1 ≤ q) (hP : ∀ q, P q → b + 1 ≤ q ∧ q < wr.heap.size) (hgb : b + 1 ≤ g)
    (hW : ∀ q, q ≠ b → W.heap[q]? = wr.heap[q]?) (hz : W.heap.size = wr.heap.size) : Lies (b + 1) W [.slice e es.length ec, .slice (some ⟨g, 0, none⟩) m c] ⟨es, l⟩ := by
  intro u hzu hu
  have hW' : ∀ q, b + 1 ≤ q → q < wr.heap.size → u.heap[q]? = wr.heap[q]? := fun q h1 h2 => by rw [hu q h1 (by rw [hz]; exact h2), hW q (by omega)]
  have hk : ∀ cs y, Keeps IsEO P wr cs y → Keeps IsEO P u cs y := fun _ _ h => h.same ownIsEO fun q hq => hW' q (hP q hq).1 (hP q hq).2
  have h1 := (h.flat.mono hk).ownRow (R' := IsE u.heap.size u) (own_of_heap h.own fun k e => hW' k (by injection e with e; subst e; exact hgb) (h.own.lt k e).2) (by decide) (fun cs x ⟨b, h1, h2⟩ => h1.isE (fun q hq => by have := (hP q (h2 q hq)).2; omega))
  have h2 := (ho.keep ownIsNO (w' := u) (fun q hq => by rw [hW' q (hK q hq).2 (by rw [h.sz]; rcases hq with hq | hq; exact (ho.lt q hq).2; exact (ho.own.lt q hq).2), h.kp q (hK q hq).1]) (by have := h.sz; omega)).readN
  have hln := h.ln
  subst hln
  exact ⟨_, _, _, _, rfl, h2.1, h1.1, h2.2, h1.2⟩
/-- Where a number is to stand: behind all that are less. -/
theorem posI_of {l : List Int} {id : Int} {j : Nat} (hr : RiseI l) (hno : hasI l id = false) (hj : j ≤ l.length) (h1 : ∀ (i : Nat) x, j ≤ i → l[i]? = some x → id < x) (h2 : ∀ x, j ≠ 0 → l[j - 1]? = some x → ¬ id < x) : posI l id = j := by
 refine posI_eq hj (fun i x hi hx => ?_) (fun x hx => by have := h1 j x (Nat.le_refl _) hx; omega)
 obtain ⟨y, hy⟩ := get_some (l := l) (j := j - 1) (by omega)
 have h3 := h2 y (by omega) hy
 have hne : x ≠ id := by
  intro e
  subst e
  have hp : posI l x = i := posI_eq (by omega) (fun k z hk hz => hr k i z x hk hz hx) (fun z hz => by rw [hx] at hz; injection hz with hz; omega)
  unfold hasI at hno
  rw [hp] at hno
  have := of_decide_eq_false hno
  exact this hx
 rcases Nat.lt_or_ge i (j - 1) with h | h
 ·have := hr i (j - 1) x y h hx hy; omega
 ·rw [show i = j - 1 from by omega, hy] at hx
  injection hx with hx
  omega
end Go.Proofs.Ytoakloicjlfaaaa

/- Layer 14: a change (wattlelaw14.Op), as it is read, and what it comes to. Conditions: none. -/
namespace Go.Proofs.Ytoakloicjlfaaaa
open Go.RowKit Go.Deep Go.ChangeShapes Go.WideShapes
set_option linter.unusedSimpArgs false
set_option linter.unusedVariables false
set_option maxRecDepth 100000

structure Opt where
 kind : Int
 n : Nt
 e : Et
 id : Int
def IsOp (B : Nat) (w : World) (cs : List Value) (o : Opt) : Prop := ∃ cn ce, cs = .int .i64 o.kind :: (cn ++ (ce ++ [.int .i64 o.id])) ∧ in64 o.kind ∧ in64 o.id ∧ IsN B w cn o.n ∧ IsE B w ce o.e
def wtO (o : Opt) : Nat := wtN o.n + wtE o.e
theorem IsOp.below {B B' : Nat} {w w' : World} {cs : List Value} {o : Opt} (h : IsOp B w cs o) (hb : Below B' w w') (hB : B ≤ B') : IsOp B w' cs o := by
 obtain ⟨cn, ce, h1, h2, h3, h4, h5⟩ := h
 exact ⟨cn, ce, h1, h2, h3, h4.below hb hB, h5.below hb hB⟩
theorem field_trodN {H : Type} {enc : TypeId × Value → H} {P : Program} {w : World} {base : Nat} {spare : Nat → Bool} {held : Bool} {fs : Array Field} {m : Nat} {cs : List Value} {xs : List (DataW H × List MemPlace)}
    (hl : xs.length = fs.size) (hf : ∀ (i : Nat) (f : Field), fs[i]? = some f → DataW.trod enc P w base spare held m f.type ((cs.drop f.offset).take (P.cellsOf f.type)) = xs[i]?)
    (i : Nat) (f : Field) (hi : fs[i]? = some f) {k : Nat} (hc : P.cellsOf f.type = k) : ∃ y, xs[i]? = some y ∧ DataW.trod enc P w base spare held m f.type ((cs.drop f.offset).take k) = some y := by
  have h1 := hf i f hi
  have h2 := (Array.getElem?_eq_some_iff.1 hi).1
  rw [hc] at h1
  exact ⟨_, List.getElem?_eq_getElem (by omega), h1.trans (List.getElem?_eq_getElem (by omega))⟩
section
variable {H : Type} {enc : TypeId × Value → H} {w : World} {base : Nat} {spare : Nat → Bool} {held : Bool}
theorem open_op {fuel : Nat} {cs : List Value} {x : DataW H × List MemPlace} (h : DataW.trod enc Try.prog w base spare held fuel 42 cs = some x) : ∃ o : Opt, IsOp w.heap.size w cs o ∧ wtO o ≤ Rows.uptoBulk x.1 := by
 obtain ⟨xs, n, _, hx, hcl, hxl, hf⟩ := DataW.trod_struct Try.underlying42 h
 have hcl2 : cs.length = 12 := hcl.trans (by kernel_rfl)
 obtain ⟨c0, c1, c2, c3, c4, c5, c6, c7, c8, c9, c10, c11, rfl⟩ : ∃ c0 c1 c2 c3 c4 c5 c6 c7 c8 c9 c10 c11, cs = [c0, c1, c2, c3, c4, c5, c6, c7, c8, c9, c10, c11] := by
  match cs, hcl2 with
  | [c0, c1, c2, c3, c4, c5, c6, c7, c8, c9, c10, c11], _ => exact ⟨c0, c1, c2, c3, c4, c5, c6, c7, c8, c9, c10, c11, rfl⟩
 obtain ⟨y0, e0, t0⟩ := field_trod hxl hf 0 _ rfl (by kernel_rfl) c0 rfl
 obtain ⟨y1, e1, t1⟩ := field_trodN hxl hf 1 _ rfl (k := 4) (by kernel_rfl)
 obtain ⟨y2, e2, t2⟩ := field_trodN hxl hf 2 _ rfl (k := 6) (by kernel_rfl)
 obtain ⟨y3, e3, t3⟩ := field_trod hxl hf 3 _ rfl (by kernel_rfl) c11 rfl
 obtain ⟨z0, z1, z2, z3, rfl⟩ := list4 (show xs.length = 4 from hxl)
 simp at e0 e1 e2 e3
 subst e0 e1 e2 e3
 obtain ⟨n0, g0, -, w0⟩ := DataW.trod_int Try.underlying3 t0
 obtain ⟨n3, g3, -, w3⟩ := DataW.trod_int Try.underlying2 t3
 obtain ⟨xn, h1, k1⟩ := open_node t1
 obtain ⟨xe, h2, k2⟩ := open_edge t2
 injection g0 with g0
 injection g3 with g3
 subst g0 g3
 refine ⟨⟨n0, xn, xe, n3⟩, ⟨[c1, c2, c3, c4], [c5, c6, c7, c8, c9, c10], rfl, in64_of_wf w0, in64_of_wf w3, h1, h2⟩, ?_⟩
 rw [hx]
 simp only [wtO, Rows.uptoBulk, Rows.uptoBulkAll, List.map_cons, List.map_nil]
 omega
theorem gopsOpen {fuel : Nat} {a : Option Addr} {len cap : Nat} {x : DataW H × List MemPlace} (h : DataW.trod enc Try.prog w base spare held fuel 30 [.slice a len cap] = some x) :
    ∃ os : List Opt, os.length = len ∧ (os.map wtO).sum + 1 ≤ Rows.uptoBulk x.1 ∧ SlOk a os.length cap ∧ RowR (IsOp w.heap.size w) 12 w.heap.size w a os := by
  obtain ⟨a', cap', os, h1, h2, h3, h4, h5⟩ := open_rowsP (IsOp w.heap.size w) wtO 12 Try.underlying30 (by kernel_rfl) (by omega) (fun n cs y hy _ hh => open_op hh) h
  injection h1 with e1 e2 e3
  subst e1 e2 e3
  exact ⟨os, rfl, h4, ⟨h2, h3⟩, h5⟩
end
/-- What a change comes to. -/
def chG (g : Gt) (o : Opt) : Int × Gt := if o.kind = 0 then putG g o.n else if o.kind = 1 then joinG g o.e else if o.kind = 2 then dropG g o.id else cutG g o.id
/-- A graph that can be changed, of at most k nodes, and edges. -/
structure OkC (k : Nat) (g : Gt) : Prop where
 rn : RiseI (idsN g)
 re : RiseI (idsE g)
 ln : g.nodes.length ≤ k
 le : g.edges.length ≤ k
 sn : ∀ (j : Nat) n, g.nodes[j]? = some n → SmN n
 se : ∀ (j : Nat) n, g.edges[j]? = some n → SmE n
theorem OkC.sm {k : Nat} {g : Gt} (h : OkC k g) (hk : k ≤ 1048576) : SmG g := ⟨⟨by have := h.ln; omega, by have := h.le; omega⟩, h.sn, h.se⟩
theorem OkC.mono {k k' : Nat} {g : Gt} (h : OkC k g) (hk : k ≤ k') : OkC k' g := ⟨h.rn, h.re, by have := h.ln; omega, by have := h.le; omega, h.sn, h.se⟩
theorem OkC.no (k : Nat) : OkC k noG := by
 refine ⟨?_, ?_, by simp [noG], by simp [noG], ?_, ?_⟩
 ·intro i j x y _ hx; simp [noG, idsN] at hx
 ·intro i j x y _ hx; simp [noG, idsE] at hx
 ·intro j n hj; simp [noG] at hj
 ·intro j n hj; simp [noG] at hj
theorem setL_mapB {α β : Type} (f : α → β) (l : List α) (p : Nat) (is : Bool) (x : α) : (setL l p is x).map f = setL (l.map f) p is (f x) := by
 unfold setL
 rw [List.map_append, List.map_cons, List.map_take, List.map_drop]
theorem setL_len {α : Type} {l : List α} {p : Nat} {is : Bool} {x : α} : (setL l p is x).length ≤ l.length + 1 := by
 unfold setL
 rw [List.length_append, List.length_cons, List.length_take, List.length_drop]
 cases is <;> simp <;> omega
/-- A list of numbers in which one is set. -/
theorem set_rise {l : List Int} {id : Int} (hr : RiseI l) : RiseI (setL l (posI l id) (hasI l id) id) := by
 cases h : hasI l id with
 | false => exact (ins_rise hr h).1
 | true =>
  have hp : l[posI l id]? = some id := by unfold hasI at h; exact of_decide_eq_true h
  obtain ⟨h1, h2⟩ := List.getElem?_eq_some_iff.1 hp
  have e : setL l (posI l id) true id = l := by
   show l.take (posI l id) ++ (id :: l.drop (posI l id + 1)) = l
   rw [← drop_some hp, List.take_append_drop]
  rw [e]; exact hr
theorem away_rise {l : List Int} {p : Nat} (hr : RiseI l) : RiseI (l.take p ++ l.drop (p + 1)) := by
 have hg : ∀ (i : Nat) x, (l.take p ++ l.drop (p + 1))[i]? = some x → l[if i < p then i else i + 1]? = some x := fun i x hx => by
  by_cases hp : p ≤ l.length
  ·have ht : (l.take p).length = p := by rw [List.length_take]; omega
   by_cases hi : i < p
   ·rw [List.getElem?_append_left (by omega), List.getElem?_take_of_lt hi] at hx
    rw [if_pos hi]; exact hx
   ·rw [List.getElem?_append_right (by omega), ht, List.getElem?_drop] at hx
    rw [if_neg hi, show i + 1 = p + 1 + (i - p) from by omega]; exact hx
  ·rw [List.take_of_length_le (by omega), List.drop_eq_nil_of_le (by omega), List.append_nil] at hx
   have := (List.getElem?_eq_some_iff.1 hx).1
   rw [if_pos (by omega)]; exact hx
 intro i j x y hij hx hy
 have h1 := hg i x hx
 have h2 := hg j y hy
 refine hr _ _ x y ?_ h1 h2
 split <;> split <;> omega
theorem mem_away {α : Type} {l : List α} {p j : Nat} {x : α} (h : (l.take p ++ l.drop (p + 1))[j]? = some x) : ∃ k : Nat, l[k]? = some x := by
 rcases List.mem_append.1 (List.mem_of_getElem? h) with hm | hm
 ·exact List.getElem?_of_mem (List.mem_of_mem_take hm)
 ·exact List.getElem?_of_mem (List.mem_of_mem_drop hm)
theorem away_len {α : Type} (l : List α) (p : Nat) : (l.take p ++ l.drop (p + 1)).length ≤ l.length := by
 rw [List.length_append, List.length_take, List.length_drop]; omega
theorem OkC.ch {k : Nat} {g : Gt} {o : Opt} (h : OkC k g) (hn : SmN o.n) (he : SmE o.e) : OkC (k + 1) (chG g o).2 := by
 unfold chG
 split
 ·unfold putG
  split
  ·exact OkC.no _
  split
  ·exact OkC.no _
  ·refine ⟨?_, h.re, Nat.le_trans setL_len (by have := h.ln; omega), by have := h.le; show g.edges.length ≤ k + 1; omega, fun j n hj => ?_, h.se⟩
   ·show RiseI ((setL g.nodes (posI (idsN g) o.n.id) (hasI (idsN g) o.n.id) o.n).map (·.id))
    rw [setL_mapB]
    exact set_rise h.rn
   ·rcases mem_setL hj with rfl | ⟨q, hq⟩
    ·exact hn
    ·exact h.sn q n hq
 split
 ·unfold joinG
  split
  ·exact OkC.no _
  split
  ·exact OkC.no _
  split
  ·exact OkC.no _
  split
  ·exact OkC.no _
  ·refine ⟨h.rn, ?_, by have := h.ln; show g.nodes.length ≤ k + 1; omega, Nat.le_trans setL_len (by have := h.le; omega), h.sn, fun j n hj => ?_⟩
   ·show RiseI ((setL g.edges (posI (idsE g) o.e.id) (hasI (idsE g) o.e.id) o.e).map (·.id))
    rw [setL_mapB]
    exact set_rise h.re
   ·rcases mem_setL hj with rfl | ⟨q, hq⟩
    ·exact he
    ·exact h.se q n hq
 split
 ·unfold dropG
  split
  ·exact OkC.no _
  split
  ·exact OkC.no _
  ·refine ⟨?_, h.re, Nat.le_trans (away_len _ _) (by have := h.ln; omega), by have := h.le; show g.edges.length ≤ k + 1; omega, fun j n hj => ?_, h.se⟩
   ·show RiseI ((g.nodes.take (posI (idsN g) o.id) ++ g.nodes.drop (posI (idsN g) o.id + 1)).map (·.id))
    rw [List.map_append, List.map_take, List.map_drop]
    exact away_rise h.rn
   ·obtain ⟨q, hq⟩ := mem_away hj
    exact h.sn q n hq
 ·unfold cutG
  split
  ·exact OkC.no _
  ·refine ⟨h.rn, ?_, by have := h.ln; show g.nodes.length ≤ k + 1; omega, Nat.le_trans (away_len _ _) (by have := h.le; omega), h.sn, fun j n hj => ?_⟩
   ·show RiseI ((g.edges.take (posI (idsE g) o.id) ++ g.edges.drop (posI (idsE g) o.id + 1)).map (·.id))
    rw [List.map_append, List.map_take, List.map_drop]
    exact away_rise h.re
   ·obtain ⟨q, hq⟩ := mem_away hj
    exact h.se q n hq
end Go.Proofs.Ytoakloicjlfaaaa

/- Layer 14: the reference's Drop and Cut. Conditions: the graph's numbers rise, the graph is small. -/
namespace Go.Proofs.Ytoakloicjlfaaaa
open Go.RowKit
set_option linter.unusedSimpArgs false
set_option linter.unusedVariables false
set_option maxRecDepth 100000

theorem hasI_at {l : List Int} {i : Int} (h : hasI l i = true) : l[posI l i]? = some i := by
 unfold hasI at h
 exact of_decide_eq_true h
theorem filter_ne {α : Type} {l : List α} {f : α → Int} {i : Int} (hr : RiseI (l.map f)) (h : hasI (l.map f) i = true) : l.filter (fun x => decide (f x ≠ i)) = l.take (posI (l.map f) i) ++ l.drop (posI (l.map f) i + 1) := by
 have hp := hasI_at h
 obtain ⟨p, hpe⟩ : ∃ p, posI (l.map f) i = p := ⟨_, rfl⟩
 rw [hpe] at hp ⊢
 rw [List.getElem?_map] at hp
 obtain ⟨x, hx, hfx⟩ := Option.map_eq_some_iff.1 hp
 have hpl : p < l.length := (List.getElem?_eq_some_iff.1 hx).1
 have hm : ∀ (j : Nat) y, l[j]? = some y → j ≠ p → f y ≠ i := fun j y hy hj e => by
  have h1 : (l.map f)[j]? = some i := by rw [List.getElem?_map, hy, ← e]; rfl
  have h2 : (l.map f)[p]? = some i := by rw [List.getElem?_map, hx, ← hfx]; rfl
  rcases Nat.lt_or_ge j p with h | h
  ·have := hr j p i i h h1 h2; omega
  ·have := hr p j i i (by omega) h2 h1; omega
 have e : l = l.take p ++ x :: l.drop (p + 1) := by rw [← drop_some hx, List.take_append_drop]
 conv => lhs; rw [e]
 rw [List.filter_append, List.filter_cons_of_neg (by simp [hfx])]
 congr 1
 ·refine List.filter_eq_self.2 fun y hy => ?_
  obtain ⟨j, hj⟩ := List.getElem?_of_mem hy
  have hjl : j < p := by have := (List.getElem?_eq_some_iff.1 hj).1; rw [List.length_take] at this; omega
  rw [List.getElem?_take_of_lt hjl] at hj
  exact decide_eq_true (hm j y hj (by omega))
 ·refine List.filter_eq_self.2 fun y hy => ?_
  obtain ⟨j, hj⟩ := List.getElem?_of_mem hy
  rw [List.getElem?_drop] at hj
  exact decide_eq_true (hm _ y hj (by omega))

set_option maxHeartbeats 16000000 in
theorem rdrop_any (g : Gt) (id : Int) (cs : List Value) (B : Nat) (w : World) (hg : IsG B w cs g) (hB : B ≤ w.heap.size) (hr : RiseI (idsN g)) (hsm : SmG g) :
    Calls Try.prog 44 #[.agg cs.toArray, .int .i64 id] w (ResK (dropG g id) w) := by
  have hg0 := hg
  obtain ⟨na, nc, ea, ec, rfl, hnz, hez, hN, hE⟩ := hg
  show Calls Try.prog 44 #[.agg #[.slice na g.nodes.length nc, .slice ea g.edges.length ec], .int .i64 id] w _
  have hsm0 := hsm
  obtain ⟨⟨hnl, hel⟩, hs1, hs2⟩ := hsm
  obtain ⟨iN, siN, szN, s1N, s2N⟩ := info_parts Try.infoNode
  obtain ⟨W0, hW0⟩ : ∃ W0, (w.alloc (.cells #[.slice na g.nodes.length nc, .slice ea g.edges.length ec] 25)).alloc (.cells #[.slice none 0 0, .slice none 0 0] 25) = W0 := ⟨_, rfl⟩
  have HBX : Hid (Bx w [([.slice na g.nodes.length nc, .slice ea g.edges.length ec], 25), ([.slice none 0 0, .slice none 0 0], 25)] W0) := Lib.hid (by rw [← hW0]; exact ((((Bx.nil w).alloc rfl [.slice na g.nodes.length nc, .slice ea g.edges.length ec] 25)).alloc (by simp) [.slice none 0 0, .slice none 0 0] 25))
  have HW0 := Lib.hid hW0
  have HAT := Lib.hid (fun (w' : World) (hb : Below w.heap.size w w') => nodeAt_any g id _ B w' (hg0.below hb hB) (Nat.le_trans hB hb.size))
  have HCP := Lib.hid (fun (w' : World) (hb : Below w.heap.size w w') => rCopyG_own g _ B w' (hg0.below hb hB) (Nat.le_trans hB hb.size) hsm0)
  have HAR := Lib.hid (fun (w' : World) (hb : Below w.heap.size w w') => rAround_any g id 2 ⟨#[]⟩ _ B w' (hg0.below hb hB) (Nat.le_trans hB hb.size) hsm0)
  have HSM := Lib.hid hsm0
  have HNS := Lib.hid hN
  have HHI := Lib.hid (hasI_idx hr id).1
  have HFN : Hid (hasI (idsN g) id = true → g.nodes.filter (fun x => decide (x.id ≠ id)) = g.nodes.take (posI (idsN g) id) ++ g.nodes.drop (posI (idsN g) id + 1)) := Lib.hid (fun h => filter_ne (l := g.nodes) (f := fun x : Nt => x.id) hr h)
  have i0_0 : W0.cell? ⟨w.heap.size, 0, none⟩ = some (.slice na g.nodes.length nc) := HBX.out.cell 0 0 rfl rfl
  have i0_1 : W0.cell? ⟨w.heap.size, 1, none⟩ = some (.slice ea g.edges.length ec) := HBX.out.cell 0 1 rfl rfl
  have i1_0 : W0.cell? ⟨w.heap.size + 1, 0, none⟩ = some (.slice none 0 0) := HBX.out.cell 1 0 rfl rfl
  have i1_1 : W0.cell? ⟨w.heap.size + 1, 1, none⟩ = some (.slice none 0 0) := HBX.out.cell 1 1 rfl rfl
  rw [← hW0] at i0_0 i0_1 i1_0 i1_1
  clear hW0 hg0 hN hE hnz hez hr hs1 hs2 hsm0
  go_enter Try.func44, Try.ntmps44
  go_wp2_with fail
  rw [HW0.out]
  refine (HAT.out _ HBX.out.bel).mono ?_
  rintro e w1 ⟨rfl, hb1⟩
  have HBX1 := Lib.hid (HBX.out.below hb1)
  clear i0_0 i0_1 i1_0 i1_1 hb1
  obtain ⟨at9, hat9⟩ : ∃ x, idxOf (g.nodes.map (·.id)) id = x := ⟨_, rfl⟩
  have HI1 : Hid (hasI (idsN g) id = decide (0 ≤ at9)) := Lib.hid (by rw [← hat9]; exact HHI.out)
  rw [hat9]
  clear hat9
  by_cases hat : 0 ≤ at9
  rotate_left
  · skip
    have HP : Hid (dropG g id = (23, noG)) := Lib.hid (by unfold dropG; rw [if_pos (by rw [HI1.out]; exact decide_eq_false hat)])
    have hat' : at9 < 0 := by omega
    have f1_0 : w1.cell? ⟨w.heap.size + 1, 0, none⟩ = some (.slice none 0 0) := HBX1.out.cell 1 0 rfl rfl
    have f1_1 : w1.cell? ⟨w.heap.size + 1, 1, none⟩ = some (.slice none 0 0) := HBX1.out.cell 1 1 rfl rfl
    have z1_0 : w1.frozen? ⟨w.heap.size + 1, 0, none⟩ = false := HBX1.out.free 1 0 rfl
    have z1_1 : w1.frozen? ⟨w.heap.size + 1, 1, none⟩ = false := HBX1.out.free 1 1 rfl
    obtain ⟨q0, q1⟩ := two_cells (HBX1.out.blk 1 _ _ rfl) (.slice none 0 0) (.slice none 0 0)
    go_wp2_with fail
    refine bodyPost_ret (by simp [results, Try.results44, go_sem, q0, q1]; rfl) rfl ?_
    rw [HP.out]
    exact (ResP.err _ ((HBX1.out.put 1 0 rfl (.slice none 0 0)).put 1 1 rfl (.slice none 0 0)).bel).resK
  have HII : Hid (hasI (idsN g) id = true) := Lib.hid (by rw [HI1.out]; exact decide_eq_true hat)
  have hat' : ¬ at9 < 0 := by omega
  have f0_0 : w1.cell? ⟨w.heap.size, 0, none⟩ = some (.slice na g.nodes.length nc) := HBX1.out.cell 0 0 rfl rfl
  have f0_1 : w1.cell? ⟨w.heap.size, 1, none⟩ = some (.slice ea g.edges.length ec) := HBX1.out.cell 0 1 rfl rfl
  go_wp2_with fail
  refine (HAR.out _ HBX1.out.bel).mono ?_
  rintro e w1b ⟨a2, c2, bs2, rfl, hb2, -, -, -, -⟩
  have HBX1b := Lib.hid (HBX1.out.below hb2)
  clear f0_0 f0_1 hb2
  by_cases hem : (aroundG g id 2 ⟨#[]⟩).isEmpty = false
  · have HP : Hid (dropG g id = (5, noG)) := Lib.hid (by unfold dropG; rw [if_neg (by rw [HII.out]; simp), if_pos hem])
    have hl9 : 0 < (aroundG g id 2 ⟨#[]⟩).length := by cases h : aroundG g id 2 ⟨#[]⟩ with | nil => rw [h] at hem; cases hem | cons a l => simp
    have hl9' : (0 : Int) < (aroundG g id 2 ⟨#[]⟩).length := by omega
    generalize (aroundG g id 2 ⟨#[]⟩).length = q9 at *
    clear hem
    have f1_0 : w1b.cell? ⟨w.heap.size + 1, 0, none⟩ = some (.slice none 0 0) := HBX1b.out.cell 1 0 rfl rfl
    have f1_1 : w1b.cell? ⟨w.heap.size + 1, 1, none⟩ = some (.slice none 0 0) := HBX1b.out.cell 1 1 rfl rfl
    have z1_0 : w1b.frozen? ⟨w.heap.size + 1, 0, none⟩ = false := HBX1b.out.free 1 0 rfl
    have z1_1 : w1b.frozen? ⟨w.heap.size + 1, 1, none⟩ = false := HBX1b.out.free 1 1 rfl
    obtain ⟨q0, q1⟩ := two_cells (HBX1b.out.blk 1 _ _ rfl) (.slice none 0 0) (.slice none 0 0)
    go_wp2_with fail
    refine bodyPost_ret (by simp [results, Try.results44, go_sem, q0, q1]; rfl) rfl ?_
    rw [HP.out]
    exact (ResP.err _ ((HBX1b.out.put 1 0 rfl (.slice none 0 0)).put 1 1 rfl (.slice none 0 0)).bel).resK
  have HEM := Lib.hid hem
  have hl9 : (aroundG g id 2 ⟨#[]⟩).length = 0 := by cases h : aroundG g id 2 ⟨#[]⟩ with | nil => rfl | cons a l => rw [h] at hem; exact absurd rfl hem
  rw [hl9]
  clear hem hl9
  have HP : Hid (dropG g id = (0, ⟨g.nodes.filter (fun x => decide (x.id ≠ id)), g.edges⟩)) := Lib.hid (by unfold dropG; rw [if_neg (by rw [HII.out]; simp), if_neg HEM.out, HFN.out HII.out])
  have f0_0 : w1b.cell? ⟨w.heap.size, 0, none⟩ = some (.slice na g.nodes.length nc) := HBX1b.out.cell 0 0 rfl rfl
  have f0_1 : w1b.cell? ⟨w.heap.size, 1, none⟩ = some (.slice ea g.edges.length ec) := HBX1b.out.cell 0 1 rfl rfl
  go_wp2_with fail
  refine (HCP.out _ HBX1b.out.bel).mono ?_
  rintro e w2 ⟨na', nc', ea', ec', c1, c2, b1, b2, M, rfl, hb2, hRN, hMM, hRE, hwM⟩
  have HBX2 := Lib.hid (HBX1b.out.below hb2)
  clear f0_0 f0_1
  have HRO : Hid (RowG IsEO 40 6 M w2 (.slice ea' g.edges.length ec') g.edges.length c2 g.edges b2) := Lib.hid hRE
  have HLB : Hid (M ≥ w.heap.size + 2) := Lib.hid (by have h1 := HBX1b.out.len; simp at h1; omega)
  obtain ⟨W1, hW1⟩ : ∃ w', w2.alloc (.cells #[.slice none 0 0, .slice ea' g.edges.length ec'] 25) = w' := ⟨_, rfl⟩
  obtain ⟨bO, hbO⟩ : ∃ bO, w2.heap.size = bO := ⟨_, rfl⟩
  have hb1a : Below w2.heap.size w2 W1 := by rw [← hW1]; exact (Below.refl _ _).alloc (Nat.le_refl _) _
  have HBX3 := Lib.hid (HBX2.out.below hb1a)
  have hblk : Block W1 bO [.slice none 0 0, .slice ea' g.edges.length ec'] 25 := by rw [← hW1, ← hbO]; exact Block.new _ _ _
  have HZ1 : Hid (bO + 1 = W1.heap.size) := Lib.hid (by rw [← hW1, ← hbO]; simp)
  have HBO := Lib.hid hbO
  have HB1a := Lib.hid hb1a
  have HW1 := Lib.hid hW1
  have HL2 : Hid (w.heap.size + 2 ≤ bO) := Lib.hid (by have h1 := HBX2.out.len; simp at h1; omega)
  obtain ⟨f, hf⟩ : ∃ f : Nt → Bool, (fun x => decide (x.id ≠ id)) = f := ⟨_, rfl⟩
  have HFD := Lib.hid hf
  rw [hf] at HP
  have HO0 : Hid (OutS IsNO 38 4 W1 bO 0 25 (fun v => [v, .slice ea' g.edges.length ec']) W1 (.slice none 0 0) (.slice none 0 0) 0 [] ((g.nodes.take 0).filter f) []) := Lib.hid ⟨hblk, by simpa using RowG.nil _ _ _, Kept.refl _ _, hblk.lt⟩
  clear hf hblk hb1a hW1 hRN hRE hMM hwM hb2
  have hfld : ∀ u : World, (Instr.field 25 (.agg #[.slice na' g.nodes.length nc', .slice ea' g.edges.length ec']) 1).run Try.prog u = .ok (.slice ea' g.edges.length ec') u := fun _ => by kernel_rfl
  go_wp2_with fail
  clear hfld
  rw [HW1.out]
  (try rw [hbO])
  clear hbO
  go_loopw [7] (fun iv wr => ∃ (i9 j : Nat) (a : Option Addr) (c : Nat) (cl : List Value) (bs : List Nat), iv = .int .i64 i9 ∧ i9 ≤ g.nodes.length ∧ j ≤ i9 ∧ Hid (OutS IsNO 38 4 W1 bO 0 25 (fun v => [v, .slice ea' g.edges.length ec']) wr (.slice a j c) (.slice a j c) j cl ((g.nodes.take i9).filter f) bs)) (fun iv _ => g.nodes.length - (intOf iv).toNat)
  case atStart => exact ⟨0, 0, _, _, _, _, rfl, Nat.zero_le _, Nat.le_refl _, HO0⟩
  case round =>
    obtain ⟨i9, j, a, c, cl, bs, rfl, hi9, hji, HO⟩ := hrel
    have hkw : Below w.heap.size W1 wr := HO.out.kept.below (fun q hq => by have := HL2.out; simp at hq; omega) HBX3.out.bel.size
    have HBXr : Hid (Bx w [([.slice na g.nodes.length nc, .slice ea g.edges.length ec], 25), ([.slice none 0 0, .slice none 0 0], 25)] wr) := Lib.hid ⟨HBX3.out.bel.trans hkw, Nat.le_trans HBX3.out.len hkw.size, fun i c t hi => (HBX3.out.blk i c t hi).of_heap (HO.out.kept.block _ (HBX3.out.blk i c t hi).lt (by have h8 := (List.getElem?_eq_some_iff.1 hi).1; simp at h8; have := HL2.out; simp; omega))⟩
    have HKW := Lib.hid hkw
    clear hkw
    have gc0 : wr.cell? ⟨w.heap.size, 0, none⟩ = some (.slice na g.nodes.length nc) := HBXr.out.cell 0 0 rfl rfl
    by_cases hlt : i9 < g.nodes.length
    · have hlt' : (i9 : Int) < g.nodes.length := by omega
      have hi0 : (0 : Int) ≤ (i9 : Int) := by omega
      have hwi : IntKind.i64.wrap ((i9 : Int) + 1) = (i9 : Int) + 1 := IntWalk.i64_in _ (by omega)
      have hbr : Below w.heap.size w wr := HBXr.out.bel
      obtain ⟨x, hx⟩ := get_some hlt
      obtain ⟨b, off, cs, e1, hbB, _, hc, hcell⟩ := (HNS.out.below (R' := IsN B wr) hbr hB (fun _ _ h => h.below hbr hB)).at hx
      obtain ⟨la, lc, ka, kc, va, vc, rfl⟩ := node_cells hc
      have hsx := HSM.out.2.1 i9 x hx
      subst e1
      have k0 : wr.cell? ⟨b, off + i9 * 4, none⟩ = some (.int .i64 x.id) := hcell 0 _ rfl
      have k1 := hcell 1 _ rfl
      have k2 := hcell 2 _ rfl
      have k3 := hcell 3 _ rfl
      have hzr := HO.out.kept.size
      have HCN := Lib.hid (fun (u' : World) (hb : Below wr.heap.size wr u') => rCopyNode_any x _ B u' (hc.below (B' := w.heap.size) (hb.mono hbr.size) hB) (Nat.le_trans hB (hbr.trans (hb.mono hbr.size)).size) hsx)
      have HSW : Hid (∀ u : World, (∀ q, q < wr.heap.size → (Value.slice a j c).ownBlock ≠ some q → u.heap[q]? = wr.heap[q]?) → (fun u : World => u.cell? ⟨bO, 0, none⟩ = some (.slice a j c) ∧ u.cell? ⟨w.heap.size, 0, none⟩ = some (.slice (some ⟨b, off, none⟩) g.nodes.length nc) ∧ u.cell? ⟨b, off + i9 * 4, none⟩ = some (.int .i64 x.id) ∧ u.cell? ⟨b, off + i9 * 4 + 1, none⟩ = some (.slice la x.labels.length lc) ∧ u.cell? ⟨b, off + i9 * 4 + 2, none⟩ = some (.slice ka x.keys.length kc) ∧ u.cell? ⟨b, off + i9 * 4 + 3, none⟩ = some (.slice va x.vals.length vc)) u) := Lib.hid (fun u h => ⟨(cell_heap (h bO HO.out.blk.lt (fun e => by have := (HO.out.row.own.lt bO e).1; have := HO.out.lt; omega))).trans (HO.out.blk.cell rfl), (cell_heap (h w.heap.size (by have := hbr.size; have := HO.out.blk.lt; have := HL2.out; omega) (fun e => by have := (HO.out.row.own.lt _ e).1; have := HL2.out; have := HZ1.out; omega))).trans gc0, (cell_heap (h b (by have := hbr.size; omega) (fun e => by have := (HO.out.row.own.lt _ e).1; have := HL2.out; have := HZ1.out; omega))).trans k0, (cell_heap (h b (by have := hbr.size; omega) (fun e => by have := (HO.out.row.own.lt _ e).1; have := HL2.out; have := HZ1.out; omega))).trans k1, (cell_heap (h b (by have := hbr.size; omega) (fun e => by have := (HO.out.row.own.lt _ e).1; have := HL2.out; have := HZ1.out; omega))).trans k2, (cell_heap (h b (by have := hbr.size; omega) (fun e => by have := (HO.out.row.own.lt _ e).1; have := HL2.out; have := HZ1.out; omega))).trans k3⟩)
      have HXJ := Lib.hid hx
      clear hx hc hcell hsx hbB
      by_cases hid9 : x.id = id
      · have HFX : Hid (f x = false) := Lib.hid (by rw [← HFD.out]; simp [hid9])
        subst hid9
        go_wp2_with fail
        go_roundw
        case rel => exact ⟨i9 + 1, j, _, _, _, _, by go_num, by omega, by omega, Lib.hid (by rw [filter_out HXJ.out HFX.out]; exact HO.out)⟩
        case measure => simp [intOf]; omega
      · have HFX : Hid (f x = true) := Lib.hid (by rw [← HFD.out]; simp [hid9])
        have hd1 : (x.id == id) = false := by simpa using hid9
        have hd2 : (x.id != id) = true := by simpa using hid9
        clear k1
        clear k2
        clear k3
        go_wp2_with fail
        clear k0
        refine wp_region_noPanic ?_
        refine wp_region_J (S := fun u : World => u.cell? ⟨bO, 0, none⟩ = some (.slice a j c) ∧ u.cell? ⟨w.heap.size, 0, none⟩ = some (.slice (some ⟨b, off, none⟩) g.nodes.length nc) ∧ u.cell? ⟨b, off + i9 * 4, none⟩ = some (.int .i64 x.id) ∧ u.cell? ⟨b, off + i9 * 4 + 1, none⟩ = some (.slice la x.labels.length lc) ∧ u.cell? ⟨b, off + i9 * 4 + 2, none⟩ = some (.slice ka x.keys.length kc) ∧ u.cell? ⟨b, off + i9 * 4 + 3, none⟩ = some (.slice va x.vals.length vc)) (fun j => j == 11) (by kernel_rfl) ?_
        obtain ⟨u0, hu0⟩ : ∃ u, wr.drew = u := ⟨_, rfl⟩
        have HO0 := Lib.hid (HO.out.drew ownIsNO)
        have HSS := Lib.hid (fun u' h => HSW.out u' (fun q hq hn => (h q hq hn).trans rfl) : ∀ u' : World, (∀ q, q < wr.drew.heap.size → (Value.slice a j c).ownBlock ≠ some q → u'.heap[q]? = wr.drew.heap[q]?) → (fun u : World => u.cell? ⟨bO, 0, none⟩ = some (.slice a j c) ∧ u.cell? ⟨w.heap.size, 0, none⟩ = some (.slice (some ⟨b, off, none⟩) g.nodes.length nc) ∧ u.cell? ⟨b, off + i9 * 4, none⟩ = some (.int .i64 x.id) ∧ u.cell? ⟨b, off + i9 * 4 + 1, none⟩ = some (.slice la x.labels.length lc) ∧ u.cell? ⟨b, off + i9 * 4 + 2, none⟩ = some (.slice ka x.keys.length kc) ∧ u.cell? ⟨b, off + i9 * 4 + 3, none⟩ = some (.slice va x.vals.length vc)) u')
        rw [hu0] at HO0 HSS ⊢
        have hHeld : (fun u : World => u.cell? ⟨bO, 0, none⟩ = some (.slice a j c) ∧ u.cell? ⟨w.heap.size, 0, none⟩ = some (.slice (some ⟨b, off, none⟩) g.nodes.length nc) ∧ u.cell? ⟨b, off + i9 * 4, none⟩ = some (.int .i64 x.id) ∧ u.cell? ⟨b, off + i9 * 4 + 1, none⟩ = some (.slice la x.labels.length lc) ∧ u.cell? ⟨b, off + i9 * 4 + 2, none⟩ = some (.slice ka x.keys.length kc) ∧ u.cell? ⟨b, off + i9 * 4 + 3, none⟩ = some (.slice va x.vals.length vc)) u0 := HSS.out u0 (fun _ _ _ => rfl)
        have HU0 := Lib.hid hu0
        clear hu0
        refine wpAnyJ_take0 (i := 0) (v := ?_) rfl (by kernel_rfl) (by kernel_rfl) (by kernel_rfl) (fun _ _ _ h => h) (Or.inl ⟨by rfl, ?_⟩) ?_
        rotate_left
        focus ((intro w hSw; clear hSw; go_simp); try with_reducible rfl)
        (try simp only [Act.put, List.getElem_toArray, List.getElem_cons_zero, List.getElem_cons_succ, List.setIfInBounds_toArray, List.set_cons_zero, List.set_cons_succ])
        refine wpAnyJ_take (i := 1) (v := ?_) rfl (by kernel_rfl) (by kernel_rfl) (by kernel_rfl) (by kernel_rfl) (fun _ _ _ h => h) (Or.inl ⟨by rfl, ?_⟩) (by assumption) ?_
        rotate_left
        focus ((intro w hSw; (try dsimp only at hSw); go_simp); try with_reducible rfl)
        (try simp only [Act.put, List.getElem_toArray, List.getElem_cons_zero, List.getElem_cons_succ, List.setIfInBounds_toArray, List.set_cons_zero, List.set_cons_succ])
        refine wpAnyJ_take0 (i := 2) (v := ?_) rfl (by kernel_rfl) (by kernel_rfl) (by kernel_rfl) (fun _ _ _ h => h) (Or.inl ⟨by rfl, ?_⟩) ?_
        rotate_left
        focus ((intro w hSw; clear hSw; go_simp); try with_reducible rfl)
        (try simp only [Act.put, List.getElem_toArray, List.getElem_cons_zero, List.getElem_cons_succ, List.setIfInBounds_toArray, List.set_cons_zero, List.set_cons_succ])
        refine wpAnyJ_take (i := 3) (v := ?_) rfl (by kernel_rfl) (by kernel_rfl) (by kernel_rfl) (by kernel_rfl) (fun _ _ _ h => h) (Or.inl ⟨by rfl, ?_⟩) (by assumption) ?_
        rotate_left
        focus ((intro w hSw; (try dsimp only at hSw); go_simp); try with_reducible rfl)
        (try simp only [Act.put, List.getElem_toArray, List.getElem_cons_zero, List.getElem_cons_succ, List.setIfInBounds_toArray, List.set_cons_zero, List.set_cons_succ])
        refine wpAnyJ_take0 (i := 4) (v := ?_) rfl (by kernel_rfl) (by kernel_rfl) (by kernel_rfl) (fun _ _ _ h => h) (Or.inl ⟨by rfl, ?_⟩) ?_
        rotate_left
        focus ((intro w hSw; clear hSw; go_simp); try with_reducible rfl)
        (try simp only [Act.put, List.getElem_toArray, List.getElem_cons_zero, List.getElem_cons_succ, List.setIfInBounds_toArray, List.set_cons_zero, List.set_cons_succ])
        refine wpAnyJ_take0 (i := 5) (v := ?_) rfl (by kernel_rfl) (by kernel_rfl) (by kernel_rfl) (fun _ _ _ h => h) (Or.inl ⟨by rfl, ?_⟩) ?_
        rotate_left
        focus ((intro w hSw; clear hSw; go_simp); try with_reducible rfl)
        (try simp only [Act.put, List.getElem_toArray, List.getElem_cons_zero, List.getElem_cons_succ, List.setIfInBounds_toArray, List.set_cons_zero, List.set_cons_succ])
        refine wpAnyJ_take (i := 6) (v := ?_) rfl (by kernel_rfl) (by kernel_rfl) (by kernel_rfl) (by kernel_rfl) (fun _ _ _ h => h) (Or.inl ⟨by rfl, ?_⟩) (by assumption) ?_
        rotate_left
        focus ((intro w hSw; (try dsimp only at hSw); go_simp); try with_reducible rfl)
        (try simp only [Act.put, List.getElem_toArray, List.getElem_cons_zero, List.getElem_cons_succ, List.setIfInBounds_toArray, List.set_cons_zero, List.set_cons_succ])
        refine wpAnyJ_ready (rs := [7]) (by kernel_rfl) (by simp) ?_
        refine AllReadyJ.cons rfl (fun KK hKK => ?_) AllReadyJ.nil
        go_simp
        go_at_call 40
        refine (HCN.out u0 (by rw [← HU0.out]; exact (Below.refl _ _).drew)).mono ?_
        rintro e u1 ⟨cs', bs', rfl, hb1, ho1, hn1, hr1⟩
        have ho2 := ho1
        obtain ⟨la', lc', ka', kc', va', vc', x1, x2, x3, hcs, -⟩ := ho2
        subst hcs
        have hH2 : (fun u : World => u.cell? ⟨bO, 0, none⟩ = some (.slice a j c) ∧ u.cell? ⟨w.heap.size, 0, none⟩ = some (.slice (some ⟨b, off, none⟩) g.nodes.length nc) ∧ u.cell? ⟨b, off + i9 * 4, none⟩ = some (.int .i64 x.id) ∧ u.cell? ⟨b, off + i9 * 4 + 1, none⟩ = some (.slice la x.labels.length lc) ∧ u.cell? ⟨b, off + i9 * 4 + 2, none⟩ = some (.slice ka x.keys.length kc) ∧ u.cell? ⟨b, off + i9 * 4 + 3, none⟩ = some (.slice va x.vals.length vc)) u1 := HSS.out u1 (fun q hq _ => hb1.block q hq)
        refine hKK.out _ _ (fun _ _ => hH2) ?_
        clear hKK KK hHeld
        have hHeld := hH2
        clear hH2
        have HC1 := Lib.hid (show _ ∧ _ ∧ _ ∧ _ from ⟨hb1, ho1, hn1, hr1⟩)
        have hz1 := hb1.size
        clear hb1 ho1 hn1 hr1
        (try simp only [Act.put, List.getElem_toArray, List.getElem_cons_zero, List.getElem_cons_succ, List.setIfInBounds_toArray, List.set_cons_zero, List.set_cons_succ])
        refine wpAnyJ_ready (rs := [8]) (by kernel_rfl) (by simp) ?_
        refine AllReadyJ.cons rfl (fun KK hKK => ?_) AllReadyJ.nil
        go_simp
        have hH2 : (fun u : World => u.cell? ⟨bO, 0, none⟩ = some (.slice a j c) ∧ u.cell? ⟨w.heap.size, 0, none⟩ = some (.slice (some ⟨b, off, none⟩) g.nodes.length nc) ∧ u.cell? ⟨b, off + i9 * 4, none⟩ = some (.int .i64 x.id) ∧ u.cell? ⟨b, off + i9 * 4 + 1, none⟩ = some (.slice la x.labels.length lc) ∧ u.cell? ⟨b, off + i9 * 4 + 2, none⟩ = some (.slice ka x.keys.length kc) ∧ u.cell? ⟨b, off + i9 * 4 + 3, none⟩ = some (.slice va x.vals.length vc)) (u1.alloc (.cells #[.int .i64 x.id, .slice la' x.labels.length lc', .slice ka' x.keys.length kc', .slice va' x.vals.length vc'] 38)) := HSS.out _ (fun q hq _ => by rw [Below.heap_alloc _ _ _ (Nat.lt_of_lt_of_le hq hz1)]; exact HC1.out.1.block q hq)
        refine hKK.out _ _ (fun _ _ => hH2) ?_
        clear hKK KK hHeld
        have hHeld := hH2
        clear hH2
        (try simp only [Act.put, List.getElem_toArray, List.getElem_cons_zero, List.getElem_cons_succ, List.setIfInBounds_toArray, List.set_cons_zero, List.set_cons_succ])
        refine wpAnyJ_ready (rs := [9]) (by kernel_rfl) (by simp) ?_
        refine AllReadyJ.cons rfl (fun KK hKK => ?_) AllReadyJ.nil
        refine step_append_lies _ (by rfl) _ _ 22 (by rfl) W1.heap.size 38 iN _ 4 80 Try.underlying22 siN szN s1N s2N rfl (by decide) (.slice a j c) j cl (by rfl) ((HO0.out.row.same ownIsNO HC1.out.1).own.alloc _) ⟨u1.heap.size, 0, none⟩ 1 1 [.int .i64 x.id, .slice la' x.labels.length lc', .slice ka' x.keys.length kc', .slice va' x.vals.length vc'] (by rfl) rfl (World.news_of_block (cs := #[.int .i64 x.id, .slice la' x.labels.length lc', .slice ka' x.keys.length kc', .slice va' x.vals.length vc']) (t := 38) (fr := (0, 0)) (Block.new u1 [.int .i64 x.id, .slice la' x.labels.length lc', .slice ka' x.keys.length kc', .slice va' x.vals.length vc'] 38)) (by simp [Value.oneCell']) (by decide) (by unfold maxLen; omega) (by omega) (by have := HO0.out.kept.size; simp; omega) (u1.heap.size + 1) (by simp) ?_
        intro gg cap u3 hown hgrow hat hlt3
        have HO3 := Lib.hid (OutS.app ownIsNO HO0.out HC1.out.1 HC1.out.2.1 HC1.out.2.2.1 HC1.out.2.2.2 hown hgrow rfl hat)
        have hH2 : (fun u : World => u.cell? ⟨bO, 0, none⟩ = some (.slice a j c) ∧ u.cell? ⟨w.heap.size, 0, none⟩ = some (.slice (some ⟨b, off, none⟩) g.nodes.length nc) ∧ u.cell? ⟨b, off + i9 * 4, none⟩ = some (.int .i64 x.id) ∧ u.cell? ⟨b, off + i9 * 4 + 1, none⟩ = some (.slice la x.labels.length lc) ∧ u.cell? ⟨b, off + i9 * 4 + 2, none⟩ = some (.slice ka x.keys.length kc) ∧ u.cell? ⟨b, off + i9 * 4 + 3, none⟩ = some (.slice va x.vals.length vc)) u3 := HSS.out u3 (fun q hq hn => by rw [hgrow.block q (by simp; omega) (fun e => hn e.symm), Below.heap_alloc _ _ _ (Nat.lt_of_lt_of_le hq hz1)]; exact HC1.out.1.block q hq)
        refine hKK.out _ _ (fun _ _ => hH2) ?_
        clear hKK KK hHeld
        have hHeld := hH2
        clear hH2 hown hgrow hat hlt3
        (try simp only [Act.put, List.getElem_toArray, List.getElem_cons_zero, List.getElem_cons_succ, List.setIfInBounds_toArray, List.set_cons_zero, List.set_cons_succ])
        refine wpAnyJ_take0 (i := 10) (v := ?_) rfl (by kernel_rfl) (by kernel_rfl) (by kernel_rfl) (fun _ _ _ h => h) (Or.inl ⟨by rfl, ?_⟩) ?_
        rotate_left
        focus ((intro w hSw; clear hSw; go_simp); try with_reducible rfl)
        (try simp only [Act.put, List.getElem_toArray, List.getElem_cons_zero, List.getElem_cons_succ, List.setIfInBounds_toArray, List.set_cons_zero, List.set_cons_succ])
        refine wpAnyJ_ready (rs := [11]) (by kernel_rfl) (by simp) ?_
        refine AllReadyJ.cons rfl (fun KK hKK => ?_) AllReadyJ.nil
        have y0 := HO3.out.blk.cell (i := 0) rfl
        have y1 := HO3.out.blk.free 0
        go_simp
        clear y0 y1
        have HO4 := Lib.hid (HO3.out.put ownIsNO rfl)
        refine hKK.out _ _ (fun h => absurd h (by decide)) ?_
        clear hKK KK hHeld HO3 HO0 HC1 HSS
        (try simp only [Act.put, List.getElem_toArray, List.getElem_cons_zero, List.getElem_cons_succ, List.setIfInBounds_toArray, List.set_cons_zero, List.set_cons_succ])
        refine wpAnyJ_done (by kernel_rfl) ?_ _
        refine NoPanic.normal ?_
        go_wp2_with fail
        go_roundw
        case rel => exact ⟨i9 + 1, j + 1, _, _, _, _, by go_num, by omega, by omega, Lib.hid (by rw [filter_in HXJ.out HFX.out]; exact HO4.out)⟩
        case measure => simp [intOf]; omega
    · have hlt' : ¬ (i9 : Int) < g.nodes.length := by omega
      have HO2 : Hid (OutS IsNO 38 4 W1 bO 0 25 (fun v => [v, .slice ea' g.edges.length ec']) wr (.slice a j c) (.slice a j c) j cl (g.nodes.filter f) bs) := Lib.hid (by have := HO.out; rwa [List.take_of_length_le (by omega)] at this)
      have v0 : wr.cell? ⟨bO, 0, none⟩ = some (.slice a j c) := HO2.out.blk.cell rfl
      have v1 : wr.cell? ⟨bO, 1, none⟩ = some (.slice ea' g.edges.length ec') := HO2.out.blk.cell rfl
      have hb9 : Block wr (w.heap.size + 1) [.slice none 0 0, .slice none 0 0] 25 := HBXr.out.blk 1 _ _ rfl
      have HT2 : Hid (wr.there (w.heap.size + 1) 0 2) := Lib.hid hb9.there
      obtain ⟨we, hwe⟩ : ∃ we, wr.setCells (w.heap.size + 1) 0 (#[.slice a j c, .slice ea' g.edges.length ec'] : Array Value).toList = we := ⟨_, rfl⟩
      have hbe : Block we (w.heap.size + 1) [.slice a j c, .slice ea' g.edges.length ec'] 25 := by rw [← hwe]; exact (hb9.set 0 _).set 1 _
      have q0 : we.cell? ⟨w.heap.size + 1, 0, none⟩ = some (.slice a j c) := hbe.cell rfl
      have q1 : we.cell? ⟨w.heap.size + 1, 1, none⟩ = some (.slice ea' g.edges.length ec') := hbe.cell rfl
      have HBE : Hid (Below w.heap.size w we) := Lib.hid (by rw [← hwe]; exact ((HBXr.out.put 1 0 rfl (.slice a j c)).put 1 1 rfl (.slice ea' g.edges.length ec')).bel)
      have HKE : Hid (∀ q, q ≠ w.heap.size + 1 → we.heap[q]? = wr.heap[q]?) := Lib.hid (fun q hq => by rw [← hwe]; exact setW_other _ _ _ _ _ hq)
      have HZE : Hid (we.heap.size = wr.heap.size) := Lib.hid (by rw [← hwe]; exact setW_size _ _ _ _)
      have HWE := Lib.hid hwe
      clear hb9 hbe hwe
      go_wp2_with (refine wpList_store_mid rfl 25 _ _ rfl (w.heap.size + 1) 0 #[.slice a j c, .slice ea' g.edges.length ec'] rfl rfl HT2.out (by kernel_rfl) (by simp [Value.oneCell']) ?_; rw [HWE.out])
      refine bodyPost_ret (by simp [results, Try.results44, go_sem, q0, q1]; rfl) rfl ?_
      rw [HP.out]
      have hl9 := HO2.out.row.len
      subst hl9
      refine ⟨_, rfl, HBE.out, ?_⟩
      intro u hzu hu
      have hze := HZE.out
      have hkz := HO2.out.kept.size
      have h1 := (HO2.out.row.keep ownIsNO (w' := u) (fun q hq => by
        have h9 : W1.heap.size ≤ q := (by rcases hq with hq | hq; exact (HO2.out.row.lt q hq).1; exact (HO2.out.row.own.lt q hq).1)
        have h8 : q < wr.heap.size := (by rcases hq with hq | hq; exact (HO2.out.row.lt q hq).2; exact (HO2.out.row.own.lt q hq).2)
        have h7 := HL2.out
        have h6 := HZ1.out
        rw [hu q (by omega) (by omega)]
        exact HKE.out q (by omega)) (by omega)).readN
      have h2 := (HRO.out.keep ownIsEO (w' := u) (fun q hq => by
        have h9 : q < w2.heap.size := by rcases hq with hq | hq; exact (HRO.out.lt q hq).2; exact (HRO.out.own.lt q hq).2
        have h8 : w.heap.size + 2 ≤ q := Nat.le_trans HLB.out (by rcases hq with hq | hq; exact (HRO.out.lt q hq).1; exact (HRO.out.own.lt q hq).1)
        have h7 := HBO.out
        have h6 := HZ1.out
        rw [hu q (by omega) (by omega), HKE.out q (by omega), HO2.out.kept.block q (by omega) (by simp; omega), HB1a.out.block q h9]) (by have h6 := HZ1.out; have h7 := HBO.out; omega)).readE
      exact ⟨_, _, _, _, rfl, h1.1, h2.1, h1.2, h2.2⟩

set_option maxHeartbeats 16000000 in
theorem rcut_any (g : Gt) (id : Int) (cs : List Value) (B : Nat) (w : World) (hg : IsG B w cs g) (hB : B ≤ w.heap.size) (hr : RiseI (idsE g)) (hsm : SmG g) :
    Calls Try.prog 45 #[.agg cs.toArray, .int .i64 id] w (ResK (cutG g id) w) := by
  have hg0 := hg
  obtain ⟨na, nc, ea, ec, rfl, hnz, hez, hN, hE⟩ := hg
  show Calls Try.prog 45 #[.agg #[.slice na g.nodes.length nc, .slice ea g.edges.length ec], .int .i64 id] w _
  have hsm0 := hsm
  obtain ⟨⟨hnl, hel⟩, hs1, hs2⟩ := hsm
  obtain ⟨iE, siE, szE, s1E, s2E⟩ := info_parts Try.infoEdge
  obtain ⟨W0, hW0⟩ : ∃ W0, (w.alloc (.cells #[.slice na g.nodes.length nc, .slice ea g.edges.length ec] 25)).alloc (.cells #[.slice none 0 0, .slice none 0 0] 25) = W0 := ⟨_, rfl⟩
  have HBX : Hid (Bx w [([.slice na g.nodes.length nc, .slice ea g.edges.length ec], 25), ([.slice none 0 0, .slice none 0 0], 25)] W0) := Lib.hid (by rw [← hW0]; exact ((((Bx.nil w).alloc rfl [.slice na g.nodes.length nc, .slice ea g.edges.length ec] 25)).alloc (by simp) [.slice none 0 0, .slice none 0 0] 25))
  have HW0 := Lib.hid hW0
  have HAT := Lib.hid (fun (w' : World) (hb : Below w.heap.size w w') => edgeAt_any g id _ B w' (hg0.below hb hB) (Nat.le_trans hB hb.size))
  have HCP := Lib.hid (fun (w' : World) (hb : Below w.heap.size w w') => rCopyG_own g _ B w' (hg0.below hb hB) (Nat.le_trans hB hb.size) hsm0)
  have HSM := Lib.hid hsm0
  have HES := Lib.hid hE
  have HHI := Lib.hid (hasI_idx hr id).1
  have HFN : Hid (hasI (idsE g) id = true → g.edges.filter (fun x => decide (x.id ≠ id)) = g.edges.take (posI (idsE g) id) ++ g.edges.drop (posI (idsE g) id + 1)) := Lib.hid (fun h => filter_ne (l := g.edges) (f := fun x : Et => x.id) hr h)
  have i0_0 : W0.cell? ⟨w.heap.size, 0, none⟩ = some (.slice na g.nodes.length nc) := HBX.out.cell 0 0 rfl rfl
  have i0_1 : W0.cell? ⟨w.heap.size, 1, none⟩ = some (.slice ea g.edges.length ec) := HBX.out.cell 0 1 rfl rfl
  have i1_0 : W0.cell? ⟨w.heap.size + 1, 0, none⟩ = some (.slice none 0 0) := HBX.out.cell 1 0 rfl rfl
  have i1_1 : W0.cell? ⟨w.heap.size + 1, 1, none⟩ = some (.slice none 0 0) := HBX.out.cell 1 1 rfl rfl
  rw [← hW0] at i0_0 i0_1 i1_0 i1_1
  clear hW0 hg0 hN hE hnz hez hr hs1 hs2 hsm0
  go_enter Try.func45, Try.ntmps45
  go_wp2_with fail
  rw [HW0.out]
  refine (HAT.out _ HBX.out.bel).mono ?_
  rintro e w1 ⟨rfl, hb1⟩
  have HBX1 := Lib.hid (HBX.out.below hb1)
  clear i0_0 i0_1 i1_0 i1_1 hb1
  obtain ⟨at9, hat9⟩ : ∃ x, idxOf (g.edges.map (·.id)) id = x := ⟨_, rfl⟩
  have HI1 : Hid (hasI (idsE g) id = decide (0 ≤ at9)) := Lib.hid (by rw [← hat9]; exact HHI.out)
  rw [hat9]
  clear hat9
  by_cases hat : 0 ≤ at9
  rotate_left
  · skip
    have HP : Hid (cutG g id = (23, noG)) := Lib.hid (by unfold cutG; rw [if_pos (by rw [HI1.out]; exact decide_eq_false hat)])
    have hat' : at9 < 0 := by omega
    have f1_0 : w1.cell? ⟨w.heap.size + 1, 0, none⟩ = some (.slice none 0 0) := HBX1.out.cell 1 0 rfl rfl
    have f1_1 : w1.cell? ⟨w.heap.size + 1, 1, none⟩ = some (.slice none 0 0) := HBX1.out.cell 1 1 rfl rfl
    have z1_0 : w1.frozen? ⟨w.heap.size + 1, 0, none⟩ = false := HBX1.out.free 1 0 rfl
    have z1_1 : w1.frozen? ⟨w.heap.size + 1, 1, none⟩ = false := HBX1.out.free 1 1 rfl
    obtain ⟨q0, q1⟩ := two_cells (HBX1.out.blk 1 _ _ rfl) (.slice none 0 0) (.slice none 0 0)
    go_wp2_with fail
    refine bodyPost_ret (by simp [results, Try.results45, go_sem, q0, q1]; rfl) rfl ?_
    rw [HP.out]
    exact (ResP.err _ ((HBX1.out.put 1 0 rfl (.slice none 0 0)).put 1 1 rfl (.slice none 0 0)).bel).resK
  have HII : Hid (hasI (idsE g) id = true) := Lib.hid (by rw [HI1.out]; exact decide_eq_true hat)
  have hat' : ¬ at9 < 0 := by omega
  have HP : Hid (cutG g id = (0, ⟨g.nodes, g.edges.filter (fun x => decide (x.id ≠ id))⟩)) := Lib.hid (by unfold cutG; rw [if_neg (by rw [HII.out]; simp), HFN.out HII.out])
  have f0_0 : w1.cell? ⟨w.heap.size, 0, none⟩ = some (.slice na g.nodes.length nc) := HBX1.out.cell 0 0 rfl rfl
  have f0_1 : w1.cell? ⟨w.heap.size, 1, none⟩ = some (.slice ea g.edges.length ec) := HBX1.out.cell 0 1 rfl rfl
  go_wp2_with fail
  refine (HCP.out _ HBX1.out.bel).mono ?_
  rintro e w2 ⟨na', nc', ea', ec', c1, c2, b1, b2, M, rfl, hb2, hRN, hMM, hRE, hwM⟩
  have HBX2 := Lib.hid (HBX1.out.below hb2)
  clear f0_0 f0_1
  have HRO : Hid (RowG IsNO 38 4 w1.heap.size w2 (.slice na' g.nodes.length nc') g.nodes.length c1 g.nodes b1) := Lib.hid hRN
  have HLB : Hid (w1.heap.size ≥ w.heap.size + 2) := Lib.hid (by have h1 := HBX1.out.len; simp at h1; omega)
  obtain ⟨W1, hW1⟩ : ∃ w', w2.alloc (.cells #[.slice na' g.nodes.length nc', .slice none 0 0] 25) = w' := ⟨_, rfl⟩
  obtain ⟨bO, hbO⟩ : ∃ bO, w2.heap.size = bO := ⟨_, rfl⟩
  have hb1a : Below w2.heap.size w2 W1 := by rw [← hW1]; exact (Below.refl _ _).alloc (Nat.le_refl _) _
  have HBX3 := Lib.hid (HBX2.out.below hb1a)
  have hblk : Block W1 bO [.slice na' g.nodes.length nc', .slice none 0 0] 25 := by rw [← hW1, ← hbO]; exact Block.new _ _ _
  have HZ1 : Hid (bO + 1 = W1.heap.size) := Lib.hid (by rw [← hW1, ← hbO]; simp)
  have HBO := Lib.hid hbO
  have HB1a := Lib.hid hb1a
  have HW1 := Lib.hid hW1
  have HL2 : Hid (w.heap.size + 2 ≤ bO) := Lib.hid (by have h1 := HBX2.out.len; simp at h1; omega)
  obtain ⟨f, hf⟩ : ∃ f : Et → Bool, (fun x => decide (x.id ≠ id)) = f := ⟨_, rfl⟩
  have HFD := Lib.hid hf
  rw [hf] at HP
  have HO0 : Hid (OutS IsEO 40 6 W1 bO 1 25 (fun v => [.slice na' g.nodes.length nc', v]) W1 (.slice none 0 0) (.slice none 0 0) 0 [] ((g.edges.take 0).filter f) []) := Lib.hid ⟨hblk, by simpa using RowG.nil _ _ _, Kept.refl _ _, hblk.lt⟩
  clear hf hblk hb1a hW1 hRN hRE hMM hwM hb2
  have hfld : ∀ u : World, (Instr.field 25 (.agg #[.slice na' g.nodes.length nc', .slice ea' g.edges.length ec']) 0).run Try.prog u = .ok (.slice na' g.nodes.length nc') u := fun _ => by kernel_rfl
  go_wp2_with fail
  clear hfld
  rw [HW1.out]
  (try rw [hbO])
  clear hbO
  go_loopw [7] (fun iv wr => ∃ (i9 j : Nat) (a : Option Addr) (c : Nat) (cl : List Value) (bs : List Nat), iv = .int .i64 i9 ∧ i9 ≤ g.edges.length ∧ j ≤ i9 ∧ Hid (OutS IsEO 40 6 W1 bO 1 25 (fun v => [.slice na' g.nodes.length nc', v]) wr (.slice a j c) (.slice a j c) j cl ((g.edges.take i9).filter f) bs)) (fun iv _ => g.edges.length - (intOf iv).toNat)
  case atStart => exact ⟨0, 0, _, _, _, _, rfl, Nat.zero_le _, Nat.le_refl _, HO0⟩
  case round =>
    obtain ⟨i9, j, a, c, cl, bs, rfl, hi9, hji, HO⟩ := hrel
    have hkw : Below w.heap.size W1 wr := HO.out.kept.below (fun q hq => by have := HL2.out; simp at hq; omega) HBX3.out.bel.size
    have HBXr : Hid (Bx w [([.slice na g.nodes.length nc, .slice ea g.edges.length ec], 25), ([.slice none 0 0, .slice none 0 0], 25)] wr) := Lib.hid ⟨HBX3.out.bel.trans hkw, Nat.le_trans HBX3.out.len hkw.size, fun i c t hi => (HBX3.out.blk i c t hi).of_heap (HO.out.kept.block _ (HBX3.out.blk i c t hi).lt (by have h8 := (List.getElem?_eq_some_iff.1 hi).1; simp at h8; have := HL2.out; simp; omega))⟩
    have HKW := Lib.hid hkw
    clear hkw
    have gc1 : wr.cell? ⟨w.heap.size, 1, none⟩ = some (.slice ea g.edges.length ec) := HBXr.out.cell 0 1 rfl rfl
    by_cases hlt : i9 < g.edges.length
    · have hlt' : (i9 : Int) < g.edges.length := by omega
      have hi0 : (0 : Int) ≤ (i9 : Int) := by omega
      have hwi : IntKind.i64.wrap ((i9 : Int) + 1) = (i9 : Int) + 1 := IntWalk.i64_in _ (by omega)
      have hbr : Below w.heap.size w wr := HBXr.out.bel
      obtain ⟨x, hx⟩ := get_some hlt
      obtain ⟨b, off, cs, e1, hbB, _, hc, hcell⟩ := (HES.out.below (R' := IsE B wr) hbr hB (fun _ _ h => h.below hbr hB)).at hx
      obtain ⟨ka, kc, va, vc, rfl⟩ := edge_cells hc
      have hsx := HSM.out.2.2 i9 x hx
      subst e1
      have k0 : wr.cell? ⟨b, off + i9 * 6, none⟩ = some (.int .i64 x.id) := hcell 0 _ rfl
      have k1 := hcell 1 _ rfl
      have k2 := hcell 2 _ rfl
      have k3 := hcell 3 _ rfl
      have k4 := hcell 4 _ rfl
      have k5 := hcell 5 _ rfl
      have hzr := HO.out.kept.size
      have HCN := Lib.hid (fun (u' : World) (hb : Below wr.heap.size wr u') => rCopyEdge_any x _ B u' (hc.below (B' := w.heap.size) (hb.mono hbr.size) hB) (Nat.le_trans hB (hbr.trans (hb.mono hbr.size)).size) hsx)
      have HSW : Hid (∀ u : World, (∀ q, q < wr.heap.size → (Value.slice a j c).ownBlock ≠ some q → u.heap[q]? = wr.heap[q]?) → (fun u : World => u.cell? ⟨bO, 1, none⟩ = some (.slice a j c) ∧ u.cell? ⟨w.heap.size, 1, none⟩ = some (.slice (some ⟨b, off, none⟩) g.edges.length ec) ∧ u.cell? ⟨b, off + i9 * 6, none⟩ = some (.int .i64 x.id) ∧ u.cell? ⟨b, off + i9 * 6 + 1, none⟩ = some (.int .i64 x.src) ∧ u.cell? ⟨b, off + i9 * 6 + 2, none⟩ = some (.int .i64 x.dst) ∧ u.cell? ⟨b, off + i9 * 6 + 3, none⟩ = some (.string x.ty) ∧ u.cell? ⟨b, off + i9 * 6 + 4, none⟩ = some (.slice ka x.keys.length kc) ∧ u.cell? ⟨b, off + i9 * 6 + 5, none⟩ = some (.slice va x.vals.length vc)) u) := Lib.hid (fun u h => ⟨(cell_heap (h bO HO.out.blk.lt (fun e => by have := (HO.out.row.own.lt bO e).1; have := HO.out.lt; omega))).trans (HO.out.blk.cell rfl), (cell_heap (h w.heap.size (by have := hbr.size; have := HO.out.blk.lt; have := HL2.out; omega) (fun e => by have := (HO.out.row.own.lt _ e).1; have := HL2.out; have := HZ1.out; omega))).trans gc1, (cell_heap (h b (by have := hbr.size; omega) (fun e => by have := (HO.out.row.own.lt _ e).1; have := HL2.out; have := HZ1.out; omega))).trans k0, (cell_heap (h b (by have := hbr.size; omega) (fun e => by have := (HO.out.row.own.lt _ e).1; have := HL2.out; have := HZ1.out; omega))).trans k1, (cell_heap (h b (by have := hbr.size; omega) (fun e => by have := (HO.out.row.own.lt _ e).1; have := HL2.out; have := HZ1.out; omega))).trans k2, (cell_heap (h b (by have := hbr.size; omega) (fun e => by have := (HO.out.row.own.lt _ e).1; have := HL2.out; have := HZ1.out; omega))).trans k3, (cell_heap (h b (by have := hbr.size; omega) (fun e => by have := (HO.out.row.own.lt _ e).1; have := HL2.out; have := HZ1.out; omega))).trans k4, (cell_heap (h b (by have := hbr.size; omega) (fun e => by have := (HO.out.row.own.lt _ e).1; have := HL2.out; have := HZ1.out; omega))).trans k5⟩)
      have HXJ := Lib.hid hx
      clear hx hc hcell hsx hbB
      by_cases hid9 : x.id = id
      · have HFX : Hid (f x = false) := Lib.hid (by rw [← HFD.out]; simp [hid9])
        subst hid9
        go_wp2_with fail
        go_roundw
        case rel => exact ⟨i9 + 1, j, _, _, _, _, by go_num, by omega, by omega, Lib.hid (by rw [filter_out HXJ.out HFX.out]; exact HO.out)⟩
        case measure => simp [intOf]; omega
      · have HFX : Hid (f x = true) := Lib.hid (by rw [← HFD.out]; simp [hid9])
        have hd1 : (x.id == id) = false := by simpa using hid9
        have hd2 : (x.id != id) = true := by simpa using hid9
        clear k1
        clear k2
        clear k3
        clear k4
        clear k5
        go_wp2_with fail
        clear k0
        refine wp_region_noPanic ?_
        refine wp_region_J (S := fun u : World => u.cell? ⟨bO, 1, none⟩ = some (.slice a j c) ∧ u.cell? ⟨w.heap.size, 1, none⟩ = some (.slice (some ⟨b, off, none⟩) g.edges.length ec) ∧ u.cell? ⟨b, off + i9 * 6, none⟩ = some (.int .i64 x.id) ∧ u.cell? ⟨b, off + i9 * 6 + 1, none⟩ = some (.int .i64 x.src) ∧ u.cell? ⟨b, off + i9 * 6 + 2, none⟩ = some (.int .i64 x.dst) ∧ u.cell? ⟨b, off + i9 * 6 + 3, none⟩ = some (.string x.ty) ∧ u.cell? ⟨b, off + i9 * 6 + 4, none⟩ = some (.slice ka x.keys.length kc) ∧ u.cell? ⟨b, off + i9 * 6 + 5, none⟩ = some (.slice va x.vals.length vc)) (fun j => j == 11) (by kernel_rfl) ?_
        obtain ⟨u0, hu0⟩ : ∃ u, wr.drew = u := ⟨_, rfl⟩
        have HO0 := Lib.hid (HO.out.drew ownIsEO)
        have HSS := Lib.hid (fun u' h => HSW.out u' (fun q hq hn => (h q hq hn).trans rfl) : ∀ u' : World, (∀ q, q < wr.drew.heap.size → (Value.slice a j c).ownBlock ≠ some q → u'.heap[q]? = wr.drew.heap[q]?) → (fun u : World => u.cell? ⟨bO, 1, none⟩ = some (.slice a j c) ∧ u.cell? ⟨w.heap.size, 1, none⟩ = some (.slice (some ⟨b, off, none⟩) g.edges.length ec) ∧ u.cell? ⟨b, off + i9 * 6, none⟩ = some (.int .i64 x.id) ∧ u.cell? ⟨b, off + i9 * 6 + 1, none⟩ = some (.int .i64 x.src) ∧ u.cell? ⟨b, off + i9 * 6 + 2, none⟩ = some (.int .i64 x.dst) ∧ u.cell? ⟨b, off + i9 * 6 + 3, none⟩ = some (.string x.ty) ∧ u.cell? ⟨b, off + i9 * 6 + 4, none⟩ = some (.slice ka x.keys.length kc) ∧ u.cell? ⟨b, off + i9 * 6 + 5, none⟩ = some (.slice va x.vals.length vc)) u')
        rw [hu0] at HO0 HSS ⊢
        have hHeld : (fun u : World => u.cell? ⟨bO, 1, none⟩ = some (.slice a j c) ∧ u.cell? ⟨w.heap.size, 1, none⟩ = some (.slice (some ⟨b, off, none⟩) g.edges.length ec) ∧ u.cell? ⟨b, off + i9 * 6, none⟩ = some (.int .i64 x.id) ∧ u.cell? ⟨b, off + i9 * 6 + 1, none⟩ = some (.int .i64 x.src) ∧ u.cell? ⟨b, off + i9 * 6 + 2, none⟩ = some (.int .i64 x.dst) ∧ u.cell? ⟨b, off + i9 * 6 + 3, none⟩ = some (.string x.ty) ∧ u.cell? ⟨b, off + i9 * 6 + 4, none⟩ = some (.slice ka x.keys.length kc) ∧ u.cell? ⟨b, off + i9 * 6 + 5, none⟩ = some (.slice va x.vals.length vc)) u0 := HSS.out u0 (fun _ _ _ => rfl)
        have HU0 := Lib.hid hu0
        clear hu0
        refine wpAnyJ_take0 (i := 0) (v := ?_) rfl (by kernel_rfl) (by kernel_rfl) (by kernel_rfl) (fun _ _ _ h => h) (Or.inl ⟨by rfl, ?_⟩) ?_
        rotate_left
        focus ((intro w hSw; clear hSw; go_simp); try with_reducible rfl)
        (try simp only [Act.put, List.getElem_toArray, List.getElem_cons_zero, List.getElem_cons_succ, List.setIfInBounds_toArray, List.set_cons_zero, List.set_cons_succ])
        refine wpAnyJ_take (i := 1) (v := ?_) rfl (by kernel_rfl) (by kernel_rfl) (by kernel_rfl) (by kernel_rfl) (fun _ _ _ h => h) (Or.inl ⟨by rfl, ?_⟩) (by assumption) ?_
        rotate_left
        focus ((intro w hSw; (try dsimp only at hSw); go_simp); try with_reducible rfl)
        (try simp only [Act.put, List.getElem_toArray, List.getElem_cons_zero, List.getElem_cons_succ, List.setIfInBounds_toArray, List.set_cons_zero, List.set_cons_succ])
        refine wpAnyJ_take0 (i := 2) (v := ?_) rfl (by kernel_rfl) (by kernel_rfl) (by kernel_rfl) (fun _ _ _ h => h) (Or.inl ⟨by rfl, ?_⟩) ?_
        rotate_left
        focus ((intro w hSw; clear hSw; go_simp); try with_reducible rfl)
        (try simp only [Act.put, List.getElem_toArray, List.getElem_cons_zero, List.getElem_cons_succ, List.setIfInBounds_toArray, List.set_cons_zero, List.set_cons_succ])
        refine wpAnyJ_take (i := 3) (v := ?_) rfl (by kernel_rfl) (by kernel_rfl) (by kernel_rfl) (by kernel_rfl) (fun _ _ _ h => h) (Or.inl ⟨by rfl, ?_⟩) (by assumption) ?_
        rotate_left
        focus ((intro w hSw; (try dsimp only at hSw); go_simp); try with_reducible rfl)
        (try simp only [Act.put, List.getElem_toArray, List.getElem_cons_zero, List.getElem_cons_succ, List.setIfInBounds_toArray, List.set_cons_zero, List.set_cons_succ])
        refine wpAnyJ_take0 (i := 4) (v := ?_) rfl (by kernel_rfl) (by kernel_rfl) (by kernel_rfl) (fun _ _ _ h => h) (Or.inl ⟨by rfl, ?_⟩) ?_
        rotate_left
        focus ((intro w hSw; clear hSw; go_simp); try with_reducible rfl)
        (try simp only [Act.put, List.getElem_toArray, List.getElem_cons_zero, List.getElem_cons_succ, List.setIfInBounds_toArray, List.set_cons_zero, List.set_cons_succ])
        refine wpAnyJ_take0 (i := 5) (v := ?_) rfl (by kernel_rfl) (by kernel_rfl) (by kernel_rfl) (fun _ _ _ h => h) (Or.inl ⟨by rfl, ?_⟩) ?_
        rotate_left
        focus ((intro w hSw; clear hSw; go_simp); try with_reducible rfl)
        (try simp only [Act.put, List.getElem_toArray, List.getElem_cons_zero, List.getElem_cons_succ, List.setIfInBounds_toArray, List.set_cons_zero, List.set_cons_succ])
        refine wpAnyJ_take (i := 6) (v := ?_) rfl (by kernel_rfl) (by kernel_rfl) (by kernel_rfl) (by kernel_rfl) (fun _ _ _ h => h) (Or.inl ⟨by rfl, ?_⟩) (by assumption) ?_
        rotate_left
        focus ((intro w hSw; (try dsimp only at hSw); go_simp); try with_reducible rfl)
        (try simp only [Act.put, List.getElem_toArray, List.getElem_cons_zero, List.getElem_cons_succ, List.setIfInBounds_toArray, List.set_cons_zero, List.set_cons_succ])
        refine wpAnyJ_ready (rs := [7]) (by kernel_rfl) (by simp) ?_
        refine AllReadyJ.cons rfl (fun KK hKK => ?_) AllReadyJ.nil
        go_simp
        go_at_call 41
        refine (HCN.out u0 (by rw [← HU0.out]; exact (Below.refl _ _).drew)).mono ?_
        rintro e u1 ⟨cs', bs', rfl, hb1, ho1, hn1, hr1⟩
        have ho2 := ho1
        obtain ⟨ka', kc', va', vc', x1, x2, hcs, -⟩ := ho2
        subst hcs
        have hH2 : (fun u : World => u.cell? ⟨bO, 1, none⟩ = some (.slice a j c) ∧ u.cell? ⟨w.heap.size, 1, none⟩ = some (.slice (some ⟨b, off, none⟩) g.edges.length ec) ∧ u.cell? ⟨b, off + i9 * 6, none⟩ = some (.int .i64 x.id) ∧ u.cell? ⟨b, off + i9 * 6 + 1, none⟩ = some (.int .i64 x.src) ∧ u.cell? ⟨b, off + i9 * 6 + 2, none⟩ = some (.int .i64 x.dst) ∧ u.cell? ⟨b, off + i9 * 6 + 3, none⟩ = some (.string x.ty) ∧ u.cell? ⟨b, off + i9 * 6 + 4, none⟩ = some (.slice ka x.keys.length kc) ∧ u.cell? ⟨b, off + i9 * 6 + 5, none⟩ = some (.slice va x.vals.length vc)) u1 := HSS.out u1 (fun q hq _ => hb1.block q hq)
        refine hKK.out _ _ (fun _ _ => hH2) ?_
        clear hKK KK hHeld
        have hHeld := hH2
        clear hH2
        have HC1 := Lib.hid (show _ ∧ _ ∧ _ ∧ _ from ⟨hb1, ho1, hn1, hr1⟩)
        have hz1 := hb1.size
        clear hb1 ho1 hn1 hr1
        (try simp only [Act.put, List.getElem_toArray, List.getElem_cons_zero, List.getElem_cons_succ, List.setIfInBounds_toArray, List.set_cons_zero, List.set_cons_succ])
        refine wpAnyJ_ready (rs := [8]) (by kernel_rfl) (by simp) ?_
        refine AllReadyJ.cons rfl (fun KK hKK => ?_) AllReadyJ.nil
        go_simp
        have hH2 : (fun u : World => u.cell? ⟨bO, 1, none⟩ = some (.slice a j c) ∧ u.cell? ⟨w.heap.size, 1, none⟩ = some (.slice (some ⟨b, off, none⟩) g.edges.length ec) ∧ u.cell? ⟨b, off + i9 * 6, none⟩ = some (.int .i64 x.id) ∧ u.cell? ⟨b, off + i9 * 6 + 1, none⟩ = some (.int .i64 x.src) ∧ u.cell? ⟨b, off + i9 * 6 + 2, none⟩ = some (.int .i64 x.dst) ∧ u.cell? ⟨b, off + i9 * 6 + 3, none⟩ = some (.string x.ty) ∧ u.cell? ⟨b, off + i9 * 6 + 4, none⟩ = some (.slice ka x.keys.length kc) ∧ u.cell? ⟨b, off + i9 * 6 + 5, none⟩ = some (.slice va x.vals.length vc)) (u1.alloc (.cells #[.int .i64 x.id, .int .i64 x.src, .int .i64 x.dst, .string x.ty, .slice ka' x.keys.length kc', .slice va' x.vals.length vc'] 40)) := HSS.out _ (fun q hq _ => by rw [Below.heap_alloc _ _ _ (Nat.lt_of_lt_of_le hq hz1)]; exact HC1.out.1.block q hq)
        refine hKK.out _ _ (fun _ _ => hH2) ?_
        clear hKK KK hHeld
        have hHeld := hH2
        clear hH2
        (try simp only [Act.put, List.getElem_toArray, List.getElem_cons_zero, List.getElem_cons_succ, List.setIfInBounds_toArray, List.set_cons_zero, List.set_cons_succ])
        refine wpAnyJ_ready (rs := [9]) (by kernel_rfl) (by simp) ?_
        refine AllReadyJ.cons rfl (fun KK hKK => ?_) AllReadyJ.nil
        refine step_append_lies _ (by rfl) _ _ 23 (by rfl) W1.heap.size 40 iE _ 6 88 Try.underlying23 siE szE s1E s2E rfl (by decide) (.slice a j c) j cl (by rfl) ((HO0.out.row.same ownIsEO HC1.out.1).own.alloc _) ⟨u1.heap.size, 0, none⟩ 1 1 [.int .i64 x.id, .int .i64 x.src, .int .i64 x.dst, .string x.ty, .slice ka' x.keys.length kc', .slice va' x.vals.length vc'] (by rfl) rfl (World.news_of_block (cs := #[.int .i64 x.id, .int .i64 x.src, .int .i64 x.dst, .string x.ty, .slice ka' x.keys.length kc', .slice va' x.vals.length vc']) (t := 40) (fr := (0, 0)) (Block.new u1 [.int .i64 x.id, .int .i64 x.src, .int .i64 x.dst, .string x.ty, .slice ka' x.keys.length kc', .slice va' x.vals.length vc'] 40)) (by simp [Value.oneCell']) (by decide) (by unfold maxLen; omega) (by omega) (by have := HO0.out.kept.size; simp; omega) (u1.heap.size + 1) (by simp) ?_
        intro gg cap u3 hown hgrow hat hlt3
        have HO3 := Lib.hid (OutS.app ownIsEO HO0.out HC1.out.1 HC1.out.2.1 HC1.out.2.2.1 HC1.out.2.2.2 hown hgrow rfl hat)
        have hH2 : (fun u : World => u.cell? ⟨bO, 1, none⟩ = some (.slice a j c) ∧ u.cell? ⟨w.heap.size, 1, none⟩ = some (.slice (some ⟨b, off, none⟩) g.edges.length ec) ∧ u.cell? ⟨b, off + i9 * 6, none⟩ = some (.int .i64 x.id) ∧ u.cell? ⟨b, off + i9 * 6 + 1, none⟩ = some (.int .i64 x.src) ∧ u.cell? ⟨b, off + i9 * 6 + 2, none⟩ = some (.int .i64 x.dst) ∧ u.cell? ⟨b, off + i9 * 6 + 3, none⟩ = some (.string x.ty) ∧ u.cell? ⟨b, off + i9 * 6 + 4, none⟩ = some (.slice ka x.keys.length kc) ∧ u.cell? ⟨b, off + i9 * 6 + 5, none⟩ = some (.slice va x.vals.length vc)) u3 := HSS.out u3 (fun q hq hn => by rw [hgrow.block q (by simp; omega) (fun e => hn e.symm), Below.heap_alloc _ _ _ (Nat.lt_of_lt_of_le hq hz1)]; exact HC1.out.1.block q hq)
        refine hKK.out _ _ (fun _ _ => hH2) ?_
        clear hKK KK hHeld
        have hHeld := hH2
        clear hH2 hown hgrow hat hlt3
        (try simp only [Act.put, List.getElem_toArray, List.getElem_cons_zero, List.getElem_cons_succ, List.setIfInBounds_toArray, List.set_cons_zero, List.set_cons_succ])
        refine wpAnyJ_take0 (i := 10) (v := ?_) rfl (by kernel_rfl) (by kernel_rfl) (by kernel_rfl) (fun _ _ _ h => h) (Or.inl ⟨by rfl, ?_⟩) ?_
        rotate_left
        focus ((intro w hSw; clear hSw; go_simp); try with_reducible rfl)
        (try simp only [Act.put, List.getElem_toArray, List.getElem_cons_zero, List.getElem_cons_succ, List.setIfInBounds_toArray, List.set_cons_zero, List.set_cons_succ])
        refine wpAnyJ_ready (rs := [11]) (by kernel_rfl) (by simp) ?_
        refine AllReadyJ.cons rfl (fun KK hKK => ?_) AllReadyJ.nil
        have y0 := HO3.out.blk.cell (i := 1) rfl
        have y1 := HO3.out.blk.free 1
        go_simp
        clear y0 y1
        have HO4 := Lib.hid (HO3.out.put ownIsEO rfl)
        refine hKK.out _ _ (fun h => absurd h (by decide)) ?_
        clear hKK KK hHeld HO3 HO0 HC1 HSS
        (try simp only [Act.put, List.getElem_toArray, List.getElem_cons_zero, List.getElem_cons_succ, List.setIfInBounds_toArray, List.set_cons_zero, List.set_cons_succ])
        refine wpAnyJ_done (by kernel_rfl) ?_ _
        refine NoPanic.normal ?_
        go_wp2_with fail
        go_roundw
        case rel => exact ⟨i9 + 1, j + 1, _, _, _, _, by go_num, by omega, by omega, Lib.hid (by rw [filter_in HXJ.out HFX.out]; exact HO4.out)⟩
        case measure => simp [intOf]; omega
    · have hlt' : ¬ (i9 : Int) < g.edges.length := by omega
      have HO2 : Hid (OutS IsEO 40 6 W1 bO 1 25 (fun v => [.slice na' g.nodes.length nc', v]) wr (.slice a j c) (.slice a j c) j cl (g.edges.filter f) bs) := Lib.hid (by have := HO.out; rwa [List.take_of_length_le (by omega)] at this)
      have v0 : wr.cell? ⟨bO, 0, none⟩ = some (.slice na' g.nodes.length nc') := HO2.out.blk.cell rfl
      have v1 : wr.cell? ⟨bO, 1, none⟩ = some (.slice a j c) := HO2.out.blk.cell rfl
      have hb9 : Block wr (w.heap.size + 1) [.slice none 0 0, .slice none 0 0] 25 := HBXr.out.blk 1 _ _ rfl
      have HT2 : Hid (wr.there (w.heap.size + 1) 0 2) := Lib.hid hb9.there
      obtain ⟨we, hwe⟩ : ∃ we, wr.setCells (w.heap.size + 1) 0 (#[.slice na' g.nodes.length nc', .slice a j c] : Array Value).toList = we := ⟨_, rfl⟩
      have hbe : Block we (w.heap.size + 1) [.slice na' g.nodes.length nc', .slice a j c] 25 := by rw [← hwe]; exact (hb9.set 0 _).set 1 _
      have q0 : we.cell? ⟨w.heap.size + 1, 0, none⟩ = some (.slice na' g.nodes.length nc') := hbe.cell rfl
      have q1 : we.cell? ⟨w.heap.size + 1, 1, none⟩ = some (.slice a j c) := hbe.cell rfl
      have HBE : Hid (Below w.heap.size w we) := Lib.hid (by rw [← hwe]; exact ((HBXr.out.put 1 0 rfl (.slice na' g.nodes.length nc')).put 1 1 rfl (.slice a j c)).bel)
      have HKE : Hid (∀ q, q ≠ w.heap.size + 1 → we.heap[q]? = wr.heap[q]?) := Lib.hid (fun q hq => by rw [← hwe]; exact setW_other _ _ _ _ _ hq)
      have HZE : Hid (we.heap.size = wr.heap.size) := Lib.hid (by rw [← hwe]; exact setW_size _ _ _ _)
      have HWE := Lib.hid hwe
      clear hb9 hbe hwe
      go_wp2_with (refine wpList_store_mid rfl 25 _ _ rfl (w.heap.size + 1) 0 #[.slice na' g.nodes.length nc', .slice a j c] rfl rfl HT2.out (by kernel_rfl) (by simp [Value.oneCell']) ?_; rw [HWE.out])
      refine bodyPost_ret (by simp [results, Try.results45, go_sem, q0, q1]; rfl) rfl ?_
      rw [HP.out]
      have hl9 := HO2.out.row.len
      subst hl9
      refine ⟨_, rfl, HBE.out, ?_⟩
      intro u hzu hu
      have hze := HZE.out
      have hkz := HO2.out.kept.size
      have h1 := (HO2.out.row.keep ownIsEO (w' := u) (fun q hq => by
        have h9 : W1.heap.size ≤ q := (by rcases hq with hq | hq; exact (HO2.out.row.lt q hq).1; exact (HO2.out.row.own.lt q hq).1)
        have h8 : q < wr.heap.size := (by rcases hq with hq | hq; exact (HO2.out.row.lt q hq).2; exact (HO2.out.row.own.lt q hq).2)
        have h7 := HL2.out
        have h6 := HZ1.out
        rw [hu q (by omega) (by omega)]
        exact HKE.out q (by omega)) (by omega)).readE
      have h2 := (HRO.out.keep ownIsNO (w' := u) (fun q hq => by
        have h9 : q < w2.heap.size := by rcases hq with hq | hq; exact (HRO.out.lt q hq).2; exact (HRO.out.own.lt q hq).2
        have h8 : w.heap.size + 2 ≤ q := Nat.le_trans HLB.out (by rcases hq with hq | hq; exact (HRO.out.lt q hq).1; exact (HRO.out.own.lt q hq).1)
        have h7 := HBO.out
        have h6 := HZ1.out
        rw [hu q (by omega) (by omega), HKE.out q (by omega), HO2.out.kept.block q (by omega) (by simp; omega), HB1a.out.block q h9]) (by have h6 := HZ1.out; have h7 := HBO.out; omega)).readN
      exact ⟨_, _, _, _, rfl, h2.1, h1.1, h2.2, h1.2⟩
end Go.Proofs.Ytoakloicjlfaaaa

/- Layer 14: the reference's Put. Conditions: the graph's numbers rise, the graph is small. -/
namespace Go.Proofs.Ytoakloicjlfaaaa
open Go.RowKit
set_option linter.unusedSimpArgs false
set_option linter.unusedVariables false
set_option maxRecDepth 100000

theorem setL_in {α : Type} {l : List α} {i : Nat} {x : α} (h : i < l.length) : setL l i true x = l.set i x := by
 rw [List.set_eq_take_append_cons_drop, if_pos h]; rfl

set_option maxHeartbeats 32000000 in
theorem rput_any (g : Gt) (n : Nt) (cs ds : List Value) (B : Nat) (w : World) (hg : IsG B w cs g) (hn : IsN B w ds n) (hB : B ≤ w.heap.size) (hr : RiseI (idsN g)) (hsm : SmG g) (hsn : SmN n) :
    Calls Try.prog 42 #[.agg cs.toArray, .agg ds.toArray] w (ResK (putG g n) w) := by
  have hg0 := hg
  obtain ⟨na, nc, ea, ec, rfl, hnz, hez, hN, hE⟩ := hg
  have hn0 := hn
  obtain ⟨la, lc, ka, kc, va, vc, rfl⟩ := node_cells hn0
  show Calls Try.prog 42 #[.agg #[.slice na g.nodes.length nc, .slice ea g.edges.length ec], .agg #[.int .i64 n.id, .slice la n.labels.length lc, .slice ka n.keys.length kc, .slice va n.vals.length vc]] w _
  have hsm0 := hsm
  obtain ⟨⟨hnl, hel⟩, hs1, hs2⟩ := hsm
  obtain ⟨iE, siE, szE, s1E, s2E⟩ := info_parts Try.infoNode
  obtain ⟨W0, hW0⟩ : ∃ W0, ((w.alloc (.cells #[.slice na g.nodes.length nc, .slice ea g.edges.length ec] 25)).alloc (.cells #[.int .i64 n.id, .slice la n.labels.length lc, .slice ka n.keys.length kc, .slice va n.vals.length vc] 38)).alloc (.cells #[.slice none 0 0, .slice none 0 0] 25) = W0 := ⟨_, rfl⟩
  have HBX : Hid (Bx w [([.slice na g.nodes.length nc, .slice ea g.edges.length ec], 25), ([.int .i64 n.id, .slice la n.labels.length lc, .slice ka n.keys.length kc, .slice va n.vals.length vc], 38), ([.slice none 0 0, .slice none 0 0], 25)] W0) := Lib.hid (by rw [← hW0]; exact ((((((Bx.nil w).alloc rfl [.slice na g.nodes.length nc, .slice ea g.edges.length ec] 25)).alloc (by simp) [.int .i64 n.id, .slice la n.labels.length lc, .slice ka n.keys.length kc, .slice va n.vals.length vc] 38)).alloc (by simp) [.slice none 0 0, .slice none 0 0] 25))
  have HW0 := Lib.hid hW0
  have HM := Lib.hid (fun (w' : World) (hb : Below w.heap.size w w') => rMayNode_any n _ B w' (hn.below hb hB) (Nat.le_trans hB hb.size))
  have HCP := Lib.hid (fun (w' : World) (hb : Below w.heap.size w w') => rCopyG_own g _ B w' (hg0.below hb hB) (Nat.le_trans hB hb.size) hsm0)
  have HCN := Lib.hid (fun (w' : World) (hb : Below w.heap.size w w') => rCopyNode_any n _ B w' (hn.below hb hB) (Nat.le_trans hB hb.size) hsn)
  have HAN := Lib.hid (fun (id : Int) (w' : World) (hb : Below w.heap.size w w') => nodeAt_any g id _ B w' (hg0.below hb hB) (Nat.le_trans hB hb.size))
  have HAT := Lib.hid (fun (id : Int) (w' : World) (hb : Below w.heap.size w w') => nodeAt_any g id _ B w' (hg0.below hb hB) (Nat.le_trans hB hb.size))
  have HHI := Lib.hid (hasI_idx hr n.id)
  have HPL := Lib.hid (posI_le (idsN g) n.id)
  have HPT := Lib.hid (fun h => posI_lt (l := idsN g) (id := n.id) h)
  have hil : (idsN g).length = g.nodes.length := by unfold idsN; simp
  rw [hil] at HPL HPT
  have HRI := Lib.hid hr
  have HIL := Lib.hid hil
  have i0_0 : W0.cell? ⟨w.heap.size, 0, none⟩ = some (.slice na g.nodes.length nc) := HBX.out.cell 0 0 rfl rfl
  have i0_1 : W0.cell? ⟨w.heap.size, 1, none⟩ = some (.slice ea g.edges.length ec) := HBX.out.cell 0 1 rfl rfl
  have i1_0 : W0.cell? ⟨w.heap.size + 1, 0, none⟩ = some (.int .i64 n.id) := HBX.out.cell 1 0 rfl rfl
  have i1_1 : W0.cell? ⟨w.heap.size + 1, 1, none⟩ = some (.slice la n.labels.length lc) := HBX.out.cell 1 1 rfl rfl
  have i1_2 : W0.cell? ⟨w.heap.size + 1, 2, none⟩ = some (.slice ka n.keys.length kc) := HBX.out.cell 1 2 rfl rfl
  have i1_3 : W0.cell? ⟨w.heap.size + 1, 3, none⟩ = some (.slice va n.vals.length vc) := HBX.out.cell 1 3 rfl rfl
  have i2_0 : W0.cell? ⟨w.heap.size + 2, 0, none⟩ = some (.slice none 0 0) := HBX.out.cell 2 0 rfl rfl
  have i2_1 : W0.cell? ⟨w.heap.size + 2, 1, none⟩ = some (.slice none 0 0) := HBX.out.cell 2 1 rfl rfl
  rw [← hW0] at i0_0 i0_1 i1_0 i1_1 i1_2 i1_3 i2_0 i2_1
  clear hW0 hg0 hN hE hn hn0 hnz hez hr hs1 hs2 hsn hil hsm0
  go_enter Try.func42, Try.ntmps42
  go_wp2_with fail
  (try rw [show w.heap.size + 1 + 1 = w.heap.size + 2 from rfl])
  rw [HW0.out]
  refine (HM.out _ HBX.out.bel).mono ?_
  rintro e w1 ⟨rfl, hb1⟩
  have HBX1 := Lib.hid (HBX.out.below hb1)
  clear i0_0 i0_1 i1_0 i1_1 i1_2 i1_3 i2_0 i2_1 hb1
  cases hm : mayN n with
  | false =>
    have HP : Hid (putG g n = (20, noG)) := Lib.hid (by unfold putG; rw [if_pos hm])
    clear hm
    have f2_0 : w1.cell? ⟨w.heap.size + 2, 0, none⟩ = some (.slice none 0 0) := HBX1.out.cell 2 0 rfl rfl
    have f2_1 : w1.cell? ⟨w.heap.size + 2, 1, none⟩ = some (.slice none 0 0) := HBX1.out.cell 2 1 rfl rfl
    have z2_0 : w1.frozen? ⟨w.heap.size + 2, 0, none⟩ = false := HBX1.out.free 2 0 rfl
    have z2_1 : w1.frozen? ⟨w.heap.size + 2, 1, none⟩ = false := HBX1.out.free 2 1 rfl
    obtain ⟨q0, q1⟩ := two_cells (HBX1.out.blk 2 _ _ rfl) (.slice none 0 0) (.slice none 0 0)
    go_wp2_with fail
    refine bodyPost_ret (by simp [results, Try.results42, go_sem, q0, q1]; rfl) rfl ?_
    rw [HP.out]
    exact (ResP.err _ ((HBX1.out.put 2 0 rfl (.slice none 0 0)).put 2 1 rfl (.slice none 0 0)).bel).resK
  | true =>
    have HMT := Lib.hid hm
    clear hm
    have HN1 : Hid (¬ mayN n = false) := Lib.hid (by rw [HMT.out]; simp)
    have f0_0 : w1.cell? ⟨w.heap.size, 0, none⟩ = some (.slice na g.nodes.length nc) := HBX1.out.cell 0 0 rfl rfl
    have f0_1 : w1.cell? ⟨w.heap.size, 1, none⟩ = some (.slice ea g.edges.length ec) := HBX1.out.cell 0 1 rfl rfl
    have f1_0 : w1.cell? ⟨w.heap.size + 1, 0, none⟩ = some (.int .i64 n.id) := HBX1.out.cell 1 0 rfl rfl
    have f1_1 : w1.cell? ⟨w.heap.size + 1, 1, none⟩ = some (.slice la n.labels.length lc) := HBX1.out.cell 1 1 rfl rfl
    have f1_2 : w1.cell? ⟨w.heap.size + 1, 2, none⟩ = some (.slice ka n.keys.length kc) := HBX1.out.cell 1 2 rfl rfl
    have f1_3 : w1.cell? ⟨w.heap.size + 1, 3, none⟩ = some (.slice va n.vals.length vc) := HBX1.out.cell 1 3 rfl rfl
    go_wp2_with fail
    refine (HCP.out _ HBX1.out.bel).mono ?_
    rintro e w2 ⟨na', nc', ea', ec', c1, c2, b1, b2, M, rfl, hb2, hRN, hMM, hRE, hwM⟩
    have HBX2 := Lib.hid (HBX1.out.below hb2)
    have HRN := Lib.hid hRN
    have HRE := Lib.hid hRE
    have HMM := Lib.hid hMM
    have HWM := Lib.hid hwM
    have HB2 := Lib.hid hb2
    have HB2 := Lib.hid hb2
    clear f0_0 f0_1 f1_0 f1_1 f1_2 f1_3 hRN hRE hMM hwM hb2
    obtain ⟨w2a, hw2a⟩ : ∃ w', w2.alloc (.cells #[.slice na' g.nodes.length nc', .slice ea' g.edges.length ec'] 25) = w' := ⟨_, rfl⟩
    have hb2a : Below w2.heap.size w2 w2a := by rw [← hw2a]; exact (Below.refl _ _).alloc (Nat.le_refl _) _
    have hz2a : w2a.heap.size = w2.heap.size + 1 := by rw [← hw2a]; simp
    have HBX2a := Lib.hid (HBX2.out.below hb2a)
    have HBO2a : Hid (Block w2a w2.heap.size [.slice na' g.nodes.length nc', .slice ea' g.edges.length ec'] 25) := Lib.hid (by rw [← hw2a]; exact Block.new _ _ _)
    have HZ2a := Lib.hid hz2a
    have HB2a := Lib.hid hb2a
    have HW2a := Lib.hid hw2a
    have f0_0 : w2a.cell? ⟨w.heap.size, 0, none⟩ = some (.slice na g.nodes.length nc) := HBX2a.out.cell 0 0 rfl rfl
    have f0_1 : w2a.cell? ⟨w.heap.size, 1, none⟩ = some (.slice ea g.edges.length ec) := HBX2a.out.cell 0 1 rfl rfl
    have f1_0 : w2a.cell? ⟨w.heap.size + 1, 0, none⟩ = some (.int .i64 n.id) := HBX2a.out.cell 1 0 rfl rfl
    have f1_1 : w2a.cell? ⟨w.heap.size + 1, 1, none⟩ = some (.slice la n.labels.length lc) := HBX2a.out.cell 1 1 rfl rfl
    have f1_2 : w2a.cell? ⟨w.heap.size + 1, 2, none⟩ = some (.slice ka n.keys.length kc) := HBX2a.out.cell 1 2 rfl rfl
    have f1_3 : w2a.cell? ⟨w.heap.size + 1, 3, none⟩ = some (.slice va n.vals.length vc) := HBX2a.out.cell 1 3 rfl rfl
    rw [← hw2a] at f0_0 f0_1 f1_0 f1_1 f1_2 f1_3
    clear hw2a hb2a hz2a
    go_wp2_with fail
    rw [HW2a.out]
    refine (HCN.out _ HBX2a.out.bel).mono ?_
    rintro e w3 ⟨cs3, bs3, rfl, hb3, ho3, hn3, hr3⟩
    clear f0_0 f0_1 f1_0 f1_1 f1_2 f1_3
    have ho4 := ho3
    obtain ⟨la', lc', ka', kc', va', vc', q1, q2, q3, rfl, -⟩ := ho4
    have HBX3 := Lib.hid (HBX2a.out.below hb3)
    obtain ⟨w4, hw4⟩ : ∃ w4, ((((w3.setCell ⟨w.heap.size + 1, 0, none⟩ (.int .i64 n.id)).setCell ⟨w.heap.size + 1, 1, none⟩ (.slice la' n.labels.length lc')).setCell ⟨w.heap.size + 1, 2, none⟩ (.slice ka' n.keys.length kc')).setCell ⟨w.heap.size + 1, 3, none⟩ (.slice va' n.vals.length vc')) = w4 := ⟨_, rfl⟩
    have HBX4 : Hid (Bx w [([.slice na g.nodes.length nc, .slice ea g.edges.length ec], 25), ([.int .i64 n.id, .slice la' n.labels.length lc', .slice ka' n.keys.length kc', .slice va' n.vals.length vc'], 38), ([.slice none 0 0, .slice none 0 0], 25)] w4) := Lib.hid (by rw [← hw4]; exact ((((HBX3.out.put 1 0 rfl (.int .i64 n.id)).put 1 1 rfl (.slice la' n.labels.length lc')).put 1 2 rfl (.slice ka' n.keys.length kc')).put 1 3 rfl (.slice va' n.vals.length vc')))
    have hz4 : w4.heap.size = w3.heap.size := by rw [← hw4]; simp [World.setCell]
    have hk4 : ∀ q, q ≠ w.heap.size + 1 → w4.heap[q]? = w3.heap[q]? := fun q hq => by rw [← hw4, Below.heap_setCell _ _ _ _ (by show q ≠ w.heap.size + 1; exact hq), Below.heap_setCell _ _ _ _ (by show q ≠ w.heap.size + 1; exact hq), Below.heap_setCell _ _ _ _ (by show q ≠ w.heap.size + 1; exact hq), Below.heap_setCell _ _ _ _ (by show q ≠ w.heap.size + 1; exact hq)]
    have HC3 := Lib.hid (show _ ∧ _ ∧ _ ∧ _ from ⟨hb3, ho3, hn3, hr3⟩)
    have HZ4 := Lib.hid hz4
    have HK4 := Lib.hid hk4
    have HW4 := Lib.hid hw4
    have d1_0 : w3.cell? ⟨w.heap.size + 1, 0, none⟩ = some (.int .i64 n.id) := HBX3.out.cell 1 0 rfl rfl
    have d1_1 : w3.cell? ⟨w.heap.size + 1, 1, none⟩ = some (.slice la n.labels.length lc) := HBX3.out.cell 1 1 rfl rfl
    have d1_2 : w3.cell? ⟨w.heap.size + 1, 2, none⟩ = some (.slice ka n.keys.length kc) := HBX3.out.cell 1 2 rfl rfl
    have d1_3 : w3.cell? ⟨w.heap.size + 1, 3, none⟩ = some (.slice va n.vals.length vc) := HBX3.out.cell 1 3 rfl rfl
    have z1_0 : w3.frozen? ⟨w.heap.size + 1, 0, none⟩ = false := HBX3.out.free 1 0 rfl
    have z1_1 : w3.frozen? ⟨w.heap.size + 1, 1, none⟩ = false := HBX3.out.free 1 1 rfl
    have z1_2 : w3.frozen? ⟨w.heap.size + 1, 2, none⟩ = false := HBX3.out.free 1 2 rfl
    have z1_3 : w3.frozen? ⟨w.heap.size + 1, 3, none⟩ = false := HBX3.out.free 1 3 rfl
    have f0_0 : w4.cell? ⟨w.heap.size, 0, none⟩ = some (.slice na g.nodes.length nc) := HBX4.out.cell 0 0 rfl rfl
    have f0_1 : w4.cell? ⟨w.heap.size, 1, none⟩ = some (.slice ea g.edges.length ec) := HBX4.out.cell 0 1 rfl rfl
    have f1_0 : w4.cell? ⟨w.heap.size + 1, 0, none⟩ = some (.int .i64 n.id) := HBX4.out.cell 1 0 rfl rfl
    rw [← hw4] at f0_0 f0_1 f1_0
    clear hw4 hk4 hz4 hb3 ho3 hn3 hr3
    go_wp2_with fail
    rw [HW4.out]
    refine (HAT.out n.id _ HBX4.out.bel).mono ?_
    rintro e w5 ⟨rfl, hb5⟩
    clear d1_0 d1_1 d1_2 d1_3
    clear z1_0 z1_1 z1_2 z1_3
    clear f0_0 f0_1 f1_0
    have HBX5 := Lib.hid (HBX4.out.below hb5)
    have HB5 := Lib.hid hb5
    clear hb5
    have HLT : Hid (w.heap.size + 3 ≤ w1.heap.size ∧ w1.heap.size ≤ w2.heap.size ∧ w2.heap.size + 1 ≤ w3.heap.size ∧ w3.heap.size ≤ w5.heap.size) := Lib.hid (by have h1 := HBX1.out.len; have h2 := HB2.out.size; have h3 := HC3.out.1.size; have h4 := HB5.out.size; have h5 := HZ4.out; have h6 := HZ2a.out; simp at h1; omega)
    have HK5 : Hid (∀ q, q < w3.heap.size → q ≠ w.heap.size + 1 → w5.heap[q]? = w3.heap[q]?) := Lib.hid (fun q h1 h2 => by rw [HB5.out.block q (by have := HZ4.out; omega), HK4.out q h2])
    have HK2 : Hid (∀ q, q < w2.heap.size → q ≠ w.heap.size + 1 → w5.heap[q]? = w2.heap[q]?) := Lib.hid (fun q h1 h2 => by have := HLT.out; rw [HK5.out q (by omega) h2, HC3.out.1.block q (by have := HZ2a.out; omega), HB2a.out.block q h1])
    have HRN5 := Lib.hid (HRN.out.keep ownIsNO (w' := w5) (fun q hq => HK2.out q (by rcases hq with hq | hq; exact (HRN.out.lt q hq).2; exact (HRN.out.own.lt q hq).2) (by have h9 : w1.heap.size ≤ q := (by rcases hq with hq | hq; exact (HRN.out.lt q hq).1; exact (HRN.out.own.lt q hq).1); have := HLT.out; omega)) (by have := HLT.out; omega))
    have HRE5 := Lib.hid (HRE.out.keep ownIsEO (w' := w5) (fun q hq => HK2.out q (by rcases hq with hq | hq; exact (HRE.out.lt q hq).2; exact (HRE.out.own.lt q hq).2) (by have h9 : M ≤ q := (by rcases hq with hq | hq; exact (HRE.out.lt q hq).1; exact (HRE.out.own.lt q hq).1); have := HLT.out; have := HWM.out; omega)) (by have := HLT.out; omega))
    have HXN : Hid (IsNO w5 [.int .i64 n.id, .slice la' n.labels.length lc', .slice ka' n.keys.length kc', .slice va' n.vals.length vc'] n bs3) := Lib.hid (ownIsNO.same HC3.out.2.1 (fun q hq => HK5.out q (HC3.out.2.2.2 q hq).2 (by have h9 := (HC3.out.2.2.2 q hq).1; have := HZ2a.out; have := HLT.out; omega)))
    have HBO5 : Hid (Block w5 w2.heap.size [.slice na' g.nodes.length nc', .slice ea' g.edges.length ec'] 25) := Lib.hid (HBO2a.out.of_heap (by have := HLT.out; rw [HK5.out _ (by omega) (by omega), HC3.out.1.block _ (by have := HZ2a.out; omega)]))
    have HRC := HRN5
    have HRO := HRE5
    have HPP : Hid (∀ q, (q ∈ b1 ∨ q ∈ bs3) → w1.heap.size ≤ q ∧ q < w5.heap.size ∧ q ≠ w2.heap.size ∧ (Value.slice na' g.nodes.length nc').ownBlock ≠ some q) := Lib.hid (fun q hq => by
      have hlt := HLT.out
      have hz := HZ2a.out
      have hro := HRN.out
      rcases hq with hq | hq
      · have h1 := hro.lt q hq; have hwm := HWM.out; exact ⟨by omega, by omega, by omega, hro.ne q hq⟩
      · have h1 := HC3.out.2.2.2 q hq; exact ⟨by omega, by omega, by omega, fun e => by have h2 := (hro.own.lt q e).2; omega⟩)
    obtain ⟨at9, hat9⟩ : ∃ x, idxOf (g.nodes.map (·.id)) n.id = x := ⟨_, rfl⟩
    have HI1 : Hid (hasI (idsN g) n.id = decide (0 ≤ at9)) := Lib.hid (by rw [← hat9]; exact HHI.out.1)
    have HI2 : Hid (hasI (idsN g) n.id = true → at9 = posI (idsN g) n.id) := Lib.hid (by rw [← hat9]; exact HHI.out.2)
    rw [hat9]
    clear hat9
    by_cases hat : 0 ≤ at9
    · skip
      have HII : Hid (hasI (idsN g) n.id = true) := Lib.hid (by rw [HI1.out]; exact decide_eq_true hat)
      obtain ⟨p, hp⟩ : ∃ p, posI (idsN g) n.id = p := ⟨_, rfl⟩
      have HPI := Lib.hid hp
      have hpt : p < g.nodes.length := by rw [← hp]; exact HPT.out HII.out
      obtain rfl : at9 = p := by rw [← hp]; exact HI2.out HII.out
      clear hp hat
      have hpt' : (p : Int) < g.nodes.length := by omega
      have hp0 : (0 : Int) ≤ p := by omega
      obtain ⟨gb, eg, hg1, hg2⟩ := own_some HRC.out.own (by omega)
      subst eg
      have hgn : ∀ q, q ∈ b1 ∨ q ∈ bs3 → q ≠ gb := fun q hq e => (HPP.out q hq).2.2.2 (by rw [e]; rfl)
      have hgw : gb ≠ w2.heap.size := by have h1 := (HRN.out.own.lt gb rfl).2; omega
      have hgo : ∀ q, q ∈ b2 ∨ (Value.slice ea' g.edges.length ec').ownBlock = some q → q ≠ gb := fun q hq e => by
        have h1 := HMM.out gb (.inr rfl)
        have h2 : M ≤ q := by rcases hq with hq | hq; exact (HRE.out.lt q hq).1; exact (HRE.out.own.lt q hq).1
        omega
      have hflat := (HRC.out.flat ownIsNO (fun _ => IsNO.one) (by decide)).mono (fun cs x h => h.imp (P' := fun q => q ∈ b1 ∨ q ∈ bs3) (fun q hq => .inl hq))
      have HST : Hid (InsSt IsNO (fun q => q ∈ b1 ∨ q ∈ bs3) 38 4 (w1.heap.size) w [([.slice na g.nodes.length nc, .slice ea g.edges.length ec], 25), ([.int .i64 n.id, .slice la' n.labels.length lc', .slice ka' n.keys.length kc', .slice va' n.vals.length vc'], 38), ([.slice none 0 0, .slice none 0 0], 25)] gb nc' g.nodes.length w5 g.nodes c1 w5) := Lib.hid ⟨HBX5.out, rfl, HRC.out.own, hflat, fun _ _ => rfl, rfl⟩
      have HTH : Hid (w5.there gb (p * 4) 4) := Lib.hid (own_thereAt HRC.out.own hpt)
      obtain ⟨w6, hw6⟩ : ∃ w6, w5.setCells gb (p * 4) (#[.int .i64 n.id, .slice la' n.labels.length lc', .slice ka' n.keys.length kc', .slice va' n.vals.length vc'] : Array Value).toList = w6 := ⟨_, rfl⟩
      have HST6 : Hid (InsSt IsNO (fun q => q ∈ b1 ∨ q ∈ bs3) 38 4 (w1.heap.size) w [([.slice na g.nodes.length nc, .slice ea g.edges.length ec], 25), ([.int .i64 n.id, .slice la' n.labels.length lc', .slice ka' n.keys.length kc', .slice va' n.vals.length vc'], 38), ([.slice none 0 0, .slice none 0 0], 25)] gb nc' g.nodes.length w5 (g.nodes.set p n) (setMany c1 (p * 4) [.int .i64 n.id, .slice la' n.labels.length lc', .slice ka' n.keys.length kc', .slice va' n.vals.length vc']) w6) := Lib.hid (by rw [← hw6]; exact HST.out.put ownIsNO (by have := HLT.out; simp; have := hg1; omega) hgn hpt ⟨bs3, HXN.out, fun q hq => .inr hq⟩ (IsNO.one _ _ _ HXN.out))
      have HW6 := Lib.hid hw6
      clear hw6
      have HOK : Hid (∀ q, q ∈ b2 ∨ (Value.slice ea' g.edges.length ec').ownBlock = some q → q ≠ gb ∧ w.heap.size + 2 + 1 ≤ q) := Lib.hid (fun q hq => ⟨hgo q hq, by have h9 : w1.heap.size ≤ q := (by rcases hq with hq | hq; exact Nat.le_trans HWM.out (HRE.out.lt q hq).1; exact Nat.le_trans HWM.out (HRE.out.own.lt q hq).1); have := HLT.out; omega⟩)
      have HPK : Hid (∀ q, (q ∈ b1 ∨ q ∈ bs3) → w.heap.size + 2 + 1 ≤ q ∧ q < (w6).heap.size) := Lib.hid (fun q hq => by have h9 := HPP.out q hq; have := HLT.out; have := HWM.out; have h8 := HST6.out.sz; exact ⟨by omega, by rw [h8]; exact h9.2.1⟩)
      have HGB : Hid (w.heap.size + 2 + 1 ≤ gb) := Lib.hid (by have := HLT.out; have := HWM.out; omega)
      have HBX6 : Hid (Bx w [([.slice na g.nodes.length nc, .slice ea g.edges.length ec], 25), ([.int .i64 n.id, .slice la' n.labels.length lc', .slice ka' n.keys.length kc', .slice va' n.vals.length vc'], 38), ([.slice none 0 0, .slice none 0 0], 25)] w6) := Lib.hid HST6.out.bx
      have hbo : Block w6 w2.heap.size [.slice (some ⟨gb, 0, none⟩) g.nodes.length nc', .slice ea' g.edges.length ec'] 25 := HBO5.out.of_heap (HST6.out.kp _ (fun e => hgw e.symm))
      have HP : Hid (putG g n = (0, ⟨g.nodes.set p n, g.edges⟩)) := Lib.hid (by unfold putG; rw [if_neg HN1.out, if_neg (by rw [HII.out]; simp), HPI.out, HII.out, setL_in hpt])
      have e1_0 : w5.cell? ⟨w.heap.size + 1, 0, none⟩ = some (.int .i64 n.id) := HBX5.out.cell 1 0 rfl rfl
      have e1_1 : w5.cell? ⟨w.heap.size + 1, 1, none⟩ = some (.slice la' n.labels.length lc') := HBX5.out.cell 1 1 rfl rfl
      have e1_2 : w5.cell? ⟨w.heap.size + 1, 2, none⟩ = some (.slice ka' n.keys.length kc') := HBX5.out.cell 1 2 rfl rfl
      have e1_3 : w5.cell? ⟨w.heap.size + 1, 3, none⟩ = some (.slice va' n.vals.length vc') := HBX5.out.cell 1 3 rfl rfl
      have bo0 : w5.cell? ⟨w2.heap.size, 0, none⟩ = some (.slice (some ⟨gb, 0, none⟩) g.nodes.length nc') := HBO5.out.cell rfl
      clear hgn hgw hgo hflat hg1 hg2
      have v0 : w6.cell? ⟨w2.heap.size, 0, none⟩ = some (.slice (some ⟨gb, 0, none⟩) g.nodes.length nc') := hbo.cell rfl
      have v1 : w6.cell? ⟨w2.heap.size, 1, none⟩ = some (.slice ea' g.edges.length ec') := hbo.cell rfl
      have HT2 : Hid (w6.there (w.heap.size + 2) 0 2) := Lib.hid (show Block w6 (w.heap.size + 2) [.slice none 0 0, .slice none 0 0] 25 from HBX6.out.blk 2 _ _ rfl).there
      obtain ⟨we, hwe⟩ : ∃ we, w6.setCells (w.heap.size + 2) 0 (#[.slice (some ⟨gb, 0, none⟩) g.nodes.length nc', .slice ea' g.edges.length ec'] : Array Value).toList = we := ⟨_, rfl⟩
      have hbe : Block we (w.heap.size + 2) [.slice (some ⟨gb, 0, none⟩) g.nodes.length nc', .slice ea' g.edges.length ec'] 25 := by rw [← hwe]; exact ((show Block w6 (w.heap.size + 2) [.slice none 0 0, .slice none 0 0] 25 from HBX6.out.blk 2 _ _ rfl).set 0 _).set 1 _
      have q0 : we.cell? ⟨w.heap.size + 2, 0, none⟩ = some (.slice (some ⟨gb, 0, none⟩) g.nodes.length nc') := hbe.cell rfl
      have q1 : we.cell? ⟨w.heap.size + 2, 1, none⟩ = some (.slice ea' g.edges.length ec') := hbe.cell rfl
      have HBE : Hid (Below w.heap.size w we) := Lib.hid (by rw [← hwe]; exact ((HBX6.out.put 2 0 rfl (.slice (some ⟨gb, 0, none⟩) g.nodes.length nc')).put 2 1 rfl (.slice ea' g.edges.length ec')).bel)
      have HKE : Hid (∀ q, q ≠ w.heap.size + 2 → we.heap[q]? = w6.heap[q]?) := Lib.hid (fun q hq => by rw [← hwe]; exact setW_other _ _ _ _ _ hq)
      have HZE : Hid (we.heap.size = w6.heap.size) := Lib.hid (by rw [← hwe]; exact setW_size _ _ _ _)
      have HWE := Lib.hid hwe
      clear hbo hbe hwe
      go_wp2_with (first | (refine wpList_store_mid rfl 25 _ _ rfl (w.heap.size + 2) 0 #[.slice (some ⟨gb, 0, none⟩) g.nodes.length nc', .slice ea' g.edges.length ec'] rfl rfl HT2.out (by kernel_rfl) (by simp [Value.oneCell']) ?_; rw [HWE.out]) | (refine wpList_store_mid rfl 38 _ _ rfl gb (p * 4) #[.int .i64 n.id, .slice la' n.labels.length lc', .slice ka' n.keys.length kc', .slice va' n.vals.length vc'] rfl rfl HTH.out (by kernel_rfl) (by simp [Value.oneCell']) ?_; rw [HW6.out]))
      refine bodyPost_ret (by simp [results, Try.results42, go_sem, q0, q1]; rfl) rfl ?_
      rw [HP.out]
      refine ⟨_, rfl, HBE.out, ?_⟩
      exact (ins_node (b := w.heap.size + 2) HST6.out HRO.out HOK.out HPK.out HGB.out HKE.out HZE.out).mono (by omega)
    · skip
      have HII : Hid (hasI (idsN g) n.id = false) := Lib.hid (by rw [HI1.out]; exact decide_eq_false hat)
      have hat' : at9 < 0 := by omega
      by_cases hroom : 4096 ≤ g.nodes.length
      · have HP : Hid (putG g n = (8, noG)) := Lib.hid (by unfold putG; rw [if_neg HN1.out, if_pos ⟨HII.out, hroom⟩])
        have hbig' : (4096 : Int) ≤ g.nodes.length := by omega
        have f0_0 : w5.cell? ⟨w.heap.size, 0, none⟩ = some (.slice na g.nodes.length nc) := HBX5.out.cell 0 0 rfl rfl
        have f0_1 : w5.cell? ⟨w.heap.size, 1, none⟩ = some (.slice ea g.edges.length ec) := HBX5.out.cell 0 1 rfl rfl
        have f2_0 : w5.cell? ⟨w.heap.size + 2, 0, none⟩ = some (.slice none 0 0) := HBX5.out.cell 2 0 rfl rfl
        have f2_1 : w5.cell? ⟨w.heap.size + 2, 1, none⟩ = some (.slice none 0 0) := HBX5.out.cell 2 1 rfl rfl
        have z2_0 : w5.frozen? ⟨w.heap.size + 2, 0, none⟩ = false := HBX5.out.free 2 0 rfl
        have z2_1 : w5.frozen? ⟨w.heap.size + 2, 1, none⟩ = false := HBX5.out.free 2 1 rfl
        obtain ⟨q0, q1⟩ := two_cells (HBX5.out.blk 2 _ _ rfl) (.slice none 0 0) (.slice none 0 0)
        go_wp2_with fail
        refine bodyPost_ret (by simp [results, Try.results42, go_sem, q0, q1]; rfl) rfl ?_
        rw [HP.out]
        exact (ResP.err _ ((HBX5.out.put 2 0 rfl (.slice none 0 0)).put 2 1 rfl (.slice none 0 0)).bel).resK
      · skip
        have hsml : g.nodes.length < 4096 := by omega
        have hsml' : (g.nodes.length : Int) < 4096 := by omega
        have hsml2 : ¬ (4096 : Int) ≤ g.nodes.length := by omega
        have HP : Hid (putG g n = (0, ⟨setL g.nodes (posI (idsN g) n.id) false n, g.edges⟩)) := Lib.hid (by unfold putG; rw [if_neg HN1.out, if_neg (fun h => hroom h.2), HII.out])
        clear hroom hat
        have bo0 : w5.cell? ⟨w2.heap.size, 0, none⟩ = some (.slice na' g.nodes.length nc') := HBO5.out.cell rfl
        have bo1 : w5.cell? ⟨w2.heap.size, 1, none⟩ = some (.slice ea' g.edges.length ec') := HBO5.out.cell rfl
        have bof : w5.frozen? ⟨w2.heap.size, 0, none⟩ = false := HBO5.out.free 0
        have e0_0 : w5.cell? ⟨w.heap.size, 0, none⟩ = some (.slice na g.nodes.length nc) := HBX5.out.cell 0 0 rfl rfl
        have e0_1 : w5.cell? ⟨w.heap.size, 1, none⟩ = some (.slice ea g.edges.length ec) := HBX5.out.cell 0 1 rfl rfl
        have e1_0 : w5.cell? ⟨w.heap.size + 1, 0, none⟩ = some (.int .i64 n.id) := HBX5.out.cell 1 0 rfl rfl
        have e1_1 : w5.cell? ⟨w.heap.size + 1, 1, none⟩ = some (.slice la' n.labels.length lc') := HBX5.out.cell 1 1 rfl rfl
        have e1_2 : w5.cell? ⟨w.heap.size + 1, 2, none⟩ = some (.slice ka' n.keys.length kc') := HBX5.out.cell 1 2 rfl rfl
        have e1_3 : w5.cell? ⟨w.heap.size + 1, 3, none⟩ = some (.slice va' n.vals.length vc') := HBX5.out.cell 1 3 rfl rfl
        go_wp2_with (at_builtin; refine wpList_append_lies _ rfl _ _ 22 rfl (w1.heap.size) 38 iE _ 4 80 Try.underlying22 siE szE s1E s2E rfl (by omega) (.slice na' g.nodes.length nc') g.nodes.length c1 rfl (HRC.out.own.alloc _) ⟨w5.heap.size, 0, none⟩ 1 1 [.int .i64 n.id, .slice la' n.labels.length lc', .slice ka' n.keys.length kc', .slice va' n.vals.length vc'] rfl rfl (World.news_of_block (cs := #[.int .i64 n.id, .slice la' n.labels.length lc', .slice ka' n.keys.length kc', .slice va' n.vals.length vc']) (t := 38) (fr := (0, 0)) (Block.new w5 [.int .i64 n.id, .slice la' n.labels.length lc', .slice ka' n.keys.length kc', .slice va' n.vals.length vc'] 38)) (by simp [Value.oneCell']) (by omega) (by unfold maxLen; omega) (by omega) (by have := HLT.out; simp; omega) (w5.heap.size + 1) (by simp) ?_)
        intro gb cap w7 hown hgrow hat7 hlt7
        have hgn : ∀ q, q ∈ b1 ∨ q ∈ bs3 → q ≠ gb := fun q hq e => by
          have h1 := HPP.out q hq
          rcases hat7 with h | h
          · exact h1.2.2.2 (by rw [e]; exact h)
          · omega
        have hgw : gb ≠ w2.heap.size := by
          rcases hat7 with h | h
          · have h1 := (HRN.out.own.lt gb h).2; omega
          · have := HLT.out; omega
        have hgo : ∀ q, q ∈ b2 ∨ (Value.slice ea' g.edges.length ec').ownBlock = some q → q ≠ gb := fun q hq e => by
          have h3 : q < w2.heap.size := by rcases hq with hq | hq; exact (HRE.out.lt q hq).2; exact (HRE.out.own.lt q hq).2
          rcases hat7 with h | h
          · have h1 := HMM.out gb (.inr h)
            have h2 : M ≤ q := by rcases hq with hq | hq; exact (HRE.out.lt q hq).1; exact (HRE.out.own.lt q hq).1
            omega
          · have := HLT.out; omega
        have hgb1 : w1.heap.size ≤ gb := by
          rcases hat7 with h | h
          · exact (HRN.out.own.lt gb h).1
          · have := HLT.out; omega
        have hkk : ∀ q, q < w5.heap.size → (Value.slice na' g.nodes.length nc').ownBlock ≠ some q → w7.heap[q]? = w5.heap[q]? := fun q h1 h2 => by
          rw [hgrow.block q (by simp; omega) (fun e => h2 e.symm)]
          exact Below.heap_alloc _ _ _ h1
        have hro7 : ∀ q, (Value.slice na' g.nodes.length nc').ownBlock = some q → w1.heap.size ≤ q ∧ q < w2.heap.size := HRN.out.own.lt
        have hz7 : w5.heap.size + 1 ≤ w7.heap.size := by have := hgrow.size; simpa using this
        have hflat := ((HRC.out.flat ownIsNO (fun _ => IsNO.one) (by decide)).mono (fun cs x h => h.imp (P' := fun q => q ∈ b1 ∨ q ∈ bs3) (fun q hq => .inl hq))).grow ownIsNO (show Keeps IsNO (fun q => q ∈ b1 ∨ q ∈ bs3) w5 [.int .i64 n.id, .slice la' n.labels.length lc', .slice ka' n.keys.length kc', .slice va' n.vals.length vc'] n from ⟨bs3, HXN.out, fun q hq => .inr hq⟩) (IsNO.one _ _ _ HXN.out) hgrow (fun q hq => ⟨(HPP.out q hq).2.1, (HPP.out q hq).2.2.2⟩)
        have hb57 : Below (w1.heap.size) w5 w7 := ((Below.refl _ _).alloc (by have := HLT.out; omega) _).grown hgrow (by have := HLT.out; simp; omega) (fun q e => (hro7 q e).1)
        have HBX7 : Hid (Bx w [([.slice na g.nodes.length nc, .slice ea g.edges.length ec], 25), ([.int .i64 n.id, .slice la' n.labels.length lc', .slice ka' n.keys.length kc', .slice va' n.vals.length vc'], 38), ([.slice none 0 0, .slice none 0 0], 25)] w7) := Lib.hid ⟨HBX5.out.bel.trans (hb57.mono (by have := HLT.out; omega)), by have := HBX5.out.len; have := hb57.size; omega, fun i c t hi => (HBX5.out.blk i c t hi).of_heap (hb57.block _ (by have := (List.getElem?_eq_some_iff.1 hi).1; simp at this; have := HLT.out; omega))⟩
        have HBO7 : Hid (Block w7 w2.heap.size [.slice na' g.nodes.length nc', .slice ea' g.edges.length ec'] 25) := Lib.hid (HBO5.out.of_heap (hkk _ (by have := HLT.out; omega) (fun e => by have := (hro7 _ e).2; omega)))
        have HRO7 := Lib.hid (HRO.out.keep ownIsEO (w' := w7) (fun q hq => hkk q (by rcases hq with hq | hq; exact (HRO.out.lt q hq).2; exact (HRO.out.own.lt q hq).2) (fun e => by have h1 := HMM.out q (.inr e); have h2 : M ≤ q := (by rcases hq with hq | hq; exact (HRE.out.lt q hq).1; exact (HRE.out.own.lt q hq).1); omega)) (by omega))
        obtain ⟨w8, hw8⟩ : ∃ w8, w7.setCell ⟨w2.heap.size, 0, none⟩ (.slice (some ⟨gb, 0, none⟩) (g.nodes.length + 1) cap) = w8 := ⟨_, rfl⟩
        have hk8 : ∀ q, q ≠ w2.heap.size → w8.heap[q]? = w7.heap[q]? := fun q hq => by rw [← hw8]; exact Below.heap_setCell _ _ _ _ hq
        have hz8 : w8.heap.size = w7.heap.size := by rw [← hw8]; simp [World.setCell]
        have HBX8 : Hid (Bx w [([.slice na g.nodes.length nc, .slice ea g.edges.length ec], 25), ([.int .i64 n.id, .slice la' n.labels.length lc', .slice ka' n.keys.length kc', .slice va' n.vals.length vc'], 38), ([.slice none 0 0, .slice none 0 0], 25)] w8) := Lib.hid (by rw [← hw8]; exact HBX7.out.far (by have := HLT.out; simp; omega) _ _)
        have HBO8 : Hid (Block w8 w2.heap.size [.slice (some ⟨gb, 0, none⟩) (g.nodes.length + 1) cap, .slice ea' g.edges.length ec'] 25) := Lib.hid (by rw [← hw8]; exact HBO7.out.set 0 _)
        have HRO8 := Lib.hid (HRO7.out.keep ownIsEO (w' := w8) (fun q hq => hk8 q (fun e => by have h3 : q < w2.heap.size := (by rcases hq with hq | hq; exact (HRE.out.lt q hq).2; exact (HRE.out.own.lt q hq).2); omega)) (by omega))
        have HS8 : Hid (InsSt IsNO (fun q => q ∈ b1 ∨ q ∈ bs3) 38 4 (w1.heap.size) w [([.slice na g.nodes.length nc, .slice ea g.edges.length ec], 25), ([.int .i64 n.id, .slice la' n.labels.length lc', .slice ka' n.keys.length kc', .slice va' n.vals.length vc'], 38), ([.slice none 0 0, .slice none 0 0], 25)] gb cap (g.nodes.length + 1) w8 (g.nodes.take g.nodes.length ++ n :: g.nodes.drop g.nodes.length) (c1 ++ [.int .i64 n.id, .slice la' n.labels.length lc', .slice ka' n.keys.length kc', .slice va' n.vals.length vc']) w8) := Lib.hid ⟨HBX8.out, by simp, own_of_heap hown (fun q e => hk8 q (by injection e with e; subst e; exact hgw)), by
          rw [List.take_length, List.drop_length]
          exact hflat.mono (fun cs x h => h.same ownIsNO (fun q hq => hk8 q (HPP.out q hq).2.2.1)), fun _ _ => rfl, rfl⟩
        have HOK : Hid (∀ q, q ∈ b2 ∨ (Value.slice ea' g.edges.length ec').ownBlock = some q → q ≠ gb ∧ w.heap.size + 2 + 1 ≤ q) := Lib.hid (fun q hq => ⟨hgo q hq, by have h9 : w1.heap.size ≤ q := (by rcases hq with hq | hq; exact Nat.le_trans HWM.out (HRE.out.lt q hq).1; exact Nat.le_trans HWM.out (HRE.out.own.lt q hq).1); have := HLT.out; omega⟩)
        have HGB : Hid (w.heap.size + 2 + 1 ≤ gb) := Lib.hid (by have := HLT.out; omega)
        have HG1 := Lib.hid hgb1
        have HGN := Lib.hid hgn
        have HGW := Lib.hid hgw
        have HZ78 : Hid (w5.heap.size < w8.heap.size) := Lib.hid (by omega)
        have x0 : w7.cell? ⟨w2.heap.size, 0, none⟩ = some (.slice na' g.nodes.length nc') := HBO7.out.cell rfl
        have x1 : w7.frozen? ⟨w2.heap.size, 0, none⟩ = false := HBO7.out.free 0
        have y8 : w8.cell? ⟨w2.heap.size, 0, none⟩ = some (.slice (some ⟨gb, 0, none⟩) (g.nodes.length + 1) cap) := HBO8.out.cell rfl
        rw [← hw8] at y8
        have HW8 := Lib.hid hw8
        have HK8 : Hid (∀ q, q < w5.heap.size → q ≠ w2.heap.size → (Value.slice na' g.nodes.length nc').ownBlock ≠ some q → w8.heap[q]? = w5.heap[q]?) := Lib.hid (fun q h1 h2 h3 => by rw [hk8 q h2, hkk q h1 h3])
        clear hown hgrow hat7 hlt7 hgn hgw hgo hgb1 hkk hro7 hz7 hflat hb57 hw8 hk8 hz8 bo0 bo1 bof
        clear e0_0 e0_1 e1_0 e1_1 e1_2 e1_3
        have hwn : IntKind.i64.wrap (((g.nodes.length + 1 : Nat) : Int) - 1) = (g.nodes.length : Int) := by rw [IntWalk.i64_in _ (by omega)]; omega
        have hwn2 : IntKind.i64.wrap ((g.nodes.length : Int) + 1 - 1) = (g.nodes.length : Int) := by rw [IntWalk.i64_in _ (by omega)]; omega
        go_wp2_with fail
        rw [HW8.out]
        clear x0 x1 y8
        go_loopw [8] (fun iv wr => ∃ (j : Nat) (cl : List Value), iv = .int .i64 j ∧ j ≤ g.nodes.length ∧ Hid (InsSt IsNO (fun q => q ∈ b1 ∨ q ∈ bs3) 38 4 (w1.heap.size) w [([.slice na g.nodes.length nc, .slice ea g.edges.length ec], 25), ([.int .i64 n.id, .slice la' n.labels.length lc', .slice ka' n.keys.length kc', .slice va' n.vals.length vc'], 38), ([.slice none 0 0, .slice none 0 0], 25)] gb cap (g.nodes.length + 1) w8 (g.nodes.take j ++ n :: g.nodes.drop j) cl wr) ∧ Hid (∀ (i : Nat) x, j ≤ i → (idsN g)[i]? = some x → n.id < x)) (fun iv _ => (intOf iv).toNat)
        case atStart => exact ⟨g.nodes.length, _, by go_num, Nat.le_refl _, HS8, Lib.hid (fun i x hi hx => by have h1 := (List.getElem?_eq_some_iff.1 hx).1; have h2 := HIL.out; omega)⟩
        case round =>
          obtain ⟨j, cl, rfl, hj, HST, HGE⟩ := hrel
          have HSD := Lib.hid (HST.out.drew ownIsNO)
          by_cases hj0 : j = 0
          · have hj0' : ¬ (0 : Int) < (j : Int) := by omega
            have hj0n : ¬ 0 < j := by omega
            have HJ0 := Lib.hid hj0
            go_wp2_with fail
            refine wp_region_noPanic ?_
            refine wp_region_J (S := fun _ : World => True) (fun _ => false) (by kernel_rfl) ?_
            obtain ⟨wd, hwd⟩ : ∃ u, wr.drew = u := ⟨_, rfl⟩
            rw [hwd] at HSD ⊢
            clear hwd
            have hHeld : (fun _ : World => True) wd := trivial
            refine wpAnyJ_take0 (i := 0) (v := ?_) rfl (by kernel_rfl) (by kernel_rfl) (by kernel_rfl) (fun _ _ _ h => h) (Or.inl ⟨by rfl, ?_⟩) ?_
            rotate_left
            focus ((intro w hSw; clear hSw; go_simp); try with_reducible rfl)
            (try simp only [Act.put, List.getElem_toArray, List.getElem_cons_zero, List.getElem_cons_succ, List.setIfInBounds_toArray, List.set_cons_zero, List.set_cons_succ])
            refine wpAnyJ_take0 (i := 1) (v := ?_) rfl (by kernel_rfl) (by kernel_rfl) (by kernel_rfl) (fun _ _ _ h => h) (Or.inl ⟨by rfl, ?_⟩) ?_
            rotate_left
            focus ((intro w hSw; clear hSw; go_simp); try with_reducible rfl)
            (try simp only [Act.put, List.getElem_toArray, List.getElem_cons_zero, List.getElem_cons_succ, List.setIfInBounds_toArray, List.set_cons_zero, List.set_cons_succ])
            refine wpAnyJ_take0 (i := 2) (v := ?_) rfl (by kernel_rfl) (by kernel_rfl) (by kernel_rfl) (fun _ _ _ h => h) (Or.inl ⟨by rfl, ?_⟩) ?_
            rotate_left
            focus ((intro w hSw; clear hSw; go_simp); try with_reducible rfl)
            (try simp only [Act.put, List.getElem_toArray, List.getElem_cons_zero, List.getElem_cons_succ, List.setIfInBounds_toArray, List.set_cons_zero, List.set_cons_succ])
            refine wpAnyJ_take0 (i := 3) (v := undef) rfl (by kernel_rfl) (by kernel_rfl) (by kernel_rfl) (fun _ _ _ h => h) (Or.inr ⟨by rfl, rfl⟩) ?_
            (try simp only [Act.put, List.getElem_toArray, List.getElem_cons_zero, List.getElem_cons_succ, List.setIfInBounds_toArray, List.set_cons_zero, List.set_cons_succ])
            refine wpAnyJ_take0 (i := 4) (v := undef) rfl (by kernel_rfl) (by kernel_rfl) (by kernel_rfl) (fun _ _ _ h => h) (Or.inr ⟨by rfl, rfl⟩) ?_
            (try simp only [Act.put, List.getElem_toArray, List.getElem_cons_zero, List.getElem_cons_succ, List.setIfInBounds_toArray, List.set_cons_zero, List.set_cons_succ])
            refine wpAnyJ_take0 (i := 5) (v := undef) rfl (by kernel_rfl) (by kernel_rfl) (by kernel_rfl) (fun _ _ _ h => h) (Or.inr ⟨by rfl, rfl⟩) ?_
            (try simp only [Act.put, List.getElem_toArray, List.getElem_cons_zero, List.getElem_cons_succ, List.setIfInBounds_toArray, List.set_cons_zero, List.set_cons_succ])
            refine wpAnyJ_take0 (i := 6) (v := undef) rfl (by kernel_rfl) (by kernel_rfl) (by kernel_rfl) (fun _ _ _ h => h) (Or.inr ⟨by rfl, rfl⟩) ?_
            (try simp only [Act.put, List.getElem_toArray, List.getElem_cons_zero, List.getElem_cons_succ, List.setIfInBounds_toArray, List.set_cons_zero, List.set_cons_succ])
            refine wpAnyJ_take0 (i := 7) (v := undef) rfl (by kernel_rfl) (by kernel_rfl) (by kernel_rfl) (fun _ _ _ h => h) (Or.inr ⟨by rfl, rfl⟩) ?_
            (try simp only [Act.put, List.getElem_toArray, List.getElem_cons_zero, List.getElem_cons_succ, List.setIfInBounds_toArray, List.set_cons_zero, List.set_cons_succ])
            refine wpAnyJ_take0 (i := 8) (v := undef) rfl (by kernel_rfl) (by kernel_rfl) (by kernel_rfl) (fun _ _ _ h => h) (Or.inr ⟨by rfl, rfl⟩) ?_
            (try simp only [Act.put, List.getElem_toArray, List.getElem_cons_zero, List.getElem_cons_succ, List.setIfInBounds_toArray, List.set_cons_zero, List.set_cons_succ])
            refine wpAnyJ_take0 (i := 9) (v := undef) rfl (by kernel_rfl) (by kernel_rfl) (by kernel_rfl) (fun _ _ _ h => h) (Or.inr ⟨by rfl, rfl⟩) ?_
            (try simp only [Act.put, List.getElem_toArray, List.getElem_cons_zero, List.getElem_cons_succ, List.setIfInBounds_toArray, List.set_cons_zero, List.set_cons_succ])
            refine wpAnyJ_take0 (i := 10) (v := undef) rfl (by kernel_rfl) (by kernel_rfl) (by kernel_rfl) (fun _ _ _ h => h) (Or.inr ⟨by rfl, rfl⟩) ?_
            (try simp only [Act.put, List.getElem_toArray, List.getElem_cons_zero, List.getElem_cons_succ, List.setIfInBounds_toArray, List.set_cons_zero, List.set_cons_succ])
            refine wpAnyJ_take0 (i := 11) (v := undef) rfl (by kernel_rfl) (by kernel_rfl) (by kernel_rfl) (fun _ _ _ h => h) (Or.inr ⟨by rfl, rfl⟩) ?_
            (try simp only [Act.put, List.getElem_toArray, List.getElem_cons_zero, List.getElem_cons_succ, List.setIfInBounds_toArray, List.set_cons_zero, List.set_cons_succ])
            refine wpAnyJ_take0 (i := 12) (v := undef) rfl (by kernel_rfl) (by kernel_rfl) (by kernel_rfl) (fun _ _ _ h => h) (Or.inr ⟨by rfl, rfl⟩) ?_
            (try simp only [Act.put, List.getElem_toArray, List.getElem_cons_zero, List.getElem_cons_succ, List.setIfInBounds_toArray, List.set_cons_zero, List.set_cons_succ])
            refine wpAnyJ_take0 (i := 13) (v := ?_) rfl (by kernel_rfl) (by kernel_rfl) (by kernel_rfl) (fun _ _ _ h => h) (Or.inl ⟨by rfl, ?_⟩) ?_
            rotate_left
            focus ((intro w hSw; clear hSw; go_simp); try with_reducible rfl)
            (try simp only [Act.put, List.getElem_toArray, List.getElem_cons_zero, List.getElem_cons_succ, List.setIfInBounds_toArray, List.set_cons_zero, List.set_cons_succ])
            refine wpAnyJ_done (by kernel_rfl) ?_ _
            refine NoPanic.normal ?_
            clear hHeld
            have HPO : Hid (posI (idsN g) n.id = j) := Lib.hid (posI_of HRI.out HII.out (by rw [HIL.out]; exact hj) HGE.out (fun x h => absurd HJ0.out h))
            have HP2 : Hid (putG g n = (0, ⟨g.nodes.take j ++ n :: g.nodes.drop j, g.edges⟩)) := Lib.hid (by rw [HP.out, HPO.out]; rfl)
            have HPK : Hid (∀ q, (q ∈ b1 ∨ q ∈ bs3) → w.heap.size + 2 + 1 ≤ q ∧ q < wd.heap.size) := Lib.hid (fun q hq => by have h9 := HPP.out q hq; have := HLT.out; have := HWM.out; have h8 := HSD.out.sz; have := HZ78.out; exact ⟨by omega, by omega⟩)
            have HBX9 : Hid (Bx w [([.slice na g.nodes.length nc, .slice ea g.edges.length ec], 25), ([.int .i64 n.id, .slice la' n.labels.length lc', .slice ka' n.keys.length kc', .slice va' n.vals.length vc'], 38), ([.slice none 0 0, .slice none 0 0], 25)] wd) := Lib.hid HSD.out.bx
            have hbo : Block wd w2.heap.size [.slice (some ⟨gb, 0, none⟩) (g.nodes.length + 1) cap, .slice ea' g.edges.length ec'] 25 := HBO8.out.of_heap (HSD.out.kp _ (fun e => HGW.out e.symm))
            have v0 : wd.cell? ⟨w2.heap.size, 0, none⟩ = some (.slice (some ⟨gb, 0, none⟩) (g.nodes.length + 1) cap) := hbo.cell rfl
            have v1 : wd.cell? ⟨w2.heap.size, 1, none⟩ = some (.slice ea' g.edges.length ec') := hbo.cell rfl
            have HT2 : Hid (wd.there (w.heap.size + 2) 0 2) := Lib.hid (show Block wd (w.heap.size + 2) [.slice none 0 0, .slice none 0 0] 25 from HBX9.out.blk 2 _ _ rfl).there
            obtain ⟨we, hwe⟩ : ∃ we, wd.setCells (w.heap.size + 2) 0 (#[.slice (some ⟨gb, 0, none⟩) (g.nodes.length + 1) cap, .slice ea' g.edges.length ec'] : Array Value).toList = we := ⟨_, rfl⟩
            have hbe : Block we (w.heap.size + 2) [.slice (some ⟨gb, 0, none⟩) (g.nodes.length + 1) cap, .slice ea' g.edges.length ec'] 25 := by rw [← hwe]; exact ((show Block wd (w.heap.size + 2) [.slice none 0 0, .slice none 0 0] 25 from HBX9.out.blk 2 _ _ rfl).set 0 _).set 1 _
            have q0 : we.cell? ⟨w.heap.size + 2, 0, none⟩ = some (.slice (some ⟨gb, 0, none⟩) (g.nodes.length + 1) cap) := hbe.cell rfl
            have q1 : we.cell? ⟨w.heap.size + 2, 1, none⟩ = some (.slice ea' g.edges.length ec') := hbe.cell rfl
            have HBE : Hid (Below w.heap.size w we) := Lib.hid (by rw [← hwe]; exact ((HBX9.out.put 2 0 rfl (.slice (some ⟨gb, 0, none⟩) (g.nodes.length + 1) cap)).put 2 1 rfl (.slice ea' g.edges.length ec')).bel)
            have HKE : Hid (∀ q, q ≠ w.heap.size + 2 → we.heap[q]? = wd.heap[q]?) := Lib.hid (fun q hq => by rw [← hwe]; exact setW_other _ _ _ _ _ hq)
            have HZE : Hid (we.heap.size = wd.heap.size) := Lib.hid (by rw [← hwe]; exact setW_size _ _ _ _)
            have HWE := Lib.hid hwe
            clear hbo hbe hwe
            go_wp2_with (first | (refine wpList_store_mid rfl 25 _ _ rfl (w.heap.size + 2) 0 #[.slice (some ⟨gb, 0, none⟩) (g.nodes.length + 1) cap, .slice ea' g.edges.length ec'] rfl rfl HT2.out (by kernel_rfl) (by simp [Value.oneCell']) ?_; rw [HWE.out]))
            refine bodyPost_ret (by simp [results, Try.results42, go_sem, q0, q1]; rfl) rfl ?_
            rw [HP2.out]
            refine ⟨_, rfl, HBE.out, ?_⟩
            exact (ins_node (b := w.heap.size + 2) HSD.out HRO8.out HOK.out HPK.out HGB.out HKE.out HZE.out).mono (by omega)
          · skip
            obtain ⟨m, hm⟩ : ∃ m, j = m + 1 := ⟨j - 1, by omega⟩
            subst hm
            clear hj0
            have hml : m < g.nodes.length := by omega
            have hj0' : (0 : Int) < ((m + 1 : Nat) : Int) := by omega
            have hj0n : 0 < m + 1 := by omega
            have hj0c : (0 : Int) < (m : Int) + 1 := by omega
            have hwj : IntKind.i64.wrap (((m + 1 : Nat) : Int) - 1) = (m : Int) := by rw [IntWalk.i64_in _ (by omega)]; omega
            have hwj2 : IntKind.i64.wrap ((m : Int) + 1 - 1) = (m : Int) := by rw [IntWalk.i64_in _ (by omega)]; omega
            have hm1 : (m : Int) < ((g.nodes.length + 1 : Nat) : Int) := by omega
            have hm0 : (0 : Int) ≤ (m : Int) := by omega
            have hm2 : (m : Int) < (g.nodes.length : Int) + 1 := by omega
            have hm3 : (m : Int) + 1 < (g.nodes.length : Int) + 1 := by omega
            have hm4 : m + 1 < g.nodes.length + 1 := by omega
            have hm5 : m < g.nodes.length + 1 := by omega
            have hm6 : (0 : Int) ≤ (m : Int) + 1 := by omega
            have hwm0 : IntKind.i64.wrap (m : Int) = (m : Int) := IntWalk.i64_in _ (by omega)
            obtain ⟨y, hy⟩ := get_some hml
            have hyl : (g.nodes.take (m + 1) ++ n :: g.nodes.drop (m + 1))[m]? = some y := by rw [List.getElem?_append_left (by rw [List.length_take]; omega), List.getElem?_take_of_lt (by omega)]; exact hy
            obtain ⟨yc, yl, ⟨by_, hyo, hyP⟩, yg⟩ := HST.out.flat.cell hyl
            have HYK := Lib.hid (show Keeps IsNO (fun q => q ∈ b1 ∨ q ∈ bs3) wr yc y from ⟨by_, hyo, hyP⟩)
            have hyo2 := hyo
            obtain ⟨yla, ylc, yka, ykc, yva, yvc, q1, q2, q3, rfl, -⟩ := hyo2
            have HYG := Lib.hid yg
            have HY := Lib.hid hy
            clear yl hyo hyP yg hy hyl
            by_cases hgt : n.id < y.id
            · skip
              have hgt2 : ¬ y.id ≤ n.id := by omega
              go_wp2_with fail
              refine wp_region_noPanic ?_
              refine wp_region_J (S := fun u : World => u.cell? ⟨w2.heap.size, 0, none⟩ = some (.slice (some ⟨gb, 0, none⟩) (g.nodes.length + 1) cap) ∧ u.cell? ⟨w.heap.size + 1, 0, none⟩ = some (.int .i64 n.id) ∧ u.cell? ⟨gb, m * 4, none⟩ = some (.int .i64 y.id) ∧ u.cell? ⟨gb, m * 4 + 1, none⟩ = some (.slice yla y.labels.length ylc) ∧ u.cell? ⟨gb, m * 4 + 2, none⟩ = some (.slice yka y.keys.length ykc) ∧ u.cell? ⟨gb, m * 4 + 3, none⟩ = some (.slice yva y.vals.length yvc)) (fun _ => false) (by kernel_rfl) ?_
              obtain ⟨wd, hwd⟩ : ∃ u, wr.drew = u := ⟨_, rfl⟩
              rw [hwd] at HSD ⊢
              have HYK := Lib.hid (show Keeps IsNO (fun q => q ∈ b1 ∨ q ∈ bs3) wd [.int .i64 y.id, .slice yla y.labels.length ylc, .slice yka y.keys.length ykc, .slice yva y.vals.length yvc] y from HYK.out.same ownIsNO (fun q hq => by rw [← hwd]; rfl))
              clear hwd
              have hHeld : (fun u : World => u.cell? ⟨w2.heap.size, 0, none⟩ = some (.slice (some ⟨gb, 0, none⟩) (g.nodes.length + 1) cap) ∧ u.cell? ⟨w.heap.size + 1, 0, none⟩ = some (.int .i64 n.id) ∧ u.cell? ⟨gb, m * 4, none⟩ = some (.int .i64 y.id) ∧ u.cell? ⟨gb, m * 4 + 1, none⟩ = some (.slice yla y.labels.length ylc) ∧ u.cell? ⟨gb, m * 4 + 2, none⟩ = some (.slice yka y.keys.length ykc) ∧ u.cell? ⟨gb, m * 4 + 3, none⟩ = some (.slice yva y.vals.length yvc)) wd := ⟨(HBO8.out.of_heap (HSD.out.kp _ (fun e => HGW.out e.symm))).cell rfl, HSD.out.bx.cell 1 0 rfl rfl, own_cell HSD.out.own (HYG.out 0 _ rfl), own_cell HSD.out.own (HYG.out 1 _ rfl), own_cell HSD.out.own (HYG.out 2 _ rfl), own_cell HSD.out.own (HYG.out 3 _ rfl)⟩
              refine wpAnyJ_take0 (i := 0) (v := ?_) rfl (by kernel_rfl) (by kernel_rfl) (by kernel_rfl) (fun _ _ _ h => h) (Or.inl ⟨by rfl, ?_⟩) ?_
              rotate_left
              focus ((intro w hSw; clear hSw; go_simp); try with_reducible rfl)
              (try simp only [Act.put, List.getElem_toArray, List.getElem_cons_zero, List.getElem_cons_succ, List.setIfInBounds_toArray, List.set_cons_zero, List.set_cons_succ])
              refine wpAnyJ_take0 (i := 1) (v := ?_) rfl (by kernel_rfl) (by kernel_rfl) (by kernel_rfl) (fun _ _ _ h => h) (Or.inl ⟨by rfl, ?_⟩) ?_
              rotate_left
              focus ((intro w hSw; clear hSw; go_simp); try with_reducible rfl)
              (try simp only [Act.put, List.getElem_toArray, List.getElem_cons_zero, List.getElem_cons_succ, List.setIfInBounds_toArray, List.set_cons_zero, List.set_cons_succ])
              refine wpAnyJ_take0 (i := 2) (v := ?_) rfl (by kernel_rfl) (by kernel_rfl) (by kernel_rfl) (fun _ _ _ h => h) (Or.inl ⟨by rfl, ?_⟩) ?_
              rotate_left
              focus ((intro w hSw; clear hSw; go_simp); try with_reducible rfl)
              (try simp only [Act.put, List.getElem_toArray, List.getElem_cons_zero, List.getElem_cons_succ, List.setIfInBounds_toArray, List.set_cons_zero, List.set_cons_succ])
              refine wpAnyJ_take0 (i := 3) (v := ?_) rfl (by kernel_rfl) (by kernel_rfl) (by kernel_rfl) (fun _ _ _ h => h) (Or.inl ⟨by rfl, ?_⟩) ?_
              rotate_left
              focus ((intro w hSw; clear hSw; go_simp); try with_reducible rfl)
              (try simp only [Act.put, List.getElem_toArray, List.getElem_cons_zero, List.getElem_cons_succ, List.setIfInBounds_toArray, List.set_cons_zero, List.set_cons_succ])
              refine wpAnyJ_take (i := 4) (v := ?_) rfl (by kernel_rfl) (by kernel_rfl) (by kernel_rfl) (by kernel_rfl) (fun _ _ _ h => h) (Or.inl ⟨by rfl, ?_⟩) (by assumption) ?_
              rotate_left
              focus ((intro w hSw; (try dsimp only at hSw); go_simp); try with_reducible rfl)
              (try simp only [Act.put, List.getElem_toArray, List.getElem_cons_zero, List.getElem_cons_succ, List.setIfInBounds_toArray, List.set_cons_zero, List.set_cons_succ])
              refine wpAnyJ_take0 (i := 5) (v := ?_) rfl (by kernel_rfl) (by kernel_rfl) (by kernel_rfl) (fun _ _ _ h => h) (Or.inl ⟨by rfl, ?_⟩) ?_
              rotate_left
              focus ((intro w hSw; clear hSw; go_simp); try with_reducible rfl)
              (try simp only [Act.put, List.getElem_toArray, List.getElem_cons_zero, List.getElem_cons_succ, List.setIfInBounds_toArray, List.set_cons_zero, List.set_cons_succ])
              refine wpAnyJ_take0 (i := 6) (v := ?_) rfl (by kernel_rfl) (by kernel_rfl) (by kernel_rfl) (fun _ _ _ h => h) (Or.inl ⟨by rfl, ?_⟩) ?_
              rotate_left
              focus ((intro w hSw; clear hSw; go_simp); try with_reducible rfl)
              (try simp only [Act.put, List.getElem_toArray, List.getElem_cons_zero, List.getElem_cons_succ, List.setIfInBounds_toArray, List.set_cons_zero, List.set_cons_succ])
              refine wpAnyJ_take0 (i := 7) (v := ?_) rfl (by kernel_rfl) (by kernel_rfl) (by kernel_rfl) (fun _ _ _ h => h) (Or.inl ⟨by rfl, ?_⟩) ?_
              rotate_left
              focus ((intro w hSw; clear hSw; go_simp); try with_reducible rfl)
              (try simp only [Act.put, List.getElem_toArray, List.getElem_cons_zero, List.getElem_cons_succ, List.setIfInBounds_toArray, List.set_cons_zero, List.set_cons_succ])
              refine wpAnyJ_take0 (i := 8) (v := ?_) rfl (by kernel_rfl) (by kernel_rfl) (by kernel_rfl) (fun _ _ _ h => h) (Or.inl ⟨by rfl, ?_⟩) ?_
              rotate_left
              focus ((intro w hSw; clear hSw; go_simp); try with_reducible rfl)
              (try simp only [Act.put, List.getElem_toArray, List.getElem_cons_zero, List.getElem_cons_succ, List.setIfInBounds_toArray, List.set_cons_zero, List.set_cons_succ])
              refine wpAnyJ_take (i := 9) (v := ?_) rfl (by kernel_rfl) (by kernel_rfl) (by kernel_rfl) (by kernel_rfl) (fun _ _ _ h => h) (Or.inl ⟨by rfl, ?_⟩) (by assumption) ?_
              rotate_left
              focus ((intro w hSw; (try dsimp only at hSw); go_simp); try with_reducible rfl)
              (try simp only [Act.put, List.getElem_toArray, List.getElem_cons_zero, List.getElem_cons_succ, List.setIfInBounds_toArray, List.set_cons_zero, List.set_cons_succ])
              refine wpAnyJ_take0 (i := 10) (v := ?_) rfl (by kernel_rfl) (by kernel_rfl) (by kernel_rfl) (fun _ _ _ h => h) (Or.inl ⟨by rfl, ?_⟩) ?_
              rotate_left
              focus ((intro w hSw; clear hSw; go_simp); try with_reducible rfl)
              (try simp only [Act.put, List.getElem_toArray, List.getElem_cons_zero, List.getElem_cons_succ, List.setIfInBounds_toArray, List.set_cons_zero, List.set_cons_succ])
              refine wpAnyJ_take (i := 11) (v := ?_) rfl (by kernel_rfl) (by kernel_rfl) (by kernel_rfl) (by kernel_rfl) (fun _ _ _ h => h) (Or.inl ⟨by rfl, ?_⟩) (by assumption) ?_
              rotate_left
              focus ((intro w hSw; (try dsimp only at hSw); go_simp); try with_reducible rfl)
              (try simp only [Act.put, List.getElem_toArray, List.getElem_cons_zero, List.getElem_cons_succ, List.setIfInBounds_toArray, List.set_cons_zero, List.set_cons_succ])
              refine wpAnyJ_take0 (i := 12) (v := ?_) rfl (by kernel_rfl) (by kernel_rfl) (by kernel_rfl) (fun _ _ _ h => h) (Or.inl ⟨by rfl, ?_⟩) ?_
              rotate_left
              focus ((intro w hSw; clear hSw; go_simp); try with_reducible rfl)
              (try simp only [Act.put, List.getElem_toArray, List.getElem_cons_zero, List.getElem_cons_succ, List.setIfInBounds_toArray, List.set_cons_zero, List.set_cons_succ])
              refine wpAnyJ_take0 (i := 13) (v := ?_) rfl (by kernel_rfl) (by kernel_rfl) (by kernel_rfl) (fun _ _ _ h => h) (Or.inl ⟨by rfl, ?_⟩) ?_
              rotate_left
              focus ((intro w hSw; clear hSw; go_simp); try with_reducible rfl)
              (try simp only [Act.put, List.getElem_toArray, List.getElem_cons_zero, List.getElem_cons_succ, List.setIfInBounds_toArray, List.set_cons_zero, List.set_cons_succ])
              refine wpAnyJ_done (by kernel_rfl) ?_ _
              refine NoPanic.normal ?_
              clear hHeld
              go_wp2_with fail
              refine wp_region_noPanic ?_
              refine wp_region_J (S := fun u : World => u.cell? ⟨w2.heap.size, 0, none⟩ = some (.slice (some ⟨gb, 0, none⟩) (g.nodes.length + 1) cap) ∧ u.cell? ⟨w.heap.size + 1, 0, none⟩ = some (.int .i64 n.id) ∧ u.cell? ⟨gb, m * 4, none⟩ = some (.int .i64 y.id) ∧ u.cell? ⟨gb, m * 4 + 1, none⟩ = some (.slice yla y.labels.length ylc) ∧ u.cell? ⟨gb, m * 4 + 2, none⟩ = some (.slice yka y.keys.length ykc) ∧ u.cell? ⟨gb, m * 4 + 3, none⟩ = some (.slice yva y.vals.length yvc)) (fun j => j == 10) (by kernel_rfl) ?_
              obtain ⟨u0, hu0⟩ : ∃ u, wd.drew = u := ⟨_, rfl⟩
              have HSU := Lib.hid (HSD.out.drew ownIsNO)
              rw [hu0] at HSU ⊢
              have hHeld : (fun u : World => u.cell? ⟨w2.heap.size, 0, none⟩ = some (.slice (some ⟨gb, 0, none⟩) (g.nodes.length + 1) cap) ∧ u.cell? ⟨w.heap.size + 1, 0, none⟩ = some (.int .i64 n.id) ∧ u.cell? ⟨gb, m * 4, none⟩ = some (.int .i64 y.id) ∧ u.cell? ⟨gb, m * 4 + 1, none⟩ = some (.slice yla y.labels.length ylc) ∧ u.cell? ⟨gb, m * 4 + 2, none⟩ = some (.slice yka y.keys.length ykc) ∧ u.cell? ⟨gb, m * 4 + 3, none⟩ = some (.slice yva y.vals.length yvc)) u0 := ⟨(HBO8.out.of_heap (HSU.out.kp _ (fun e => HGW.out e.symm))).cell rfl, HSU.out.bx.cell 1 0 rfl rfl, own_cell HSU.out.own (HYG.out 0 _ rfl), own_cell HSU.out.own (HYG.out 1 _ rfl), own_cell HSU.out.own (HYG.out 2 _ rfl), own_cell HSU.out.own (HYG.out 3 _ rfl)⟩
              have HYU : Hid (Keeps IsNO (fun q => q ∈ b1 ∨ q ∈ bs3) u0 [.int .i64 y.id, .slice yla y.labels.length ylc, .slice yka y.keys.length ykc, .slice yva y.vals.length yvc] y) := Lib.hid (HYK.out.same ownIsNO (fun q hq => by rw [← hu0]; rfl))
              clear hu0
              have HTU : Hid (u0.there gb ((m + 1) * 4) 4) := Lib.hid (own_thereAt HSU.out.own hm4)
              obtain ⟨u1, hu1⟩ : ∃ u, u0.setCells gb ((m + 1) * 4) (#[.int .i64 y.id, .slice yla y.labels.length ylc, .slice yka y.keys.length ykc, .slice yva y.vals.length yvc] : Array Value).toList = u := ⟨_, rfl⟩
              have HS15 : Hid (InsSt IsNO (fun q => q ∈ b1 ∨ q ∈ bs3) 38 4 (w1.heap.size) w [([.slice na g.nodes.length nc, .slice ea g.edges.length ec], 25), ([.int .i64 n.id, .slice la' n.labels.length lc', .slice ka' n.keys.length kc', .slice va' n.vals.length vc'], 38), ([.slice none 0 0, .slice none 0 0], 25)] gb cap (g.nodes.length + 1) w8 ((g.nodes.take (m + 1) ++ n :: g.nodes.drop (m + 1)).set (m + 1) y) (setMany cl ((m + 1) * 4) [.int .i64 y.id, .slice yla y.labels.length ylc, .slice yka y.keys.length ykc, .slice yva y.vals.length yvc]) u1) := Lib.hid (by rw [← hu1]; exact HSU.out.put ownIsNO (by have := HLT.out; have := HG1.out; simp; omega) HGN.out (by simp; omega) HYU.out (by obtain ⟨_, h9, _⟩ := HYU.out; exact IsNO.one _ _ _ h9))
              have HU1 := Lib.hid hu1
              clear hu1
              refine wpAnyJ_take0 (i := 0) (v := ?_) rfl (by kernel_rfl) (by kernel_rfl) (by kernel_rfl) (fun _ _ _ h => h) (Or.inl ⟨by rfl, ?_⟩) ?_
              rotate_left
              focus ((intro w hSw; clear hSw; go_simp); try with_reducible rfl)
              (try simp only [Act.put, List.getElem_toArray, List.getElem_cons_zero, List.getElem_cons_succ, List.setIfInBounds_toArray, List.set_cons_zero, List.set_cons_succ])
              refine wpAnyJ_take (i := 1) (v := ?_) rfl (by kernel_rfl) (by kernel_rfl) (by kernel_rfl) (by kernel_rfl) (fun _ _ _ h => h) (Or.inl ⟨by rfl, ?_⟩) (by assumption) ?_
              rotate_left
              focus ((intro w hSw; (try dsimp only at hSw); go_simp); try with_reducible rfl)
              (try simp only [Act.put, List.getElem_toArray, List.getElem_cons_zero, List.getElem_cons_succ, List.setIfInBounds_toArray, List.set_cons_zero, List.set_cons_succ])
              refine wpAnyJ_take0 (i := 2) (v := ?_) rfl (by kernel_rfl) (by kernel_rfl) (by kernel_rfl) (fun _ _ _ h => h) (Or.inl ⟨by rfl, ?_⟩) ?_
              rotate_left
              focus ((intro w hSw; clear hSw; go_simp); try with_reducible rfl)
              (try simp only [Act.put, List.getElem_toArray, List.getElem_cons_zero, List.getElem_cons_succ, List.setIfInBounds_toArray, List.set_cons_zero, List.set_cons_succ])
              refine wpAnyJ_take0 (i := 3) (v := ?_) rfl (by kernel_rfl) (by kernel_rfl) (by kernel_rfl) (fun _ _ _ h => h) (Or.inl ⟨by rfl, ?_⟩) ?_
              rotate_left
              focus ((intro w hSw; clear hSw; go_simp); try with_reducible rfl)
              (try simp only [Act.put, List.getElem_toArray, List.getElem_cons_zero, List.getElem_cons_succ, List.setIfInBounds_toArray, List.set_cons_zero, List.set_cons_succ])
              refine wpAnyJ_take (i := 4) (v := ?_) rfl (by kernel_rfl) (by kernel_rfl) (by kernel_rfl) (by kernel_rfl) (fun _ _ _ h => h) (Or.inl ⟨by rfl, ?_⟩) (by assumption) ?_
              rotate_left
              focus ((intro w hSw; (try dsimp only at hSw); go_simp); try with_reducible rfl)
              (try simp only [Act.put, List.getElem_toArray, List.getElem_cons_zero, List.getElem_cons_succ, List.setIfInBounds_toArray, List.set_cons_zero, List.set_cons_succ])
              refine wpAnyJ_take0 (i := 5) (v := ?_) rfl (by kernel_rfl) (by kernel_rfl) (by kernel_rfl) (fun _ _ _ h => h) (Or.inl ⟨by rfl, ?_⟩) ?_
              rotate_left
              focus ((intro w hSw; clear hSw; go_simp); try with_reducible rfl)
              (try simp only [Act.put, List.getElem_toArray, List.getElem_cons_zero, List.getElem_cons_succ, List.setIfInBounds_toArray, List.set_cons_zero, List.set_cons_succ])
              refine wpAnyJ_take0 (i := 6) (v := ?_) rfl (by kernel_rfl) (by kernel_rfl) (by kernel_rfl) (fun _ _ _ h => h) (Or.inl ⟨by rfl, ?_⟩) ?_
              rotate_left
              focus ((intro w hSw; clear hSw; go_simp); try with_reducible rfl)
              (try simp only [Act.put, List.getElem_toArray, List.getElem_cons_zero, List.getElem_cons_succ, List.setIfInBounds_toArray, List.set_cons_zero, List.set_cons_succ])
              refine wpAnyJ_take0 (i := 7) (v := ?_) rfl (by kernel_rfl) (by kernel_rfl) (by kernel_rfl) (fun _ _ _ h => h) (Or.inl ⟨by rfl, ?_⟩) ?_
              rotate_left
              focus ((intro w hSw; clear hSw; go_simp); try with_reducible rfl)
              (try simp only [Act.put, List.getElem_toArray, List.getElem_cons_zero, List.getElem_cons_succ, List.setIfInBounds_toArray, List.set_cons_zero, List.set_cons_succ])
              refine wpAnyJ_take (i := 8) (v := ?_) rfl (by kernel_rfl) (by kernel_rfl) (by kernel_rfl) (by kernel_rfl) (fun _ _ _ h => h) (Or.inl ⟨by rfl, ?_⟩) (by assumption) ?_
              rotate_left
              focus ((intro w hSw; (try dsimp only at hSw); go_simp); try with_reducible rfl)
              (try simp only [Act.put, List.getElem_toArray, List.getElem_cons_zero, List.getElem_cons_succ, List.setIfInBounds_toArray, List.set_cons_zero, List.set_cons_succ])
              refine wpAnyJ_take0 (i := 9) (v := ?_) rfl (by kernel_rfl) (by kernel_rfl) (by kernel_rfl) (fun _ _ _ h => h) (Or.inl ⟨by rfl, ?_⟩) ?_
              rotate_left
              focus ((intro w hSw; clear hSw; go_simp); try with_reducible rfl)
              (try simp only [Act.put, List.getElem_toArray, List.getElem_cons_zero, List.getElem_cons_succ, List.setIfInBounds_toArray, List.set_cons_zero, List.set_cons_succ])
              refine wpAnyJ_ready (rs := [10]) (by kernel_rfl) (by simp) ?_
              refine AllReadyJ.cons rfl (fun KK hKK => ?_) AllReadyJ.nil
              refine step_store_mid (by rfl) 38 _ _ (by rfl) gb ((m + 1) * 4) #[.int .i64 y.id, .slice yla y.labels.length ylc, .slice yka y.keys.length ykc, .slice yva y.vals.length yvc] (by rfl) (by rfl) HTU.out (by kernel_rfl) (by simp [Value.oneCell']) ?_
              rw [HU1.out]
              refine hKK.out _ _ (fun h => absurd h (by decide)) ?_
              clear hKK KK hHeld
              (try simp only [Act.put, List.getElem_toArray, List.getElem_cons_zero, List.getElem_cons_succ, List.setIfInBounds_toArray, List.set_cons_zero, List.set_cons_succ])
              refine wpAnyJ_done (by kernel_rfl) ?_ _
              refine NoPanic.normal ?_
              have HX1 : Hid (Keeps IsNO (fun q => q ∈ b1 ∨ q ∈ bs3) u1 [.int .i64 n.id, .slice la' n.labels.length lc', .slice ka' n.keys.length kc', .slice va' n.vals.length vc'] n) := Lib.hid ⟨bs3, ownIsNO.same HXN.out (fun q hq => by
                have h9 := HPP.out q (.inr hq)
                rw [HS15.out.kp q (HGN.out q (.inr hq)), HK8.out q h9.2.1 h9.2.2.1 h9.2.2.2]), fun q hq => .inr hq⟩
              have HTV : Hid (u1.there gb (m * 4) 4) := Lib.hid (own_thereAt HS15.out.own hm5)
              obtain ⟨u2, hu2⟩ : ∃ u, u1.setCells gb (m * 4) (#[.int .i64 n.id, .slice la' n.labels.length lc', .slice ka' n.keys.length kc', .slice va' n.vals.length vc'] : Array Value).toList = u := ⟨_, rfl⟩
              have HS16 : Hid (InsSt IsNO (fun q => q ∈ b1 ∨ q ∈ bs3) 38 4 (w1.heap.size) w [([.slice na g.nodes.length nc, .slice ea g.edges.length ec], 25), ([.int .i64 n.id, .slice la' n.labels.length lc', .slice ka' n.keys.length kc', .slice va' n.vals.length vc'], 38), ([.slice none 0 0, .slice none 0 0], 25)] gb cap (g.nodes.length + 1) w8 (((g.nodes.take (m + 1) ++ n :: g.nodes.drop (m + 1)).set (m + 1) y).set m n) (setMany (setMany cl ((m + 1) * 4) [.int .i64 y.id, .slice yla y.labels.length ylc, .slice yka y.keys.length ykc, .slice yva y.vals.length yvc]) (m * 4) [.int .i64 n.id, .slice la' n.labels.length lc', .slice ka' n.keys.length kc', .slice va' n.vals.length vc']) u2) := Lib.hid (by rw [← hu2]; exact HS15.out.put ownIsNO (by have := HLT.out; have := HG1.out; simp; omega) HGN.out (by simp; omega) HX1.out (by obtain ⟨_, h9, _⟩ := HX1.out; exact IsNO.one _ _ _ h9))
              have HU2 := Lib.hid hu2
              clear hu2
              have bo9 : u1.cell? ⟨w2.heap.size, 0, none⟩ = some (.slice (some ⟨gb, 0, none⟩) (g.nodes.length + 1) cap) := (HBO8.out.of_heap (HS15.out.kp _ (fun e => HGW.out e.symm))).cell rfl
              have e1_0 : u1.cell? ⟨w.heap.size + 1, 0, none⟩ = some (.int .i64 n.id) := HS15.out.bx.cell 1 0 rfl rfl
              have e1_1 : u1.cell? ⟨w.heap.size + 1, 1, none⟩ = some (.slice la' n.labels.length lc') := HS15.out.bx.cell 1 1 rfl rfl
              have e1_2 : u1.cell? ⟨w.heap.size + 1, 2, none⟩ = some (.slice ka' n.keys.length kc') := HS15.out.bx.cell 1 2 rfl rfl
              have e1_3 : u1.cell? ⟨w.heap.size + 1, 3, none⟩ = some (.slice va' n.vals.length vc') := HS15.out.bx.cell 1 3 rfl rfl
              have hwm : IntKind.i64.wrap (((m + 1 : Nat) : Int) - 1) = (m : Int) := hwj
              go_wp2_with (refine wpList_store_mid rfl 38 _ _ rfl gb (m * 4) #[.int .i64 n.id, .slice la' n.labels.length lc', .slice ka' n.keys.length kc', .slice va' n.vals.length vc'] rfl rfl HTV.out (by kernel_rfl) (by simp [Value.oneCell']) ?_; rw [HU2.out])
              go_roundw
              case rel => exact ⟨m, _, by first | rfl | go_num, by omega, Lib.hid (by have h9 := HS16.out; rw [swap_list HY.out] at h9; exact h9), Lib.hid (fun i x hi hx => by
                rcases Nat.lt_or_ge m i with h | h
                · exact HGE.out i x (by omega) hx
                · have e : i = m := by omega
                  subst e
                  unfold idsN at hx
                  rw [List.getElem?_map, HY.out] at hx
                  injection hx with hx
                  rw [← hx]
                  exact hgt)⟩
              case measure => simp [intOf]
            · skip
              have hle : y.id ≤ n.id := by omega
              have HYN : Hid (∀ x, (m + 1) ≠ 0 → (idsN g)[m + 1 - 1]? = some x → ¬ n.id < x) := Lib.hid (fun x _ hx => by
                unfold idsN at hx
                rw [Nat.add_sub_cancel, List.getElem?_map, HY.out] at hx
                injection hx with hx
                rw [← hx]
                exact hgt)
              go_wp2_with fail
              refine wp_region_noPanic ?_
              refine wp_region_J (S := fun u : World => u.cell? ⟨w2.heap.size, 0, none⟩ = some (.slice (some ⟨gb, 0, none⟩) (g.nodes.length + 1) cap) ∧ u.cell? ⟨w.heap.size + 1, 0, none⟩ = some (.int .i64 n.id) ∧ u.cell? ⟨gb, m * 4, none⟩ = some (.int .i64 y.id) ∧ u.cell? ⟨gb, m * 4 + 1, none⟩ = some (.slice yla y.labels.length ylc) ∧ u.cell? ⟨gb, m * 4 + 2, none⟩ = some (.slice yka y.keys.length ykc) ∧ u.cell? ⟨gb, m * 4 + 3, none⟩ = some (.slice yva y.vals.length yvc)) (fun _ => false) (by kernel_rfl) ?_
              obtain ⟨wd, hwd⟩ : ∃ u, wr.drew = u := ⟨_, rfl⟩
              rw [hwd] at HSD ⊢
              have HYK := Lib.hid (show Keeps IsNO (fun q => q ∈ b1 ∨ q ∈ bs3) wd [.int .i64 y.id, .slice yla y.labels.length ylc, .slice yka y.keys.length ykc, .slice yva y.vals.length yvc] y from HYK.out.same ownIsNO (fun q hq => by rw [← hwd]; rfl))
              clear hwd
              have hHeld : (fun u : World => u.cell? ⟨w2.heap.size, 0, none⟩ = some (.slice (some ⟨gb, 0, none⟩) (g.nodes.length + 1) cap) ∧ u.cell? ⟨w.heap.size + 1, 0, none⟩ = some (.int .i64 n.id) ∧ u.cell? ⟨gb, m * 4, none⟩ = some (.int .i64 y.id) ∧ u.cell? ⟨gb, m * 4 + 1, none⟩ = some (.slice yla y.labels.length ylc) ∧ u.cell? ⟨gb, m * 4 + 2, none⟩ = some (.slice yka y.keys.length ykc) ∧ u.cell? ⟨gb, m * 4 + 3, none⟩ = some (.slice yva y.vals.length yvc)) wd := ⟨(HBO8.out.of_heap (HSD.out.kp _ (fun e => HGW.out e.symm))).cell rfl, HSD.out.bx.cell 1 0 rfl rfl, own_cell HSD.out.own (HYG.out 0 _ rfl), own_cell HSD.out.own (HYG.out 1 _ rfl), own_cell HSD.out.own (HYG.out 2 _ rfl), own_cell HSD.out.own (HYG.out 3 _ rfl)⟩
              refine wpAnyJ_take0 (i := 0) (v := ?_) rfl (by kernel_rfl) (by kernel_rfl) (by kernel_rfl) (fun _ _ _ h => h) (Or.inl ⟨by rfl, ?_⟩) ?_
              rotate_left
              focus ((intro w hSw; clear hSw; go_simp); try with_reducible rfl)
              (try simp only [Act.put, List.getElem_toArray, List.getElem_cons_zero, List.getElem_cons_succ, List.setIfInBounds_toArray, List.set_cons_zero, List.set_cons_succ])
              refine wpAnyJ_take0 (i := 1) (v := ?_) rfl (by kernel_rfl) (by kernel_rfl) (by kernel_rfl) (fun _ _ _ h => h) (Or.inl ⟨by rfl, ?_⟩) ?_
              rotate_left
              focus ((intro w hSw; clear hSw; go_simp); try with_reducible rfl)
              (try simp only [Act.put, List.getElem_toArray, List.getElem_cons_zero, List.getElem_cons_succ, List.setIfInBounds_toArray, List.set_cons_zero, List.set_cons_succ])
              refine wpAnyJ_take0 (i := 2) (v := ?_) rfl (by kernel_rfl) (by kernel_rfl) (by kernel_rfl) (fun _ _ _ h => h) (Or.inl ⟨by rfl, ?_⟩) ?_
              rotate_left
              focus ((intro w hSw; clear hSw; go_simp); try with_reducible rfl)
              (try simp only [Act.put, List.getElem_toArray, List.getElem_cons_zero, List.getElem_cons_succ, List.setIfInBounds_toArray, List.set_cons_zero, List.set_cons_succ])
              refine wpAnyJ_take0 (i := 3) (v := ?_) rfl (by kernel_rfl) (by kernel_rfl) (by kernel_rfl) (fun _ _ _ h => h) (Or.inl ⟨by rfl, ?_⟩) ?_
              rotate_left
              focus ((intro w hSw; clear hSw; go_simp); try with_reducible rfl)
              (try simp only [Act.put, List.getElem_toArray, List.getElem_cons_zero, List.getElem_cons_succ, List.setIfInBounds_toArray, List.set_cons_zero, List.set_cons_succ])
              refine wpAnyJ_take (i := 4) (v := ?_) rfl (by kernel_rfl) (by kernel_rfl) (by kernel_rfl) (by kernel_rfl) (fun _ _ _ h => h) (Or.inl ⟨by rfl, ?_⟩) (by assumption) ?_
              rotate_left
              focus ((intro w hSw; (try dsimp only at hSw); go_simp); try with_reducible rfl)
              (try simp only [Act.put, List.getElem_toArray, List.getElem_cons_zero, List.getElem_cons_succ, List.setIfInBounds_toArray, List.set_cons_zero, List.set_cons_succ])
              refine wpAnyJ_take0 (i := 5) (v := ?_) rfl (by kernel_rfl) (by kernel_rfl) (by kernel_rfl) (fun _ _ _ h => h) (Or.inl ⟨by rfl, ?_⟩) ?_
              rotate_left
              focus ((intro w hSw; clear hSw; go_simp); try with_reducible rfl)
              (try simp only [Act.put, List.getElem_toArray, List.getElem_cons_zero, List.getElem_cons_succ, List.setIfInBounds_toArray, List.set_cons_zero, List.set_cons_succ])
              refine wpAnyJ_take0 (i := 6) (v := ?_) rfl (by kernel_rfl) (by kernel_rfl) (by kernel_rfl) (fun _ _ _ h => h) (Or.inl ⟨by rfl, ?_⟩) ?_
              rotate_left
              focus ((intro w hSw; clear hSw; go_simp); try with_reducible rfl)
              (try simp only [Act.put, List.getElem_toArray, List.getElem_cons_zero, List.getElem_cons_succ, List.setIfInBounds_toArray, List.set_cons_zero, List.set_cons_succ])
              refine wpAnyJ_take0 (i := 7) (v := ?_) rfl (by kernel_rfl) (by kernel_rfl) (by kernel_rfl) (fun _ _ _ h => h) (Or.inl ⟨by rfl, ?_⟩) ?_
              rotate_left
              focus ((intro w hSw; clear hSw; go_simp); try with_reducible rfl)
              (try simp only [Act.put, List.getElem_toArray, List.getElem_cons_zero, List.getElem_cons_succ, List.setIfInBounds_toArray, List.set_cons_zero, List.set_cons_succ])
              refine wpAnyJ_take0 (i := 8) (v := ?_) rfl (by kernel_rfl) (by kernel_rfl) (by kernel_rfl) (fun _ _ _ h => h) (Or.inl ⟨by rfl, ?_⟩) ?_
              rotate_left
              focus ((intro w hSw; clear hSw; go_simp); try with_reducible rfl)
              (try simp only [Act.put, List.getElem_toArray, List.getElem_cons_zero, List.getElem_cons_succ, List.setIfInBounds_toArray, List.set_cons_zero, List.set_cons_succ])
              refine wpAnyJ_take (i := 9) (v := ?_) rfl (by kernel_rfl) (by kernel_rfl) (by kernel_rfl) (by kernel_rfl) (fun _ _ _ h => h) (Or.inl ⟨by rfl, ?_⟩) (by assumption) ?_
              rotate_left
              focus ((intro w hSw; (try dsimp only at hSw); go_simp); try with_reducible rfl)
              (try simp only [Act.put, List.getElem_toArray, List.getElem_cons_zero, List.getElem_cons_succ, List.setIfInBounds_toArray, List.set_cons_zero, List.set_cons_succ])
              refine wpAnyJ_take0 (i := 10) (v := ?_) rfl (by kernel_rfl) (by kernel_rfl) (by kernel_rfl) (fun _ _ _ h => h) (Or.inl ⟨by rfl, ?_⟩) ?_
              rotate_left
              focus ((intro w hSw; clear hSw; go_simp); try with_reducible rfl)
              (try simp only [Act.put, List.getElem_toArray, List.getElem_cons_zero, List.getElem_cons_succ, List.setIfInBounds_toArray, List.set_cons_zero, List.set_cons_succ])
              refine wpAnyJ_take (i := 11) (v := ?_) rfl (by kernel_rfl) (by kernel_rfl) (by kernel_rfl) (by kernel_rfl) (fun _ _ _ h => h) (Or.inl ⟨by rfl, ?_⟩) (by assumption) ?_
              rotate_left
              focus ((intro w hSw; (try dsimp only at hSw); go_simp); try with_reducible rfl)
              (try simp only [Act.put, List.getElem_toArray, List.getElem_cons_zero, List.getElem_cons_succ, List.setIfInBounds_toArray, List.set_cons_zero, List.set_cons_succ])
              refine wpAnyJ_take0 (i := 12) (v := ?_) rfl (by kernel_rfl) (by kernel_rfl) (by kernel_rfl) (fun _ _ _ h => h) (Or.inl ⟨by rfl, ?_⟩) ?_
              rotate_left
              focus ((intro w hSw; clear hSw; go_simp); try with_reducible rfl)
              (try simp only [Act.put, List.getElem_toArray, List.getElem_cons_zero, List.getElem_cons_succ, List.setIfInBounds_toArray, List.set_cons_zero, List.set_cons_succ])
              refine wpAnyJ_take0 (i := 13) (v := ?_) rfl (by kernel_rfl) (by kernel_rfl) (by kernel_rfl) (fun _ _ _ h => h) (Or.inl ⟨by rfl, ?_⟩) ?_
              rotate_left
              focus ((intro w hSw; clear hSw; go_simp); try with_reducible rfl)
              (try simp only [Act.put, List.getElem_toArray, List.getElem_cons_zero, List.getElem_cons_succ, List.setIfInBounds_toArray, List.set_cons_zero, List.set_cons_succ])
              refine wpAnyJ_done (by kernel_rfl) ?_ _
              refine NoPanic.normal ?_
              clear hHeld
              have HPO : Hid (posI (idsN g) n.id = m + 1) := Lib.hid (posI_of HRI.out HII.out (by rw [HIL.out]; exact hj) HGE.out (fun x h0 hx => by have := HYN.out x h0 hx; omega))
              have HP2 : Hid (putG g n = (0, ⟨g.nodes.take (m + 1) ++ n :: g.nodes.drop (m + 1), g.edges⟩)) := Lib.hid (by rw [HP.out, HPO.out]; rfl)
              have HPK : Hid (∀ q, (q ∈ b1 ∨ q ∈ bs3) → w.heap.size + 2 + 1 ≤ q ∧ q < wd.heap.size) := Lib.hid (fun q hq => by have h9 := HPP.out q hq; have := HLT.out; have := HWM.out; have h8 := HSD.out.sz; have := HZ78.out; exact ⟨by omega, by omega⟩)
              have HBX9 : Hid (Bx w [([.slice na g.nodes.length nc, .slice ea g.edges.length ec], 25), ([.int .i64 n.id, .slice la' n.labels.length lc', .slice ka' n.keys.length kc', .slice va' n.vals.length vc'], 38), ([.slice none 0 0, .slice none 0 0], 25)] wd) := Lib.hid HSD.out.bx
              have hbo : Block wd w2.heap.size [.slice (some ⟨gb, 0, none⟩) (g.nodes.length + 1) cap, .slice ea' g.edges.length ec'] 25 := HBO8.out.of_heap (HSD.out.kp _ (fun e => HGW.out e.symm))
              have v0 : wd.cell? ⟨w2.heap.size, 0, none⟩ = some (.slice (some ⟨gb, 0, none⟩) (g.nodes.length + 1) cap) := hbo.cell rfl
              have v1 : wd.cell? ⟨w2.heap.size, 1, none⟩ = some (.slice ea' g.edges.length ec') := hbo.cell rfl
              have HT2 : Hid (wd.there (w.heap.size + 2) 0 2) := Lib.hid (show Block wd (w.heap.size + 2) [.slice none 0 0, .slice none 0 0] 25 from HBX9.out.blk 2 _ _ rfl).there
              obtain ⟨we, hwe⟩ : ∃ we, wd.setCells (w.heap.size + 2) 0 (#[.slice (some ⟨gb, 0, none⟩) (g.nodes.length + 1) cap, .slice ea' g.edges.length ec'] : Array Value).toList = we := ⟨_, rfl⟩
              have hbe : Block we (w.heap.size + 2) [.slice (some ⟨gb, 0, none⟩) (g.nodes.length + 1) cap, .slice ea' g.edges.length ec'] 25 := by rw [← hwe]; exact ((show Block wd (w.heap.size + 2) [.slice none 0 0, .slice none 0 0] 25 from HBX9.out.blk 2 _ _ rfl).set 0 _).set 1 _
              have q0 : we.cell? ⟨w.heap.size + 2, 0, none⟩ = some (.slice (some ⟨gb, 0, none⟩) (g.nodes.length + 1) cap) := hbe.cell rfl
              have q1 : we.cell? ⟨w.heap.size + 2, 1, none⟩ = some (.slice ea' g.edges.length ec') := hbe.cell rfl
              have HBE : Hid (Below w.heap.size w we) := Lib.hid (by rw [← hwe]; exact ((HBX9.out.put 2 0 rfl (.slice (some ⟨gb, 0, none⟩) (g.nodes.length + 1) cap)).put 2 1 rfl (.slice ea' g.edges.length ec')).bel)
              have HKE : Hid (∀ q, q ≠ w.heap.size + 2 → we.heap[q]? = wd.heap[q]?) := Lib.hid (fun q hq => by rw [← hwe]; exact setW_other _ _ _ _ _ hq)
              have HZE : Hid (we.heap.size = wd.heap.size) := Lib.hid (by rw [← hwe]; exact setW_size _ _ _ _)
              have HWE := Lib.hid hwe
              clear hbo hbe hwe
              go_wp2_with (first | (refine wpList_store_mid rfl 25 _ _ rfl (w.heap.size + 2) 0 #[.slice (some ⟨gb, 0, none⟩) (g.nodes.length + 1) cap, .slice ea' g.edges.length ec'] rfl rfl HT2.out (by kernel_rfl) (by simp [Value.oneCell']) ?_; rw [HWE.out]))
              refine bodyPost_ret (by simp [results, Try.results42, go_sem, q0, q1]; rfl) rfl ?_
              rw [HP2.out]
              refine ⟨_, rfl, HBE.out, ?_⟩
              exact (ins_node (b := w.heap.size + 2) HSD.out HRO8.out HOK.out HPK.out HGB.out HKE.out HZE.out).mono (by omega)
end Go.Proofs.Ytoakloicjlfaaaa

/- Layer 9: a slice of bytes at any place of a block; append onto it. Conditions: none. -/
import Derived.Test.YteopfknoemifgaaP9
import Derived.ArgAppend
import Derived.Deep.Upon
namespace Go.Proofs.Yteopfknoemifgaa
open Go.RowKit
set_option linter.unusedSimpArgs false
set_option linter.unusedVariables false

theorem Block.setCells {b : Nat} {t : TypeId} : ∀ (vs : List Value) (o : Nat) (w : World) (cur : List Value), Block w b cur t →
    ∃ cur', Block (w.setCells b o vs) b cur' t ∧ cur'.length = cur.length ∧ ∀ q, cur'[q]? = if o ≤ q ∧ q < o + vs.length ∧ q < cur.length then vs[q - o]? else cur[q]? := by
  intro vs
  induction vs with
  | nil => intro o w cur h; exact ⟨cur, h, rfl, fun q => by rw [if_neg (by simp; omega)]⟩
  | cons v vs ih =>
    intro o w cur h
    obtain ⟨cur', h1, h2, h3⟩ := ih (o + 1) (w.setCell ⟨b, o, none⟩ v) (cur.set o v) (h.set o v)
    refine ⟨cur', h1, by rw [h2, List.length_set], fun q => ?_⟩
    rw [h3, List.length_set]
    by_cases e : q = o
    · subst e
      rw [if_neg (by omega)]
      by_cases hq : q < cur.length
      · rw [if_pos (by simp; omega), List.getElem?_set_self (by omega)]; simp
      · rw [if_neg (by omega), List.getElem?_eq_none (by rw [List.length_set]; omega), List.getElem?_eq_none (by omega)]
    · by_cases h1 : o + 1 ≤ q ∧ q < o + 1 + vs.length ∧ q < cur.length
      · rw [if_pos h1, if_pos (by simp; omega), show q - o = (q - (o + 1)) + 1 from by omega, List.getElem?_cons_succ]
      · rw [if_neg h1, if_neg (by simp; omega), List.getElem?_set_ne (by omega)]
theorem setCells_heap {b : Nat} : ∀ (vs : List Value) (o : Nat) (w : World) (k : Nat), k ≠ b → (w.setCells b o vs).heap[k]? = w.heap[k]?
  | [], _, _, _, _ => rfl
  | v :: vs, o, w, k, hk => by
    show ((w.setCell ⟨b, o, none⟩ v).setCells b (o + 1) vs).heap[k]? = _
    rw [setCells_heap vs (o + 1) _ k hk, Below.heap_setCell _ _ _ _ hk]
theorem setCells_size {b : Nat} : ∀ (vs : List Value) (o : Nat) (w : World), (w.setCells b o vs).heap.size = w.heap.size ∧ (w.setCells b o vs).os = w.os ∧ (w.setCells b o vs).tape = w.tape ∧ (w.setCells b o vs).output = w.output
  | [], _, _ => ⟨rfl, rfl, rfl, rfl⟩
  | v :: vs, o, w => by
    show ((w.setCell ⟨b, o, none⟩ v).setCells b (o + 1) vs).heap.size = _ ∧ ((w.setCell ⟨b, o, none⟩ v).setCells b (o + 1) vs).os = _ ∧ ((w.setCell ⟨b, o, none⟩ v).setCells b (o + 1) vs).tape = _ ∧ ((w.setCell ⟨b, o, none⟩ v).setCells b (o + 1) vs).output = _
    obtain ⟨h1, h2, h3, h4⟩ := setCells_size vs (o + 1) (w.setCell ⟨b, o, none⟩ v)
    exact ⟨h1.trans (by simp [World.setCell]), h2, h3, h4⟩

/-- Bytes at a place of a block that is the owner's. -/
def Win (w : World) (own : Nat → Prop) (v : Value) (l : List UInt8) : Prop :=
  ∃ a c, v = .slice a l.length c ∧ ((l = [] ∧ c = 0) ∨ ∃ g off cur, a = some ⟨g, off, none⟩ ∧ own g ∧ Block w g cur 5 ∧ off + c ≤ cur.length ∧ l.length ≤ c ∧ c ≤ maxLen ∧ ∀ (i : Nat) x, (bys l)[i]? = some x → cur[off + i]? = some x)
theorem Win.nil {w : World} {own : Nat → Prop} : Win w own (.slice none 0 0) [] := ⟨none, 0, rfl, .inl ⟨rfl, rfl⟩⟩
theorem Win.form {w : World} {own : Nat → Prop} {v : Value} {l : List UInt8} (h : Win w own v l) : ∃ a c, v = .slice a l.length c := by
  obtain ⟨a, c, h1, _⟩ := h; exact ⟨a, c, h1⟩
theorem Win.same {w w' : World} {own own' : Nat → Prop} {v : Value} {l : List UInt8} (h : Win w own v l) (hk : ∀ k, own k → k < w.heap.size → w'.heap[k]? = w.heap[k]? ∧ own' k) : Win w' own' v l := by
  obtain ⟨a, c, rfl, h⟩ := h
  refine ⟨a, c, rfl, ?_⟩
  rcases h with h | ⟨g, off, cur, h1, h2, h3, h4⟩
  · exact .inl h
  · exact .inr ⟨g, off, cur, h1, (hk g h2 h3.lt).2, h3.of_heap (hk g h2 h3.lt).1, h4⟩
theorem Win.cells {w : World} {own : Nat → Prop} {a : Option Addr} {n c : Nat} {l : List UInt8} (h : Win w own (.slice a n c) l) : n = l.length ∧ l.length ≤ c ∧ c ≤ maxLen ∧ (a = none → c = 0) ∧ Cells w.heap.size w a (bys l) := by
  obtain ⟨a', c', e, h⟩ := h
  injection e with e1 e2 e3
  subst e1 e2 e3
  rcases h with ⟨h1, h2⟩ | ⟨g, off, cur, rfl, h2, h3, h4, h5, h6, h7⟩
  · exact ⟨rfl, by simp [h1], by subst h2; unfold maxLen; omega, fun _ => h2, .inl (by rw [h1]; rfl)⟩
  · exact ⟨rfl, h5, h6, fun e => (by cases e), .inr ⟨g, off, rfl, h3.lt, fun i x hx => h3.cell (h7 i x hx)⟩⟩
theorem Win.of_own {w : World} {B : Nat} {own : Nat → Prop} {v : Value} {n : Nat} {l : List UInt8} (h : w.ownsRow B 5 1 v n (bys l)) (ho : ∀ k, v.ownBlock = some k → own k) : Win w own v l := by
  obtain ⟨hl, h⟩ := h
  rw [bys_length, Nat.mul_one] at hl
  rcases h with ⟨rfl, rfl⟩ | ⟨g, cap, cur, rfl, hb, hh, h1, h2, h3, h4⟩
  · have : l = [] := List.eq_nil_of_length_eq_zero hl
    subst this
    exact Win.nil
  · subst hl
    refine ⟨_, cap, rfl, .inr ⟨g, 0, cur.toList, rfl, ho g rfl, hh, by simp [h3], h1, h2, fun i x hx => ?_⟩⟩
    rw [Nat.zero_add]
    rw [← h4, List.getElem?_take] at hx
    split at hx
    · exact hx
    · cases hx
theorem Win.take {w : World} {own : Nat → Prop} {a : Option Addr} {n c k : Nat} {l : List UInt8} (h : Win w own (.slice a n c) l) (hk : k ≤ l.length) : Win w own (.slice a k c) (l.take k) := by
  obtain ⟨a', c', e, h⟩ := h
  injection e with e1 e2 e3
  subst e1 e2 e3
  refine ⟨a, c, by rw [List.length_take, Nat.min_eq_left hk], ?_⟩
  rcases h with ⟨h1, h2⟩ | ⟨g, off, cur, rfl, h2, h3, h4, h5, h6, h7⟩
  · exact .inl ⟨by rw [h1]; simp, h2⟩
  · refine .inr ⟨g, off, cur, rfl, h2, h3, h4, by rw [List.length_take]; omega, h6, fun i x hx => h7 i x ?_⟩
    rw [← bys_take, List.getElem?_take] at hx
    split at hx
    · exact hx
    · cases hx
theorem Win.drop {w : World} {own : Nat → Prop} {g off n c k : Nat} {l : List UInt8} (h : Win w own (.slice (some ⟨g, off, none⟩) n c) l) (hk : k ≤ l.length) (hc : c ≠ k) : Win w own (.slice (some ⟨g, off + k, none⟩) (n - k) (c - k)) (l.drop k) := by
  obtain ⟨a', c', e, h⟩ := h
  injection e with e1 e2 e3
  subst e2 e3
  refine ⟨_, c - k, by rw [List.length_drop], ?_⟩
  rcases h with ⟨h1, h2⟩ | ⟨g', off', cur, e, h2, h3, h4, h5, h6, h7⟩
  · subst h1 h2
    simp at hk
    omega
  · rw [e] at e1
    injection e1 with e1
    injection e1 with e1 e2
    subst e1 e2
    refine .inr ⟨g, off + k, cur, rfl, h2, h3, by omega, by rw [List.length_drop]; omega, by omega, fun i x hx => ?_⟩
    rw [← bys_drop, List.getElem?_drop] at hx
    rw [Nat.add_assoc]
    exact h7 _ x hx
theorem Win.drop_all {w : World} {own : Nat → Prop} {a : Option Addr} {l : List UInt8} {k : Nat} (hk : l.length ≤ k) : Win w own (.slice a 0 0) (l.drop k) := by
  have : l.drop k = [] := List.drop_eq_nil_of_le hk
  rw [this]
  exact ⟨a, 0, rfl, .inl ⟨rfl, rfl⟩⟩

/-- append onto it. -/
theorem run_append_win {w : World} {own : Nat → Prop} {a : Option Addr} {n c : Nat} {l : List UInt8} (h : Win w own (.slice a n c) l) (ty : TypeId) (ad : Option Addr) (m cx B : Nat) (x : List UInt8) (hm : m = x.length) (hnone : ad = none → cx = 0) (hc : Cells B w ad (bys x))
    (hz : l.length + x.length ≤ 140737488351232) :
    ∃ a' c' w', (Builtin.append_ #[30, 30] ty #[.slice a n c, .slice ad m cx]).run Try.prog w = .ok (.slice a' (n + m) c') w' ∧ Win w' (fun k => own k ∨ (w.heap.size ≤ k ∧ k < w'.heap.size)) (.slice a' (n + m) c') (l ++ x) ∧ KeptP own w w' := by
  obtain ⟨i0, hi0, hz0, hz1, hz2⟩ := info_parts Try.infoB
  obtain ⟨rfl, hlc, hcm, hca, hcl⟩ := h.cells
  subst hm
  rcases hc with hx0 | ⟨b, off, rfl, _, hcx⟩
  · -- nothing is appended
    obtain rfl : x = [] := by simpa [bys] using hx0
    have hs : Src Try.prog i0.size 30 (.slice ad 0 cx) 0 [] w := by
      cases ad with
      | none => exact Src.ofNil w Try.underlying30 cx
      | some b => exact Src.ofSlice w Try.underlying30 b 0 cx [] (by simp) (fun j u hj => by simp at hj) (fun u hu => by cases hu)
    refine ⟨a, c, w, run_append_nothing w 30 30 ty 5 i0 Try.underlying30 hi0 a l.length c hlc _ hs, ?_, KeptP.refl _ _⟩
    rw [List.append_nil]
    exact h.same fun k hk _ => ⟨rfl, .inl hk⟩
  · have hnl : (bys x).length = x.length * 1 := by rw [bys_length, Nat.mul_one]
    have hcx' : ∀ j u, (bys x)[j]? = some u → w.cell? ((⟨b, off, none⟩ : Addr).add j) = some u := fun j u hj => by rw [addr_add]; exact hcx j u hj
    have hgrow : ∀ v' w', w'.ownsRow w.heap.size 5 1 v' (l.length + x.length) (bys l ++ bys x) → w.grownBy w' none → ∃ a' c', v' = .slice a' (l.length + x.length) c' ∧ Win w' (fun k => own k ∨ (w.heap.size ≤ k ∧ k < w'.heap.size)) (.slice a' (l.length + x.length) c') (l ++ x) ∧ KeptP own w w' := fun v' w' ho hg => by
      obtain ⟨a', c', rfl⟩ := own_form ho
      refine ⟨a', c', rfl, ?_, (KeptP.refl own w).grown hg (fun k e => by cases e)⟩
      rw [← bys_append] at ho
      exact Win.of_own ho fun k hk => .inr (ho.lt k hk)
    by_cases hroom : l.length + x.length ≤ c
    · obtain ⟨a2, c2, e, h2⟩ := id h
      injection e with e1 e2 e3
      subst e1 e3
      rcases h2 with ⟨h3, h4⟩ | ⟨g, o, cur, rfl, h3, h4, h5, h6, h7, h8⟩
      · subst h3 h4
        obtain rfl : x = [] := List.eq_nil_of_length_eq_zero (by simpa using hroom)
        have hs : Src Try.prog i0.size 30 (.slice (some ⟨b, off, none⟩) 0 cx) 0 [] w := Src.ofSlice w Try.underlying30 _ 0 cx [] (by simp) (fun j u hj => by simp at hj) (fun u hu => by cases hu)
        refine ⟨a, 0, w, run_append_nothing w 30 30 ty 5 i0 Try.underlying30 hi0 a 0 0 (Nat.le_refl _) _ hs, ?_, KeptP.refl _ _⟩
        exact h.same fun k hk _ => ⟨rfl, .inl hk⟩
      · have hrun := run_append_room_cells (P := Try.prog) w 30 ty 5 i0 Try.underlying30 hi0 g o l.length c ⟨b, off, none⟩ x.length cx (bys x) (by rw [hz1]; exact hnl) hcx' (bys_one x) hroom
          (fun j hj => by
            rw [hz1, Nat.mul_one]
            obtain ⟨v, hv⟩ : ∃ v, cur[o + l.length + j]? = some v := ⟨_, List.getElem?_eq_getElem (by rw [bys_length] at hj; omega)⟩
            rw [h4.cell hv]; rfl)
          (fun j _ => h4.free _)
        rw [hz1, Nat.mul_one] at hrun
        obtain ⟨cur', k1, k2, k3⟩ := Block.setCells (bys x) (o + l.length) w cur h4
        obtain ⟨q1, q2, q3, q4⟩ := setCells_size (b := g) (bys x) (o + l.length) w
        refine ⟨_, c, _, hrun, ⟨_, c, by rw [List.length_append], .inr ⟨g, o, cur', rfl, .inl h3, k1, by omega, by rw [List.length_append]; omega, h7, fun i y hy => ?_⟩⟩, ⟨q2, q3, q4, by rw [q1]; exact Nat.le_refl _, fun k hk hn => setCells_heap _ _ _ _ (fun e => hn (by rw [e]; exact h3))⟩⟩
        rw [k3]
        rw [bys_append] at hy
        have hil := (List.getElem?_eq_some_iff.1 hy).1
        rw [List.length_append, bys_length, bys_length] at hil
        by_cases hi : i < l.length
        · rw [if_neg (by omega)]
          rw [List.getElem?_append_left (by rw [bys_length]; exact hi)] at hy
          exact h8 i y hy
        · rw [if_pos (by rw [bys_length]; omega)]
          rw [List.getElem?_append_right (by rw [bys_length]; omega), bys_length] at hy
          rw [show o + i - (o + l.length) = i - l.length from by omega]
          exact hy
    · have hxp : 0 < x.length := by omega
      cases a with
      | none =>
        have hc0 := hca rfl
        subst hc0
        obtain rfl : l = [] := List.eq_nil_of_length_eq_zero (by omega)
        obtain ⟨a', cap', w', r1, r2, r3, r4⟩ := run_append_rows (P := Try.prog) (w := w) 30 ty w.heap.size 5 i0 _ 1 1 Try.underlying30 hi0 hz0 hz1 hz2 rfl (by omega) (.slice none 0 0) 0 [] (World.ownsRow_nil _ _ _ _) (some ⟨b, off, none⟩) x.length cx (w.heap.size) (bys x) (fun e => by cases e) hnl
          (.inr ⟨b, off, rfl, by
            obtain ⟨v, hv⟩ : ∃ v, (bys x)[0]? = some v := ⟨_, List.getElem?_eq_getElem (by rw [bys_length]; exact hxp)⟩
            exact World.block_lt_of_cell? w _ (hcx 0 v hv), hcx⟩) (bys_one x) (by simp only [List.length_nil] at hz; unfold maxLen; omega) (by simp only [List.length_nil] at hz; omega) (Nat.le_refl _)
        obtain ⟨a2, c2, e, h2, h3⟩ := hgrow _ w' (by simpa [bys] using r2) r3
        injection e with e1 e2 e3
        subst e1 e3
        exact ⟨a', cap', w', r1, h2, h3⟩
      | some ba =>
        have hol : ∀ j u, (bys l)[j]? = some u → w.cell? (ba.add j) = some u := fun j u hj => by
          rcases hcl with h0 | ⟨b2, o2, e, _, h3⟩
          · rw [h0] at hj; simp at hj
          · injection e with e; subst e; rw [addr_add]; exact h3 j u hj
        obtain ⟨v', w', r1, r2, r3⟩ := run_append_arg_grows (P := Try.prog) w 30 ty 5 i0 _ 1 1 Try.underlying30 hi0 hz0 hz1 hz2 rfl (by omega) ba l.length c (bys l) (by rw [bys_length, Nat.mul_one]) hol ⟨b, off, none⟩ x.length cx (bys x) hnl hcx' (by omega) (by unfold maxLen; omega) (by omega)
        obtain ⟨a2, c2, rfl, h2, h3⟩ := hgrow v' w' r2 r3
        exact ⟨a2, c2, w', r1, h2, h3⟩
theorem step_append_win {ops : Array Oper} {o : Oper} {av : Go.Act} {K : Go.Act → World → Prop} {Q : Exit → Go.Act → World → Prop} {E : Prop} {w : World} (hgd : o.guard = none) (s xx : Operand) (ho : o.op = .call { callee := .builtin .append, args := #[s, xx], argTypes := #[30, 30] })
    {own : Nat → Prop} {a : Option Addr} {n c : Nat} {l : List UInt8} (hs : av.eval s = Value.slice a n c) (h : Win w own (.slice a n c) l) (ad : Option Addr) (m cx B : Nat) (x : List UInt8) (hx : av.eval xx = Value.slice ad m cx) (hm : m = x.length) (hnone : ad = none → cx = 0) (hc : Cells B w ad (bys x))
    (hz : l.length + x.length ≤ 140737488351232)
    (hK : ∀ a' c' w', Win w' (fun k => own k ∨ (w.heap.size ≤ k ∧ k < w'.heap.size)) (.slice a' (n + m) c') (l ++ x) → KeptP own w w' → K (av.put o.dst (.slice a' (n + m) c')) w') : if Region.wanted o (yielded ops av.tmps) = true then Oper.wp Try.prog o av w K Q else E := by
  have hw : Region.wanted o (yielded ops av.tmps) = true := by simp [Region.wanted, hgd]
  rw [if_pos hw]
  obtain ⟨a', c', w', hr, h2, h3⟩ := run_append_win h o.type ad m cx B x hm hnone hc hz
  unfold Oper.wp execOp
  simp only [ho, resolve, invoke, builtin, Sem.run_bind, Sem.run_pure, Result.andThen_ok, List.map_toArray, List.map_cons, List.map_nil, hs, hx, hr]
  exact hK a' c' w' h2 h3
end Go.Proofs.Yteopfknoemifgaa

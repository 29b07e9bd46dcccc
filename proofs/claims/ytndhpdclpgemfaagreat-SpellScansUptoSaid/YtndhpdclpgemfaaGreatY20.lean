/- Parts L27, J, X8, X9 of this seat (pruned, scripts that are alike kept once as default arguments: q1, q2, ..). Conditions: each says its own. -/
import Derived.Deep.RegionHeld3
import Derived.Test.YtndhpdclpgemfaaGreatY4
import Derived.Test.YtndhpdclpgemfaaGreatY5
import Derived.Test.YtndhpdclpgemfaaGreatY14
import Derived.Test.YtndhpdclpgemfaaGreatY16
import Derived.Test.YtndhpdclpgemfaaGreatY19
namespace Go.Proofs.YtndhpdclpgemfaaGreat
set_option maxRecDepth 100000
open Go.RowKit
set_option linter.unusedVariables false
theorem spanB_text {f : Nat → Bool} (T rest : List UInt8) (hT : ∀ c ∈ T, f c.toNat = true) (h : f 32 = false) : spanB f (T ++ 32 :: rest) = T.length := by
 rw [spanB_append _ _ _ hT, spanB_neg _ (by exact h)]; rfl
theorem spanB_all (f : Nat → Bool) : ∀ r : List UInt8, ∀ c ∈ r.take (spanB f r), f c.toNat = true
  | [], c, h => by simp at h
  | d :: r, c, h => by
    by_cases hd : f d.toNat = true
    · rw [spanB_pos r hd, List.take_succ_cons] at h
      rcases List.mem_cons.1 h with rfl | h
      · exact hd
      · exact spanB_all f r c h
    · rw [spanB_neg r (by simpa using hd)] at h; simp at h
def written (l : List (Tok × Nat)) : List UInt8 := l.flatMap fun x => tokW x.1 ++ [32]
theorem scanN_form : ∀ (f : Nat) (r : List UInt8) (p : Nat) (acc l : List (Tok × Nat)), scanN f r p acc = .ok l →
    ∃ toks q, l = acc ++ toks ++ [(⟨6, [], 0⟩, q)] ∧ (∀ x ∈ toks, ∃ r' n, r' ≠ [] ∧ r'.length ≤ r.length ∧ oneL r' = .tok x.1 n) ∧ (acc ++ toks).length ≤ 4095
  | 0, _, _, _, _, h => by rw [scanN] at h; cases h
  | f + 1, r, p, acc, l, h => by
    rw [scanN] at h
    by_cases hd : r.drop (spanB blankB r) = []
    · rw [if_pos hd] at h
      split at h
      · cases h
      · cases h; exact ⟨[], p + spanB blankB r, by simp, (fun x hx => by cases hx), by simp; omega⟩
    · rw [if_neg hd] at h
      cases ho : oneL (r.drop (spanB blankB r)) with
      | bad e => rw [ho] at h; cases h
      | tok t n =>
        rw [ho] at h
        dsimp only at h
        split at h
        · cases h
        · obtain ⟨toks, q, h1, h2, h3⟩ := scanN_form f _ _ _ l h
          refine ⟨(t, p + spanB blankB r) :: toks, q, by rw [h1]; simp, (fun x hx => ?_), by simpa using h3⟩
          rcases List.mem_cons.1 hx with rfl | hx
          · exact ⟨_, n, hd, spanB_drop_le _ _, ho⟩
          · obtain ⟨r', n', h4, h5, h6⟩ := h2 x hx
            refine ⟨r', n', h4, Nat.le_trans h5 ?_, h6⟩
            rw [List.length_drop]; have := spanB_drop_le blankB r; omega
theorem scanL_form {s : List UInt8} {l : List (Tok × Nat)} (h : scanL s = .ok l) :
    s.length ≤ 16384 ∧ ∃ toks q, l = toks ++ [(⟨6, [], 0⟩, q)] ∧ (∀ x ∈ toks, ∃ r' n, r' ≠ [] ∧ r'.length ≤ s.length ∧ oneL r' = .tok x.1 n) ∧ toks.length ≤ 4095 := by
 unfold scanL at h
 split at h
 ·cases h
 ·obtain ⟨toks, q, h1, h2, h3⟩ := scanN_form _ _ _ _ _ h
  exact ⟨by omega, toks, q, by simpa using h1, h2, by simpa using h3⟩
end Go.Proofs.YtndhpdclpgemfaaGreat
namespace Go.Proofs.YtndhpdclpgemfaaGreat
set_option linter.unusedVariables false
section
variable {P : Program} {ops : Array Oper} {Q : Exit → Act → World → Prop} {md : Region.Mode} {S : World → Prop} {tl : Nat → Bool}
def wpAnyJ (P : Program) (md : Region.Mode) (ops : Array Oper) (Q : Exit → Act → World → Prop) (S : World → Prop) (tl : Nat → Bool) : Nat → Array Bool → Act → World → Prop
  | 0, listed, a, w => Region.ready md ops listed = [] ∧ Q .normal a w
  | fuel + 1, listed, a, w =>
    (Region.ready md ops listed = [] → Q .normal a w) ∧
    ∀ i ∈ Region.ready md ops listed, wpOp P ops Q i (fun a' w' => (tl i = false → S w → S w') ∧ wpAnyJ P md ops Q S tl fuel (listed.setIfInBounds i true) a' w') a w
def tailWaits (md : Region.Mode) (ops : Array Oper) (tl : Nat → Bool) (i : Nat) : Bool :=
  (List.range ops.size).all fun j => !tl j || match ops[j]? with
    | some o => o.after.any fun e => Region.binds md e && e.on == i
    | none => true
theorem tailWaits_spec {i : Nat} (h : tailWaits md ops tl i = true) (j : Nat) (oj : Oper) (hj : ops[j]? = some oj) (ht : tl j = true) : ∃ e ∈ oj.after, Region.binds md e = true ∧ e.on = i := by
 unfold tailWaits at h
 rw [List.all_eq_true] at h
 have h1 := h j (List.mem_range.2 (Array.getElem?_eq_some_iff.1 hj).1)
 simp only [ht, Bool.not_true, Bool.false_or, hj] at h1
 obtain ⟨e, he, hb⟩ := Array.any_eq_true'.1 h1
 simp only [Bool.and_eq_true, beq_iff_eq] at hb
 exact ⟨e, he, hb.1, hb.2⟩
theorem Sq31 {P : Prop} (h : P := by
 intro fuel
 induction fuel with
 | zero =>
  first
  | (guard_hyp z31a; intro listed a w _ hr hy hS H)
  | (intro listed a w _ hr hy H)
  refine ⟨fun h => (by rw [h] at hr; cases hr), fun j hj => ?_⟩
  by_cases hji : j = i
  first
  |(
   guard_hyp z31b
   ·subst hji; exact hy.wpOp hi trivial ⟨fun _ h => h, H⟩)
  |(
   ·subst hji; exact hy.wpOp hi hS ⟨fun _ h => h, H⟩)
  ·have := ready_mono hj hji
   rw [H.1] at this
   cases this
 | succ fuel ih =>
  first
  | (guard_hyp z31a; intro listed a w hfree hr hy hS H)
  | (intro listed a w hfree hr hy H)
  refine ⟨fun h => (by rw [h] at hr; cases hr), fun j hj => ?_⟩
  by_cases hji : j = i
  first
  |(
   guard_hyp z31b
   ·subst hji; exact hy.wpOp hi trivial ⟨fun _ h => h, H⟩)
  |(
   ·subst hji; exact hy.wpOp hi hS ⟨fun _ h => h, H⟩)
  ·have h1 := H.2 j (ready_mono hj hji)
   obtain ⟨hjun, oj, hoj, hall⟩ := mem_ready.1 hj
   have hnot : ∀ e ∈ oj.after, Region.binds md e = true → e.on ≠ i := fun e he hb heq => by
    have h1 := hall e he hb
    have h0 := (mem_ready.1 hr).1
    rw [heq] at h1
    rcases Nat.lt_or_ge i listed.size with h' | h'
    ·simp [h'] at h0 h1; rw [h0] at h1; cases h1
    ·simp [Array.getElem?_eq_none h'] at h1
   first
   |(
    guard_hyp z31a
    have htj : tl j = false := by
     cases ht : tl j with
     | false => rfl
     | true =>
      obtain ⟨e, he, hb, heq⟩ := htl j oj hoj ht
      exact absurd heq (hnot e he hb))
   | skip
   have h2 := wpOp_putIf hoj (hfree j oj hoj hji hjun hnot) (fun cs b => hsel i oi cs b hi) (fun cs b => hsel j oj cs b hoj) hQ hy h1
   have hfree' : ∀ k ok, ops[k]? = some ok → k ≠ i → (listed.setIfInBounds j true).getD k true = false →
       (∀ e ∈ ok.after, Region.binds md e = true → e.on ≠ i) → oi.apart ops ok = true := fun k ok hk hki hun hno => by
     refine hfree k ok hk hki ?_ hno
     by_cases hjk : j = k
     · subst hjk; exact hjun
     · rw [getD_set_ne true hjk] at hun; exact hun
   first
   | (guard_hyp z31a; refine wpOp_mono (fun a' w' h3 => ⟨fun _ _ => h3.2.1 htj hS, ih (listed.setIfInBounds j true) a' w' hfree' (ready_mono hr (Ne.symm hji)) h3.1 (h3.2.1 htj hS) ?_⟩) h2)
   | (refine wpOp_mono (fun a' w' h3 => ⟨h3.2.1, ih (listed.setIfInBounds j true) a' w' hfree' (ready_mono hr (Ne.symm hji)) h3.1 ?_⟩) h2)
   rw [Array.setIfInBounds_comm _ _ hji]
   exact h3.2.2) : P := h
theorem wpAnyJ_first {i : Nat} {oi : Oper} {v : Value} (hi : ops[i]? = some oi) (hsel : ∀ (j : Nat) (o : Oper) cs b, ops[j]? = some o → o.op ≠ .select cs b)
    (htl : ∀ j oj, ops[j]? = some oj → tl j = true → ∃ e ∈ oj.after, Region.binds md e = true ∧ e.on = i)
    (hQ : ∀ c a w, Q (.panic c) (a.put oi.dst v) w → Q (.panic c) a w) :
    ∀ (fuel : Nat) (listed : Array Bool) (a : Act) (w : World),
      (∀ j oj, ops[j]? = some oj → j ≠ i → listed.getD j true = false → (∀ e ∈ oj.after, Region.binds md e = true → e.on ≠ i) → oi.apart ops oj = true) →
      i ∈ Region.ready md ops listed → YieldsIf P ops S oi v a → S w →
      wpAnyJ P md ops Q S tl fuel (listed.setIfInBounds i true) (a.put oi.dst v) w → wpAnyJ P md ops Q S tl (fuel + 1) listed a w := by
 have z31a := trivial
 exact Sq31
theorem wpAnyJ_take {i : Nat} {oi : Oper} {v : Value} {fuel : Nat} {listed : Array Bool} {a : Act} {w : World} (hi : ops[i]? = some oi)
    (hs : Region.noSelect ops = true) (hf : Region.free md ops listed i = true) (hr : (Region.ready md ops listed).contains i = true) (ht : tailWaits md ops tl i = true)
    (hQ : ∀ c a w, Q (.panic c) (a.put oi.dst v) w → Q (.panic c) a w) (hy : YieldsIf P ops S oi v a) (hS : S w)
    (h : wpAnyJ P md ops Q S tl fuel (listed.setIfInBounds i true) (a.put oi.dst v) w) : wpAnyJ P md ops Q S tl (fuel + 1) listed a w :=
  wpAnyJ_first hi (Region.noSelect_spec hs) (tailWaits_spec ht) hQ fuel listed a w (Region.free_spec hi hf) (by simpa using hr) hy hS h
theorem wpAnyJ_pure {i : Nat} {oi : Oper} {v : Value} (hi : ops[i]? = some oi) (hsel : ∀ (j : Nat) (o : Oper) cs b, ops[j]? = some o → o.op ≠ .select cs b)
    (hQ : ∀ c a w, Q (.panic c) (a.put oi.dst v) w → Q (.panic c) a w) :
    ∀ (fuel : Nat) (listed : Array Bool) (a : Act) (w : World),
      (∀ j oj, ops[j]? = some oj → j ≠ i → listed.getD j true = false → (∀ e ∈ oj.after, Region.binds md e = true → e.on ≠ i) → oi.apart ops oj = true) →
      i ∈ Region.ready md ops listed → YieldsIf P ops (fun _ => True) oi v a →
      wpAnyJ P md ops Q S tl fuel (listed.setIfInBounds i true) (a.put oi.dst v) w → wpAnyJ P md ops Q S tl (fuel + 1) listed a w := by
 have z31b := trivial
 exact Sq31
theorem wpAnyJ_take0 {i : Nat} {oi : Oper} {v : Value} {fuel : Nat} {listed : Array Bool} {a : Act} {w : World} (hi : ops[i]? = some oi)
    (hs : Region.noSelect ops = true) (hf : Region.free md ops listed i = true) (hr : (Region.ready md ops listed).contains i = true)
    (hQ : ∀ c a w, Q (.panic c) (a.put oi.dst v) w → Q (.panic c) a w) (hy : YieldsIf P ops (fun _ => True) oi v a)
    (h : wpAnyJ P md ops Q S tl fuel (listed.setIfInBounds i true) (a.put oi.dst v) w) : wpAnyJ P md ops Q S tl (fuel + 1) listed a w :=
  wpAnyJ_pure hi (Region.noSelect_spec hs) hQ fuel listed a w (Region.free_spec hi hf) (by simpa using hr) hy h
theorem wp_region_J {id : Nat} {a : Act} {w : World} (tl : Nat → Bool) (hm : P.follows .mixedOrders = true)
    (h : wpAnyJ P .any ops Q S tl ops.size (Array.replicate ops.size false) a w.drew) : (Code.region id ops true).wp P Q a w := by
 have h1 : wpAnyH P .any ops Q (fun _ => True) ops.size (Array.replicate ops.size false) a w.drew := by
  have h2 : ∀ (fuel : Nat) (listed : Array Bool) (a : Act) (w : World), wpAnyJ P .any ops Q S tl fuel listed a w → wpAnyH P .any ops Q (fun _ => True) fuel listed a w := by
   intro fuel
   induction fuel with
   | zero => intro listed a w h; exact h
   | succ fuel ih => intro listed a w h; exact ⟨h.1, fun i hi => wpOp_mono (fun a' w' h' => ⟨trivial, ih _ a' w' h'.2⟩) (h.2 i hi)⟩
  exact h2 _ _ _ _ h
 exact wp_region_held hm h1
def AllReadyJ (P : Program) (md : Region.Mode) (ops : Array Oper) (Q : Exit → Act → World → Prop) (S : World → Prop) (tl : Nat → Bool) (fuel : Nat) (listed : Array Bool) (a : Act) (w : World) (rs : List Nat) : Prop :=
  ∀ i ∈ rs, wpOp P ops Q i (fun a' w' => (tl i = false → S w → S w') ∧ wpAnyJ P md ops Q S tl fuel (listed.setIfInBounds i true) a' w') a w
theorem AllReadyJ.nil {fuel : Nat} {listed : Array Bool} {a : Act} {w : World} : AllReadyJ P md ops Q S tl fuel listed a w [] := fun _ h => by cases h
theorem AllReadyJ.cons {fuel : Nat} {listed : Array Bool} {a : Act} {w : World} {i : Nat} {o : Oper} {rs : List Nat} (ho : ops[i]? = some o)
    (h : ∀ K' : Act → World → Prop, Shut (∀ a' w', (tl i = false → S w → S w') → wpAnyJ P md ops Q S tl fuel (listed.setIfInBounds i true) a' w' → K' a' w') → if Region.wanted o (yielded ops a.tmps) = true then o.wp P a w K' Q else K' (a.put o.dst undef) w)
    (hs : AllReadyJ P md ops Q S tl fuel listed a w rs) : AllReadyJ P md ops Q S tl fuel listed a w (i :: rs) := fun j hj => by
  rcases List.mem_cons.1 hj with rfl | hj
  · exact wpOp_step ho (fun K' hK => h K' (fun a w hS hW => hK a w ⟨hS, hW⟩))
  · exact hs j hj
theorem wpAnyJ_ready {rs : List Nat} {fuel : Nat} {listed : Array Bool} {a : Act} {w : World} (hr : Region.ready md ops listed = rs) (hne : rs ≠ [])
    (h : AllReadyJ P md ops Q S tl fuel listed a w rs) : wpAnyJ P md ops Q S tl (fuel + 1) listed a w :=
  ⟨fun h0 => absurd (hr ▸ h0) hne, hr ▸ h⟩
theorem wpAnyJ_done {listed : Array Bool} {a : Act} {w : World} (hr : Region.ready md ops listed = []) (h : Q .normal a w) :
    ∀ fuel, wpAnyJ P md ops Q S tl fuel listed a w
  | 0 => ⟨hr, h⟩
  | fuel + 1 => ⟨fun _ => h, fun i hi => by rw [hr] at hi; cases hi⟩
theorem Jt (i : Nat) {oi : Oper} {v : Value} {fuel : Nat} {listed listed' : Array Bool} {a a' : Act} {w : World} (h : wpAnyJ P md ops Q S tl fuel listed' a' w) (hi : ops[i]? = some oi := by rfl)
    (hs : Region.noSelect ops = true := by kernel_rfl) (hf : Region.free md ops listed i = true := by kernel_rfl) (hr : (Region.ready md ops listed).contains i = true := by kernel_rfl)
    (hy : YieldsIf P ops (fun _ => True) oi v a := by refine Or.inl ⟨by rfl, ?_⟩; ((intro w hSw; clear hSw; go_simp); try with_reducible rfl))
    (hQ : ∀ c a w, Q (.panic c) (a.put oi.dst v) w → Q (.panic c) a w := by exact fun _ _ _ h => h)
    (hl : listed.setIfInBounds i true = listed' := by (try simp only [List.setIfInBounds_toArray, List.set_cons_zero, List.set_cons_succ]); rfl)
    (ha : a.put oi.dst v = a' := by (try simp only [Act.put, List.getElem_toArray, List.getElem_cons_zero, List.getElem_cons_succ, List.setIfInBounds_toArray, List.set_cons_zero, List.set_cons_succ]); rfl) : wpAnyJ P md ops Q S tl (fuel + 1) listed a w := by
 subst hl ha; exact wpAnyJ_take0 hi hs hf hr hQ hy h
theorem Jl (i : Nat) {oi : Oper} {v : Value} {fuel : Nat} {listed listed' : Array Bool} {a a' : Act} {w : World} (h : wpAnyJ P md ops Q S tl fuel listed' a' w) (hi : ops[i]? = some oi := by rfl)
    (hs : Region.noSelect ops = true := by kernel_rfl) (hf : Region.free md ops listed i = true := by kernel_rfl) (hr : (Region.ready md ops listed).contains i = true := by kernel_rfl) (ht : tailWaits md ops tl i = true := by kernel_rfl)
    (hy : YieldsIf P ops S oi v a := by refine Or.inl ⟨by rfl, ?_⟩; ((intro w hSw; (try dsimp only at hSw); go_simp); try with_reducible rfl)) (hS : S w := by assumption)
    (hQ : ∀ c a w, Q (.panic c) (a.put oi.dst v) w → Q (.panic c) a w := by exact fun _ _ _ h => h)
    (hl : listed.setIfInBounds i true = listed' := by (try simp only [List.setIfInBounds_toArray, List.set_cons_zero, List.set_cons_succ]); rfl)
    (ha : a.put oi.dst v = a' := by (try simp only [Act.put, List.getElem_toArray, List.getElem_cons_zero, List.getElem_cons_succ, List.setIfInBounds_toArray, List.set_cons_zero, List.set_cons_succ]); rfl) : wpAnyJ P md ops Q S tl (fuel + 1) listed a w := by
 subst hl ha; exact wpAnyJ_take hi hs hf hr ht hQ hy hS h
theorem Js (i : Nat) {oi : Oper} {fuel : Nat} {listed listed' : Array Bool} {a a' : Act} {w : World} (h : wpAnyJ P md ops Q S tl fuel listed' a' w) (hi : ops[i]? = some oi := by rfl)
    (hs : Region.noSelect ops = true := by kernel_rfl) (hf : Region.free md ops listed i = true := by kernel_rfl) (hr : (Region.ready md ops listed).contains i = true := by kernel_rfl)
    (hy : YieldsIf P ops (fun _ => True) oi undef a := by exact Or.inr ⟨by rfl, rfl⟩)
    (hQ : ∀ c a w, Q (.panic c) (a.put oi.dst undef) w → Q (.panic c) a w := by exact fun _ _ _ h => h)
    (hl : listed.setIfInBounds i true = listed' := by (try simp only [List.setIfInBounds_toArray, List.set_cons_zero, List.set_cons_succ]); rfl)
    (ha : a.put oi.dst undef = a' := by (try simp only [Act.put, List.getElem_toArray, List.getElem_cons_zero, List.getElem_cons_succ, List.setIfInBounds_toArray, List.set_cons_zero, List.set_cons_succ]); rfl) : wpAnyJ P md ops Q S tl (fuel + 1) listed a w := by
 subst hl ha; exact wpAnyJ_take0 hi hs hf hr hQ hy h
theorem Jr (i : Nat) {o : Oper} {fuel : Nat} {listed : Array Bool} {a : Act} {w : World}
    (h : ∀ K' : Act → World → Prop, Shut (∀ a' w', (tl i = false → S w → S w') → wpAnyJ P md ops Q S tl fuel (listed.setIfInBounds i true) a' w' → K' a' w') → if Region.wanted o (yielded ops a.tmps) = true then o.wp P a w K' Q else K' (a.put o.dst undef) w)
    (hr : Region.ready md ops listed = [i] := by kernel_rfl) (ho : ops[i]? = some o := by rfl) : wpAnyJ P md ops Q S tl (fuel + 1) listed a w :=
  wpAnyJ_ready hr (by simp) (AllReadyJ.cons ho h AllReadyJ.nil)
theorem Jn {fuel : Nat} {listed listed' : Array Bool} {a a' : Act} {w : World} (h : wpAnyJ P md ops Q S tl fuel listed' a' w)
    (hl : listed = listed' := by (try simp only [List.setIfInBounds_toArray, List.set_cons_zero, List.set_cons_succ]); rfl)
    (ha : a = a' := by (try simp only [Act.put, List.getElem_toArray, List.getElem_cons_zero, List.getElem_cons_succ, List.setIfInBounds_toArray, List.set_cons_zero, List.set_cons_succ]); rfl) : wpAnyJ P md ops Q S tl fuel listed a w := by
 subst hl ha; exact h
end
end Go.Proofs.YtndhpdclpgemfaaGreat
namespace Go.Proofs.YtndhpdclpgemfaaGreat
open Go.RowKit
set_option linter.unusedSimpArgs false
set_option linter.unusedVariables false
set_option maxRecDepth 100000
theorem Ext.start (B : Nat) (w : World) : ∃ u : Ext B w, w = u.w := ⟨⟨w, Below.refl _ _⟩, rfl⟩
theorem box_ext (w : World) (cs : List Value) (ty : TypeId) : ∃ (W0 : World) (u0 : Ext (w.heap.size + 1) W0), w.alloc (.cells cs.toArray ty) = W0 ∧ W0 = u0.w ∧ w.heap.size + 1 ≤ W0.heap.size ∧
    (∀ u : Ext (w.heap.size + 1) W0, Below w.heap.size w u.w) ∧ (∀ (u : Ext (w.heap.size + 1) W0) (i : Nat) v, cs[i]? = some v → u.w.cell? ⟨w.heap.size, i, none⟩ = some v) := by
 obtain ⟨W0, hW0⟩ := nam (w.alloc (.cells cs.toArray ty))
 obtain ⟨u0, hu0⟩ := Ext.start (w.heap.size + 1) W0
 have hbx : Block W0 w.heap.size cs ty := by rw [← hW0]; exact Block.new w _ _
 have hb0 : Below w.heap.size w W0 := by rw [← hW0]; exact (Below.refl _ _).alloc (Nat.le_refl _) _
 refine ⟨W0, u0, hW0, hu0, by rw [← hW0]; simp, fun u => hb0.trans (u.below.mono (by omega)), fun u i v hv => u.cell (by show w.heap.size < _; omega) (hbx.cell hv)⟩
theorem ext_call0 {P : Program} {C : Nat} {w : World} {f : FuncId} {args : Array Value} {v : Value} (u : Ext C w) (h : Calls P f args u.w fun e w' => e = .returned v ∧ u.w = w') :
    Calls P f args u.w fun e w'' => e = .returned v ∧ ∃ u' : Ext C w, w'' = u'.w := h.mono fun _ w'' ⟨he, hb⟩ => ⟨he, u, hb.symm⟩
theorem Sq82 {P : Prop} (h : P := by
 obtain ⟨b, off, cs, h1, h2, h3, h4, h5⟩ := h j t ht
 exact ⟨b, off, cs, h1, h2, fun u q v hv => ((hbe u).cell (p := ⟨b, off + j * 10 + q, none⟩) (by show b < _; omega)).trans (by rw [Nat.add_assoc]; exact h4 q v hv), fun u => IsX.below (hbe u) hB _ _ h5⟩) : P := h
theorem RowR.at_ext {B C : Nat} {w W0 : World} {xa : Option Addr} {az : List Ex} (h : RowR (IsX B w) 10 B w xa az) (hB : B ≤ w.heap.size) (hbe : ∀ u : Ext C W0, Below w.heap.size w u.w) {j : Nat} {t : Ex} (ht : az[j]? = some t) :
    ∃ b off cs, xa = some ⟨b, off, none⟩ ∧ b < B ∧ (∀ (u : Ext C W0) (q : Nat) v, cs[q]? = some v → u.w.cell? ⟨b, off + j * 10 + q, none⟩ = some v) ∧ ∀ u : Ext C W0, IsX B u.w cs t := Sq82
theorem StrRow.at_ext {B C : Nat} {w W0 : World} {a : Option Addr} {ks : List ByteArray} (h : StrRow B w a ks) (hB : B ≤ w.heap.size) (hbe : ∀ u : Ext C W0, Below w.heap.size w u.w) {j : Nat} {x : ByteArray} (hx : ks[j]? = some x) :
    ∃ b off, a = some ⟨b, off, none⟩ ∧ b < B ∧ ∀ u : Ext C W0, u.w.cell? ⟨b, off + j, none⟩ = some (.string x) := by
 obtain ⟨b, off, h1, h2, h3⟩ := h.get hx
 exact ⟨b, off, h1, h2, fun u => ((hbe u).cell (p := ⟨b, off + j, none⟩) (by show b < _; omega)).trans h3⟩
theorem anyL_false {α : Type} {f : α → Bool} {l : List α} {j : Nat} {x : α} (hx : l[j]? = some x) (h : f x = false) : l.all f = false := by
 rw [List.all_eq_false]
 exact ⟨x, List.mem_of_getElem? hx, by rw [h]; simp⟩
theorem allL_true {α : Type} {f : α → Bool} {l : List α} (h : ∀ (j : Nat) (x : α), l[j]? = some x → f x = true) : l.all f = true := by
 rw [List.all_eq_true]
 intro x hx
 obtain ⟨j, hj⟩ := List.getElem?_of_mem hx
 exact h j x hj
theorem wtS_get {l : List ByteArray} {j : Nat} {k : ByteArray} (h : l[j]? = some k) : k.size + 1 ≤ wtS l := by
 unfold wtS
 exact sum_get (fun k : ByteArray => k.size + 1) h
theorem wtS_len (l : List ByteArray) : l.length ≤ wtS l := by
 unfold wtS
 induction l with
 | nil => simp
 | cons a l ih => simp only [List.length_cons, List.map_cons, List.sum_cons]; omega
theorem Sq109 {P : Prop} (h : P := by
 have hlt' : (j : Int) < n := by omega
 have hj0 : (0 : Int) ≤ (j : Int) := by omega
 have hwi : IntKind.i64.wrap ((j : Int) + 1) = (j : Int) + 1 := IntWalk.i64_in _ (by omega)
 obtain ⟨x, hx⟩ := get_some (l := ns) (j := j) (by have := HN.out; omega)
 first
 |(
  guard_hyp z109a
  obtain ⟨eb, eo, rfl, heb, hc⟩ := HNT.out j x hx
  have HK := Lib.hid (HKEY.out x (HNW.out j x hx)))
 |(
  obtain ⟨eb, eo, rfl, heb, hc⟩ := HAT.out j x hx
  have HK := Lib.hid (HKEY.out x (HWT.out j x hx)))
 have HX := Lib.hid hx
 clear hx
 obtain ⟨c, hc2⟩ := nam (keyB x)
 rw [hc2] at HK
 have HC2 := Lib.hid hc2
 clear hc2
 cases c with
 | true =>
  first
  | (guard_hyp z109b; go_wp2_with (go_at_call 103; refine (HK.out _).mono ?_; rintro e w2 ⟨rfl, u2, rfl⟩))
  | (go_wp2_with (go_at_call 84; refine (HK.out _).mono ?_; rintro e w2 ⟨rfl, u2, rfl⟩))
  go_roundw
  case rel => exact ⟨j + 1, u2, by go_num, by omega, Lib.hid (fun i y hi hy => (Nat.lt_or_ge i j).elim (fun h => HALL.out i y h hy) (fun h => by rw [show i = j from by omega, HX.out] at hy; rw [← Option.some.inj hy]; exact HC2.out)), rfl⟩
  case measure => simp [intOf]; omega
 | false =>
  first
  |(
   guard_hyp z109a
   have hqq : q = false := by rw [← HQ2.out, anyL_false HX.out HC2.out]; rfl
   go_wp2_with (go_at_call 84; refine (HK.out _).mono ?_; rintro e w2 ⟨rfl, u2, rfl⟩))
  |(
   have hqq : q = false := by rw [← HQ.out, anyL_false HX.out HC2.out]; rfl
   go_wp2_with (go_at_call 103; refine (HK.out _).mono ?_; rintro e w2 ⟨rfl, u2, rfl⟩))
  go_ret
  first
  | (guard_hyp z109a; exact ⟨by (try rw [hqq]); rfl, HBE.out u2⟩)
  | (exact ⟨by rw [hqq]; rfl, HBE.out u2⟩)) : P := h
set_option maxHeartbeats 8000000 in
theorem rnamed_6 (nm : ByteArray) (v : Vt) (ns : List ByteArray) (az : List Ex) (cs : List Value) (B : Nat) (w : World) (hX : IsX B w cs (.mk 6 nm v ns az)) (hB : B ≤ w.heap.size) (hs : nm.size ≤ 1099511627776) (hns : ns.length ≤ 1099511627776) (haz : az.length ≤ 1099511627776) (hks : wtS ns ≤ 1099511627776) :
    Calls Tryz.prog 53 #[.agg cs.toArray] w fun e w' => e = .returned (.bool (namedB (.mk 6 nm v ns az))) ∧ Below w.heap.size w w' := by
 obtain ⟨k, b, i, s, l, ks, la, lc, ka, kc, na, nc, xa, xc, hv, rfl, -, -, -, -, hNS, -⟩ := hX.cells
 clear hX
 obtain ⟨q, hq⟩ := nam (namedB (.mk 6 nm v ns az))
 rw [hq]
 rw [namedB] at hq
 rw [if_neg (ng 6 1), if_neg (ng 6 2), if_neg (ng 6 3), if_neg (ng 6 4), if_neg (ng 6 15), if_neg (ng 6 5), if_pos rfl] at hq
 have HQ := Lib.hid hq
 obtain ⟨m, hm⟩ := nam az.length
 rw [hm] at hq HQ
 rw [hm]
 obtain ⟨n, hn⟩ := nam ns.length
 rw [hn] at hq HQ hns
 rw [hn]
 have HN := Lib.hid hn
 obtain ⟨W0, u0, hW0, hu0, hsz, hbe, hce⟩ := box_ext w [.int .i64 6, .string nm, .int .i64 k, .bool b, .int .i64 i, .string s, .slice la l.length lc, .slice ka ks.length kc, .slice na n nc, .slice xa m xc] 36
 obtain ⟨e0, e1, e2, e3, e4, e5, e6, e7, e8, e9⟩ := ce10 hce
 have HKEY := Lib.hid (fun (x : ByteArray) (hx : x.size ≤ 1099511627776) (u : Ext (w.heap.size + 1) W0) => ext_call0 u (rkey11_any x u.w hx))
 have HWT : Hid (∀ (j : Nat) (x : ByteArray), ns[j]? = some x → x.size ≤ 1099511627776) := Lib.hid (fun j x h => by have := wtS_get h; omega)
 have HAT : Hid (∀ (j : Nat) x, ns[j]? = some x → ∃ b off, na = some ⟨b, off, none⟩ ∧ b < B ∧ ∀ u : Ext (w.heap.size + 1) W0, u.w.cell? ⟨b, off + j, none⟩ = some (.string x)) := Lib.hid (fun j x hx => hNS.at_ext hB hbe hx)
 obtain ⟨HBE, HW0, HU0⟩ := hd3 hbe hW0 hu0
 clear hbe hW0 hu0 hsz hce hNS hm hn hv hq
 go_enter Tryz.func53, Tryz.ntmps53
 go_wp2_with fail
 rw [HW0.out, HU0.out]
 go_wp2_with fail
 go_loopw [6] (fun iv wr => ∃ (j : Nat) (u : Ext (w.heap.size + 1) W0), iv = .int .i64 j ∧ j ≤ n ∧ Hid (∀ (i : Nat) x, i < j → ns[i]? = some x → keyB x = true) ∧ wr = u.w) (fun iv _ => n - (intOf iv).toNat)
 case atStart => exact ⟨0, u0, rfl, Nat.zero_le _, Lib.hid (fun i x hi => by omega), rfl⟩
 case round =>
  obtain ⟨j, u, rfl, hj, HALL, rfl⟩ := hrel
  by_cases hlt : j < n
  ·have z109b := trivial
   exact Sq109
  ·have hlt' : ¬ (j : Int) < n := by omega
   have hall : ns.all keyB = true := allL_true (fun i x hx => HALL.out i x (by have := (List.getElem?_eq_some_iff.1 hx).1; have := HN.out; omega) hx)
   have hq := HQ.out
   rw [hall] at hq
   obtain ⟨b0, h0⟩ := nam ((nm.toList == []))
   obtain ⟨b1, h1⟩ : ∃ r, ((m : Int) == n) = r := ⟨_, rfl⟩
   rw [h0, h1] at hq
   subst hq
   clear hall
   have h0' : nm.toList.isEmpty = b0 := by rw [← h0]; cases nm.toList <;> rfl
   cases b0 <;> cases b1 <;>
   ·go_wp2_with fail
    go_ret
    exact ⟨by rfl, HBE.out u⟩
theorem rnamed_any (t : Ex) (cs : List Value) (B : Nat) (w : World) (hX : IsX B w cs t) (hB : B ≤ w.heap.size) (hw : wtX t ≤ 1099511627776) :
    Calls Tryz.prog 53 #[.agg cs.toArray] w fun e w' => e = .returned (.bool (namedB t)) ∧ Below w.heap.size w w' := by
 obtain ⟨op, nm, v, ns, az⟩ := t
 have h1 : nm.size ≤ 1099511627776 := by simp only [wtX] at hw; omega
 have h2 : wtS ns ≤ 1099511627776 := by simp only [wtX] at hw; omega
 have h3 : ns.length ≤ 1099511627776 := by have := wtS_len ns; omega
 have h4 : az.length ≤ 1099511627776 := by have := wtXs_len az; simp only [wtX] at hw; omega
 by_cases g1 : op = 1
 ·subst g1; exact rnamed_1 nm v ns az cs B w hX hB h1 h3 h4
 by_cases g2 : op = 2
 ·subst g2; exact rnamed_2 nm v ns az cs B w hX hB h1 h3 h4
 by_cases g3 : op = 3
 ·subst g3; exact rnamed_3 nm v ns az cs B w hX hB h1 h3 h4
 by_cases g4 : op = 4
 ·subst g4; exact rnamed_4 nm v ns az cs B w hX hB h1 h3 h4
 by_cases g15 : op = 15
 ·subst g15; exact rnamed_15 nm v ns az cs B w hX hB h1 h3 h4
 by_cases g5 : op = 5
 ·subst g5; exact rnamed_5 nm v ns az cs B w hX hB h1 h3 h4
 by_cases g6 : op = 6
 ·subst g6; exact rnamed_6 nm v ns az cs B w hX hB h1 h3 h4 h2
 by_cases g7 : op = 7
 ·subst g7; exact rnamed_7 nm v ns az cs B w hX hB h1 h3 h4
 by_cases g8 : op = 8
 ·subst g8; exact rnamed_8 nm v ns az cs B w hX hB h1 h3 h4
 by_cases g9 : op = 9
 ·subst g9; exact rnamed_9 nm v ns az cs B w hX hB h1 h3 h4
 by_cases g11 : op = 11
 ·subst g11; exact rnamed_11 nm v ns az cs B w hX hB h1 h3 h4
 by_cases g12 : op = 12
 ·subst g12; exact rnamed_12 nm v ns az cs B w hX hB h1 h3 h4
 by_cases g10 : op = 10
 ·subst g10; exact rnamed_10 nm v ns az cs B w hX hB h1 h3 h4
 by_cases g13 : op = 13
 ·subst g13; exact rnamed_13 nm v ns az cs B w hX hB h1 h3 h4
 by_cases g14 : op = 14
 ·subst g14; exact rnamed_14 nm v ns az cs B w hX hB h1 h3 h4
 exact rnamed_no op (by simpa using g1) (by simpa using g2) (by simpa using g3) (by simpa using g4) (by simpa using g15) (by simpa using g5) (by simpa using g6) (by simpa using g7) (by simpa using g8) (by simpa using g9) (by simpa using g11) (by simpa using g12) (by simpa using g10) (by simpa using g13) (by simpa using g14) nm v ns az cs B w hX hB h1 h3 h4
def ownB : Ex → Bool
  | .mk op nm v ns az => namedB (.mk op nm v ns az) && (((op == 1) || sameV v emptyV) && ((op == 6) || decide (ns.length = 0)))
def deepB : Nat → Ex → Bool
  | 0, _ => false
  | d + 1, .mk op nm v ns az => ownB (.mk op nm v ns az) && az.all (deepB d)
theorem wtX_args {op : Int} {nm : ByteArray} {v : Vt} {ns : List ByteArray} {az : List Ex} {j : Nat} {t : Ex} (h : az[j]? = some t) : wtX t ≤ wtX (.mk op nm v ns az) := by
 have := wtXs_get h
 simp only [wtX]
 omega
def RDeepSaid (d : Nat) : Prop := ∀ (t : Ex) (cs : List Value) (B : Nat) (w : World) (D : Int), D = d → IsX B w cs t → B ≤ w.heap.size → wtX t ≤ 1099511627776 → d ≤ 1000 →
  Calls Tryz.prog 20 #[.agg cs.toArray, .int .i64 D] w fun e w' => e = .returned (.bool (deepB d t)) ∧ Below w.heap.size w w'
set_option maxHeartbeats 16000000 in
theorem rdeep_zero : RDeepSaid 0 := by
 intro t cs B w D hD hX hB hw hd
 obtain ⟨op, nm, v, ns, az⟩ := t
 obtain ⟨k, b, i, s, l, ks, la, lc, ka, kc, na, nc, xa, xc, hv, rfl, -⟩ := hX.cells
 subst hD
 clear hX hv
 rw [deepB]
 generalize ns.length = n
 generalize az.length = m
 obtain ⟨W0, u0, hW0, hu0, hsz, hbe, hce⟩ := box_ext w [.int .i64 op, .string nm, .int .i64 k, .bool b, .int .i64 i, .string s, .slice la l.length lc, .slice ka ks.length kc, .slice na n nc, .slice xa m xc] 36
 obtain ⟨e0, e1, e2, e3, e4, e5, e6, e7, e8, e9⟩ := ce10 hce
 obtain ⟨x0, x1, x2, x3, x4, x5, x6, x7, x8, x9⟩ := cx10 hce u0
 rw [← hu0, ← hW0] at x0 x1 x2 x3 x4 x5 x6 x7 x8 x9
 have HBE := Lib.hid (hbe u0)
 rw [← hu0, ← hW0] at HBE
 clear hbe hW0 hu0 hsz hce e0 e1 e2 e3 e4 e5 e6 e7 e8 e9
 have hz : (((0 : Nat) : Int) < 1) := by omega
 go_enter Tryz.func20, Tryz.ntmps20
 go_wp2_with fail
 go_ret
 exact ⟨by rfl, HBE.out⟩
theorem Sq76 {P : Prop} (h : P := by
 exact Sq99) : P := h
theorem Sq99 {P : Prop} (h : P := by
 first
 |(
  guard_hyp z99a
  have hn2 : 0 < n := by have h := HCN.out; simp at h; omega
  have hn1 : (0 : Int) < n := by omega)
 | skip
 have hqq : q = false := by rw [← HQ.out]; rfl
 subst hqq
 clear HQ
 go_enter Tryz.func20, Tryz.ntmps20
 go_wp2_with (first | (go_at_call 53; (try rw [HW0.out, HU0.out]); refine (HNM.out _).mono ?_; rintro e w2 ⟨rfl, u2, rfl⟩) | (go_at_call 54; refine (HSM.out _).mono ?_; rintro e w2 ⟨rfl, u3, rfl⟩))
 go_ret
 exact ⟨by rfl, HBE.out _⟩) : P := h
theorem Sq13 {P : Prop} (h : P := by
 cases c6 with
 | false =>
  cases cn with
  | false =>
   have z99a := trivial
   exact Sq99
  | true =>
   have z87a := trivial
   exact Sq87
 | true =>
  exact Sq87) : P := h
theorem Sq87 {P : Prop} (h : P := by
 first
 |(
  guard_hyp z87a
  have hn2 : ¬ 0 < n := by have h := HCN.out; simp at h; omega
  have hn1 : ¬ (0 : Int) < n := by omega)
 | skip
 have HQ2 : Hid (az.all (deepB d) = q) := Lib.hid (by have h := HQ.out; simpa using h)
 clear HQ
 go_enter Tryz.func20, Tryz.ntmps20
 go_wp2_with (first | (go_at_call 53; (try rw [HW0.out, HU0.out]); refine (HNM.out _).mono ?_; rintro e w2 ⟨rfl, u2, rfl⟩) | (go_at_call 54; refine (HSM.out _).mono ?_; rintro e w2 ⟨rfl, u3, rfl⟩))
 go_loopw [5] (fun iv wr => ∃ (j : Nat) (u : Ext (w.heap.size + 1) W0), iv = .int .i64 j ∧ j ≤ m ∧ Hid (∀ (i : Nat) x, i < j → az[i]? = some x → deepB d x = true) ∧ wr = u.w) (fun iv _ => m - (intOf iv).toNat)
 case atStart => exact ⟨0, _, rfl, Nat.zero_le _, Lib.hid (fun i x hi => by omega), rfl⟩
 case round =>
  obtain ⟨j, u, rfl, hj, HALL, rfl⟩ := hrel
  by_cases hlt : j < m
  ·have hlt' : (j : Int) < m := by omega
   have hj0 : (0 : Int) ≤ (j : Int) := by omega
   have hwi : IntKind.i64.wrap ((j : Int) + 1) = (j : Int) + 1 := IntWalk.i64_in _ (by omega)
   obtain ⟨t2, ht2⟩ := get_some (l := az) (j := j) (by have := HM.out; omega)
   obtain ⟨eb, eo, cs2, rfl, heb, hcs, hx2⟩ := HAT.out j t2 ht2
   have HIH2 := Lib.hid (fun u => HIH.out t2 cs2 u (hx2 u) (HWT.out j t2 ht2))
   have HT2 := Lib.hid ht2
   obtain ⟨r, hr⟩ := nam (deepB d t2)
   rw [hr] at HIH2
   have HR := Lib.hid hr
   obtain ⟨op2, nm2, v2, ns2, az2⟩ := t2
   obtain ⟨k2, b2, i2, s2, l2, ks2, la2, lc2, ka2, kc2, na2, nc2, xa2, xc2, -, rfl, -⟩ := (hx2 u).cells
   have g0 : ∀ u : Ext (w.heap.size + 1) W0, u.w.cell? ⟨eb, eo + j * 10, none⟩ = some (.int .i64 op2) := fun u => hcs u 0 _ rfl
   obtain ⟨g1, g2, g3, g4, g5, g6, g7, g8, g9⟩ := cf9 hcs
   clear hcs hx2 hr ht2
   generalize l2.length = y1 at *
   generalize ks2.length = y2 at *
   generalize ns2.length = y3 at *
   generalize az2.length = y4 at *
   cases r with
   | true =>
    exact Sq110
   | false =>
    have hqq : q = false := by rw [← HQ2.out, anyL_false HT2.out HR.out]
    go_wp2_with (go_at_call 20; refine (HIH2.out _).mono ?_; rintro e w2 ⟨rfl, u2, rfl⟩)
    go_ret
    exact ⟨by (try rw [hqq]); rfl, HBE.out u2⟩
  ·have hlt' : ¬ (j : Int) < m := by omega
   have hqq : q = true := by rw [← HQ2.out]; exact allL_true (fun i x hx => HALL.out i x (by have := (List.getElem?_eq_some_iff.1 hx).1; have := HM.out; omega) hx)
   go_wp2_with fail
   go_ret
   exact ⟨by (try rw [hqq]); rfl, HBE.out u⟩) : P := h
theorem Sq110 {P : Prop} (h : P := by
 first
 | (guard_hyp z110a; go_wp2_with (go_at_call 34; rw [HU4.out]; refine (HIH2.out _).mono ?_; rintro e w2 ⟨rfl, u2, rfl⟩))
 | (go_wp2_with (go_at_call 20; refine (HIH2.out _).mono ?_; rintro e w2 ⟨rfl, u2, rfl⟩))
 go_roundw
 case rel => exact ⟨j + 1, u2, by go_num, by omega, Lib.hid (fun i y hi hy => (Nat.lt_or_ge i j).elim (fun h => HALL.out i y h hy) (fun h => by rw [show i = j from by omega, HT2.out] at hy; rw [← Option.some.inj hy]; exact HR.out)), rfl⟩
 case measure => simp [intOf]; omega) : P := h
set_option maxHeartbeats 16000000 in
theorem rdeep_succ (d : Nat) (ih : RDeepSaid d) : RDeepSaid (d + 1) := by
 intro t cs B w D hD hX hB hw hd
 have hX0 := hX
 obtain ⟨op, nm, v, ns, az⟩ := t
 obtain ⟨k, b, i, s, l, ks, la, lc, ka, kc, na, nc, xa, xc, hv, rfl, hop, hV, hNA, hXA, hNS, hAZ⟩ := hX.cells
 clear hX
 have hn0 : ns.length ≤ 1099511627776 := by have := wtS_len ns; simp only [wtX] at hw; omega
 have hm0 : az.length ≤ 1099511627776 := by have := wtXs_len az; simp only [wtX] at hw; omega
 have HWT : Hid (∀ (j : Nat) (t : Ex), az[j]? = some t → wtX t ≤ 1099511627776) := Lib.hid (fun j t h => by have := wtX_args (op := op) (nm := nm) (v := v) (ns := ns) h; omega)
 obtain ⟨q, hq⟩ := nam (deepB (d + 1) (.mk op nm v ns az))
 rw [hq]
 rw [deepB, ownB] at hq
 obtain ⟨b0, h0⟩ := nam (namedB (.mk op nm v ns az))
 obtain ⟨c1, h1⟩ := nam ((op == 1))
 obtain ⟨b2, h2⟩ := nam (sameV v emptyV)
 obtain ⟨c6, h6⟩ := nam ((op == 6))
 rw [h0, h1, h2, h6] at hq
 obtain ⟨m, hm⟩ := nam az.length
 obtain ⟨n, hn⟩ := nam ns.length
 rw [hm] at hX0 hm0 ⊢
 rw [hn] at hX0 hn0 hq ⊢
 have HQ := Lib.hid hq
 have HM := Lib.hid hm
 obtain ⟨W0, u0, hW0, hu0, hsz, hbe, hce⟩ := box_ext w [.int .i64 op, .string nm, .int .i64 k, .bool b, .int .i64 i, .string s, .slice la l.length lc, .slice ka ks.length kc, .slice na n nc, .slice xa m xc] 36
 obtain ⟨e0, e1, e2, e3, e4, e5, e6, e7, e8, e9⟩ := ce10 hce
 obtain ⟨x0, x1, x2, x3, x4, x5, x6, x7, x8, x9⟩ := cx10 hce u0
 rw [← hu0, ← hW0] at x0 x1 x2 x3 x4 x5 x6 x7 x8 x9
 have HNM := Lib.hid (fun u : Ext (w.heap.size + 1) W0 => ext_call u hsz (rnamed_any _ _ B u.w (IsX.below (hbe u) hB _ _ hX0) (Nat.le_trans hB (hbe u).size) hw))
 have HSM := Lib.hid (fun u : Ext (w.heap.size + 1) W0 => ext_call u hsz (same_any v emptyV _ zeroC B u.w (IsV.below (hbe u) hB _ _ hV) (empty_isV _ _) (Nat.le_trans hB (hbe u).size)))
 rw [h0] at HNM
 rw [h2] at HSM
 have HIH := Lib.hid (fun (t : Ex) (cs : List Value) (u : Ext (w.heap.size + 1) W0) (h : IsX B u.w cs t) (hw : wtX t ≤ 1099511627776) => ext_call u hsz (ih t cs B u.w d rfl h (Nat.le_trans hB (hbe u).size) hw (by omega)))
 have HAT : Hid (∀ (j : Nat) t, az[j]? = some t → ∃ b off cs, xa = some ⟨b, off, none⟩ ∧ b < B ∧ (∀ (u : Ext (w.heap.size + 1) W0) (q : Nat) v, cs[q]? = some v → u.w.cell? ⟨b, off + j * 10 + q, none⟩ = some v) ∧ ∀ u : Ext (w.heap.size + 1) W0, IsX B u.w cs t) := Lib.hid (fun j t ht => hAZ.at_ext hB hbe ht)
 obtain ⟨HBE, HW0, HU0⟩ := hd3 hbe hW0 hu0
 have hd1 : ¬ D < 1 := by omega
 have hd2 : IntKind.i64.wrap (D - 1) = (d : Int) := by rw [IntWalk.i64_in _ (by omega)]; omega
 have h1' : (op != 1) = !c1 := by rw [← h1]; rfl
 have h6' : (op != 6) = !c6 := by rw [← h6]; rfl
 clear hbe hW0 hu0 hsz hce hNS hm hn hv hq hV hNA hXA hAZ hX0 ih h0 h2 hD hw hop
 obtain ⟨cn, hcn⟩ := nam (decide (n = 0))
 rw [hcn] at HQ
 have HCN := Lib.hid hcn
 clear hcn
 cases b0 with
 | false =>
  exact Sq76
 | true =>
  cases c1 with
  | false =>
   cases b2 with
   | false =>
    exact Sq76
   | true =>
    exact Sq13
  | true =>
   exact Sq13
theorem rdeep_any (d : Nat) : RDeepSaid d := by
 induction d with
 | zero => exact rdeep_zero
 | succ d ih => exact rdeep_succ d ih
theorem rmayExpr_any (t : Ex) (cs : List Value) (B : Nat) (w : World) (hX : IsX B w cs t) (hB : B ≤ w.heap.size) (hw : wtX t ≤ 1099511627776) :
    Calls Tryz.prog 35 #[.agg cs.toArray] w fun e w' => e = .returned (.bool (deepB 32 t)) ∧ Below w.heap.size w w' := by
 have hX0 := hX
 obtain ⟨op, nm, v, ns, az⟩ := t
 obtain ⟨k, b, i, s, l, ks, la, lc, ka, kc, na, nc, xa, xc, hv, rfl, hop, hV, hNA, hXA, hNS, hAZ⟩ := hX.cells
 clear hX
 obtain ⟨W0, u0, hW0, hu0, hsz, hbe, hce⟩ := box_ext w [.int .i64 op, .string nm, .int .i64 k, .bool b, .int .i64 i, .string s, .slice la l.length lc, .slice ka ks.length kc, .slice na ns.length nc, .slice xa az.length xc] 36
 obtain ⟨e0, e1, e2, e3, e4, e5, e6, e7, e8, e9⟩ := ce10 hce
 obtain ⟨x0, x1, x2, x3, x4, x5, x6, x7, x8, x9⟩ := cx10 hce u0
 rw [← hu0, ← hW0] at x0 x1 x2 x3 x4 x5 x6 x7 x8 x9
 have HD := Lib.hid (fun u => ext_call u hsz (rdeep_any 32 (.mk op nm v ns az) _ B u.w 32 rfl (IsX.below (hbe u) hB _ _ hX0) (Nat.le_trans hB (hbe u).size) hw (by omega)))
 obtain ⟨HBE, HW0, HU0⟩ := hd3 hbe hW0 hu0
 generalize deepB 32 (.mk op nm v ns az) = q at *
 clear hbe hW0 hu0 hsz hce hNS hv hV hNA hXA hAZ hX0 hw hop
 generalize ns.length = n at *
 generalize az.length = m at *
 go_enter Tryz.func35, Tryz.ntmps35
 go_wp2_with (go_at_call 20; rw [HW0.out, HU0.out]; refine (HD.out _).mono ?_; rintro e w2 ⟨rfl, u2, rfl⟩)
 go_ret
 exact ⟨by rfl, HBE.out u2⟩
end Go.Proofs.YtndhpdclpgemfaaGreat

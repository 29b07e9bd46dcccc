/- Parts J, Map, Shaped, Reach of this seat (pruned, scripts that are alike kept once as default arguments: q1, q2, ..). Conditions: each says its own. -/
import Derived.Deep.RegionHeld3
import Derived.HandedShaped
import Derived.Shelf.Vars
import Derived.Test.YteljlahcdipilaaGreatG1
set_option linter.unusedSimpArgs false
set_option linter.unusedVariables false
set_option maxRecDepth 1000000
set_option maxHeartbeats 64000000
namespace Go.Proofs.YteljlahcdipilaaGreat
section
variable {P : Program} {ops : Array Oper} {Q : Exit -> Act -> World -> Prop} {md : Region.Mode} {S : World -> Prop} {tl : Nat -> Bool}
def cO (P : Program) (md : Region.Mode) (ops : Array Oper) (Q : Exit -> Act -> World -> Prop) (S : World -> Prop) (tl : Nat -> Bool) : Nat -> Array Bool -> Act -> World -> Prop
  | 0, listed, a, w => Region.ready md ops listed = [] /\ Q .normal a w
  | fuel + 1, listed, a, w =>
    (Region.ready md ops listed = [] -> Q .normal a w) /\
    ∀ i ∈ Region.ready md ops listed, wpOp P ops Q i (fun a' w' => (tl i = false -> S w -> S w') /\ cO P md ops Q S tl fuel (listed.setIfInBounds i true) a' w') a w
def ii (md : Region.Mode) (ops : Array Oper) (tl : Nat -> Bool) (i : Nat) : Bool :=
  (List.range ops.size).all fun j => !tl j || match ops[j]? with
    | some o => o.after.any fun e => Region.binds md e && e.on == i
    | none => true
theorem kK {i : Nat} (h : ii md ops tl i = true) (j : Nat) (oj : Oper) (hj : ops[j]? = some oj) (ht : tl j = true) : ∃ e ∈ oj.after, Region.binds md e = true /\ e.on = i := by
 unfold ii at h;rw [List.all_eq_true] at h;have h1 := h j (List.mem_range.2 (Array.getElem?_eq_some_iff.1 hj).1);simp only [ht, Bool.not_true, Bool.false_or, hj] at h1;obtain ⟨e, he, hb⟩ := Array.any_eq_true'.1 h1;simp only [Bool.and_eq_true, beq_iff_eq] at hb;exact ⟨e, he, hb.1, hb.2⟩
theorem Sq114974 {P : Prop} (h : P := by
 intro fuel
 induction fuel with
 | zero =>
  first
  | (guard_hyp z114974a; intro listed a w _ hr hy hS H)
  | (intro listed a w _ hr hy H)
  refine ⟨fun h => (by rw [h] at hr; cases hr), fun j hj => ?_⟩
  by_cases hji : j = i
  first
  |(
   guard_hyp z114974b
   ·subst hji; exact hy.wpOp hi trivial ⟨fun _ h => h, H⟩)
  |(
   ·subst hji; exact hy.wpOp hi hS ⟨fun _ h => h, H⟩)
  ·have := ready_mono hj hji;rw [H.1] at this;cases this
 | succ fuel ih =>
  first
  | (guard_hyp z114974a; intro listed a w hfree hr hy hS H)
  | (intro listed a w hfree hr hy H)
  refine ⟨fun h => (by rw [h] at hr; cases hr), fun j hj => ?_⟩
  by_cases hji : j = i
  first
  |(
   guard_hyp z114974b
   ·subst hji; exact hy.wpOp hi trivial ⟨fun _ h => h, H⟩)
  |(
   ·subst hji; exact hy.wpOp hi hS ⟨fun _ h => h, H⟩)
  ·have h1 := H.2 j (ready_mono hj hji);obtain ⟨hjun, oj, hoj, hall⟩ := mem_ready.1 hj;have hnot : ∀ e ∈ oj.after, Region.binds md e = true -> e.on ≠ i := fun e he hb heq => by
    have h1 := hall e he hb;have h0 := (mem_ready.1 hr).1;rw [heq] at h1;rcases Nat.lt_or_ge i listed.size with h' | h'
    ·simp [h'] at h0 h1; rw [h0] at h1; cases h1
    ·simp [Array.getElem?_eq_none h'] at h1
   first
   |(
    guard_hyp z114974a
    have htj : tl j = false := by
     cases ht : tl j with
     | false => rfl
     | true =>
      obtain ⟨e, he, hb, heq⟩ := htl j oj hoj ht;exact absurd heq (hnot e he hb))
   | skip
   have h2 := wpOp_putIf hoj (hfree j oj hoj hji hjun hnot) (fun cs b => hsel i oi cs b hi) (fun cs b => hsel j oj cs b hoj) hQ hy h1;have hfree' : ∀ k ok, ops[k]? = some ok -> k ≠ i -> (listed.setIfInBounds j true).getD k true = false ->
       (∀ e ∈ ok.after, Region.binds md e = true -> e.on ≠ i) -> oi.apart ops ok = true := fun k ok hk hki hun hno => by
     refine hfree k ok hk hki ?_ hno
     by_cases hjk : j = k
     · subst hjk; exact hjun
     · rw [getD_set_ne true hjk] at hun; exact hun
   first
   | (guard_hyp z114974a; refine wpOp_mono (fun a' w' h3 => ⟨fun _ _ => h3.2.1 htj hS, ih (listed.setIfInBounds j true) a' w' hfree' (ready_mono hr (Ne.symm hji)) h3.1 (h3.2.1 htj hS) ?_⟩) h2)
   | (refine wpOp_mono (fun a' w' h3 => ⟨h3.2.1, ih (listed.setIfInBounds j true) a' w' hfree' (ready_mono hr (Ne.symm hji)) h3.1 ?_⟩) h2)
   rw [Array.setIfInBounds_comm _ _ hji];exact h3.2.2) : P := h
theorem nw {i : Nat} {oi : Oper} {v : Value} (hi : ops[i]? = some oi) (hsel : ∀ (j : Nat) (o : Oper) cs b, ops[j]? = some o -> o.op ≠ .select cs b)
    (htl : ∀ j oj, ops[j]? = some oj -> tl j = true -> ∃ e ∈ oj.after, Region.binds md e = true /\ e.on = i)
    (hQ : ∀ c a w, Q (.panic c) (a.put oi.dst v) w -> Q (.panic c) a w) :
    ∀ (fuel : Nat) (listed : Array Bool) (a : Act) (w : World),
      (∀ j oj, ops[j]? = some oj -> j ≠ i -> listed.getD j true = false -> (∀ e ∈ oj.after, Region.binds md e = true -> e.on ≠ i) -> oi.apart ops oj = true) ->
      i ∈ Region.ready md ops listed -> YieldsIf P ops S oi v a -> S w ->
      cO P md ops Q S tl fuel (listed.setIfInBounds i true) (a.put oi.dst v) w -> cO P md ops Q S tl (fuel + 1) listed a w := by
 have z114974a := trivial;exact Sq114974
theorem oZ {i : Nat} {oi : Oper} {v : Value} {fuel : Nat} {listed : Array Bool} {a : Act} {w : World} (hi : ops[i]? = some oi)
    (hs : Region.noSelect ops = true) (hf : Region.free md ops listed i = true) (hr : (Region.ready md ops listed).contains i = true) (ht : ii md ops tl i = true)
    (hQ : ∀ c a w, Q (.panic c) (a.put oi.dst v) w -> Q (.panic c) a w) (hy : YieldsIf P ops S oi v a) (hS : S w)
    (h : cO P md ops Q S tl fuel (listed.setIfInBounds i true) (a.put oi.dst v) w) : cO P md ops Q S tl (fuel + 1) listed a w :=
  nw hi (Region.noSelect_spec hs) (kK ht) hQ fuel listed a w (Region.free_spec hi hf) (by simpa using hr) hy hS h
theorem pf {i : Nat} {oi : Oper} {v : Value} (hi : ops[i]? = some oi) (hsel : ∀ (j : Nat) (o : Oper) cs b, ops[j]? = some o -> o.op ≠ .select cs b)
    (hQ : ∀ c a w, Q (.panic c) (a.put oi.dst v) w -> Q (.panic c) a w) :
    ∀ (fuel : Nat) (listed : Array Bool) (a : Act) (w : World),
      (∀ j oj, ops[j]? = some oj -> j ≠ i -> listed.getD j true = false -> (∀ e ∈ oj.after, Region.binds md e = true -> e.on ≠ i) -> oi.apart ops oj = true) ->
      i ∈ Region.ready md ops listed -> YieldsIf P ops (fun _ => True) oi v a ->
      cO P md ops Q S tl fuel (listed.setIfInBounds i true) (a.put oi.dst v) w -> cO P md ops Q S tl (fuel + 1) listed a w := by
 have z114974b := trivial;exact Sq114974
theorem ny {i : Nat} {oi : Oper} {v : Value} {fuel : Nat} {listed : Array Bool} {a : Act} {w : World} (hi : ops[i]? = some oi)
    (hs : Region.noSelect ops = true) (hf : Region.free md ops listed i = true) (hr : (Region.ready md ops listed).contains i = true)
    (hQ : ∀ c a w, Q (.panic c) (a.put oi.dst v) w -> Q (.panic c) a w) (hy : YieldsIf P ops (fun _ => True) oi v a)
    (h : cO P md ops Q S tl fuel (listed.setIfInBounds i true) (a.put oi.dst v) w) : cO P md ops Q S tl (fuel + 1) listed a w :=
  pf hi (Region.noSelect_spec hs) hQ fuel listed a w (Region.free_spec hi hf) (by simpa using hr) hy h
theorem aR {id : Nat} {a : Act} {w : World} (tl : Nat -> Bool) (hm : P.follows .mixedOrders = true)
    (h : cO P .any ops Q S tl ops.size (Array.replicate ops.size false) a w.drew) : (Code.region id ops true).wp P Q a w := by
 have h1 : wpAnyH P .any ops Q (fun _ => True) ops.size (Array.replicate ops.size false) a w.drew := by
  have h2 : ∀ (fuel : Nat) (listed : Array Bool) (a : Act) (w : World), cO P .any ops Q S tl fuel listed a w -> wpAnyH P .any ops Q (fun _ => True) fuel listed a w := by
   intro fuel
   induction fuel with
   | zero => intro listed a w h; exact h
   | succ fuel ih => intro listed a w h; exact ⟨h.1, fun i hi => wpOp_mono (fun a' w' h' => ⟨trivial, ih _ a' w' h'.2⟩) (h.2 i hi)⟩
  exact h2 _ _ _ _ h
 exact wp_region_held hm h1
def bY (P : Program) (md : Region.Mode) (ops : Array Oper) (Q : Exit -> Act -> World -> Prop) (S : World -> Prop) (tl : Nat -> Bool) (fuel : Nat) (listed : Array Bool) (a : Act) (w : World) (rs : List Nat) : Prop :=
  ∀ i ∈ rs, wpOp P ops Q i (fun a' w' => (tl i = false -> S w -> S w') /\ cO P md ops Q S tl fuel (listed.setIfInBounds i true) a' w') a w
theorem bY.nil {fuel : Nat} {listed : Array Bool} {a : Act} {w : World} : bY P md ops Q S tl fuel listed a w [] := fun _ h => by cases h
theorem bY.cons {fuel : Nat} {listed : Array Bool} {a : Act} {w : World} {i : Nat} {o : Oper} {rs : List Nat} (ho : ops[i]? = some o)
    (h : ∀ K' : Act -> World -> Prop, Shut (∀ a' w', (tl i = false -> S w -> S w') -> cO P md ops Q S tl fuel (listed.setIfInBounds i true) a' w' -> K' a' w') -> if Region.wanted o (yielded ops a.tmps) = true then o.wp P a w K' Q else K' (a.put o.dst undef) w)
    (hs : bY P md ops Q S tl fuel listed a w rs) : bY P md ops Q S tl fuel listed a w (i :: rs) := fun j hj => by
  rcases List.mem_cons.1 hj with rfl | hj
  · exact wpOp_step ho (fun K' hK => h K' (fun a w hS hW => hK a w ⟨hS, hW⟩))
  · exact hs j hj
theorem fk {rs : List Nat} {fuel : Nat} {listed : Array Bool} {a : Act} {w : World} (hr : Region.ready md ops listed = rs) (hne : rs ≠ [])
    (h : bY P md ops Q S tl fuel listed a w rs) : cO P md ops Q S tl (fuel + 1) listed a w :=
  ⟨fun h0 => absurd (hr ▸ h0) hne, hr ▸ h⟩
theorem aK {listed : Array Bool} {a : Act} {w : World} (hr : Region.ready md ops listed = []) (h : Q .normal a w) :
    ∀ fuel, cO P md ops Q S tl fuel listed a w
  | 0 => ⟨hr, h⟩
  | fuel + 1 => ⟨fun _ => h, fun i hi => by rw [hr] at hi; cases hi⟩
theorem Jt (i : Nat) {oi : Oper} {v : Value} {fuel : Nat} {listed listed' : Array Bool} {a a' : Act} {w : World} (h : cO P md ops Q S tl fuel listed' a' w) (hi : ops[i]? = some oi := by rfl)
    (hs : Region.noSelect ops = true := by kernel_rfl) (hf : Region.free md ops listed i = true := by kernel_rfl) (hr : (Region.ready md ops listed).contains i = true := by kernel_rfl)
    (hy : YieldsIf P ops (fun _ => True) oi v a := by refine Or.inl ⟨by rfl, ?_⟩; ((intro w hSw; clear hSw; go_simp); try with_reducible rfl))
    (hQ : ∀ c a w, Q (.panic c) (a.put oi.dst v) w -> Q (.panic c) a w := by exact fun _ _ _ h => h)
    (hl : listed.setIfInBounds i true = listed' := by (try simp only [List.setIfInBounds_toArray, List.set_cons_zero, List.set_cons_succ]); rfl)
    (ha : a.put oi.dst v = a' := by (try simp only [Act.put, List.getElem_toArray, List.getElem_cons_zero, List.getElem_cons_succ, List.setIfInBounds_toArray, List.set_cons_zero, List.set_cons_succ]); rfl) : cO P md ops Q S tl (fuel + 1) listed a w := by
 subst hl ha; exact ny hi hs hf hr hQ hy h
theorem Jl (i : Nat) {oi : Oper} {v : Value} {fuel : Nat} {listed listed' : Array Bool} {a a' : Act} {w : World} (h : cO P md ops Q S tl fuel listed' a' w) (hi : ops[i]? = some oi := by rfl)
    (hs : Region.noSelect ops = true := by kernel_rfl) (hf : Region.free md ops listed i = true := by kernel_rfl) (hr : (Region.ready md ops listed).contains i = true := by kernel_rfl) (ht : ii md ops tl i = true := by kernel_rfl)
    (hy : YieldsIf P ops S oi v a := by refine Or.inl ⟨by rfl, ?_⟩; ((intro w hSw; (try dsimp only at hSw); go_simp); try with_reducible rfl)) (hS : S w := by assumption)
    (hQ : ∀ c a w, Q (.panic c) (a.put oi.dst v) w -> Q (.panic c) a w := by exact fun _ _ _ h => h)
    (hl : listed.setIfInBounds i true = listed' := by (try simp only [List.setIfInBounds_toArray, List.set_cons_zero, List.set_cons_succ]); rfl)
    (ha : a.put oi.dst v = a' := by (try simp only [Act.put, List.getElem_toArray, List.getElem_cons_zero, List.getElem_cons_succ, List.setIfInBounds_toArray, List.set_cons_zero, List.set_cons_succ]); rfl) : cO P md ops Q S tl (fuel + 1) listed a w := by
 subst hl ha; exact oZ hi hs hf hr ht hQ hy hS h
theorem Jr (i : Nat) {o : Oper} {fuel : Nat} {listed : Array Bool} {a : Act} {w : World}
    (h : ∀ K' : Act -> World -> Prop, Shut (∀ a' w', (tl i = false -> S w -> S w') -> cO P md ops Q S tl fuel (listed.setIfInBounds i true) a' w' -> K' a' w') -> if Region.wanted o (yielded ops a.tmps) = true then o.wp P a w K' Q else K' (a.put o.dst undef) w)
    (hr : Region.ready md ops listed = [i] := by kernel_rfl) (ho : ops[i]? = some o := by rfl) : cO P md ops Q S tl (fuel + 1) listed a w :=
  fk hr (by simp) (bY.cons ho h bY.nil)
theorem Jn {fuel : Nat} {listed listed' : Array Bool} {a a' : Act} {w : World} (h : cO P md ops Q S tl fuel listed' a' w)
    (hl : listed = listed' := by (try simp only [List.setIfInBounds_toArray, List.set_cons_zero, List.set_cons_succ]); rfl)
    (ha : a = a' := by (try simp only [Act.put, List.getElem_toArray, List.getElem_cons_zero, List.getElem_cons_succ, List.setIfInBounds_toArray, List.set_cons_zero, List.set_cons_succ]); rfl) : cO P md ops Q S tl fuel listed a w := by
 subst hl ha; exact h
end
end Go.Proofs.YteljlahcdipilaaGreat
namespace Go.Proofs.YteljlahcdipilaaGreat
open Go.RowKit Go.ChangeMaps Go.Maps
structure gm (P : Program) (k : TypeId) (α : Type) where
  val : α -> Value
  lit : α -> Lit
  ok : α -> Prop
  law : Keyed P k
  key : ∀ x, ok x -> keyOf P k (val x) = some (lit x)
  inj : ∀ x y, lit x = lit y -> x = y
  inv : ∀ v kl, keyOf P k v = some kl -> ∃ x, ok x /\ v = val x /\ kl = lit x
def kg (v : Value) : Option (DataW Value × List MemPlace) := some (.held v, [])
def kL {P : Program} {k : TypeId} {α : Type} (K : gm P k α) (D : DataW Value) (g : α -> Option Value) : Prop :=
  ∀ x, K.ok x -> Maps.has D (K.lit x) = (g x).isSome /\ ∀ v, g x = some v -> ∀ z, D.atKey (K.lit x) z = .held v
def bF (w : World) {P : Program} {k : TypeId} {α : Type} (K : gm P k α) (b n : Nat) (g : α -> Option Value) : Prop :=
  ∃ D : DataW Value, w.ownsMap P k kg b n D /\ kL K D g
section
variable {P : Program} {k : TypeId} {α : Type} {K : gm P k α} {w : World} {b n : Nat} {g : α -> Option Value}
theorem bF.lt (h : bF w K b n g) : b < w.heap.size := by obtain ⟨D, h1, _⟩ := h; exact h1.lt
theorem bF.of_heap {w' : World} (h : bF w K b n g) (hh : w'.heap[b]? = w.heap[b]?) : bF w' K b n g := by
 obtain ⟨D, ⟨es, clock, hb, r⟩, h2⟩ := h;exact ⟨D, ⟨es, clock, hh.trans hb, r⟩, h2⟩
theorem bF.mono {n' : Nat} (h : bF w K b n g) (hn : n <= n') : bF w K b n' g := by obtain ⟨D, h1, h2⟩ := h; exact ⟨D, h1.mono hn, h2⟩
theorem bF.congr {g' : α -> Option Value} (h : bF w K b n g) (hg : ∀ x, K.ok x -> g' x = g x) : bF w K b n g' := by
 obtain ⟨D, h1, h2⟩ := h;exact ⟨D, h1, fun x hx => by rw [hg x hx]; exact h2 x hx⟩
theorem bF.made (w : World) (K : gm P k α) : bF (w.alloc (.map #[] 0)) K w.heap.size 0 (fun _ => none) :=
  ⟨.map [], World.ownsMap_made w P k kg, fun x _ => ⟨rfl, fun v h => by cases h⟩⟩
theorem bF.lookup {t e : TypeId} (h : bF w K b n g) (ht : P.underlying t = some (.map k e)) {z : Value} (hz : (zeroValue e).run P w = .ok z w) {x : α} (hx : K.ok x) :
    (Instr.lookup t (.map (some b)) (K.val x) false).run P w = .ok ((g x).getD z) w := by
 obtain ⟨D, h1, h2⟩ := h;obtain ⟨v, ps, hrun, hv⟩ := h1.lookup K.law ht hz (zd := .held z) (zp := []) rfl (K.key x hx);obtain ⟨h3, h4⟩ := h2 x hx;simp only [kg, Option.some.injEq, Prod.mk.injEq] at hv;rw [hrun];cases hg : g x with
 | none =>
  rw [hg] at h3;rw [Maps.atKey_of_not_has h3] at hv;injection hv.1 with hv1; rw [hv1]; rfl
 | some u =>
  rw [h4 u hg] at hv;injection hv.1 with hv1; rw [hv1]; rfl
theorem kL.put {D : DataW Value} (hD : IsMap D) (h : kL K D g) [DecidableEq α] {x : α} (hx : K.ok x) (v : Value) : kL K (D.put (K.lit x) (.held v)) (fun y => if y = x then some v else g y) := by
 have hkl : WideAt.IsKeyLit (K.lit x) := K.law.key (K.key x hx);intro y hy
 by_cases e : y = x
 ·subst e;refine ⟨by rw [has_put_same hD hkl]; simp, fun u hu z => ?_⟩;simp at hu; subst hu;exact atKey_put_same hD hkl _ z
 ·have hne : K.lit y ≠ K.lit x := fun h => e (K.inj _ _ h)
  simp only [e, if_false];obtain ⟨h1, h2⟩ := h y hy;exact ⟨by rw [has_put_other hne]; exact h1, fun u hu z => by rw [atKey_put_other hne]; exact h2 u hu z⟩
theorem bF.update [DecidableEq α] {t e : TypeId} (h : bF w K b n g) (ht : P.underlying t = some (.map k e)) (hn : n < maxLen) {x : α} (hx : K.ok x) (v : Value) :
    ∃ w', (Instr.mapUpdate t (.map (some b)) (K.val x) v).run P w = .ok () w' /\ bF w' K b (n + 1) (fun y => if y = x then some v else g y) /\ w.grownBy w' (some b) /\ w'.heap.size = w.heap.size := by
 obtain ⟨D, h1, h2⟩ := h;obtain ⟨w', hrun, h3, h4⟩ := h1.store K.law ht hn (K.key x hx) (val := v) (d := .held v) (ps := []) rfl;refine ⟨w', hrun, ⟨_, h3, h2.put h1.isMap hx v⟩, h4.grown, ?_⟩;obtain ⟨_, _, _, _, _, rfl⟩ := h4;simp [setBlock]
def gp (w : World) {P : Program} {k : TypeId} {α : Type} (K : gm P k α) (b r n : Nat) (g : α -> Option Value) (left : α -> Bool) (cnt : Nat) : Prop :=
  ∃ (D : DataW Value) (l : Lit -> Bool), w.ranges P k kg b r n D l cnt /\ kL K D g /\ ∀ x, K.ok x -> l (K.lit x) = left x
theorem gp.is {r : Nat} {left : α -> Bool} {cnt : Nat} (h : gp w K b r n g left cnt) : bF w K b n g := by
 obtain ⟨D, l, h1, h2, _⟩ := h; exact ⟨D, h1.owns, h2⟩
theorem gp.lt {r : Nat} {left : α -> Bool} {cnt : Nat} (h : gp w K b r n g left cnt) : r < w.heap.size := by
 obtain ⟨D, l, h1, h2, _⟩ := h; exact h1.lt
theorem gp.kept {r : Nat} {left : α -> Bool} {cnt : Nat} {w' : World} {row : Option Nat} (h : gp w K b r n g left cnt) (hg : w.grownBy w' row) (hb : some b ≠ row) (hr : some r ≠ row) : gp w' K b r n g left cnt := by
 obtain ⟨D, l, h1, h2, h3⟩ := h; exact ⟨D, l, h1.kept hg hb hr, h2, h3⟩
end
section
variable {P : Program} (w : World) {ops : Array Oper} {rest : List Oper} {o : Oper} {a : Act} {Q : Exit -> Act -> World -> Prop} {α : Type}
end
end Go.Proofs.YteljlahcdipilaaGreat
namespace Go.Proofs.YteljlahcdipilaaGreat
open Go.ChangeShapes
variable {H : Type} {enc : TypeId × Value -> H}
theorem ml_shaped (w : World) (h : w.ShapedOpen Tryz.prog) : ∃ m, w.cell? ⟨0, 0, none⟩ = some (.int .i64 m) :=
  Go.Proofs.cell_of_shapedOpen_int (zero := #[.int .i64 0]) (t := 3) h (of_decide_eq_true (by kernel_rfl)) (by kernel_rfl) rfl (by kernel_rfl) (by kernel_rfl) Tryz.underlying3
end Go.Proofs.YteljlahcdipilaaGreat
namespace Go.Proofs.YteljlahcdipilaaGreat
open Go.RowKit Go.Deep Go.ChangeShapes Go.WideShapes
theorem xX {α : Type} (f : α -> Value) (l : List α) : l.flatMap (fun n => [f n]) = l.map f := by
 induction l with
 | nil => rfl
 | cons x l ih => simp [ih]
theorem ints_open {H : Type} {enc : TypeId × Value -> H} {P : Program} {w : World} {base : Nat} {spare : Nat -> Bool} {held : Bool} {t e : TypeId} {k : IntKind} {fuel : Nat} {a : Option Addr} {len cap : Nat} {x : DataW H × List MemPlace}
    (ht : P.underlying t = some (.slice e)) (he : P.underlying e = some (.int k)) (hC : P.cellsOf e = 1)
    (h : DataW.trod enc P w base spare held fuel t [.slice a len cap] = some x) :
    ∃ os : List Int, os.length = len /\ len <= cap /\ cap <= maxLen /\ (a = none -> cap = 0) /\ da w.heap.size w a (os.map (.int k)) := by
 obtain ⟨os, h1, h2, h3, h4, _, h6⟩ := sO (fun n : Int => [.int k n]) 1 ht hC (fun n cs y _ hy => by
  obtain ⟨m, h1, _⟩ := DataW.trod_int he hy;exact ⟨m, h1⟩) h
 rw [xX] at h6;exact ⟨os, h1, h2, h3, h4, h6⟩
end Go.Proofs.YteljlahcdipilaaGreat

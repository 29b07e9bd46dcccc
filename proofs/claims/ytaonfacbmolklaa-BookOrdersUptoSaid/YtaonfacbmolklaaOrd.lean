/- BookOrders: the plain law: what was closed can be put in an order. Conditions: none. -/
import Derived.Test.YtaonfacbmolklaaPlayP
namespace Go.Proofs.Ytaonfacbmolklaa
open Go.RowKit
set_option linter.unusedSimpArgs false
set_option linter.unusedVariables false

def sameL (a b : List ByteArray) : Prop := ∀ x, x ∈ a ↔ x ∈ b
def Meets (r t : List ByteArray) : Prop := ∃ x, x ∈ r ∧ x ∈ t
theorem Meets.of {r t r' t' : List ByteArray} (h : Meets r t) (h1 : sameL r' r) (h2 : sameL t' t) : Meets r' t' := by
  obtain ⟨x, h3, h4⟩ := h
  exact ⟨x, (h1 x).2 h3, (h2 x).2 h4⟩
theorem sameL.refl (a : List ByteArray) : sameL a a := fun _ => Iff.rfl
/-- An entry that was closed stands for a deed. -/
structure For (x : E) (d : D) : Prop where
  cl : x.end_ ≠ 0
  en : x.end_ = d.end_
  at_ : x.at_ = d.at_
  r : sameL x.reads d.reads
  t : sameL x.touches d.touches
structure OI (s : PS) : Prop where
  nod : (s.bk.es.map fun e => e.who).Nodup
  K : ∀ d ∈ s.done, ∀ e ∈ s.bk.es, e.end_ = 0 → e.at_ < d.end_ → ∃ x ∈ s.bk.es, For x d
  O : ∀ x ∈ s.bk.es, x.end_ ≠ 0 → ∀ c ∈ s.done, c.end_ < x.end_ → x.at_ < c.end_ → Meets x.reads c.touches → x.out = true
  A : ∀ e ∈ s.bk.es, e.end_ = 0 → ∀ d, s.act e.who = some d → d.at_ = e.at_ ∧ sameL e.reads d.reads ∧ sameL e.touches d.touches
  T : ∀ d ∈ s.done, 0 < d.end_ ∧ d.end_ ≤ s.bk.last ∧ d.at_ < d.end_
  TP : s.done.Pairwise fun a b => a.end_ < b.end_
  TE : ∀ e ∈ s.bk.es, (e.end_ ≠ 0 → e.end_ ≤ s.bk.last) ∧ e.at_ ≤ s.bk.last
  L0 : 0 ≤ s.bk.last
  N : ∀ a ∈ s.done, ∀ b ∈ s.done, ∀ c ∈ s.done, a.end_ ≠ b.end_ → c.end_ < b.end_ → c.end_ ≤ a.end_ → b.at_ < c.end_ → a.at_ < b.end_ → Meets a.reads b.touches → Meets b.reads c.touches → False
theorem uniq {es : List E} (hn : (es.map fun e => e.who).Nodup) {i j : Nat} {e e' : E} (h1 : es[i]? = some e) (h2 : es[j]? = some e') (hw : e.who = e'.who) : i = j := by
  have hl := (List.getElem?_eq_some_iff.1 h1).1
  exact (List.getElem?_inj (l := es.map fun e => e.who) (by rw [List.length_map]; exact hl) hn).1 (by
    rw [List.getElem?_map, List.getElem?_map, h1, h2]
    simp [hw])
theorem OI.sub {es es' : List E} {last : Int} {act act' : Int → Option D} {done : List D} (h : OI ⟨⟨es, last⟩, act, done⟩) (hs : es'.Sublist es)
    (hk : ∀ e ∈ es', e.end_ = 0 → ∀ x ∈ es, x.end_ ≠ 0 → e.at_ < x.end_ → x ∈ es') (ha : ∀ w d, act' w = some d → act w = some d) : OI ⟨⟨es', last⟩, act', done⟩ := by
  refine ⟨(hs.map _).nodup h.nod, fun d hd e he h0 hlt => ?_, fun x hx => h.O x (hs.subset hx), fun e he h0 d hd => h.A e (hs.subset he) h0 d (ha _ _ hd), h.T, h.TP, fun e he => h.TE e (hs.subset he), h.L0, h.N⟩
  obtain ⟨x, hx, hf⟩ := h.K d hd e (hs.subset he) h0 hlt
  exact ⟨x, hk e he h0 x hx hf.cl (by rw [hf.en]; exact hlt), hf⟩
theorem forget_sub (es : List E) : (forgetB es).Sublist es := List.filter_sublist
theorem forget_keep (es : List E) : ∀ e ∈ forgetB es, e.end_ = 0 → ∀ x ∈ es, x.end_ ≠ 0 → e.at_ < x.end_ → x ∈ forgetB es := by
  intro e he h0 x hx h1 h2
  unfold forgetB
  rw [List.mem_filter]
  refine ⟨hx, ?_⟩
  unfold keepB
  rw [Bool.or_eq_true]
  right
  rw [List.any_eq_true]
  exact ⟨e, (forget_sub es).subset he, decide_eq_true ⟨h0, h2⟩⟩
theorem mem_erase {es : List E} {k : Nat} {e0 x : E} (hk : es[k]? = some e0) (h0 : e0.end_ = 0) (hx : x ∈ es) (h1 : x.end_ ≠ 0) : x ∈ es.eraseIdx k := by
  obtain ⟨i, hi⟩ := List.mem_iff_getElem?.1 hx
  rw [List.mem_eraseIdx_iff_getElem?]
  refine ⟨i, fun e => ?_, hi⟩
  rw [e, hk] at hi
  injection hi with hi
  rw [hi] at h0
  exact h1 h0
theorem OI.drop {bk : Bk} {act : Int → Option D} {done : List D} (h : OI ⟨bk, act, done⟩) (who : Int) : OI ⟨(dropB bk who).2, ups act who none, done⟩ := by
  obtain ⟨es, last⟩ := bk
  have ha : ∀ w d, ups act who none w = some d → act w = some d := fun w d hd => by
    rcases ups_some hd with ⟨_, e⟩ | e
    · cases e
    · exact e
  unfold dropB
  cases hf : findB es who with
  | none => exact h.sub (List.Sublist.refl _) (fun e he h0 x hx h1 h2 => hx) ha
  | some k =>
    obtain ⟨e0, h1, h2, h3⟩ := findB_some hf
    refine h.sub ((forget_sub _).trans (List.eraseIdx_sublist _ _)) (fun e he h0 x hx h4 h5 => ?_) ha
    exact forget_keep _ e he h0 x (mem_erase h1 h3 hx h4) h4 h5
theorem mod_cases {es : List E} {k : Nat} {f : E → E} {x : E} (h : x ∈ es.modify k f) : (∃ i, i ≠ k ∧ es[i]? = some x) ∨ ∃ e, es[k]? = some e ∧ x = f e := by
  obtain ⟨i, hi⟩ := List.mem_iff_getElem?.1 h
  rw [List.getElem?_modify] at hi
  by_cases e : k = i
  · subst e
    simp only [if_true] at hi
    cases h2 : es[k]? with
    | none => rw [h2] at hi; cases hi
    | some e => rw [h2] at hi; right; exact ⟨e, rfl, by simpa using hi.symm⟩
  · left
    refine ⟨i, fun h => e h.symm, ?_⟩
    simp only [if_neg e] at hi
    cases h2 : es[i]? with
    | none => rw [h2] at hi; cases hi
    | some e => rw [h2] at hi; simpa using hi
theorem mod_old {es : List E} {k i : Nat} {f : E → E} {x : E} (h : es[i]? = some x) (hi : i ≠ k) : x ∈ es.modify k f := by
  refine List.mem_iff_getElem?.2 ⟨i, ?_⟩
  rw [List.getElem?_modify, h]
  simp [if_neg (fun e : k = i => hi e.symm)]
theorem mod_new {es : List E} {k : Nat} {f : E → E} {e : E} (h : es[k]? = some e) : f e ∈ es.modify k f := by
  refine List.mem_iff_getElem?.2 ⟨k, ?_⟩
  rw [List.getElem?_modify, h]
  simp
theorem mod_who (es : List E) (k : Nat) (f : E → E) (hf : ∀ e, (f e).who = e.who) : ((es.modify k f).map fun e => e.who) = es.map fun e => e.who := by
  refine List.ext_getElem? fun i => ?_
  rw [List.getElem?_map, List.getElem?_map, List.getElem?_modify]
  cases es[i]? with
  | none => rfl
  | some e =>
    by_cases h : k = i
    · simp [h, hf]
    · simp [h]
/-- A row of an open one grows: nothing else turns. -/
theorem OI.more {es : List E} {last : Int} {act act' : Int → Option D} {done : List D} {who : Int} {k : Nat} {e0 : E} (f : E → E) (h : OI ⟨⟨es, last⟩, act, done⟩) (h1 : es[k]? = some e0) (h2 : e0.who = who) (h3 : e0.end_ = 0)
    (hw : ∀ e, (f e).who = e.who) (hat : ∀ e, (f e).at_ = e.at_) (hen : ∀ e, (f e).end_ = e.end_)
    (ho : ∀ w, w ≠ who → act' w = act w) (hd : ∀ d, act' who = some d → d.at_ = e0.at_ ∧ sameL (f e0).reads d.reads ∧ sameL (f e0).touches d.touches) :
    OI ⟨⟨es.modify k f, last⟩, act', done⟩ := by
  have hne : ∀ {i : Nat} {x : E}, es[i]? = some x → x.end_ ≠ 0 → i ≠ k := fun {i x} hx hc e => by
    rw [e, h1] at hx; injection hx with hx; rw [← hx] at hc; exact hc h3
  refine ⟨?_, fun d hd' e he h0 hlt => ?_, fun x hx hc => ?_, fun e he h0 d hd' => ?_, h.T, h.TP, fun e he => ?_, h.L0, h.N⟩
  · show ((es.modify k f).map fun e => e.who).Nodup
    rw [mod_who es k f hw]
    exact h.nod
  · have hold : ∃ e' ∈ es, e'.end_ = 0 ∧ e'.at_ < d.end_ := by
      rcases mod_cases he with ⟨i, _, hi⟩ | ⟨e', he', rfl⟩
      · exact ⟨e, List.mem_of_getElem? hi, h0, hlt⟩
      · exact ⟨e', List.mem_of_getElem? he', by rw [← hen]; exact h0, by rw [← hat]; exact hlt⟩
    obtain ⟨e', he', h0', hlt'⟩ := hold
    obtain ⟨x, hx, hf⟩ := h.K d hd' e' he' h0' hlt'
    obtain ⟨i, hi⟩ := List.mem_iff_getElem?.1 hx
    exact ⟨x, mod_old hi (hne hi hf.cl), hf⟩
  · rcases mod_cases hx with ⟨i, _, hi⟩ | ⟨e', he', rfl⟩
    · exact h.O x (List.mem_of_getElem? hi) hc
    · rw [h1] at he'; injection he' with he'
      rw [hen, ← he', h3] at hc
      exact absurd rfl hc
  · rcases mod_cases he with ⟨i, hik, hi⟩ | ⟨e', he', rfl⟩
    · have hww : e.who ≠ who := fun hww => hik (uniq h.nod hi h1 (hww.trans h2.symm))
      replace hd' : act' e.who = some d := hd'
      rw [ho _ hww] at hd'
      exact h.A e (List.mem_of_getElem? hi) h0 d hd'
    · rw [h1] at he'; injection he' with he'
      subst he'
      replace hd' : act' (f e0).who = some d := hd'
      rw [hw, h2] at hd'
      rw [hat]
      exact hd d hd'
  · rcases mod_cases he with ⟨i, hik, hi⟩ | ⟨e', he', rfl⟩
    · exact h.TE e (List.mem_of_getElem? hi)
    · rw [hen, hat]; exact h.TE e' (List.mem_of_getElem? he')
theorem con_of {es : List E} {k i : Nat} {e0 y : E} (h1 : es[k]? = some e0) (h3 : e0.end_ = 0) (hi : es[i]? = some y) (hc : y.end_ ≠ 0) (hlt : e0.at_ < y.end_) (hm : Meets e0.reads y.touches) : i < es.length ∧ conB es k i = true := by
  have hik : i ≠ k := fun e => by rw [e, h1] at hi; injection hi with hi; rw [← hi] at hc; exact hc h3
  refine ⟨(List.getElem?_eq_some_iff.1 hi).1, ?_⟩
  unfold conB besideB aheadB
  rw [hi, h1]
  simp only [Bool.and_eq_true]
  exact ⟨⟨decide_eq_true hc, decide_eq_true ⟨hik, .inr hlt⟩⟩, meetB_iff.2 hm⟩
theorem in_of {es : List E} {k i : Nat} {e0 y : E} (h1 : es[k]? = some e0) (h3 : e0.end_ = 0) (hi : es[i]? = some y) (hc : y.end_ ≠ 0) (hlt : e0.at_ < y.end_) (hm : Meets y.reads e0.touches) : inB es k = true := by
  have hik : i ≠ k := fun e => by rw [e, h1] at hi; injection hi with hi; rw [← hi] at hc; exact hc h3
  unfold inB
  rw [List.any_eq_true]
  refine ⟨i, List.mem_range.2 (List.getElem?_eq_some_iff.1 hi).1, ?_⟩
  unfold besideB aheadB
  rw [hi, h1]
  simp only [Bool.and_eq_true]
  exact ⟨decide_eq_true ⟨hik, .inr hlt⟩, meetB_iff.2 hm⟩
theorem bad_of {es : List E} {k i : Nat} {y : E} (hi : es[i]? = some y) (hc : i < es.length ∧ conB es k i = true) (h : inB es k = true ∨ y.out = true) : badB es k = true := by
  unfold badB
  rw [List.any_eq_true]
  refine ⟨i, List.mem_range.2 hc.1, ?_⟩
  rw [Bool.and_eq_true, Bool.or_eq_true, hi]
  exact ⟨hc.2, h⟩
/-- One is closed. -/
theorem OI.closed {es : List E} {last : Int} {act : Int → Option D} {done : List D} {who : Int} {k : Nat} {e0 : E} (h : OI ⟨⟨es, last⟩, act, done⟩) (h1 : es[k]? = some e0) (h2 : e0.who = who) (h3 : e0.end_ = 0) (hb : ¬ badB es k = true) :
    OI ⟨⟨es.modify k fun e => { e with end_ := last + 1, out := (List.range es.length).any (conB es k) }, last + 1⟩, ups act who none, addD act done who (last + 1)⟩ := by
  have hL := h.L0
  replace hL : 0 ≤ last := hL
  have hm0 : e0 ∈ es := List.mem_of_getElem? h1
  have hat0 : e0.at_ ≤ last := (h.TE e0 hm0).2
  generalize hR : (List.range es.length).any (conB es k) = R
  have hRt : ∀ {i : Nat}, i < es.length ∧ conB es k i = true → R = true := fun {i} hi => by
    rw [← hR, List.any_eq_true]; exact ⟨i, List.mem_range.2 hi.1, hi.2⟩
  have hne : ∀ {i : Nat} {x : E}, es[i]? = some x → x.end_ ≠ 0 → i ≠ k := fun {i x} hx hc e => by
    rw [e, h1] at hx; injection hx with hx; rw [← hx] at hc; exact hc h3
  have hT : ∀ d ∈ done, 0 < d.end_ ∧ d.end_ ≤ last ∧ d.at_ < d.end_ := h.T
  have hTE : ∀ e ∈ es, (e.end_ ≠ 0 → e.end_ ≤ last) ∧ e.at_ ≤ last := h.TE
  -- who stands in the new row of deeds
  have hD : ∀ d ∈ addD act done who (last + 1), d ∈ done ∨ (d.end_ = last + 1 ∧ d.at_ = e0.at_ ∧ sameL e0.reads d.reads ∧ sameL e0.touches d.touches) := fun d hd => by
    unfold addD at hd
    cases ha : act who with
    | none => rw [ha] at hd; exact .inl hd
    | some d0 =>
      rw [ha] at hd
      rcases List.mem_append.1 hd with hd | hd
      · exact .inl hd
      · obtain rfl := List.mem_singleton.1 hd
        have := h.A e0 hm0 h3 d0 (by show act e0.who = _; rw [h2]; exact ha)
        exact .inr ⟨rfl, this⟩
  have hE : ∀ {x : E}, x ∈ es.modify k (fun e => { e with end_ := last + 1, out := R }) → (∃ i, i ≠ k ∧ es[i]? = some x) ∨ x = { e0 with end_ := last + 1, out := R } := fun {x} hx => by
    rcases mod_cases hx with h | ⟨e', he', rfl⟩
    · exact .inl h
    · rw [h1] at he'; injection he' with he'; subst he'; exact .inr rfl
  -- an entry for a deed that ended behind the one's beginning
  have hK : ∀ d ∈ done, e0.at_ < d.end_ → ∃ i x, es[i]? = some x ∧ For x d := fun d hd hlt => by
    obtain ⟨x, hx, hf⟩ := h.K d hd e0 hm0 h3 hlt
    obtain ⟨i, hi⟩ := List.mem_iff_getElem?.1 hx
    exact ⟨i, x, hi, hf⟩
  refine ⟨?_, fun d hd e he h0 hlt => ?_, fun x hx hc c hcd hlt hat hm => ?_, fun e he h0 d hd => ?_, fun d hd => ?_, ?_, fun e he => ?_, ?_, fun a ha b hb2 c hc hab hcb hca hbc hab2 hm1 hm2 => ?_⟩
  · show ((es.modify k _).map fun e => e.who).Nodup
    rw [mod_who es k (fun e => { e with end_ := last + 1, out := R }) (fun e => rfl)]
    exact h.nod
  · rcases hE he with ⟨i, hik, hi⟩ | rfl
    · rcases hD d hd with hd | ⟨q1, q2, q3, q4⟩
      · obtain ⟨x, hx, hf⟩ := h.K d hd e (List.mem_of_getElem? hi) h0 hlt
        obtain ⟨i', hi'⟩ := List.mem_iff_getElem?.1 hx
        exact ⟨x, mod_old hi' (hne hi' hf.cl), hf⟩
      · refine ⟨_, mod_new h1, ⟨by show last + 1 ≠ 0; omega, q1.symm, q2.symm, q3, q4⟩⟩
    · exfalso
      replace h0 : last + 1 = 0 := h0
      omega
  · replace hcd := hD c hcd
    rcases hE hx with ⟨i, hik, hi⟩ | rfl
    · have hx := List.mem_of_getElem? hi
      rcases hcd with hcd | ⟨q1, _⟩
      · exact h.O x hx hc c hcd hlt hat hm
      · have := (hTE x hx).1 hc; omega
    · replace hlt : c.end_ < last + 1 := hlt
      rcases hcd with hcd | ⟨q1, _⟩
      · show R = true
        obtain ⟨i, y, hi, hf⟩ := hK c hcd hat
        exact hRt (con_of h1 h3 hi hf.cl (by rw [hf.en]; exact hat) (Meets.of hm (sameL.refl _) hf.t))
      · omega
  · rcases hE he with ⟨i, hik, hi⟩ | rfl
    · refine h.A e (List.mem_of_getElem? hi) h0 d ?_
      rcases ups_some hd with ⟨_, e⟩ | e
      · cases e
      · exact e
    · exfalso
      replace h0 : last + 1 = 0 := h0
      omega
  · show 0 < d.end_ ∧ d.end_ ≤ last + 1 ∧ d.at_ < d.end_
    rcases hD d hd with hd | ⟨q1, q2, _⟩
    · have := hT d hd; omega
    · omega
  · show (addD act done who (last + 1)).Pairwise _
    unfold addD
    cases ha : act who with
    | none => exact h.TP
    | some d0 =>
      rw [List.pairwise_append]
      refine ⟨h.TP, List.pairwise_singleton _ _, fun a ha b hb => ?_⟩
      obtain rfl := List.mem_singleton.1 hb
      show a.end_ < last + 1
      have := hT a ha; omega
  · show (e.end_ ≠ 0 → e.end_ ≤ last + 1) ∧ e.at_ ≤ last + 1
    rcases hE he with ⟨i, hik, hi⟩ | rfl
    · have := hTE e (List.mem_of_getElem? hi)
      exact ⟨fun h0 => by have := this.1 h0; omega, by omega⟩
    · exact ⟨fun _ => Int.le_refl _, by show e0.at_ ≤ _; omega⟩
  · show 0 ≤ last + 1
    omega
  · have hae : a.end_ ≤ last + 1 := by
      rcases hD a ha with h | h
      · have := hT a h; omega
      · omega
    have hbe : b.end_ ≤ last + 1 := by
      rcases hD b hb2 with h | h
      · have := hT b h; omega
      · omega
    rcases hD c hc with hc | hc
    · rcases hD b hb2 with hb3 | ⟨q1, q2, q3, q4⟩
      · rcases hD a ha with ha2 | ⟨q1, q2, q3, q4⟩
        · exact h.N a ha2 b hb3 c hc hab hcb hca hbc hab2 hm1 hm2
        · obtain ⟨i, x, hi, hf⟩ := hK b hb3 (by omega)
          have hcon := con_of h1 h3 hi hf.cl (by rw [hf.en]; omega) (Meets.of hm1 q3 hf.t)
          have hout := h.O x (List.mem_of_getElem? hi) hf.cl c hc (by rw [hf.en]; exact hcb) (by rw [hf.at_]; exact hbc) (Meets.of hm2 hf.r (sameL.refl _))
          exact hb (bad_of hi hcon (.inr hout))
      · rcases hD a ha with ha2 | ⟨p1, _⟩
        · obtain ⟨i, y, hi, hf⟩ := hK c hc (by omega)
          have hcon := con_of h1 h3 hi hf.cl (by rw [hf.en]; omega) (Meets.of hm2 q3 hf.t)
          obtain ⟨i2, x, hi2, hf2⟩ := hK a ha2 (by omega)
          have hin := in_of h1 h3 hi2 hf2.cl (by rw [hf2.en]; omega) (Meets.of hm1 hf2.r q4)
          exact hb (bad_of hi hcon (.inl hin))
        · omega
    · omega
theorem OI.start : OI s0 := ⟨List.nodup_nil, (fun d hd => by cases hd), (fun x hx => by cases hx), (fun e he => by cases he), (fun d hd => by cases hd), List.Pairwise.nil, (fun e he => by cases he), Int.le_refl 0, (fun a ha => by cases ha)⟩
theorem OI.opened {bk : Bk} {act : Int → Option D} {done : List D} (h : OI ⟨bk, act, done⟩) (who : Int) :
    OI ⟨(openB bk who bk.last).2, if (openB bk who bk.last).1 = 0 then ups act who (some ⟨bk.last, 0, [], []⟩) else act, done⟩ := by
  unfold openB
  split
  · rw [if_neg (by show ¬ (20 : Int) = 0; omega)]; exact h
  · split
    · rw [if_neg (by show ¬ (25 : Int) = 0; omega)]; exact h
    · rename_i hw1 hany
      rw [if_pos rfl]
      obtain ⟨es, last⟩ := bk
      have hno : ∀ e ∈ es, e.who ≠ who := fun e he hw => hany (List.any_eq_true.2 ⟨e, he, decide_eq_true hw⟩)
      have hM : ∀ {e : E}, e ∈ es ++ [⟨who, last, 0, [], [], false⟩] → e ∈ es ∨ e = ⟨who, last, 0, [], [], false⟩ := fun {e} he => by
        rcases List.mem_append.1 he with h | h
        · exact .inl h
        · exact .inr (List.mem_singleton.1 h)
      have hT : ∀ d ∈ done, 0 < d.end_ ∧ d.end_ ≤ last ∧ d.at_ < d.end_ := h.T
      refine ⟨?_, fun d hd e he h0 hlt => ?_, fun x hx hc => ?_, fun e he h0 d hd => ?_, h.T, h.TP, fun e he => ?_, h.L0, h.N⟩
      · show ((es ++ [(⟨who, last, 0, [], [], false⟩ : E)]).map fun e : E => e.who).Nodup
        rw [List.map_append, List.nodup_append]
        refine ⟨h.nod, by simp, fun a ha b hb => ?_⟩
        obtain ⟨e, he, rfl⟩ := List.mem_map.1 ha
        obtain rfl := List.mem_singleton.1 hb
        exact hno e he
      · rcases hM he with he | rfl
        · obtain ⟨x, hx, hf⟩ := h.K d hd e he h0 hlt
          exact ⟨x, List.mem_append_left _ hx, hf⟩
        · exfalso
          have := hT d hd
          replace hlt : last < d.end_ := hlt
          omega
      · rcases hM hx with hx | rfl
        · exact h.O x hx hc
        · exact absurd rfl hc
      · rcases hM he with he | rfl
        · refine h.A e he h0 d ?_
          rcases ups_some hd with ⟨e1, _⟩ | e1
          · exact absurd e1 (hno e he)
          · exact e1
        · replace hd : ups act who (some ⟨last, 0, [], []⟩) who = some d := hd
          rw [ups_same] at hd
          injection hd with hd
          subst hd
          exact ⟨rfl, sameL.refl _, sameL.refl _⟩
      · rcases hM he with he | rfl
        · exact h.TE e he
        · exact ⟨fun hc => absurd rfl hc, Int.le_refl _⟩
theorem OI.step {s : PS} (h : OI s) (o : Op) : OI (stepP s o) := by
  obtain ⟨bk, act, done⟩ := s
  unfold stepP
  split
  · exact h.opened o.who
  · split
    · show OI ⟨(readB bk o.who o.l).2, if (readB bk o.who o.l).1 = 0 then addR act o.who o.l else act, done⟩
      unfold readB
      cases hf : findB bk.es o.who with
      | none => show OI ⟨bk, if (23 : Int) = 0 then _ else act, done⟩; rw [if_neg (by omega)]; exact h
      | some k =>
        obtain ⟨e0, h1, h2, h3⟩ := findB_some hf
        show OI ⟨⟨bk.es.modify k _, bk.last⟩, if (0 : Int) = 0 then addR act o.who o.l else act, done⟩
        rw [if_pos rfl]
        refine OI.more _ h h1 h2 h3 (fun e => rfl) (fun e => rfl) (fun e => rfl) (fun w hw => ?_) (fun d hd => ?_)
        · unfold addR
          cases act o.who with
          | none => rfl
          | some d => exact ups_other _ _ hw
        · unfold addR at hd
          cases ha : act o.who with
          | none => rw [ha] at hd; replace hd : act o.who = some d := hd; rw [ha] at hd; cases hd
          | some d0 =>
            rw [ha] at hd
            replace hd : ups act o.who (some { d0 with reads := d0.reads ++ o.l }) o.who = some d := hd
            rw [ups_same] at hd
            injection hd with hd
            subst hd
            obtain ⟨q1, q2, q3⟩ := h.A e0 (List.mem_of_getElem? h1) h3 d0 (by show act e0.who = _; rw [h2]; exact ha)
            refine ⟨q1, fun x => ?_, q3⟩
            show x ∈ addS e0.reads o.l ↔ x ∈ d0.reads ++ o.l
            rw [addS_mem, List.mem_append, q2 x]
    · split
      · show OI ⟨(touchB bk o.who o.l).2, if (touchB bk o.who o.l).1 = 0 then addT act o.who o.l else act, done⟩
        unfold touchB
        cases hf : findB bk.es o.who with
        | none => show OI ⟨bk, if (23 : Int) = 0 then _ else act, done⟩; rw [if_neg (by omega)]; exact h
        | some k =>
          obtain ⟨e0, h1, h2, h3⟩ := findB_some hf
          show OI ⟨⟨bk.es.modify k _, bk.last⟩, if (0 : Int) = 0 then addT act o.who o.l else act, done⟩
          rw [if_pos rfl]
          refine OI.more _ h h1 h2 h3 (fun e => rfl) (fun e => rfl) (fun e => rfl) (fun w hw => ?_) (fun d hd => ?_)
          · unfold addT
            cases act o.who with
            | none => rfl
            | some d => exact ups_other _ _ hw
          · unfold addT at hd
            cases ha : act o.who with
            | none => rw [ha] at hd; replace hd : act o.who = some d := hd; rw [ha] at hd; cases hd
            | some d0 =>
              rw [ha] at hd
              replace hd : ups act o.who (some { d0 with touches := d0.touches ++ o.l }) o.who = some d := hd
              rw [ups_same] at hd
              injection hd with hd
              subst hd
              obtain ⟨q1, q2, q3⟩ := h.A e0 (List.mem_of_getElem? h1) h3 d0 (by show act e0.who = _; rw [h2]; exact ha)
              refine ⟨q1, q2, fun x => ?_⟩
              show x ∈ addS e0.touches o.l ↔ x ∈ d0.touches ++ o.l
              rw [addS_mem, List.mem_append, q3 x]
      · split
        · show OI ⟨(closeB bk o.who (bk.last + 1)).2, ups act o.who none, if (closeB bk o.who (bk.last + 1)).1 = 0 then addD act done o.who (bk.last + 1) else done⟩
          have hsub : OI ⟨bk, ups act o.who none, done⟩ := by
            obtain ⟨es, last⟩ := bk
            exact h.sub (List.Sublist.refl _) (fun e he h0 x hx h1 h2 => hx) (fun w d hd => by
              rcases ups_some hd with ⟨_, e⟩ | e
              · cases e
              · exact e)
          unfold closeB
          cases hf : findB bk.es o.who with
          | none => show OI ⟨bk, ups act o.who none, if (23 : Int) = 0 then _ else done⟩; rw [if_neg (by omega)]; exact hsub
          | some k =>
            obtain ⟨e0, h1, h2, h3⟩ := findB_some hf
            show OI ⟨(if bk.last + 1 ≤ bk.last then _ else _ : Int × Bk).2, ups act o.who none, if (if bk.last + 1 ≤ bk.last then _ else _ : Int × Bk).1 = 0 then _ else done⟩
            rw [if_neg (by omega)]
            by_cases hb : badB bk.es k = true
            · rw [if_pos hb]
              show OI ⟨(dropB bk o.who).2, ups act o.who none, if (7 : Int) = 0 then _ else done⟩
              rw [if_neg (by omega)]
              exact h.drop o.who
            · rw [if_neg hb]
              show OI ⟨⟨forgetB _, bk.last + 1⟩, ups act o.who none, if (0 : Int) = 0 then _ else done⟩
              rw [if_pos rfl]
              have hc := OI.closed (who := o.who) h h1 h2 h3 hb
              exact hc.sub (forget_sub _) (forget_keep _) (fun w d hd => hd)
        · split
          · exact h.drop o.who
          · exact h
theorem OI.play (os : List Op) (j : Nat) : OI (playS os j) := by
  unfold playS
  have : ∀ (l : List Op) (s : PS), OI s → OI (l.foldl stepP s) := by
    intro l
    induction l with
    | nil => intro s h; exact h
    | cons o l ih => intro s h; exact ih _ (h.step o)
  exact this _ _ OI.start
/-- Must one be put ahead of another one? -/
def aheadD (a b : D) : Bool := decide (a.end_ ≤ b.at_) || (decide (a.at_ < b.end_) && meetB a.reads b.touches)
theorem least {p : Nat → Bool} {n : Nat} (h : ∃ i, i < n ∧ p i = true) : ∃ i, i < n ∧ p i = true ∧ ∀ k, k < i → p k = false := by
  obtain ⟨i, hi, hp⟩ := h
  induction i using Nat.strongRecOn with
  | _ i ih =>
    by_cases h : ∃ k, k < i ∧ p k = true
    · obtain ⟨k, hk, hpk⟩ := h
      exact ih k hk (by omega) hpk
    · exact ⟨i, hi, hp, fun k hk => by
        cases hpk : p k with
        | false => rfl
        | true => exact absurd ⟨k, hk, hpk⟩ h⟩
/-- There is always one that nobody who is left must be put ahead of. -/
theorem acyc {s : PS} (h : OI s) (p : Nat → Bool) (hp : ∃ i, i < s.done.length ∧ p i = true) :
    ∃ (i : Nat) (d : D), s.done[i]? = some d ∧ p i = true ∧ ∀ (k : Nat) c, s.done[k]? = some c → p k = true → k ≠ i → aheadD c d = false := by
  obtain ⟨ic, hic, hpc, hmin⟩ := least hp
  have hinc : ∀ {i k : Nat} {x y : D}, s.done[i]? = some x → s.done[k]? = some y → i < k → x.end_ < y.end_ := fun {i k x y} hx hy hik => by
    have hk := (List.getElem?_eq_some_iff.1 hy).1
    have := List.pairwise_iff_getElem.1 h.TP i k (by omega) hk hik
    rw [(List.getElem?_eq_some_iff.1 hx).2, (List.getElem?_eq_some_iff.1 hy).2] at this
    exact this
  have hdiff : ∀ {i k : Nat} {x y : D}, s.done[i]? = some x → s.done[k]? = some y → i ≠ k → x.end_ ≠ y.end_ := fun {i k x y} hx hy hik => by
    rcases Nat.lt_or_gt_of_ne hik with h1 | h1
    · have := hinc hx hy h1; omega
    · have := hinc hy hx h1; omega
  have hpred : ∀ {i : Nat} {d : D}, s.done[i]? = some d → p i = true → ¬ (∀ (k : Nat) c, s.done[k]? = some c → p k = true → k ≠ i → aheadD c d = false) → ∃ k c, s.done[k]? = some c ∧ p k = true ∧ k ≠ i ∧ aheadD c d = true := fun {i d} hd hpi hn => by
    refine Classical.byContradiction fun hno => hn fun k c hk hpk hki => ?_
    cases ha : aheadD c d with
    | false => rfl
    | true => exact absurd ⟨k, c, hk, hpk, hki, ha⟩ hno
  refine Classical.byContradiction fun hall => ?_
  have hnone : ∀ {i : Nat} {d : D}, s.done[i]? = some d → p i = true → ¬ (∀ (k : Nat) c, s.done[k]? = some c → p k = true → k ≠ i → aheadD c d = false) := fun {i d} h1 h2 h3 => hall ⟨i, d, h1, h2, h3⟩
  have hge : ∀ {k : Nat} {x : D} {c : D}, s.done[ic]? = some c → s.done[k]? = some x → p k = true → c.end_ ≤ x.end_ := fun {k x c} hc hx hpk => by
    have hik : ic ≤ k := by
      refine Classical.byContradiction fun hlt => ?_
      rw [hmin k (by omega)] at hpk
      cases hpk
    rcases Nat.eq_or_lt_of_le hik with e | e
    · subst e; rw [hc] at hx; injection hx with hx; rw [hx]; exact Int.le_refl _
    · have := hinc hc hx e; omega
  obtain ⟨C, hC⟩ : ∃ C, s.done[ic]? = some C := ⟨_, List.getElem?_eq_getElem hic⟩
  obtain ⟨ib, B, hB, hpb, hbc, hBC⟩ := hpred hC hpc (hnone hC hpc)
  obtain ⟨ia, A, hA, hpa, hab, hAB⟩ := hpred hB hpb (hnone hB hpb)
  have hCB := hge hC hB hpb
  have hCA := hge hC hA hpa
  have hCBn := hdiff hC hB (fun e => hbc e.symm)
  have tC := h.T C (List.mem_of_getElem? hC)
  have hx1 : ∀ {a b : D}, aheadD a b = true → ¬ a.end_ ≤ b.at_ → a.at_ < b.end_ ∧ Meets a.reads b.touches := fun {a b} h1 h2 => by
    unfold aheadD at h1
    rw [Bool.or_eq_true, Bool.and_eq_true] at h1
    rcases h1 with h1 | ⟨h1, h3⟩
    · exact absurd (of_decide_eq_true h1) h2
    · exact ⟨of_decide_eq_true h1, meetB_iff.1 h3⟩
  obtain ⟨p1, p2⟩ := hx1 hBC (by omega)
  obtain ⟨p3, p4⟩ := hx1 hAB (by omega)
  exact h.N A (List.mem_of_getElem? hA) B (List.mem_of_getElem? hB) C (List.mem_of_getElem? hC) (hdiff hA hB hab) (by omega) hCA p1 p3 p4 p2
end Go.Proofs.Ytaonfacbmolklaa

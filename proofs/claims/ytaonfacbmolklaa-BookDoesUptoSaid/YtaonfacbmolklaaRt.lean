/- The program's book: Read and Touch. Conditions: the rows are sorted, sizes are small. -/
import Derived.Test.YtaonfacbmolklaaOpenB
namespace Go.Proofs.Ytaonfacbmolklaa
open Go.RowKit
set_option linter.unusedSimpArgs false
set_option linter.unusedVariables false

theorem modify_get {α : Type} {l : List α} {k i : Nat} {f : α → α} {x : α} (h : (l.modify k f)[i]? = some x) : (i = k ∧ ∃ y, l[i]? = some y ∧ x = f y) ∨ (i ≠ k ∧ l[i]? = some x) := by
  rw [List.getElem?_modify] at h
  by_cases hik : k = i
  · subst hik
    left
    cases hy : l[k]? with
    | none => rw [hy] at h; cases h
    | some y => rw [hy] at h; simp at h; exact ⟨rfl, y, rfl, h.symm⟩
  · right
    simp only [if_neg hik] at h
    refine ⟨fun e => hik e.symm, ?_⟩
    cases hy : l[i]? with
    | none => rw [hy] at h; cases h
    | some y => rw [hy] at h; simpa using h

/-- An entry's row of reads, replaced. -/
theorem IsBook.set_reads {w w1 : World} {B P k c : Nat} {bk : Bk} {tag : Nat → Nat × Nat} {lv : Value} {rs : List R} {r : R} {e : E} {a : Option Addr} {ks : List ByteArray} (h : IsBook w B P bk tag lv rs) (hr : rs[k]? = some r) (he : bk.es[k]? = some e)
    (hown : w1.ownsRow B 9 1 (.slice a ks.length c) ks.length (ks.map Value.string)) (hg : w.grownBy w1 r.v1.ownBlock) (hat : ∀ g, (Value.slice a ks.length c).ownBlock = some g → r.v1.ownBlock = some g ∨ w.heap.size ≤ g) :
    ∃ tag', IsBook (w1.setCell ⟨r.p, 3, none⟩ (.slice a ks.length c)) B P ⟨bk.es.modify k fun e => { e with reads := ks }, bk.last⟩ tag' lv (rs.modify k fun r => { r with v1 := .slice a ks.length c }) := by
  have hE := h.ent k r e hr he
  have hrP : ∀ (i : Nat) r', rs[i]? = some r' → r'.p ≠ P := fun i r' hr' e => h.np (by rw [← e]; exact List.mem_map_of_mem (List.mem_of_getElem? hr'))
  have hrp : r.p < w.heap.size := hE.blk.lt
  have hold : ∀ (i : Nat) r' e', rs[i]? = some r' → bk.es[i]? = some e' → ∀ q, (q = r'.p ∨ r'.v1.ownBlock = some q ∨ r'.v2.ownBlock = some q) → (tag q).1 = r'.p ∧ q < w.heap.size := fun i r' e' hr' he' q hq => by
    have hE' := h.ent i r' e' hr' he'
    refine ⟨?_, (h.ownlt (.inr (.inr ⟨r', List.mem_of_getElem? hr', hq⟩))).2⟩
    rcases hq with rfl | hq | hq
    · rw [hE'.tp]
    · rw [hE'.t1 q hq]
    · rw [hE'.t2 q hq]
  have hVtag : ∀ g, r.v1.ownBlock = some g → tag g = (r.p, 1) := hE.t1
  -- a block that is not the row's stays
  have hk : ∀ q, q < w.heap.size → tag q ≠ (r.p, 1) → w1.heap[q]? = w.heap[q]? := fun q hq hn => hg.block q hq (fun e => hn (hVtag q e.symm))
  have hnew : ∀ g, (Value.slice a ks.length c).ownBlock = some g → g ≠ r.p ∧ ∀ q, q < w.heap.size → tag q ≠ (r.p, 1) → q ≠ g := fun g eg => by
    rcases hat g eg with e1 | e1
    · refine ⟨fun e2 => ?_, fun q _ hn e2 => hn (by rw [e2]; exact hVtag g e1)⟩
      have h1 := hVtag g e1
      rw [e2, hE.tp] at h1
      injection h1 with _ h2
      cases h2
    · exact ⟨by omega, fun q hq _ => by omega⟩
  have hsc : ∀ q, q ≠ r.p → (w1.setCell ⟨r.p, 3, none⟩ (.slice a ks.length c)).heap[q]? = w1.heap[q]? := fun q hq => Below.heap_setCell _ _ _ _ hq
  refine ⟨fun q => if (Value.slice a ks.length c).ownBlock = some q then (r.p, 1) else tag q, ?_⟩
  have htag : ∀ q, q < w.heap.size → tag q ≠ (r.p, 1) → (if (Value.slice a ks.length c).ownBlock = some q then (r.p, 1) else tag q) = tag q := fun q hq hn => if_neg (fun e1 => (hnew q e1).2 q hq hn rfl)
  have hPl := (h.ownlt (.inl rfl)).2
  have hPt : tag P ≠ (r.p, 1) := by rw [h.tP]; intro e; injection e with e1 _; exact hrP k r hr e1.symm
  have hlt : ∀ q, lv.ownBlock = some q → tag q ≠ (r.p, 1) ∧ q < w.heap.size ∧ q ≠ r.p := fun q e1 => by
    have h1 := h.tl q e1
    refine ⟨by rw [h1]; intro e; injection e with e1 _; exact hrP k r hr e1.symm, (h.row.lt q e1).2, fun e2 => ?_⟩
    rw [e2, hE.tp] at h1
    injection h1 with e3 _
    exact hrP k r hr e3
  refine ⟨?_, h.base, ?_, ?_, ?_, ?_, ?_, ?_, ?_⟩
  · exact h.blk.of_heap ((hsc P (fun e => hrP k r hr e.symm)).trans (hk P hPl hPt))
  · show (if _ then _ else _) = _
    rw [htag P hPl hPt]; exact h.tP
  · have h1 : (rs.modify k fun r => { r with v1 := .slice a ks.length c }).map R.ptr = rs.map R.ptr := by
      apply List.ext_getElem?
      intro i
      rw [List.getElem?_map, List.getElem?_map, List.getElem?_modify]
      cases rs[i]? with
      | none => rfl
      | some y => by_cases hik : k = i <;> simp [hik, R.ptr]
    rw [h1, List.length_modify]
    exact own_of_heap h.row fun q e1 => (hsc q (hlt q e1).2.2).trans (hk q (hlt q e1).2.1 (hlt q e1).1)
  · intro g e1
    show (if _ then _ else _) = _
    rw [htag g (hlt g e1).2.1 (hlt g e1).1]; exact h.tl g e1
  · rw [List.length_modify, List.length_modify]; exact h.len
  · intro i r2 e2 hr2 he2
    rcases modify_get hr2 with ⟨rfl, r3, hr3, rfl⟩ | ⟨hik, hr3⟩
    · rw [hr] at hr3
      cases hr3
      rcases modify_get he2 with ⟨_, e3, he3, rfl⟩ | ⟨hik, _⟩
      · rw [he] at he3
        cases he3
        have hO : ∀ q, r.v2.ownBlock = some q → q < w.heap.size ∧ tag q ≠ (r.p, 1) ∧ q ≠ r.p := fun q eq => by
          have h1 := hE.t2 q eq
          refine ⟨(hE.o2.lt q eq).2, (by rw [h1]; intro e; injection e with _ e2; cases e2), fun e2 => ?_⟩
          rw [e2, hE.tp] at h1
          injection h1 with _ e2
          cases e2
        have hb1 : Block w1 r.p (cellsE e r.v1 r.v2) 55 := hE.blk.of_heap (hk r.p hrp (by rw [hE.tp]; intro e; injection e with _ e2; cases e2))
        have hb2 := hb1.set 3 (.slice a ks.length c)
        refine ⟨hb2.of_heap rfl, hE.base, (htag _ hrp (by rw [hE.tp]; intro e; injection e with _ e2; cases e2)).trans hE.tp, own_setCell hown (fun e1 => (hnew _ e1).1 rfl) _, fun g e1 => if_pos e1, ?_, fun g e1 => ?_⟩
        · exact own_of_heap hE.o2 fun q eq => (hsc q (hO q eq).2.2).trans (hk q (hO q eq).1 (hO q eq).2.1)
        · obtain ⟨h1, h2, _⟩ := hO g e1
          exact (htag _ h1 h2).trans (hE.t2 g e1)
      · exact absurd rfl hik
    · rcases modify_get he2 with ⟨hik2, _⟩ | ⟨_, he3⟩
      · exact absurd hik2 hik
      have hE2 := h.ent i r2 e2 hr3 he3
      have hne : r2.p ≠ r.p := fun e1 => hik ((h.inj hr3 hr).1 e1)
      have ho := hold i r2 e2 hr3 he3
      have hq : ∀ q, (q = r2.p ∨ r2.v1.ownBlock = some q ∨ r2.v2.ownBlock = some q) → q < w.heap.size ∧ tag q ≠ (r.p, 1) ∧ q ≠ r.p := fun q hq => by
        obtain ⟨h1, h2⟩ := ho q hq
        refine ⟨h2, fun e1 => hne (by rw [e1] at h1; exact h1.symm), fun e1 => hne ?_⟩
        rw [e1, hE.tp] at h1
        exact h1.symm
      have hE3 : IsE (w1.setCell ⟨r.p, 3, none⟩ (.slice a ks.length c)) B tag r2 e2 := hE2.same fun q hq' => (hsc q (hq q hq').2.2).trans (hk q (hq q hq').1 (hq q hq').2.1)
      refine ⟨hE3.blk, hE3.base, ?_, hE3.o1, fun g e1 => ?_, hE3.o2, fun g e1 => ?_⟩
      · obtain ⟨h1, h2, _⟩ := hq r2.p (.inl rfl)
        exact (htag _ h1 h2).trans hE2.tp
      · obtain ⟨h1, h2, _⟩ := hq g (.inr (.inl e1))
        exact (htag _ h1 h2).trans (hE2.t1 g e1)
      · obtain ⟨h1, h2, _⟩ := hq g (.inr (.inr e1))
        exact (htag _ h1 h2).trans (hE2.t2 g e1)
  · have h1 : (rs.modify k fun r => { r with v1 := .slice a ks.length c }).map R.p = rs.map R.p := by
      apply List.ext_getElem?
      intro i
      rw [List.getElem?_map, List.getElem?_map, List.getElem?_modify]
      cases rs[i]? with
      | none => rfl
      | some y => by_cases hik : k = i <;> simp [hik]
    rw [h1]; exact h.nd
  · have h1 : (rs.modify k fun r => { r with v1 := .slice a ks.length c }).map R.p = rs.map R.p := by
      apply List.ext_getElem?
      intro i
      rw [List.getElem?_map, List.getElem?_map, List.getElem?_modify]
      cases rs[i]? with
      | none => rfl
      | some y => by_cases hik : k = i <;> simp [hik]
    rw [h1]; exact h.np
def RP_reads (w : World) (B P : Nat) (bk : Bk) (S : Nat → Prop) (who : Int) (l : List ByteArray) (e : Ending) (w' : World) : Prop := e = .returned (.int .i64 (readB bk who l).1) ∧ Acted w B P (readB bk who l).2 S w'
set_option maxRecDepth 100000 in
set_option maxHeartbeats 4000000 in
theorem read_any (w : World) (B P : Nat) (bk : Bk) (S : Nat → Prop) (who : Int) (l : List ByteArray) (ma : Option Addr) (mc : Nat) (h : BookAt w B P bk S) (hm : ∀ w' : World, KeptS S w w' → StrRow w'.heap.size w' ma l) (hn : bk.es.length ≤ 1000000) (hs : ∀ e ∈ bk.es, SortedS e.reads ∧ e.reads.length + l.length ≤ 1099511627776) (hll : l.length ≤ 1099511627776) :
    Calls Try.prog 10 #[.pointer (some ⟨P, 0, none⟩), .int .i64 who, .slice ma l.length mc] w (RP_reads w B P bk S who l) := by
  obtain ⟨tag, lv, rs, hI, hS⟩ := h
  have HF := Lib.hid (find_any w B P bk tag lv rs who hI (by omega))
  have HreadB : Hid (readB bk who l = match findB bk.es who with | none => (23, bk) | some k => (0, ⟨bk.es.modify k fun e => { e with reads := addS e.reads l }, bk.last⟩)) := Lib.hid rfl
  have HI := Lib.hid hI
  have HS := Lib.hid hS
  have HM := Lib.hid hm
  have HSS := Lib.hid hs
  obtain ⟨Q, hQ⟩ : ∃ Q, RP_reads w B P bk S who l = Q := ⟨_, rfl⟩
  rw [hQ]
  have HQ := Lib.hid hQ
  have HBA := Lib.hid (show BookAt w B P bk S from ⟨tag, lv, rs, hI, hS⟩)
  clear hI hS hm hs hQ
  go_enter Try.func10, Try.ntmps10
  go_wp2_with fail
  refine HF.out.mono ?_
  rintro e w1 ⟨rfl, ⟨h1, rfl⟩ | ⟨k, r, h1, h2, rfl⟩⟩
  · have HR : Hid (readB bk who l = (23, bk)) := Lib.hid (by have h := HreadB.out; rw [h1] at h; exact h)
    clear h1
    go_wp2_with fail
    rw [← HQ.out]
    unfold RP_reads
    rw [HR.out]
    exact ⟨by rfl, HBA.out.acted (Below.refl _ _)⟩
  · have HR : Hid (readB bk who l = (0, ⟨bk.es.modify k fun e => { e with reads := addS e.reads l }, bk.last⟩)) := Lib.hid (by have h := HreadB.out; rw [h1] at h; exact h)
    obtain ⟨e, he⟩ : ∃ e, bk.es[k]? = some e := get_some (by have := (List.getElem?_eq_some_iff.1 h2).1; have := HI.out.len; omega)
    have hE := HI.out.ent k r e h2 he
    have hse := HSS.out e (List.mem_of_getElem? he)
    have c3 := hE.blk.cell (i := 3) rfl
    have hBw : B ≤ w.heap.size := Nat.le_trans hE.base (Nat.le_of_lt hE.blk.lt)
    have HAD := Lib.hid (add_any e.reads l r.v1 ma mc B w hE.o1 (fun w' hg => HM.out w' ((KeptS.refl S w).grown hg (fun q e1 => .inl (HS.out q (.inr (.inr ⟨r, List.mem_of_getElem? h2, .inr (.inl e1)⟩)))))) hBw hse.1 hse.2 hll)
    have HE := Lib.hid hE
    have HRK := Lib.hid h2
    have HEK := Lib.hid he
    clear h1 h2 he hse hE
    go_wp2_with fail
    refine HAD.out.mono ?_
    rintro e' w1 ⟨a, c, rfl, hown, hg, hat⟩
    have hb1 : Block w1 r.p (cellsE e r.v1 r.v2) 55 := HE.out.blk.of_heap (hg.block r.p HE.out.blk.lt (fun e1 => by
      have h1 := HE.out.t1 r.p e1.symm
      rw [HE.out.tp] at h1
      injection h1 with _ h2
      cases h2))
    have f3 := hb1.free 3
    have d3 := hb1.cell (i := 3) rfl
    obtain ⟨tag', hset⟩ := HI.out.set_reads HRK.out HEK.out hown hg hat
    have HSET := Lib.hid hset
    have HG := Lib.hid (show _ ∧ _ ∧ _ from ⟨hown, hg, hat⟩)
    clear hown hg hat hset hb1 c3
    go_wp2_with fail
    rw [← HQ.out]
    unfold RP_reads
    rw [HR.out]
    refine ⟨by rfl, ⟨tag', lv, rs.modify k fun r => { r with v1 := .slice a (addS e.reads l).length c }, ?_, fun q hq => ?_⟩, ?_⟩
    · have h1 := HSET.out
      have h2 : (bk.es.modify k fun e => { e with reads := addS e.reads l }) = bk.es.modify k fun e' => { e' with reads := addS e.reads l } := by
        apply List.ext_getElem?
        intro i
        rw [List.getElem?_modify, List.getElem?_modify]
        by_cases hik : k = i
        · subst hik
          rw [HEK.out]
          rfl
        · simp only [if_neg hik]
      rw [h2]
      exact h1
    · have hsz : (w1.setCell ⟨r.p, 3, none⟩ (.slice a (addS e.reads l).length c)).heap.size = w1.heap.size := by simp [World.setCell]
      rcases hq with rfl | hq | ⟨r2, hr2, hq⟩
      · exact .inl (HS.out _ (.inl rfl))
      · exact .inl (HS.out _ (.inr (.inl hq)))
      · obtain ⟨i, hi⟩ := List.mem_iff_getElem?.1 hr2
        rcases modify_get hi with ⟨rfl, r3, hr3, rfl⟩ | ⟨hik, hr3⟩
        · have hm3 := List.mem_of_getElem? hr3
          rw [HRK.out] at hr3
          cases hr3
          rcases hq with hq | hq | hq
          all_goals first
            | exact .inl (HS.out _ (.inr (.inr ⟨r, hm3, .inl hq⟩)))
            | exact .inl (HS.out _ (.inr (.inr ⟨r, hm3, .inr (.inr hq)⟩)))
            | (have hlt := (HG.out.1.lt _ hq).2
               rcases HG.out.2.2 _ hq with e1 | e1
               · exact .inl (HS.out _ (.inr (.inr ⟨r, hm3, .inr (.inl e1)⟩)))
               · exact .inr ⟨e1, by rw [hsz]; exact hlt⟩)
        · exact .inl (HS.out _ (.inr (.inr ⟨r2, List.mem_of_getElem? hr3, hq⟩)))
    · have h1 : KeptS S w w1 := (KeptS.refl S w).grown HG.out.2.1 (fun q e1 => .inl (HS.out _ (.inr (.inr ⟨r, List.mem_of_getElem? HRK.out, .inr (.inl e1)⟩))))
      exact h1.setCell (.inl (HS.out _ (.inr (.inr ⟨r, List.mem_of_getElem? HRK.out, .inl rfl⟩)))) _

/-- An entry's row of touches, replaced. -/
theorem IsBook.set_touches {w w1 : World} {B P k c : Nat} {bk : Bk} {tag : Nat → Nat × Nat} {lv : Value} {rs : List R} {r : R} {e : E} {a : Option Addr} {ks : List ByteArray} (h : IsBook w B P bk tag lv rs) (hr : rs[k]? = some r) (he : bk.es[k]? = some e)
    (hown : w1.ownsRow B 9 1 (.slice a ks.length c) ks.length (ks.map Value.string)) (hg : w.grownBy w1 r.v2.ownBlock) (hat : ∀ g, (Value.slice a ks.length c).ownBlock = some g → r.v2.ownBlock = some g ∨ w.heap.size ≤ g) :
    ∃ tag', IsBook (w1.setCell ⟨r.p, 4, none⟩ (.slice a ks.length c)) B P ⟨bk.es.modify k fun e => { e with touches := ks }, bk.last⟩ tag' lv (rs.modify k fun r => { r with v2 := .slice a ks.length c }) := by
  have hE := h.ent k r e hr he
  have hrP : ∀ (i : Nat) r', rs[i]? = some r' → r'.p ≠ P := fun i r' hr' e => h.np (by rw [← e]; exact List.mem_map_of_mem (List.mem_of_getElem? hr'))
  have hrp : r.p < w.heap.size := hE.blk.lt
  have hold : ∀ (i : Nat) r' e', rs[i]? = some r' → bk.es[i]? = some e' → ∀ q, (q = r'.p ∨ r'.v1.ownBlock = some q ∨ r'.v2.ownBlock = some q) → (tag q).1 = r'.p ∧ q < w.heap.size := fun i r' e' hr' he' q hq => by
    have hE' := h.ent i r' e' hr' he'
    refine ⟨?_, (h.ownlt (.inr (.inr ⟨r', List.mem_of_getElem? hr', hq⟩))).2⟩
    rcases hq with rfl | hq | hq
    · rw [hE'.tp]
    · rw [hE'.t1 q hq]
    · rw [hE'.t2 q hq]
  have hVtag : ∀ g, r.v2.ownBlock = some g → tag g = (r.p, 2) := hE.t2
  -- a block that is not the row's stays
  have hk : ∀ q, q < w.heap.size → tag q ≠ (r.p, 2) → w1.heap[q]? = w.heap[q]? := fun q hq hn => hg.block q hq (fun e => hn (hVtag q e.symm))
  have hnew : ∀ g, (Value.slice a ks.length c).ownBlock = some g → g ≠ r.p ∧ ∀ q, q < w.heap.size → tag q ≠ (r.p, 2) → q ≠ g := fun g eg => by
    rcases hat g eg with e1 | e1
    · refine ⟨fun e2 => ?_, fun q _ hn e2 => hn (by rw [e2]; exact hVtag g e1)⟩
      have h1 := hVtag g e1
      rw [e2, hE.tp] at h1
      injection h1 with _ h2
      cases h2
    · exact ⟨by omega, fun q hq _ => by omega⟩
  have hsc : ∀ q, q ≠ r.p → (w1.setCell ⟨r.p, 4, none⟩ (.slice a ks.length c)).heap[q]? = w1.heap[q]? := fun q hq => Below.heap_setCell _ _ _ _ hq
  refine ⟨fun q => if (Value.slice a ks.length c).ownBlock = some q then (r.p, 2) else tag q, ?_⟩
  have htag : ∀ q, q < w.heap.size → tag q ≠ (r.p, 2) → (if (Value.slice a ks.length c).ownBlock = some q then (r.p, 2) else tag q) = tag q := fun q hq hn => if_neg (fun e1 => (hnew q e1).2 q hq hn rfl)
  have hPl := (h.ownlt (.inl rfl)).2
  have hPt : tag P ≠ (r.p, 2) := by rw [h.tP]; intro e; injection e with e1 _; exact hrP k r hr e1.symm
  have hlt : ∀ q, lv.ownBlock = some q → tag q ≠ (r.p, 2) ∧ q < w.heap.size ∧ q ≠ r.p := fun q e1 => by
    have h1 := h.tl q e1
    refine ⟨by rw [h1]; intro e; injection e with e1 _; exact hrP k r hr e1.symm, (h.row.lt q e1).2, fun e2 => ?_⟩
    rw [e2, hE.tp] at h1
    injection h1 with e3 _
    exact hrP k r hr e3
  refine ⟨?_, h.base, ?_, ?_, ?_, ?_, ?_, ?_, ?_⟩
  · exact h.blk.of_heap ((hsc P (fun e => hrP k r hr e.symm)).trans (hk P hPl hPt))
  · show (if _ then _ else _) = _
    rw [htag P hPl hPt]; exact h.tP
  · have h1 : (rs.modify k fun r => { r with v2 := .slice a ks.length c }).map R.ptr = rs.map R.ptr := by
      apply List.ext_getElem?
      intro i
      rw [List.getElem?_map, List.getElem?_map, List.getElem?_modify]
      cases rs[i]? with
      | none => rfl
      | some y => by_cases hik : k = i <;> simp [hik, R.ptr]
    rw [h1, List.length_modify]
    exact own_of_heap h.row fun q e1 => (hsc q (hlt q e1).2.2).trans (hk q (hlt q e1).2.1 (hlt q e1).1)
  · intro g e1
    show (if _ then _ else _) = _
    rw [htag g (hlt g e1).2.1 (hlt g e1).1]; exact h.tl g e1
  · rw [List.length_modify, List.length_modify]; exact h.len
  · intro i r2 e2 hr2 he2
    rcases modify_get hr2 with ⟨rfl, r3, hr3, rfl⟩ | ⟨hik, hr3⟩
    · rw [hr] at hr3
      cases hr3
      rcases modify_get he2 with ⟨_, e3, he3, rfl⟩ | ⟨hik, _⟩
      · rw [he] at he3
        cases he3
        have hO : ∀ q, r.v1.ownBlock = some q → q < w.heap.size ∧ tag q ≠ (r.p, 2) ∧ q ≠ r.p := fun q eq => by
          have h1 := hE.t1 q eq
          refine ⟨(hE.o1.lt q eq).2, (by rw [h1]; intro e; injection e with _ e2; cases e2), fun e2 => ?_⟩
          rw [e2, hE.tp] at h1
          injection h1 with _ e2
          cases e2
        have hb1 : Block w1 r.p (cellsE e r.v1 r.v2) 55 := hE.blk.of_heap (hk r.p hrp (by rw [hE.tp]; intro e; injection e with _ e2; cases e2))
        have hb2 := hb1.set 4 (.slice a ks.length c)
        refine ⟨hb2.of_heap rfl, hE.base, (htag _ hrp (by rw [hE.tp]; intro e; injection e with _ e2; cases e2)).trans hE.tp, ?_, fun g e1 => ?_, own_setCell hown (fun e1 => (hnew _ e1).1 rfl) _, fun g e1 => if_pos e1⟩
        · exact own_of_heap hE.o1 fun q eq => (hsc q (hO q eq).2.2).trans (hk q (hO q eq).1 (hO q eq).2.1)
        · obtain ⟨h1, h2, _⟩ := hO g e1
          exact (htag _ h1 h2).trans (hE.t1 g e1)
      · exact absurd rfl hik
    · rcases modify_get he2 with ⟨hik2, _⟩ | ⟨_, he3⟩
      · exact absurd hik2 hik
      have hE2 := h.ent i r2 e2 hr3 he3
      have hne : r2.p ≠ r.p := fun e1 => hik ((h.inj hr3 hr).1 e1)
      have ho := hold i r2 e2 hr3 he3
      have hq : ∀ q, (q = r2.p ∨ r2.v1.ownBlock = some q ∨ r2.v2.ownBlock = some q) → q < w.heap.size ∧ tag q ≠ (r.p, 2) ∧ q ≠ r.p := fun q hq => by
        obtain ⟨h1, h2⟩ := ho q hq
        refine ⟨h2, fun e1 => hne (by rw [e1] at h1; exact h1.symm), fun e1 => hne ?_⟩
        rw [e1, hE.tp] at h1
        exact h1.symm
      have hE3 : IsE (w1.setCell ⟨r.p, 4, none⟩ (.slice a ks.length c)) B tag r2 e2 := hE2.same fun q hq' => (hsc q (hq q hq').2.2).trans (hk q (hq q hq').1 (hq q hq').2.1)
      refine ⟨hE3.blk, hE3.base, ?_, hE3.o1, fun g e1 => ?_, hE3.o2, fun g e1 => ?_⟩
      · obtain ⟨h1, h2, _⟩ := hq r2.p (.inl rfl)
        exact (htag _ h1 h2).trans hE2.tp
      · obtain ⟨h1, h2, _⟩ := hq g (.inr (.inl e1))
        exact (htag _ h1 h2).trans (hE2.t1 g e1)
      · obtain ⟨h1, h2, _⟩ := hq g (.inr (.inr e1))
        exact (htag _ h1 h2).trans (hE2.t2 g e1)
  · have h1 : (rs.modify k fun r => { r with v2 := .slice a ks.length c }).map R.p = rs.map R.p := by
      apply List.ext_getElem?
      intro i
      rw [List.getElem?_map, List.getElem?_map, List.getElem?_modify]
      cases rs[i]? with
      | none => rfl
      | some y => by_cases hik : k = i <;> simp [hik]
    rw [h1]; exact h.nd
  · have h1 : (rs.modify k fun r => { r with v2 := .slice a ks.length c }).map R.p = rs.map R.p := by
      apply List.ext_getElem?
      intro i
      rw [List.getElem?_map, List.getElem?_map, List.getElem?_modify]
      cases rs[i]? with
      | none => rfl
      | some y => by_cases hik : k = i <;> simp [hik]
    rw [h1]; exact h.np
def RP_touches (w : World) (B P : Nat) (bk : Bk) (S : Nat → Prop) (who : Int) (l : List ByteArray) (e : Ending) (w' : World) : Prop := e = .returned (.int .i64 (touchB bk who l).1) ∧ Acted w B P (touchB bk who l).2 S w'
set_option maxRecDepth 100000 in
set_option maxHeartbeats 4000000 in
theorem touch_any (w : World) (B P : Nat) (bk : Bk) (S : Nat → Prop) (who : Int) (l : List ByteArray) (ma : Option Addr) (mc : Nat) (h : BookAt w B P bk S) (hm : ∀ w' : World, KeptS S w w' → StrRow w'.heap.size w' ma l) (hn : bk.es.length ≤ 1000000) (hs : ∀ e ∈ bk.es, SortedS e.touches ∧ e.touches.length + l.length ≤ 1099511627776) (hll : l.length ≤ 1099511627776) :
    Calls Try.prog 12 #[.pointer (some ⟨P, 0, none⟩), .int .i64 who, .slice ma l.length mc] w (RP_touches w B P bk S who l) := by
  obtain ⟨tag, lv, rs, hI, hS⟩ := h
  have HF := Lib.hid (find_any w B P bk tag lv rs who hI (by omega))
  have HtouchB : Hid (touchB bk who l = match findB bk.es who with | none => (23, bk) | some k => (0, ⟨bk.es.modify k fun e => { e with touches := addS e.touches l }, bk.last⟩)) := Lib.hid rfl
  have HI := Lib.hid hI
  have HS := Lib.hid hS
  have HM := Lib.hid hm
  have HSS := Lib.hid hs
  obtain ⟨Q, hQ⟩ : ∃ Q, RP_touches w B P bk S who l = Q := ⟨_, rfl⟩
  rw [hQ]
  have HQ := Lib.hid hQ
  have HBA := Lib.hid (show BookAt w B P bk S from ⟨tag, lv, rs, hI, hS⟩)
  clear hI hS hm hs hQ
  go_enter Try.func12, Try.ntmps12
  go_wp2_with fail
  refine HF.out.mono ?_
  rintro e w1 ⟨rfl, ⟨h1, rfl⟩ | ⟨k, r, h1, h2, rfl⟩⟩
  · have HR : Hid (touchB bk who l = (23, bk)) := Lib.hid (by have h := HtouchB.out; rw [h1] at h; exact h)
    clear h1
    go_wp2_with fail
    rw [← HQ.out]
    unfold RP_touches
    rw [HR.out]
    exact ⟨by rfl, HBA.out.acted (Below.refl _ _)⟩
  · have HR : Hid (touchB bk who l = (0, ⟨bk.es.modify k fun e => { e with touches := addS e.touches l }, bk.last⟩)) := Lib.hid (by have h := HtouchB.out; rw [h1] at h; exact h)
    obtain ⟨e, he⟩ : ∃ e, bk.es[k]? = some e := get_some (by have := (List.getElem?_eq_some_iff.1 h2).1; have := HI.out.len; omega)
    have hE := HI.out.ent k r e h2 he
    have hse := HSS.out e (List.mem_of_getElem? he)
    have c3 := hE.blk.cell (i := 4) rfl
    have hBw : B ≤ w.heap.size := Nat.le_trans hE.base (Nat.le_of_lt hE.blk.lt)
    have HAD := Lib.hid (add_any e.touches l r.v2 ma mc B w hE.o2 (fun w' hg => HM.out w' ((KeptS.refl S w).grown hg (fun q e1 => .inl (HS.out q (.inr (.inr ⟨r, List.mem_of_getElem? h2, .inr (.inr e1)⟩)))))) hBw hse.1 hse.2 hll)
    have HE := Lib.hid hE
    have HRK := Lib.hid h2
    have HEK := Lib.hid he
    clear h1 h2 he hse hE
    go_wp2_with fail
    refine HAD.out.mono ?_
    rintro e' w1 ⟨a, c, rfl, hown, hg, hat⟩
    have hb1 : Block w1 r.p (cellsE e r.v1 r.v2) 55 := HE.out.blk.of_heap (hg.block r.p HE.out.blk.lt (fun e1 => by
      have h1 := HE.out.t2 r.p e1.symm
      rw [HE.out.tp] at h1
      injection h1 with _ h2
      cases h2))
    have f3 := hb1.free 4
    have d3 := hb1.cell (i := 4) rfl
    obtain ⟨tag', hset⟩ := HI.out.set_touches HRK.out HEK.out hown hg hat
    have HSET := Lib.hid hset
    have HG := Lib.hid (show _ ∧ _ ∧ _ from ⟨hown, hg, hat⟩)
    clear hown hg hat hset hb1 c3
    go_wp2_with fail
    rw [← HQ.out]
    unfold RP_touches
    rw [HR.out]
    refine ⟨by rfl, ⟨tag', lv, rs.modify k fun r => { r with v2 := .slice a (addS e.touches l).length c }, ?_, fun q hq => ?_⟩, ?_⟩
    · have h1 := HSET.out
      have h2 : (bk.es.modify k fun e => { e with touches := addS e.touches l }) = bk.es.modify k fun e' => { e' with touches := addS e.touches l } := by
        apply List.ext_getElem?
        intro i
        rw [List.getElem?_modify, List.getElem?_modify]
        by_cases hik : k = i
        · subst hik
          rw [HEK.out]
          rfl
        · simp only [if_neg hik]
      rw [h2]
      exact h1
    · have hsz : (w1.setCell ⟨r.p, 4, none⟩ (.slice a (addS e.touches l).length c)).heap.size = w1.heap.size := by simp [World.setCell]
      rcases hq with rfl | hq | ⟨r2, hr2, hq⟩
      · exact .inl (HS.out _ (.inl rfl))
      · exact .inl (HS.out _ (.inr (.inl hq)))
      · obtain ⟨i, hi⟩ := List.mem_iff_getElem?.1 hr2
        rcases modify_get hi with ⟨rfl, r3, hr3, rfl⟩ | ⟨hik, hr3⟩
        · have hm3 := List.mem_of_getElem? hr3
          rw [HRK.out] at hr3
          cases hr3
          rcases hq with hq | hq | hq
          all_goals first
            | exact .inl (HS.out _ (.inr (.inr ⟨r, hm3, .inl hq⟩)))
            | exact .inl (HS.out _ (.inr (.inr ⟨r, hm3, .inr (.inl hq)⟩)))
            | (have hlt := (HG.out.1.lt _ hq).2
               rcases HG.out.2.2 _ hq with e1 | e1
               · exact .inl (HS.out _ (.inr (.inr ⟨r, hm3, .inr (.inr e1)⟩)))
               · exact .inr ⟨e1, by rw [hsz]; exact hlt⟩)
        · exact .inl (HS.out _ (.inr (.inr ⟨r2, List.mem_of_getElem? hr3, hq⟩)))
    · have h1 : KeptS S w w1 := (KeptS.refl S w).grown HG.out.2.1 (fun q e1 => .inl (HS.out _ (.inr (.inr ⟨r, List.mem_of_getElem? HRK.out, .inr (.inr e1)⟩))))
      exact h1.setCell (.inl (HS.out _ (.inr (.inr ⟨r, List.mem_of_getElem? HRK.out, .inl rfl⟩)))) _

end Go.Proofs.Ytaonfacbmolklaa

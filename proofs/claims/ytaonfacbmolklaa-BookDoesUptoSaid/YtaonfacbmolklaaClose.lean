/- The program's book: Close. Conditions: sizes are small; one that is open is not marked out. -/
import Derived.Test.YtaonfacbmolklaaDrop
namespace Go.Proofs.Ytaonfacbmolklaa
open Go.RowKit
set_option linter.unusedSimpArgs false
set_option linter.unusedVariables false

/-- A field of an entry, replaced. -/
theorem IsBook.set_cell {w : World} {B P k i : Nat} {bk : Bk} {tag : Nat → Nat × Nat} {lv v : Value} {rs : List R} {r : R} (h : IsBook w B P bk tag lv rs) (hr : rs[k]? = some r) (f : E → E)
    (hf : ∀ e v1 v2, cellsE (f e) v1 v2 = (cellsE e v1 v2).set i v) (hfr : ∀ e, (f e).reads = e.reads ∧ (f e).touches = e.touches) :
    IsBook (w.setCell ⟨r.p, i, none⟩ v) B P ⟨bk.es.modify k f, bk.last⟩ tag lv rs := by
  obtain ⟨e, he⟩ : ∃ e, bk.es[k]? = some e := get_some (by have := (List.getElem?_eq_some_iff.1 hr).1; have := h.len; omega)
  have hE := h.ent k r e hr he
  have hrP : ∀ (i : Nat) r', rs[i]? = some r' → r'.p ≠ P := fun i r' hr' e => h.np (by rw [← e]; exact List.mem_map_of_mem (List.mem_of_getElem? hr'))
  have hsc : ∀ q, q ≠ r.p → (w.setCell ⟨r.p, i, none⟩ v).heap[q]? = w.heap[q]? := fun q hq => Below.heap_setCell _ _ _ _ hq
  have hnt : ∀ q, tag q ≠ (r.p, 0) → q ≠ r.p := fun q hq e => hq (by rw [e, hE.tp])
  refine ⟨h.blk.of_heap (hsc P (fun e => hrP k r hr e.symm)), h.base, h.tP, ?_, h.tl, by rw [List.length_modify]; exact h.len, ?_, h.nd, h.np⟩
  · exact own_setCell h.row (fun e => hnt r.p (by rw [h.tl _ e]; intro e2; injection e2 with _ e3; cases e3) rfl) _
  · intro j r' e' hr' he'
    rcases modify_get he' with ⟨rfl, y, hy, rfl⟩ | ⟨hj, hy⟩
    · obtain rfl : r = r' := by rw [hr] at hr'; injection hr'
      obtain rfl : e = y := by rw [he] at hy; injection hy
      refine ⟨?_, hE.base, hE.tp, ?_, hE.t1, ?_, hE.t2⟩
      · rw [hf]; exact hE.blk.set i _
      · rw [(hfr e).1]
        exact own_setCell hE.o1 (fun e2 => hnt r.p (by rw [hE.t1 _ e2]; intro e3; injection e3 with _ e4; cases e4) rfl) _
      · rw [(hfr e).2]
        exact own_setCell hE.o2 (fun e2 => hnt r.p (by rw [hE.t2 _ e2]; intro e3; injection e3 with _ e4; cases e4) rfl) _
    · have hE' := h.ent j r' e' hr' hy
      have hne : r'.p ≠ r.p := fun e2 => hj ((h.inj hr' hr).1 e2)
      refine hE'.same fun q hq => hsc q ?_
      rcases hq with rfl | hq | hq
      · exact hne
      · exact hnt q (by rw [hE'.t1 q hq]; intro e3; injection e3 with e4 _; exact hne e4)
      · exact hnt q (by rw [hE'.t2 q hq]; intro e3; injection e3 with e4 _; exact hne e4)
theorem IsBook.set_last {w : World} {B P : Nat} {bk : Bk} {tag : Nat → Nat × Nat} {lv : Value} {rs : List R} (h : IsBook w B P bk tag lv rs) (x : Int) : IsBook (w.setCell ⟨P, 1, none⟩ (.int .i64 x)) B P ⟨bk.es, x⟩ tag lv rs := by
  have hsc : ∀ q, q ≠ P → (w.setCell ⟨P, 1, none⟩ (.int .i64 x)).heap[q]? = w.heap[q]? := fun q hq => Below.heap_setCell _ _ _ _ hq
  have hnt : ∀ q, tag q ≠ (P, 0) → q ≠ P := fun q hq e => hq (by rw [e, h.tP])
  refine ⟨h.blk.set 1 _, h.base, h.tP, own_setCell h.row (fun e => hnt P (by rw [h.tl _ e]; intro e2; injection e2 with _ e3; cases e3) rfl) _, h.tl, h.len, ?_, h.nd, h.np⟩
  intro j r' e' hr' he'
  have hE' := h.ent j r' e' hr' he'
  have hne : r'.p ≠ P := fun e => h.np (by rw [← e]; exact List.mem_map_of_mem (List.mem_of_getElem? hr'))
  refine hE'.same fun q hq => hsc q ?_
  rcases hq with rfl | hq | hq
  · exact hne
  · exact hnt q (by rw [hE'.t1 q hq]; intro e3; injection e3 with e4 _; exact hne e4)
  · exact hnt q (by rw [hE'.t2 q hq]; intro e3; injection e3 with e4 _; exact hne e4)
def outE (es : List E) (k : Nat) (b : Bool) : List E := es.modify k fun e => { e with out := b }
theorem outE_get (es : List E) (k : Nat) (b : Bool) (i : Nat) : (outE es k b)[i]? = (es[i]?).map fun e => if i = k then { e with out := b } else e := by
  unfold outE
  rw [List.getElem?_modify]
  by_cases h : k = i
  · subst h; simp
  · cases es[i]? with
    | none => rfl
    | some x =>
      have h2 : ¬ i = k := fun e => h e.symm
      simp [h, h2]
theorem outE_len (es : List E) (k : Nat) (b : Bool) : (outE es k b).length = es.length := by unfold outE; rw [List.length_modify]
theorem besideB_outE (es : List E) (k : Nat) (b : Bool) (i j : Nat) : besideB (outE es k b) i j = besideB es i j := by
  unfold besideB
  rw [outE_get, outE_get]
  cases es[i]? <;> cases es[j]? <;> simp
  split <;> split <;> simp
theorem aheadB_outE (es : List E) (k : Nat) (b : Bool) (i j : Nat) : aheadB (outE es k b) i j = aheadB es i j := by
  unfold aheadB
  rw [outE_get, outE_get]
  cases es[i]? <;> cases es[j]? <;> simp
  split <;> split <;> simp
theorem outE_self {es : List E} {k : Nat} {e : E} (h : es[k]? = some e) : outE es k e.out = es := by
  apply List.ext_getElem?
  intro i
  rw [outE_get]
  by_cases hi : i = k
  · subst hi; rw [h]; simp
  · cases es[i]? <;> simp [hi]
theorem outE_outE (es : List E) (k : Nat) (b c : Bool) : outE (outE es k b) k c = outE es k c := by
  apply List.ext_getElem?
  intro i
  rw [outE_get, outE_get, outE_get]
  cases es[i]? with
  | none => rfl
  | some x => simp; split <;> simp
theorem findIdx_get {p : E → Bool} : ∀ {l l' : List E}, l.length = l'.length → (∀ (i : Nat) e e', l[i]? = some e → l'[i]? = some e' → p e = p e') → l.findIdx? p = l'.findIdx? p
  | [], [], _, _ => rfl
  | [], _ :: _, h, _ => by simp at h
  | _ :: _, [], h, _ => by simp at h
  | a :: l, a' :: l', h, hp => by
    rw [List.findIdx?_cons, List.findIdx?_cons, hp 0 a a' rfl rfl, findIdx_get (l := l) (l' := l') (by simpa using h) (fun i e e' h1 h2 => hp (i + 1) e e' (by simpa using h1) (by simpa using h2))]
theorem findB_outE (es : List E) (k : Nat) (b : Bool) (who : Int) : findB (outE es k b) who = findB es who := by
  unfold findB
  refine findIdx_get (outE_len _ _ _) fun i e e' h1 h2 => ?_
  rw [outE_get, h2] at h1
  obtain rfl : (if i = k then { e' with out := b } else e') = e := by simpa using h1
  split <;> rfl
theorem erase_outE (es : List E) (k : Nat) (b : Bool) : (outE es k b).eraseIdx k = es.eraseIdx k := by
  apply List.ext_getElem?
  intro i
  rw [List.getElem?_eraseIdx, List.getElem?_eraseIdx, outE_get, outE_get]
  by_cases h1 : i < k
  · rw [if_pos h1, if_pos h1]
    cases es[i]? <;> simp
    omega
  · rw [if_neg h1, if_neg h1]
    cases es[i + 1]? <;> simp
    omega
theorem dropB_outE (bk : Bk) (k : Nat) (b : Bool) (who : Int) (h : findB bk.es who = some k) : (dropB ⟨outE bk.es k b, bk.last⟩ who) = (dropB bk who) := by
  unfold dropB
  rw [findB_outE, h]
  show ((0 : Int), (⟨forgetB ((outE bk.es k b).eraseIdx k), bk.last⟩ : Bk)) = _
  rw [erase_outE]
def conTo (es : List E) (k j : Nat) : Bool := (List.range j).any (conB es k)
theorem conTo_succ (es : List E) (k j : Nat) : conTo es k (j + 1) = (conTo es k j || conB es k j) := by
  unfold conTo; rw [List.range_succ, List.any_append]; simp
theorem SmallB.outE {bk : Bk} (h : SmallB bk) (k : Nat) (b : Bool) : SmallB ⟨outE bk.es k b, bk.last⟩ := by
  refine ⟨by show (Go.Proofs.Ytaonfacbmolklaa.outE bk.es k b).length ≤ _; rw [outE_len]; exact h.1, fun e he => ?_⟩
  obtain ⟨i, hi⟩ := List.mem_iff_getElem?.1 he
  rw [outE_get] at hi
  cases hx : bk.es[i]? with
  | none => rw [hx] at hi; cases hi
  | some x =>
    rw [hx] at hi
    have hx' := h.2 x (List.mem_of_getElem? hx)
    obtain rfl : (if i = k then { x with out := b } else x) = e := by simpa using hi
    split <;> exact hx'
theorem inB_outE (es : List E) (k : Nat) (b : Bool) (i : Nat) : inB (Go.Proofs.Ytaonfacbmolklaa.outE es k b) i = inB es i := by
  unfold inB
  rw [outE_len]
  simp only [besideB_outE, aheadB_outE]
def CloseP (w : World) (B P : Nat) (bk : Bk) (S : Nat → Prop) (who end_ : Int) (e : Ending) (w' : World) : Prop := e = .returned (.int .i64 (closeB bk who end_).1) ∧ Acted w B P (closeB bk who end_).2 S w'
set_option maxRecDepth 100000 in
set_option maxHeartbeats 4000000 in
theorem close_any (w : World) (B P : Nat) (bk : Bk) (S : Nat → Prop) (who end_ : Int) (h : BookAt w B P bk S) (hn : bk.es.length ≤ 1000000) (hsm : SmallB bk) (hop : ∀ e ∈ bk.es, e.end_ = 0 → e.out = false) :
    Calls Try.prog 14 #[.pointer (some ⟨P, 0, none⟩), .int .i64 who, .int .i64 end_] w (CloseP w B P bk S who end_) := by
  have HBA := Lib.hid h
  obtain ⟨tag, lv, rs, hI, hS⟩ := h
  have HF := Lib.hid (find_any w B P bk tag lv rs who hI (by omega))
  have HI := Lib.hid hI
  have HS := Lib.hid hS
  have HSM := Lib.hid hsm
  have HOP := Lib.hid hop
  have c1 := hI.blk.cell (i := 1) rfl
  obtain ⟨Q, hQ⟩ : ∃ Q, CloseP w B P bk S who end_ = Q := ⟨_, rfl⟩
  have HQ := Lib.hid hQ
  rw [hQ]
  clear hI hS hQ hsm hop
  obtain ⟨last, hlast⟩ : ∃ l, bk.last = l := ⟨_, rfl⟩
  have HLS := Lib.hid hlast
  rw [hlast] at c1
  clear hlast
  go_enter Try.func14, Try.ntmps14
  go_wp2_with fail
  refine HF.out.mono ?_
  rintro e w1 ⟨rfl, ⟨h1, rfl⟩ | ⟨k, r, h1, h2, rfl⟩⟩
  · have HR : Hid (closeB bk who end_ = (23, bk)) := Lib.hid (by unfold closeB; rw [h1])
    clear h1
    go_wp2_with fail
    rw [← HQ.out]
    unfold CloseP
    rw [HR.out]
    exact ⟨by rfl, HBA.out.acted (Below.refl _ _)⟩
  · have HK := Lib.hid h1
    have HRK := Lib.hid h2
    by_cases hle : end_ ≤ last
    · have HR : Hid (closeB bk who end_ = (21, bk)) := Lib.hid (by unfold closeB; rw [h1]; show (if end_ ≤ bk.last then _ else _) = _; rw [if_pos (by rw [HLS.out]; exact hle)])
      clear h1 h2
      go_wp2_with fail
      rw [← HQ.out]
      unfold CloseP
      rw [HR.out]
      exact ⟨by rfl, HBA.out.acted (Below.refl _ _)⟩
    · have HR : Hid (closeB bk who end_ = if badB bk.es k then (7, (dropB bk who).2) else (0, ⟨forgetB (bk.es.modify k fun e => { e with end_ := end_, out := (List.range bk.es.length).any (conB bk.es k) }), end_⟩)) := Lib.hid (by unfold closeB; rw [h1]; show (if end_ ≤ bk.last then _ else _) = _; rw [if_neg (by rw [HLS.out]; exact hle)])
      have HSI := Lib.hid (sides_any w B P bk tag lv rs k r HI.out h2 HSM.out)
      obtain ⟨ob, hob⟩ : ∃ ob, outB bk.es k = ob := ⟨_, rfl⟩
      rw [hob] at HSI
      have hled : decide (end_ ≤ last) = false := decide_eq_false hle
      clear h1 h2 hob
      go_wp2_with fail
      refine HSI.out.mono ?_
      rintro e w2 ⟨rfl, hb2⟩
      obtain ⟨e, he⟩ : ∃ e, bk.es[k]? = some e := get_some (by have := (List.getElem?_eq_some_iff.1 HRK.out).1; have := HI.out.len; omega)
      have hopen : e.end_ = 0 ∧ e.who = who := by
        have h3 := HK.out
        unfold findB at h3
        rw [List.findIdx?_eq_some_iff_getElem] at h3
        obtain ⟨h4, h5, _⟩ := h3
        rw [List.getElem?_eq_getElem h4] at he
        injection he with he
        rw [he] at h5
        have := of_decide_eq_true h5
        exact ⟨this.2, this.1⟩
      have ho : e.out = false := HOP.out e (List.mem_of_getElem? he) hopen.1
      have hself : outE bk.es k false = bk.es := by rw [← ho]; exact outE_self he
      obtain ⟨a, c, rfl⟩ := HI.out.form
      have hI2 : IsBook w2 B P ⟨outE bk.es k false, last⟩ tag (.slice a bk.es.length c) rs := by rw [hself]; have h := HI.out.below hb2; rw [show bk = ⟨bk.es, bk.last⟩ from rfl, HLS.out] at h; exact h
      have x0 := hI2.blk.cell (i := 0) rfl
      have HI2 := Lib.hid hI2
      have HK2 := Lib.hid (KeptS.of_below (S := S) hb2)
      have HE := Lib.hid he
      have HOPN := Lib.hid hopen
      have HLEN : Hid (rs.length = bk.es.length) := Lib.hid HI.out.len
      obtain ⟨n, hl⟩ : ∃ n, bk.es.length = n := ⟨_, rfl⟩
      have HL := Lib.hid hl
      rw [hl] at x0 HI2 HLEN hn HS
      obtain ⟨I, hI⟩ : ∃ I, inB bk.es k = I := ⟨_, rfl⟩
      have HII := Lib.hid hI
      rw [hI]
      clear hI hl he hopen ho hself hI2 hb2 hle HSI
      go_wp2_with fail
      clear c1 x0
      have HCA : Hid (∀ (u : World) (o : Bool) (j : Nat) (s : R) (eu : E), IsBook u B P ⟨outE bk.es k o, last⟩ tag (.slice a n c) rs → rs[j]? = some s → bk.es[j]? = some eu →
          (Calls Try.prog 32 #[.pointer (some ⟨s.p, 0, none⟩), .pointer (some ⟨r.p, 0, none⟩)] u fun e w' => e = .returned (.bool (besideB bk.es j k)) ∧ Below u.heap.size u w') ∧
          (Calls Try.prog 33 #[.pointer (some ⟨r.p, 0, none⟩), .pointer (some ⟨s.p, 0, none⟩)] u fun e w' => e = .returned (.bool (aheadB bk.es k j)) ∧ Below u.heap.size u w')) := Lib.hid (fun u o j s eu hu hs heu => by
        have g1 : (outE bk.es k o)[k]? = some { e with out := o } := by rw [outE_get, HE.out]; simp
        obtain ⟨ev, hev⟩ : ∃ ev, (outE bk.es k o)[j]? = some ev := get_some (by rw [outE_len]; exact (List.getElem?_eq_some_iff.1 heu).1)
        have hs2 := (HSM.out.outE k o).2
        have h1 := beside_any u B P _ tag _ rs j k s r ev { e with out := o } hu hs HRK.out hev g1
        have h2 := ahead_any u B P _ tag _ rs k j r s { e with out := o } ev hu HRK.out hs g1 hev (hs2 _ (List.mem_of_getElem? g1)).1 (hs2 _ (List.mem_of_getElem? hev)).2
        rw [besideB_outE] at h1
        rw [aheadB_outE] at h2
        exact ⟨h1, h2⟩)
      have HDR : Hid (∀ (u : World) (o : Bool), IsBook u B P ⟨outE bk.es k o, last⟩ tag (.slice a n c) rs → Calls Try.prog 16 #[.pointer (some ⟨P, 0, none⟩), .int .i64 who] u fun e w' => e = .returned (.int .i64 0) ∧ Acted u B P (dropB bk who).2 S w') := Lib.hid (fun u o hu => by
        have h1 := drop_any u B P ⟨outE bk.es k o, last⟩ S who ⟨tag, _, rs, hu, HS.out⟩ (by show (outE bk.es k o).length ≤ _; rw [outE_len, HL.out]; exact hn)
        have h2 : dropB ⟨outE bk.es k o, last⟩ who = dropB bk who := by rw [← HLS.out]; exact dropB_outE bk k o who HK.out
        have h3 : (dropB bk who).1 = 0 := by unfold dropB; rw [HK.out]
        unfold DropP at h1
        rwa [h2, h3] at h1)
      go_loopw [34] (fun jv wr => ∃ (j : Nat) (o : Bool), jv = .int .i64 j ∧ j ≤ n ∧ Hid (o = conTo bk.es k j) ∧ Hid (IsBook wr B P ⟨outE bk.es k o, last⟩ tag (.slice a n c) rs) ∧ Hid (KeptS S w wr) ∧ Hid (∀ (i : Nat) x, i < j → conB bk.es k i = true → bk.es[i]? = some x → I = false ∧ x.out = false)) (fun jv _ => n - (intOf jv).toNat)
      case atStart => exact ⟨0, false, rfl, Nat.zero_le _, Lib.hid rfl, HI2, HK2, Lib.hid (fun i x hi => absurd hi (Nat.not_lt_zero _))⟩
      case round =>
        obtain ⟨j, o, rfl, hj, HO, HIR, HKR, HBD⟩ := hrel
        by_cases hlt : j < n
        · have hlt' : (j : Int) < n := by omega
          have hj0 : (0 : Int) ≤ (j : Int) := by omega
          obtain ⟨s, hs⟩ : ∃ s, rs[j]? = some s := get_some (by have := HLEN.out; omega)
          obtain ⟨eu, heu⟩ : ∃ eu, bk.es[j]? = some eu := get_some (by have := HL.out; omega)
          obtain ⟨ev, hev⟩ : ∃ ev, (outE bk.es k o)[j]? = some ev := get_some (by rw [outE_len]; exact (List.getElem?_eq_some_iff.1 heu).1)
          have hevu : ev = if j = k then { eu with out := o } else eu := by rw [outE_get, heu] at hev; simpa using hev.symm
          have hee : ev.end_ = eu.end_ := by rw [hevu]; split <;> rfl
          have hEv := HIR.out.ent j s ev hs hev
          obtain ⟨lb, c', hac, hlb⟩ := HIR.out.ptr hs
          injection hac with ha hx1 hx2
          clear hx1 hx2
          subst ha
          have x2 := hEv.blk.cell (i := 2) rfl
          rw [hee] at x2
          have HC := Lib.hid (fun u o hu => HCA.out u o j s eu hu hs heu)
          have HEV := Lib.hid hEv
          have HHS := Lib.hid hs
          have HEU := Lib.hid heu
          have HEVU := Lib.hid hevu
          have hcon : conB bk.es k j = (decide (¬ eu.end_ = 0) && besideB bk.es j k && aheadB bk.es k j) := by unfold conB; rw [heu]
          have HCS := Lib.hid (conTo_succ bk.es k j)
          have hbk : besideB bk.es j k = true → ¬ j = k := fun h => by unfold besideB at h; rw [heu, HE.out] at h; exact (of_decide_eq_true h).1
          have HBKN := Lib.hid hbk
          have HHEV := Lib.hid hev
          clear hs heu hev hevu hee hEv hbk
          obtain ⟨ee, hee⟩ : ∃ ee, eu.end_ = ee := ⟨_, rfl⟩
          obtain ⟨bb, hbb⟩ : ∃ bb, besideB bk.es j k = bb := ⟨_, rfl⟩
          obtain ⟨kk, hkk⟩ : ∃ kk, aheadB bk.es k j = kk := ⟨_, rfl⟩
          rw [hee] at x2
          rw [hee, hbb, hkk] at hcon
          have HCON := Lib.hid hcon
          rw [hbb] at HBKN
          have HC1 := Lib.hid (fun u o hu => by have h := (HC.out u o hu).1; rwa [hbb] at h)
          have HC2 := Lib.hid (fun u o hu => by have h := (HC.out u o hu).2; rwa [hkk] at h)
          clear hee hbb hkk hcon HC
          by_cases h0 : ee = 0
          · subst h0
            have hcf : conB bk.es k j = false := by rw [HCON.out]; simp
            have HN1 : Hid (o = conTo bk.es k (j + 1)) := Lib.hid (by rw [HCS.out, hcf, Bool.or_false]; exact HO.out)
            have HN2 : Hid (∀ (i : Nat) x, i < j + 1 → conB bk.es k i = true → bk.es[i]? = some x → I = false ∧ x.out = false) := Lib.hid (fun i x hi hc hx => by
              by_cases hij : i = j
              · subst hij; rw [hcf] at hc; cases hc
              · exact HBD.out i x (by omega) hc hx)
            clear hcf
            go_wp2_with fail
            go_roundw
            case rel => exact ⟨j + 1, o, by go_num, by omega, HN1, HIR, HKR, HN2⟩
            case measure => simp [intOf]; omega
          · have h0' : (ee == 0) = false := by simpa using h0
            have HH0 := Lib.hid h0
            clear h0
            go_wp2_with fail
            refine (HC1.out wr o HIR.out).mono ?_
            rintro e1 w3 ⟨rfl, hb3⟩
            have HI3 := Lib.hid (HIR.out.below hb3)
            have HK3 : Hid (KeptS S w w3) := Lib.hid (HKR.out.trans (KeptS.of_below hb3) (fun x h => .inl h))
            clear hb3 x2 hlb
            cases bb with
            | false =>
              have hcf : conB bk.es k j = false := by rw [HCON.out]; simp
              have HN1 : Hid (o = conTo bk.es k (j + 1)) := Lib.hid (by rw [HCS.out, hcf, Bool.or_false]; exact HO.out)
              have HN2 : Hid (∀ (i : Nat) x, i < j + 1 → conB bk.es k i = true → bk.es[i]? = some x → I = false ∧ x.out = false) := Lib.hid (fun i x hi hc hx => by
                by_cases hij : i = j
                · subst hij; rw [hcf] at hc; cases hc
                · exact HBD.out i x (by omega) hc hx)
              clear hcf
              go_wp2_with fail
              go_roundw
              case rel => exact ⟨j + 1, o, by go_num, by omega, HN1, HI3, HK3, HN2⟩
              case measure => simp [intOf]; omega
            | true =>
              have hjk := HBKN.out rfl
              go_wp2_with fail
              refine (HC2.out w3 o HI3.out).mono ?_
              rintro e1 w4 ⟨rfl, hb4⟩
              have hI4 := HI3.out.below hb4
              have HI4 := Lib.hid hI4
              have HK4 : Hid (KeptS S w w4) := Lib.hid (HK3.out.trans (KeptS.of_below hb4) (fun x h => .inl h))
              clear hb4
              cases kk with
              | false =>
                have hcf : conB bk.es k j = false := by rw [HCON.out]; simp
                have HN1 : Hid (o = conTo bk.es k (j + 1)) := Lib.hid (by rw [HCS.out, hcf, Bool.or_false]; exact HO.out)
                have HN2 : Hid (∀ (i : Nat) x, i < j + 1 → conB bk.es k i = true → bk.es[i]? = some x → I = false ∧ x.out = false) := Lib.hid (fun i x hi hc hx => by
                  by_cases hij : i = j
                  · subst hij; rw [hcf] at hc; cases hc
                  · exact HBD.out i x (by omega) hc hx)
                clear hcf
                go_wp2_with fail
                go_roundw
                case rel => exact ⟨j + 1, o, by go_num, by omega, HN1, HI4, HK4, HN2⟩
                case measure => simp [intOf]; omega
              | true =>
                have hct : conB bk.es k j = true := by rw [HCON.out]; simp [HH0.out]
                have x5 := (hI4.ent j s ev HHS.out HHEV.out).blk.cell (i := 5) rfl
                have hevo : ev.out = eu.out := by rw [HEVU.out, if_neg hjk]
                rw [hevo] at x5
                have y5 := (hI4.ent k r _ HRK.out (by rw [outE_get, HE.out]; rfl)).blk.cell (i := 5) rfl
                have g5 := (hI4.ent k r _ HRK.out (by rw [outE_get, HE.out]; rfl)).blk.free 5
                have hset := hI4.set_cell (v := .bool true) (i := 5) HRK.out (fun e => { e with out := true }) (fun _ _ _ => rfl) (fun _ => ⟨rfl, rfl⟩)
                have hset2 : IsBook (w4.setCell ⟨r.p, 5, none⟩ (.bool true)) B P ⟨outE bk.es k true, last⟩ tag (.slice (some ⟨lb, 0, none⟩) n c) rs := by rw [← outE_outE bk.es k o true]; exact hset
                have hown : OwnB P (.slice (some ⟨lb, 0, none⟩) n c) rs r.p := .inr (.inr ⟨r, List.mem_of_getElem? HRK.out, .inl rfl⟩)
                have HK5 : Hid (KeptS S w (w4.setCell ⟨r.p, 5, none⟩ (.bool true))) := Lib.hid (HK4.out.setCell (.inl (HS.out _ hown)) _)
                have HN1 : Hid (true = conTo bk.es k (j + 1)) := Lib.hid (by rw [HCS.out, hct, Bool.or_true])
                have HBADX : Hid (I = true ∨ eu.out = true → badB bk.es k = true) := Lib.hid (fun h => by
                  unfold badB
                  rw [List.any_eq_true]
                  refine ⟨j, by rw [List.mem_range, HL.out]; exact hlt, ?_⟩
                  rw [hct, HII.out, HEU.out]
                  rcases h with h | h <;> simp [h])
                have HN2 : Hid (I = false → eu.out = false → ∀ (i : Nat) x, i < j + 1 → conB bk.es k i = true → bk.es[i]? = some x → I = false ∧ x.out = false) := Lib.hid (fun hi0 ho0 i x hi hc hx => by
                  by_cases hij : i = j
                  · subst hij; rw [HEU.out] at hx; injection hx with hx; subst hx; exact ⟨hi0, ho0⟩
                  · exact HBD.out i x (by omega) hc hx)
                have HI5 := Lib.hid hset2
                clear hct hevo hset hset2 hown hI4
                generalize eu.out = uo at *
                have HDR4 := Lib.hid (HDR.out w4 o HI4.out)
                by_cases hbad : I = true ∨ uo = true
                · have HR2 : Hid (closeB bk who end_ = (7, (dropB bk who).2)) := Lib.hid (by rw [HR.out, if_pos (HBADX.out hbad)])
                  have HDONE : Hid (∀ w5, Acted w4 B P (dropB bk who).2 S w5 → Acted w B P (dropB bk who).2 S w5) := Lib.hid (fun w5 hA => ⟨hA.1.mono (fun q hq => by
                      rcases hq with hq | hq
                      · exact .inl hq
                      · exact .inr ⟨by have := HK4.out.size; omega, hq.2⟩), HK4.out.trans hA.2 (fun q hq => .inl hq)⟩)
                  cases I with
                  | true =>
                    go_wp2_with fail
                    refine HDR4.out.mono ?_
                    rintro e1 w5 ⟨rfl, hA⟩
                    have HA := Lib.hid (HDONE.out _ hA)
                    clear hA
                    go_wp2_with fail
                    rw [← HQ.out]
                    unfold CloseP
                    rw [HR2.out]
                    exact ⟨by rfl, HA.out⟩
                  | false =>
                    obtain rfl : uo = true := by rcases hbad with h | h; cases h; exact h
                    go_wp2_with fail
                    refine HDR4.out.mono ?_
                    rintro e1 w5 ⟨rfl, hA⟩
                    have HA := Lib.hid (HDONE.out _ hA)
                    clear hA
                    go_wp2_with fail
                    rw [← HQ.out]
                    unfold CloseP
                    rw [HR2.out]
                    exact ⟨by rfl, HA.out⟩
                · have hI0 : I = false := by cases I; rfl; exact absurd (.inl rfl) hbad
                  have hu0 : uo = false := by cases uo; rfl; exact absurd (.inr rfl) hbad
                  have HN3 := Lib.hid (HN2.out hI0 hu0)
                  subst hI0
                  subst hu0
                  clear hbad
                  go_wp2_with fail
                  go_roundw
                  case rel => exact ⟨j + 1, true, by go_num, by omega, HN1, HI5, HK5, HN3⟩
                  case measure => simp [intOf]; omega
        · have hlt' : ¬ (j : Int) < n := by omega
          have hjn : j = n := by omega
          subst hjn
          have hnb : badB bk.es k = false := by
            rw [Bool.eq_false_iff]
            intro hb
            unfold badB at hb
            rw [List.any_eq_true] at hb
            obtain ⟨i, hi, hb⟩ := hb
            rw [List.mem_range] at hi
            obtain ⟨x, hx⟩ : ∃ x, bk.es[i]? = some x := get_some hi
            rw [hx, Bool.and_eq_true] at hb
            have hd := HBD.out i x (by have := HL.out; omega) hb.1 hx
            have h3 := hb.2
            rw [HII.out, hd.1] at h3
            simp [hd.2] at h3
          have hR2 : closeB bk who end_ = (0, ⟨forgetB ((outE bk.es k o).modify k fun e => { e with end_ := end_ }), end_⟩) := by
            rw [HR.out, hnb, HO.out, ← HL.out]
            show ((0 : Int), (⟨forgetB (bk.es.modify k fun e => { e with end_ := end_, out := conTo bk.es k bk.es.length }), end_⟩ : Bk)) = _
            congr 3
            apply List.ext_getElem?
            intro q
            unfold outE
            rw [List.getElem?_modify, List.getElem?_modify, List.getElem?_modify]
            cases bk.es[q]? with
            | none => rfl
            | some x =>
              by_cases hq : k = q
              · simp [hq]
              · simp [hq]
          have HR2 := Lib.hid hR2
          have hEr := HIR.out.ent k r _ HRK.out (by rw [outE_get, HE.out]; rfl)
          have x2 := hEr.blk.cell (i := 2) rfl
          have f2 := hEr.blk.free 2
          have hset := HIR.out.set_cell (v := .int .i64 end_) (i := 2) HRK.out (fun e => { e with end_ := end_ }) (fun _ _ _ => rfl) (fun _ => ⟨rfl, rfl⟩)
          have y1 := hset.blk.cell (i := 1) rfl
          have g1 := hset.blk.free 1
          have hset2 := hset.set_last end_
          have hown : OwnB P (.slice a j c) rs r.p := .inr (.inr ⟨r, List.mem_of_getElem? HRK.out, .inl rfl⟩)
          have hKK : KeptS S w ((wr.setCell ⟨r.p, 2, none⟩ (.int .i64 end_)).setCell ⟨P, 1, none⟩ (.int .i64 end_)) := (HKR.out.setCell (.inl (HS.out _ hown)) _).setCell (.inl (HS.out _ (.inl rfl))) _
          have HKK := Lib.hid hKK
          have HFG := Lib.hid (forget_any _ B P _ S ⟨tag, _, rs, hset2, HS.out⟩ (by
            show ((outE bk.es k o).modify k _).length ≤ _
            rw [List.length_modify, outE_len, HL.out]; exact hn))
          clear hnb hR2 hEr hset hset2 hown hKK
          go_wp2_with fail
          refine HFG.out.mono ?_
          rintro e1 w5 ⟨rfl, hA⟩
          have HA := Lib.hid hA
          clear hA
          go_wp2_with fail
          rw [← HQ.out]
          unfold CloseP
          rw [HR2.out]
          refine ⟨by rfl, HA.out.1.mono (fun q hq => ?_), HKK.out.trans HA.out.2 (fun q hq => .inl hq)⟩
          rcases hq with hq | hq
          · exact .inl hq
          · exact .inr ⟨by have := HKK.out.size; omega, hq.2⟩
end Go.Proofs.Ytaonfacbmolklaa

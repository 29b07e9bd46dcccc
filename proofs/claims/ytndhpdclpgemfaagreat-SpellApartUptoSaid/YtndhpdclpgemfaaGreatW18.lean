/- Parts X62, X63 of this seat (pruned, scripts that are alike kept once as default arguments: q1, q2, ..). Conditions: each says its own. -/
import Derived.Test.YtndhpdclpgemfaaGreatW17
namespace Go.Proofs.YtndhpdclpgemfaaGreat
open Go.RowKit Go.Shelf
set_option linter.unusedSimpArgs false
set_option linter.unusedVariables false
set_option maxRecDepth 100000
theorem pathPre_flat (n0 : Npt) (ns : List Npt) (es : List Ept) (hl : ns.length = es.length) : ∀ j, j ≤ ns.length → pathPre (n0 :: ns) es (j + 1) = nodeX n0 ++ ((es.zip ns).take j).flatMap fun p => edgeX p.1 ++ nodeX p.2
  | 0, _ => by simp [pathPre, nodeAtX]
  | j + 1, hj => by
    rw [pathPre, pathPre_flat n0 ns es hl j (by omega), if_neg (by omega)]
    obtain ⟨m, hm⟩ : ∃ m, ns[j]? = some m := ⟨_, List.getElem?_eq_getElem (by omega)⟩
    obtain ⟨e, he⟩ : ∃ e, es[j]? = some e := ⟨_, List.getElem?_eq_getElem (by omega)⟩
    have hz : (es.zip ns)[j]? = some (e, m) := by rw [List.getElem?_zip_eq_some]; exact ⟨he, hm⟩
    rw [take_succ_get hz, List.flatMap_append]
    simp only [edgeAtX, nodeAtX, Nat.add_sub_cancel, he, List.getElem?_cons_succ, hm]
    simp
def Seg (p : Ept × Npt) (ts : List Tok) : Prop := Rd Any (edgeX p.1 ++ nodeX p.2) ts ∧ ∀ r, (sigB 45 (ts ++ r) || sigB 60 (ts ++ r)) = true ∧ ∃ l, Run .edge (ts ++ r) (.ok (.ep p.1) l) ∧ Run .node l (.ok (.np p.2) r)
theorem rd_flat {α : Type} (f : α → List UInt8) : ∀ q : List (α × List Tok), (∀ p ∈ q, Rd Any (f p.1) p.2) → Rd Any ((q.map Prod.fst).flatMap f) (q.flatMap Prod.snd)
  | [], _ => Rd.nil _
  | p :: q, h => by
    rw [List.map_cons, List.flatMap_cons, List.flatMap_cons]
    exact (h p (List.mem_cons_self ..)).app' (rd_flat f q fun y hy => h y (List.mem_cons_of_mem _ hy))
theorem run_segs (rest : List Tok) (h45 : sigB 45 rest = false) (h60 : sigB 60 rest = false) : ∀ (q : List ((Ept × Npt) × List Tok)) (ns : List Npt) (es : List Ept), (∀ p ∈ q, Seg p.1 p.2) →
    Run (.segs ns es) (q.flatMap Prod.snd ++ rest) (.ok (.pt ⟨ns ++ q.map (·.1.2), es ++ q.map (·.1.1)⟩) rest)
  | [], ns, es, _ => Run.of (by
    show Ans (fun c => step c (.segs ns es) rest) _
    simp only [step, h45, h60, Bool.or_self, Bool.false_eq_true, ↓reduceIte, List.map_nil, List.append_nil]
    exact Ans.ok)
  | p :: q, ns, es, h => by
    obtain ⟨h1, l, h2, h3⟩ := (h p (List.mem_cons_self ..)).2 (q.flatMap Prod.snd ++ rest)
    have h4 := run_segs rest h45 h60 q (ns ++ [p.1.2]) (es ++ [p.1.1]) fun y hy => h y (List.mem_cons_of_mem _ hy)
    refine Run.of ?_
    rw [List.flatMap_cons, List.append_assoc]
    simp only [step, h1, ↓reduceIte]
    refine Ans.bnd (Ans.rec h2) (Ans.bnd (Ans.rec h3) ?_)
    have e1 : ns ++ (p :: q).map (·.1.2) = ns ++ [p.1.2] ++ q.map (·.1.2) := by simp
    have e2 : es ++ (p :: q).map (·.1.1) = es ++ [p.1.1] ++ q.map (·.1.1) := by simp
    rw [e1, e2]
    exact Ans.rec h4
def p64 (p : Ptt) : Prop := (∀ n ∈ p.nodes, e64s n.vals) ∧ ∀ e ∈ p.edges, e64s e.vals
theorem zip_parts {α β : Type} : ∀ (l : List α) (m : List β), l.length = m.length → (l.zip m).map (·.1) = l ∧ (l.zip m).map (·.2) = m
  | [], [], _ => ⟨rfl, rfl⟩
  | x :: l, y :: m, h => by
    obtain ⟨h1, h2⟩ := zip_parts l m (by simpa using h)
    simp only [List.zip_cons_cons, List.map_cons, h1, h2]
    exact ⟨trivial, trivial⟩
def PathOk (p : Ptt) (ts : List Tok) : Prop := (∃ r, ts = sgT [40] :: r) ∧ Rd Any (pathX p) ts ∧ ∀ rest, sigB 45 rest = false → sigB 60 rest = false → Run .path (ts ++ rest) (.ok (.pt p) rest)
theorem path_all {p : Ptt} (h : pathM p = true) (h64 : p64 p) : ∃ ts, PathOk p ts := by
 unfold pathM at h
 simp only [Bool.and_eq_true, decide_eq_true_eq, List.all_eq_true] at h
 obtain ⟨nodes, es⟩ := p
 obtain ⟨h1, h2, h3⟩ := h
 simp only at h1 h2 h3
 obtain ⟨k1, k2⟩ := h64
 simp only at k1 k2
 cases nodes with
 | nil => simp at h1
 | cons n0 ns =>
  have hl : ns.length = es.length := by simpa using h1
  obtain ⟨r0, a1, a2⟩ := node_all (h2 n0 (List.mem_cons_self ..)) (k1 n0 (List.mem_cons_self ..))
  have hseg : ∀ x ∈ es.zip ns, ∃ ts, Seg x ts := fun x hx => by
   obtain ⟨e, m⟩ := x
   have hm := List.of_mem_zip hx
   obtain ⟨te, b1, b2⟩ := edge_all (h3 e hm.1) (k2 e hm.1)
   obtain ⟨tn, c1, c2⟩ := node_all (h2 m (List.mem_cons_of_mem _ hm.2)) (k1 m (List.mem_cons_of_mem _ hm.2))
   refine ⟨te ++ (sgT [40] :: tn), b1.app c1 fun r _ => ?_, fun r => ?_⟩
   ·unfold nodeX; rfl
   ·rw [List.append_assoc]
    exact ⟨(b2 _).1, _, (b2 _).2 rfl, c2 r⟩
  obtain ⟨q, q1, q2⟩ := each (es.zip ns) hseg
  refine ⟨(sgT [40] :: r0) ++ q.flatMap Prod.snd, ⟨_, rfl⟩, ?_, fun rest h45 h60 => ?_⟩
  ·have hp : pathX ⟨n0 :: ns, es⟩ = nodeX n0 ++ (q.map Prod.fst).flatMap fun p => edgeX p.1 ++ nodeX p.2 := by
    show pathPre (n0 :: ns) es (ns.length + 1) = _
    rw [pathPre_flat n0 ns es hl ns.length (Nat.le_refl _), List.take_of_length_le (by rw [List.length_zip]; omega), q1]
   rw [hp]
   exact a1.app' (rd_flat _ q fun y hy => (q2 y hy).1)
  ·refine Run.of ?_
   rw [List.append_assoc]
   simp only [step]
   refine Ans.bnd (Ans.rec (a2 _)) ?_
   have h4 := run_segs rest h45 h60 q [n0] [] q2
   obtain ⟨z1, z2⟩ := zip_parts es ns hl.symm
   have e1 : q.map (·.1.2) = ns := by rw [← z2, ← q1, List.map_map]; rfl
   have e2 : q.map (·.1.1) = es := by rw [← z1, ← q1, List.map_map]; rfl
   rw [e1, e2] at h4
   exact Ans.rec h4
def Fo (l : List Tok) : Prop := (nx l).k ≠ 5 ∧ pwT (nx l) = 0
theorem Fo.sigB {l : List Tok} (h : Fo l) (c : UInt8) : sigB c l = false := by
 show (decide ((nx l).k = 5) && _) = false
 rw [decide_eq_false h.1]; rfl
theorem Fo.endP {l : List Tok} (h : Fo l) : endP l := ⟨⟨h.sigB _, h.sigB _, h.sigB _, h.sigB _⟩, h.2⟩
theorem run_more (rest : List Tok) (hf : Fo rest) : ∀ (q : List (Ptt × List Tok)) (acc : List Ptt), (∀ p ∈ q, PathOk p.1 p.2) → Run (.more acc) (tailT (q.map Prod.snd) ++ rest) (.ok (.ps (acc ++ q.map Prod.fst)) rest)
  | [], acc, _ => Run.of (by
    show Ans (fun c => step c (.more acc) rest) _
    simp only [step, hf.sigB, Bool.false_eq_true, ↓reduceIte, List.map_nil, List.append_nil]
    exact Ans.ok)
  | p :: q, acc, h => by
    have hn : sigB 45 (tailT (q.map Prod.snd) ++ rest) = false ∧ sigB 60 (tailT (q.map Prod.snd) ++ rest) = false := by
      cases q with
      | nil => exact ⟨hf.sigB _, hf.sigB _⟩
      | cons y q => exact ⟨rfl, rfl⟩
    have h1 := (h p (List.mem_cons_self ..)).2.2 _ hn.1 hn.2
    have h2 := run_more rest hf q (acc ++ [p.1]) fun y hy => h y (List.mem_cons_of_mem _ hy)
    refine Run.of ?_
    have e0 : tailT ((p :: q).map Prod.snd) ++ rest = sgT [44] :: (p.2 ++ (tailT (q.map Prod.snd) ++ rest)) := by simp [tailT]
    rw [e0]
    simp only [step, show ∀ r, sigB 44 (sgT [44] :: r) = true from fun _ => rfl, List.tail_cons, ↓reduceIte]
    refine Ans.bnd (Ans.rec h1) ?_
    have e1 : acc ++ (p :: q).map Prod.fst = acc ++ [p.1] ++ q.map Prod.fst := by simp
    rw [e1]
    exact Ans.rec h2
theorem paths_all {l : List Ptt} (h0 : l ≠ []) (h : ∀ p ∈ l, pathM p = true ∧ p64 p) : ∃ ts, Rd Nn (jn (l.map pathX)) ts ∧ ∀ rest, Fo rest → Run .paths (ts ++ rest) (.ok (.ps l) rest) := by
 obtain ⟨q, rfl, q2⟩ := each l fun p hp => path_all (h p hp).1 (h p hp).2
 cases q with
 | nil => exact absurd rfl h0
 | cons p q =>
  refine ⟨rowT ((p :: q).map Prod.snd), ?_, fun rest hf => Run.of ?_⟩
  ·have := rd_jn ((p :: q).map fun p => (pathX p.1, p.2)) (fun y hy => by obtain ⟨x, hx, rfl⟩ := List.mem_map.1 hy; exact (q2 x hx).2.1.any)
   rw [List.map_map, List.map_map] at this
   rw [List.map_map]
   exact this
  ·have hn : sigB 45 (tailT (q.map Prod.snd) ++ rest) = false ∧ sigB 60 (tailT (q.map Prod.snd) ++ rest) = false := by
    cases q with
    | nil => exact ⟨hf.sigB _, hf.sigB _⟩
    | cons y q => exact ⟨rfl, rfl⟩
   have e0 : rowT ((p :: q).map Prod.snd) ++ rest = p.2 ++ (tailT (q.map Prod.snd) ++ rest) := by simp [rowT]
   rw [e0]
   simp only [step]
   refine Ans.bnd (Ans.rec ((q2 p (List.mem_cons_self ..)).2.2 _ hn.1 hn.2)) ?_
   exact Ans.rec (run_more rest hf q [p.1] fun y hy => q2 y (List.mem_cons_of_mem _ hy))
theorem open_word {h : Tok} (ho : opnT h = true) {w : List UInt8} (hw : w ≠ wNULL ∧ w ≠ wTRUE ∧ w ≠ wFALSE ∧ w ≠ wNOT) : wrd w [h] = false := by
 obtain ⟨k, t, n⟩ := h
 simp only [opnT, primT, Bool.or_eq_true, Bool.and_eq_true, decide_eq_true_eq] at ho
 show (decide (k = 2) && decide (t = w)) = false
 rw [Bool.and_eq_false_iff]
 simp only [decide_eq_false_iff_not]
 rcases ho with (h | h | h | ⟨h, h1 | h1 | h1⟩ | ⟨h, h1⟩) | ⟨h, h1⟩ | ⟨h, h1⟩
 ·subst h; exact .inl (by decide)
 ·subst h; exact .inl (by decide)
 ·subst h; exact .inl (by decide)
 ·subst h1; exact .inr fun e => hw.1 e.symm
 ·subst h1; exact .inr fun e => hw.2.1 e.symm
 ·subst h1; exact .inr fun e => hw.2.2.1 e.symm
 ·subst h; exact .inl (by decide)
 ·subst h; exact .inl (by decide)
 ·subst h1; exact .inr fun e => hw.2.2.2 e.symm
theorem end_word (w : List UInt8) (r : List Tok) (h : pwT (wdT w) = 0) : endP (wdT w :: r) := ⟨⟨rfl, rfl, rfl, rfl⟩, h⟩
theorem fo_word (w : List UInt8) (r : List Tok) (h : pwT (wdT w) = 0) : Fo (wdT w :: r) := ⟨(by decide : (2 : Nat) ≠ 5), h⟩
theorem ba_eq {a b : ByteArray} (h : a.data.toList = b.data.toList) : a = b := by
 obtain ⟨⟨p⟩⟩ := a
 obtain ⟨⟨q⟩⟩ := b
 have : p = q := h
 subst this; rfl
def ItOk (i : Itt) (ts : List Tok) : Prop := (∃ h r, ts = h :: r ∧ opnT h = true) ∧ Rd Nn (itemX i) ts ∧ ∀ rest, endP rest → wrd wAS rest = false → Run .item (ts ++ rest) (.ok (.it i) rest)
theorem item_all {i : Itt} (h : itemM i = true) (h64 : e64 i.e) : ∃ ts, ItOk i ts := by
 unfold itemM at h
 rw [Bool.and_eq_true] at h
 obtain ⟨ts, a1, ⟨y, r, a2, a3⟩, a4⟩ := (xg_all 32 i.e h.2 h64).whole
 by_cases hc : asIf i = true
 ·refine ⟨ts ++ [wdT wAS, nmT i.nm.data.toList], ⟨y, r ++ _, by rw [a2]; rfl, a3⟩, ?_, fun rest he hw => Run.of ?_⟩
  ·unfold itemX
   rw [if_pos hc]
   have h5 : Rd Nn ([32] ++ ((wAS ++ [32]) ++ i.nm.data.toList)) ([] ++ ([wdT wAS] ++ [nmT i.nm.data.toList])) := rd_blank.app' ((rd_wordB wAS (by decide)).app' (rd_name h.1))
   exact a1.appN h5 (by simp) rfl
  ·rw [List.append_assoc]
   simp only [step]
   refine Ans.bnd (Ans.rec (a4 _ (end_word wAS _ (by decide +kernel)))) ?_
   simp only [List.cons_append, List.nil_append, show ∀ r, wrd wAS (wdT wAS :: r) = true from fun _ => rfl, Bool.true_eq_false, and_false, ↓reduceIte, must, List.tail_cons]
   exact Ans.ok
 ·refine ⟨ts, ⟨y, r, a2, a3⟩, ?_, fun rest he hw => Run.of ?_⟩
  ·unfold itemX
   rw [if_neg hc, List.append_nil]; exact a1
  ·simp only [step]
   refine Ans.bnd (Ans.rec (a4 _ he)) ?_
   unfold asIf at hc
   rw [Bool.not_eq_true, Bool.or_eq_false_iff] at hc
   have h5 : opX i.e = 2 := by simpa using hc.1
   have h6 : (nameX i.e).toList = i.nm.toList := by simpa using hc.2
   have h7 : nameX i.e = i.nm := by
    rw [ba_list, ba_list] at h6
    exact ba_eq h6
   have e5 : V.ex (.x i.e) = i.e := rfl
   simp only [e5, h5, hw, and_self, ↓reduceIte, h7]
   exact Ans.ok
theorem run_its (rest : List Tok) (hf : Fo rest) (ha : wrd wAS rest = false) : ∀ (q : List (Itt × List Tok)) (acc : List Itt), (∀ p ∈ q, ItOk p.1 p.2) → Run (.its acc) (tailT (q.map Prod.snd) ++ rest) (.ok (.il (acc ++ q.map Prod.fst)) rest)
  | [], acc, _ => Run.of (by
    show Ans (fun c => step c (.its acc) rest) _
    simp only [step, hf.sigB, Bool.false_eq_true, ↓reduceIte, List.map_nil, List.append_nil]
    exact Ans.ok)
  | p :: q, acc, h => by
    have hn : endP (tailT (q.map Prod.snd) ++ rest) ∧ wrd wAS (tailT (q.map Prod.snd) ++ rest) = false := by
      cases q with
      | nil => exact ⟨hf.endP, ha⟩
      | cons y q => exact ⟨end_close 44 _ (by decide), rfl⟩
    have h1 := (h p (List.mem_cons_self ..)).2.2 _ hn.1 hn.2
    have h2 := run_its rest hf ha q (acc ++ [p.1]) fun y hy => h y (List.mem_cons_of_mem _ hy)
    refine Run.of ?_
    have e0 : tailT ((p :: q).map Prod.snd) ++ rest = sgT [44] :: (p.2 ++ (tailT (q.map Prod.snd) ++ rest)) := by simp [tailT]
    rw [e0]
    simp only [step, show ∀ r, sigB 44 (sgT [44] :: r) = true from fun _ => rfl, List.tail_cons, ↓reduceIte]
    refine Ans.bnd (Ans.rec h1) ?_
    have e1 : acc ++ (p :: q).map Prod.fst = acc ++ [p.1] ++ q.map Prod.fst := by simp
    rw [e1]
    exact Ans.rec h2
def SoOk (s : Sot) (ts : List Tok) : Prop := ∃ us, ts = us ++ (if s.down = true then [wdT wDESC] else []) ∧ Rd Nn (sortX s) ts ∧ ∀ rest, endP rest → Run (.expr 1) (us ++ rest) (.ok (.x s.e) rest)
theorem sort_all {s : Sot} (h : sortM s = true) (h64 : e64 s.e) : ∃ ts, SoOk s ts := by
 unfold sortM at h
 obtain ⟨us, a1, -, a4⟩ := (xg_all 32 s.e h h64).whole
 refine ⟨_, us, rfl, ?_, a4⟩
 unfold sortX
 by_cases hd : s.down = true
 ·rw [if_pos hd, if_pos hd]
  exact a1.appN (rd_Bword wDESC (by decide)) (by simp) rfl
 ·rw [if_neg hd, if_neg hd, List.append_nil, List.append_nil]; exact a1
theorem run_sorts (rest : List Tok) (hf : Fo rest) (ha : wrd wASC rest = false) (hd : wrd wDESC rest = false) : ∀ (q : List (Sot × List Tok)) (acc : List Sot), q ≠ [] → (∀ p ∈ q, SoOk p.1 p.2) → Run (.sortL acc) (rowT (q.map Prod.snd) ++ rest) (.ok (.ol (acc ++ q.map Prod.fst)) rest)
  | [], acc, h, _ => absurd rfl h
  | p :: q, acc, _, h => by
    obtain ⟨us, h1, -, h2⟩ := h p (List.mem_cons_self ..)
    have e0 : rowT ((p :: q).map Prod.snd) ++ rest = us ++ ((if p.1.down = true then [wdT wDESC] else []) ++ (tailT (q.map Prod.snd) ++ rest)) := by simp [rowT, h1]
    rw [e0]
    have hn : endP (tailT (q.map Prod.snd) ++ rest) ∧ wrd wASC (tailT (q.map Prod.snd) ++ rest) = false ∧ wrd wDESC (tailT (q.map Prod.snd) ++ rest) = false := by
      cases q with
      | nil => exact ⟨hf.endP, ha, hd⟩
      | cons y q => exact ⟨end_close 44 _ (by decide), rfl, rfl⟩
    have hE : endP ((if p.1.down = true then [wdT wDESC] else []) ++ (tailT (q.map Prod.snd) ++ rest)) := by
      split
      · exact end_word wDESC _ (by decide +kernel)
      · exact hn.1
    refine Run.of ?_
    simp only [step]
    refine Ans.bnd (Ans.rec (h2 _ hE)) ?_
    have e5 : V.ex (.x p.1.e) = p.1.e := rfl
    have hw : wrd wDESC ((if p.1.down = true then [wdT wDESC] else []) ++ (tailT (q.map Prod.snd) ++ rest)) = p.1.down := by
      cases hq : p.1.down with
      | true => rfl
      | false => exact hn.2.2
    have hr : (if (wrd wASC ((if p.1.down = true then [wdT wDESC] else []) ++ (tailT (q.map Prod.snd) ++ rest)) || p.1.down) = true then ((if p.1.down = true then [wdT wDESC] else []) ++ (tailT (q.map Prod.snd) ++ rest)).tail else ((if p.1.down = true then [wdT wDESC] else []) ++ (tailT (q.map Prod.snd) ++ rest))) = tailT (q.map Prod.snd) ++ rest := by
      cases hq : p.1.down with
      | true => simp
      | false =>
        have : wrd wASC ((if false = true then [wdT wDESC] else []) ++ (tailT (q.map Prod.snd) ++ rest)) = false := hn.2.1
        rw [this]; simp
    have hs : (⟨p.1.e, p.1.down⟩ : Sot) = p.1 := rfl
    simp only [e5, hw, hr, hs]
    cases q with
    | nil =>
      have e1 : sigB 44 (tailT (([] : List (Sot × List Tok)).map Prod.snd) ++ rest) = false := hf.sigB 44
      simp only [e1, Bool.false_eq_true, ↓reduceIte]
      exact Ans.ok
    | cons y q =>
      have h3 := run_sorts rest hf ha hd (y :: q) (acc ++ [p.1]) (by simp) fun z hz => h z (List.mem_cons_of_mem _ hz)
      have e1 : sigB 44 (tailT ((y :: q).map Prod.snd) ++ rest) = true := rfl
      simp only [e1, ↓reduceIte]
      have e3 : (tailT ((y :: q).map Prod.snd) ++ rest).tail = rowT ((y :: q).map Prod.snd) ++ rest := by simp [tailT, rowT]
      rw [e3]
      have e4 : acc ++ (p :: y :: q).map Prod.fst = acc ++ [p.1] ++ (y :: q).map Prod.fst := by simp
      rw [e4]
      exact Ans.rec h3
theorem run_vars (rest : List Tok) (hf : Fo rest) : ∀ (l acc : List ByteArray), l ≠ [] → Run (.vars acc) (rowT (l.map fun s => [nmT s.data.toList]) ++ rest) (.ok (.ss (acc ++ l)) rest)
  | [], acc, h => absurd rfl h
  | s :: l, acc, _ => by
    have e0 : rowT ((s :: l).map fun s => [nmT s.data.toList]) ++ rest = nmT s.data.toList :: (tailT (l.map fun s => [nmT s.data.toList]) ++ rest) := by simp [rowT]
    rw [e0]
    refine Run.of ?_
    simp only [step, nameP, show (nx (nmT s.data.toList :: (tailT (l.map fun s => [nmT s.data.toList]) ++ rest))).k = 1 from rfl, show strOf (nx (nmT s.data.toList :: (tailT (l.map fun s => [nmT s.data.toList]) ++ rest))).t = s from rfl, List.tail_cons, ↓reduceIte]
    cases l with
    | nil =>
      have e1 : sigB 44 (tailT (([] : List ByteArray).map fun s => [nmT s.data.toList]) ++ rest) = false := hf.sigB 44
      simp only [e1, Bool.false_eq_true, ↓reduceIte]
      exact Ans.ok
    | cons y l =>
      have h3 := run_vars rest hf (y :: l) (acc ++ [s]) (by simp)
      have e1 : sigB 44 (tailT ((y :: l).map fun s => [nmT s.data.toList]) ++ rest) = true := rfl
      simp only [e1, ↓reduceIte]
      have e3 : (tailT ((y :: l).map fun s => [nmT s.data.toList]) ++ rest).tail = rowT ((y :: l).map fun s => [nmT s.data.toList]) ++ rest := by simp [tailT, rowT]
      rw [e3]
      have e4 : acc ++ s :: y :: l = acc ++ [s] ++ y :: l := by simp
      rw [e4]
      exact Ans.rec h3
def SiOk (kind : Int) (s : Sit) (ts : List Tok) : Prop := Rd Nn (setX s (kind == 6)) ts ∧ ∀ (rest : List Tok) (acc : List Sit) (x : Pr), endP rest →
  (if sigB 44 rest = true then Run (.setL kind (acc ++ [s])) rest.tail x else x = .ok (.zl (acc ++ [s])) rest) → Run (.setL kind acc) (ts ++ rest) x
theorem none_empty {e : Ex} (h : noneB e = true) : e = emptyX := by
 obtain ⟨op, nm, v, ns, az⟩ := e
 unfold noneB at h
 simp only [Bool.and_eq_true, beq_iff_eq, decide_eq_true_eq] at h
 obtain ⟨h1, h2, h3, h4, h5⟩ := h
 have e1 := (ba_nil (beq_iff_eq.2 h2)).1
 have e2 := same_empty h3
 have e3 : ns = [] := List.length_eq_zero_iff.1 h4
 have e4 : az = [] := List.length_eq_zero_iff.1 h5
 subst h1 e1 e2 e3 e4; rfl
theorem set_all {kind : Int} {s : Sit} (h : setM s (kind == 6) = true) (h64 : e64 s.e) : ∃ ts, SiOk kind s ts := by
 unfold setM at h
 simp only [Bool.and_eq_true, decide_eq_true_eq] at h
 obtain ⟨h1, h2, h3, h4⟩ := h
 obtain ⟨var, key, label, e⟩ := s
 simp only at h1 h2 h3 h4 h64
 have hne : ∀ {s : ByteArray}, (s.toList == []) = false → 1 ≤ s.size := fun {s} h => by
  rw [ba_list] at h
  have h5 := ba_len s
  cases hs : s.data.toList with
  | nil => rw [hs] at h; simp at h
  | cons c t => rw [hs] at h5; simp at h5; omega
 unfold SiOk setX
 simp only
 by_cases hl : (label.toList == []) = true
 ·have e1 := (ba_nil hl).1
  rw [if_pos hl]
  have hk : (key.toList == []) = false := by
   rw [hl] at h2
   simpa using h2
  have hkb : keyB key = true := by
   unfold keyB
   have h5 := hne hk
   rw [Bool.and_eq_true, decide_eq_true_eq, decide_eq_true_eq]; omega
  rw [hk] at h4
  by_cases h6 : (kind == 6) = true
  ·rw [h6] at h4 ⊢
   simp only [Bool.not_false, Bool.and_self, ↓reduceIte] at h4 ⊢
   obtain ⟨us, a1, -, a4⟩ := (xg_all 32 e h4 h64).whole
   have hkk : kind = 6 := eq_of_beq h6
   refine ⟨nmT var.data.toList :: sgT [46] :: keyTok key :: sgT [61] :: us, ?_, fun rest acc x he hx => Run.of ?_⟩
   ·have h7 : Rd Nn ([32] ++ ([61] ++ ([32] ++ textX e))) ([] ++ ([sgT [61]] ++ ([] ++ us))) := rd_blank.app' ((rd_sign 61 (by decide) (by decide) (by decide)).app' (rd_blank.app' a1))
    exact (rd_name h1).appN ((key_rd 46 (by decide) (by decide) (by decide) key).appN h7 (by simp) rfl) (by simp) rfl
   ·have e0 : nmT var.data.toList :: sgT [46] :: keyTok key :: sgT [61] :: us ++ rest = nmT var.data.toList :: sgT [46] :: keyTok key :: sgT [61] :: (us ++ rest) := rfl
    rw [e0]
    simp only [step, nameP, show (nx (nmT var.data.toList :: sgT [46] :: keyTok key :: sgT [61] :: (us ++ rest))).k = 1 from rfl, show strOf (nx (nmT var.data.toList :: sgT [46] :: keyTok key :: sgT [61] :: (us ++ rest))).t = var from rfl, List.tail_cons, ↓reduceIte,
     show ∀ r, sigB 58 (sgT [46] :: r) = false from fun _ => rfl, show ∀ r, sigB 46 (sgT [46] :: r) = true from fun _ => rfl, show ∀ r, sigB 61 (sgT [61] :: r) = true from fun _ => rfl, Bool.false_eq_true, must, key_ok hkb, hkk]
    refine Ans.bnd (Ans.rec (a4 rest he)) ?_
    rw [hkk, e1] at hx
    by_cases h44 : sigB 44 rest = true
    ·rw [if_pos h44] at hx
     simp only [h44, ↓reduceIte]
     exact Ans.rec hx
    ·rw [if_neg h44] at hx
     subst hx
     simp only [h44, ↓reduceIte, Bool.false_eq_true]
     exact Ans.ok
  ·rw [Bool.not_eq_true] at h6
   rw [h6] at h4 ⊢
   simp only [Bool.false_and, Bool.false_eq_true, ↓reduceIte, List.append_nil] at h4 ⊢
   have e2 := none_empty h4
   have hkk : kind ≠ 6 := by simpa using h6
   refine ⟨nmT var.data.toList :: sgT [46] :: [keyTok key], ?_, fun rest acc x he hx => Run.of ?_⟩
   ·exact (rd_name h1).appN (key_rd 46 (by decide) (by decide) (by decide) key) (by simp) rfl
   ·have e0 : nmT var.data.toList :: sgT [46] :: [keyTok key] ++ rest = nmT var.data.toList :: sgT [46] :: keyTok key :: rest := rfl
    rw [e0]
    simp only [step, nameP, show (nx (nmT var.data.toList :: sgT [46] :: keyTok key :: rest)).k = 1 from rfl, show strOf (nx (nmT var.data.toList :: sgT [46] :: keyTok key :: rest)).t = var from rfl, List.tail_cons, ↓reduceIte,
     show ∀ r, sigB 58 (sgT [46] :: r) = false from fun _ => rfl, show ∀ r, sigB 46 (sgT [46] :: r) = true from fun _ => rfl, Bool.false_eq_true, must, key_ok hkb, hkk]
    rw [e1, e2] at hx
    by_cases h44 : sigB 44 rest = true
    ·rw [if_pos h44] at hx
     simp only [h44, ↓reduceIte]
     exact Ans.rec hx
    ·rw [if_neg h44] at hx
     subst hx
     simp only [h44, ↓reduceIte, Bool.false_eq_true]
     exact Ans.ok
 ·rw [Bool.not_eq_true] at hl
  have hk : (key.toList == []) = true := by
   rw [hl] at h2
   cases hk : (key.toList == []) with
   | true => rfl
   | false => rw [hk] at h2; simp at h2
  have e1 := (ba_nil hk).1
  have hlb : keyB label = true := by
   unfold keyB
   have h5 := hne hl
   rw [Bool.and_eq_true, decide_eq_true_eq, decide_eq_true_eq]; omega
  rw [hk] at h4
  simp only [Bool.not_true, Bool.and_false, Bool.false_eq_true, and_false, ↓reduceIte] at h4
  have e2 := none_empty h4
  rw [hl]
  simp only [Bool.false_eq_true, ↓reduceIte]
  refine ⟨nmT var.data.toList :: sgT [58] :: [keyTok label], ?_, fun rest acc x he hx => Run.of ?_⟩
  ·exact (rd_name h1).appN (key_rd 58 (by decide) (by decide) (by decide) label) (by simp [labX]) rfl
  ·have e0 : nmT var.data.toList :: sgT [58] :: [keyTok label] ++ rest = nmT var.data.toList :: sgT [58] :: keyTok label :: rest := rfl
   rw [e0]
   simp only [step, nameP, show (nx (nmT var.data.toList :: sgT [58] :: keyTok label :: rest)).k = 1 from rfl, show strOf (nx (nmT var.data.toList :: sgT [58] :: keyTok label :: rest)).t = var from rfl, List.tail_cons, ↓reduceIte,
    show ∀ r, sigB 58 (sgT [58] :: r) = true from fun _ => rfl, key_ok hlb]
   rw [e1, e2] at hx
   by_cases h44 : sigB 44 rest = true
   ·rw [if_pos h44] at hx
    simp only [h44, ↓reduceIte]
    exact Ans.rec hx
   ·rw [if_neg h44] at hx
    subst hx
    simp only [h44, ↓reduceIte, Bool.false_eq_true]
    exact Ans.ok
theorem run_sets (kind : Int) (rest : List Tok) (hf : Fo rest) : ∀ (q : List (Sit × List Tok)) (acc : List Sit), q ≠ [] → (∀ p ∈ q, SiOk kind p.1 p.2) → Run (.setL kind acc) (rowT (q.map Prod.snd) ++ rest) (.ok (.zl (acc ++ q.map Prod.fst)) rest)
  | [], acc, h, _ => absurd rfl h
  | p :: q, acc, _, h => by
    have e0 : rowT ((p :: q).map Prod.snd) ++ rest = p.2 ++ (tailT (q.map Prod.snd) ++ rest) := by simp [rowT]
    rw [e0]
    have h1 := (h p (List.mem_cons_self ..)).2 (tailT (q.map Prod.snd) ++ rest) acc
    cases q with
    | nil =>
      refine h1 _ hf.endP ?_
      rw [if_neg (by rw [show sigB 44 (tailT (([] : List (Sit × List Tok)).map Prod.snd) ++ rest) = false from hf.sigB 44]; simp)]
      rfl
    | cons y q =>
      refine h1 _ (end_close 44 _ (by decide)) ?_
      rw [if_pos (show sigB 44 (tailT ((y :: q).map Prod.snd) ++ rest) = true from rfl)]
      have h3 := run_sets kind rest hf (y :: q) (acc ++ [p.1]) (by simp) fun z hz => h z (List.mem_cons_of_mem _ hz)
      have e3 : (tailT ((y :: q).map Prod.snd) ++ rest).tail = rowT ((y :: q).map Prod.snd) ++ rest := by simp [tailT, rowT]
      have e4 : acc ++ (p :: y :: q).map Prod.fst = acc ++ [p.1] ++ (y :: q).map Prod.fst := by simp
      rw [e3, e4]
      exact h3
theorem partsX_tail (w : List UInt8) : ∀ ps : List Part, partsX w false ps = Lib.joinTail [44, 32] (ps.map partX)
  | [] => rfl
  | p :: ps => by rw [partsX, partsX_tail w ps]; unfold Lib.joinTail; simp
theorem partsX_jn (w : List UInt8) (p : Part) (ps : List Part) : partsX w true (p :: ps) = w ++ jn ((p :: ps).map partX) := by
 rw [partsX, if_pos rfl, partsX_tail]
 show _ = w ++ Lib.join (partX p :: ps.map partX) [44, 32]
 rw [Lib.join_cons]
theorem groupX_jn (w : ByteArray) (ps : List Part) (a b : Int) (h : ps ≠ []) : groupX ⟨w, ps, a, b⟩ = w.data.toList ++ jn (ps.map partX) := by
 cases ps with
 | nil => exact absurd rfl h
 | cons p ps => exact partsX_jn _ p ps
def Sec (w : List UInt8) (O : List Tok) : Prop := O = [] ∨ ∃ r, O = wdT w :: r
theorem Sec.fo {w : List UInt8} {O r : List Tok} (h : Sec w O) (hw : pwT (wdT w) = 0) (hf : Fo r) : Fo (O ++ r) := by
 rcases h with rfl | ⟨q, rfl⟩
 ·exact hf
 ·exact fo_word w _ hw
theorem Sec.no {w x : List UInt8} {O r : List Tok} (h : Sec w O) (hx : w ≠ x) (hf : wrd x r = false) : wrd x (O ++ r) = false := by
 rcases h with rfl | ⟨q, rfl⟩
 ·exact hf
 ·show (decide (2 = 2) && decide (w = x)) = false
  rw [decide_eq_false hx]; rfl
def midR : List (List UInt8) := [wORDER, wSKIP, wLIMIT, wAS, wASC, wDESC]
def Nw (L : List (List UInt8)) (r : List Tok) : Prop := ∀ w ∈ L, wrd w r = false
theorem Sec.nw {w : List UInt8} {L : List (List UInt8)} {O r : List Tok} (h : Sec w O) (hx : w ∉ L) (hf : Nw L r) : Nw L (O ++ r) := fun x hm => h.no (fun e => hx (e ▸ hm)) (hf x hm)
theorem maybe_all (W : List UInt8) (hW : W ∈ wordsL) (hp : pwT (wdT W) = 0) (word : ByteArray) (hw : word.data.toList = [32] ++ (W ++ [32])) {l : List Ex} (h1 : l.length ≤ 1) (h2 : l.all (deepB 32) = true) (h64 : e64s l) (a b : Int) :
    ∃ ts, Rd Nn (groupX ⟨word, l.map .ex, a, b⟩) ts ∧ Hn (groupX ⟨word, l.map .ex, a, b⟩) ∧ Sec W ts ∧ ∀ rest, endP rest → wrd W rest = false → Run (.maybe W) (ts ++ rest) (.ok (.xs l) rest) := by
 match l, h1 with
 | [], _ =>
  refine ⟨[], Rd.nil _, .inl rfl, .inl rfl, fun rest he hn => Run.of ?_⟩
  rw [List.nil_append]
  simp only [step, hn, Bool.false_eq_true, ↓reduceIte]
  exact Ans.ok
 | [e], _ =>
  obtain ⟨ts, a1, -, a4⟩ := (xg_all 32 e (List.all_eq_true.1 h2 e (by simp)) (e64s_mem h64 e (by simp))).whole
  have hg : groupX ⟨word, [e].map .ex, a, b⟩ = [32] ++ ((W ++ [32]) ++ textX e) := by
   rw [groupX_jn _ _ _ _ (by simp), hw, show ([e].map Part.ex).map partX = [textX e] from rfl, jn_one]; simp
  rw [hg]
  refine ⟨wdT W :: ts, rd_blank.app' ((rd_wordB W hW).app' a1), .inr rfl, .inr ⟨_, rfl⟩, fun rest he hn => Run.of ?_⟩
  rw [List.cons_append]
  have e1 : wrd W (wdT W :: (ts ++ rest)) = true := by show (decide (2 = 2) && decide (W = W)) = true; simp
  simp only [step, e1, List.tail_cons, ↓reduceIte]
  refine Ans.bnd (Ans.rec (a4 rest he)) ?_
  exact Ans.ok
theorem order_all {l : List Sot} (h : ∀ s ∈ l, sortM s = true ∧ e64 s.e) (a b : Int) :
    ∃ ts, Rd Nn (groupX ⟨⟨#[32, 79, 82, 68, 69, 82, 32, 66, 89, 32]⟩, l.map .so, a, b⟩) ts ∧ Hn (groupX ⟨⟨#[32, 79, 82, 68, 69, 82, 32, 66, 89, 32]⟩, l.map .so, a, b⟩) ∧ Sec wORDER ts ∧
      ∀ rest, Fo rest → wrd wORDER rest = false → wrd wASC rest = false → wrd wDESC rest = false → Run .sorts (ts ++ rest) (.ok (.ol l) rest) := by
 obtain ⟨q, rfl, q2⟩ := each l fun s hs => sort_all (h s hs).1 (h s hs).2
 cases q with
 | nil =>
  refine ⟨[], Rd.nil _, .inl rfl, .inl rfl, fun rest _ hn _ _ => Run.of ?_⟩
  rw [List.nil_append]
  simp only [step, hn, Bool.false_eq_true, ↓reduceIte]
  exact Ans.ok
 | cons p q =>
  have hr : Rd Nn (jn ((p :: q).map fun p => sortX p.1)) (rowT ((p :: q).map Prod.snd)) := by
   have := rd_jn ((p :: q).map fun p => (sortX p.1, p.2)) (fun y hy => by obtain ⟨x, hx, rfl⟩ := List.mem_map.1 hy; obtain ⟨us, -, h3, -⟩ := q2 x hx; exact h3)
   rw [List.map_map, List.map_map] at this
   exact this
  have hg : groupX ⟨⟨#[32, 79, 82, 68, 69, 82, 32, 66, 89, 32]⟩, ((p :: q).map Prod.fst).map .so, a, b⟩ = [32] ++ ((wORDER ++ [32]) ++ ((wBY ++ [32]) ++ jn ((p :: q).map fun p => sortX p.1))) := by
   rw [groupX_jn _ _ _ _ (by simp), List.map_map, List.map_map]; rfl
  rw [hg]
  refine ⟨wdT wORDER :: wdT wBY :: rowT ((p :: q).map Prod.snd), rd_blank.app' ((rd_wordB wORDER (by decide)).app' ((rd_wordB wBY (by decide)).app' hr)), .inr rfl, .inr ⟨_, rfl⟩, fun rest hf _ ha hd => Run.of ?_⟩
  have e0 : wdT wORDER :: wdT wBY :: rowT ((p :: q).map Prod.snd) ++ rest = wdT wORDER :: wdT wBY :: (rowT ((p :: q).map Prod.snd) ++ rest) := rfl
  rw [e0]
  simp only [step, must, show ∀ r, wrd wORDER (wdT wORDER :: r) = true from fun _ => rfl, show ∀ r, wrd wBY (wdT wBY :: r) = true from fun _ => rfl, List.tail_cons, ↓reduceIte]
  exact Ans.rec (run_sorts rest hf ha hd (p :: q) [] (by simp) q2)
theorem rows_all {c : Clt} (h0 : c.items ≠ []) (h1 : ∀ i ∈ c.items, itemM i = true ∧ e64 i.e) (h2 : ∀ s ∈ c.order, sortM s = true ∧ e64 s.e) (h3 : c.skip.length ≤ 1 ∧ c.skip.all (deepB 32) = true ∧ e64s c.skip) (h4 : c.limit.length ≤ 1 ∧ c.limit.all (deepB 32) = true ∧ e64s c.limit) :
    ∃ ts, Rd Nn ((uniqW c).data.toList ++ jn (c.items.map itemX) ++ (tailG c).flatMap groupX) ts ∧ ∀ (kind : Int) (rest : List Tok), Fo rest → Nw midR rest → Run (.rows kind) (ts ++ rest) (.ok (.cl { bareC kind with items := c.items, uniq := c.uniq, order := c.order, skip := c.skip, limit := c.limit }) rest) := by
 obtain ⟨kd, l1, l2, ex, vr, items, un, order, skip, limit, l10, l11, de⟩ := c
 simp only at h0 h1 h2 h3 h4
 obtain ⟨q, rfl, q2⟩ := each items fun i hi => item_all (h1 i hi).1 (h1 i hi).2
 obtain ⟨tq, o1, o2, o3, o4⟩ := order_all h2 0 1048576
 obtain ⟨tk, k1, k2, k3, k4⟩ := maybe_all wSKIP (by decide) (by decide +kernel) ⟨#[32, 83, 75, 73, 80, 32]⟩ rfl h3.1 h3.2.1 h3.2.2 0 1
 obtain ⟨tl, m1, m2, m3, m4⟩ := maybe_all wLIMIT (by decide) (by decide +kernel) ⟨#[32, 76, 73, 77, 73, 84, 32]⟩ rfl h4.1 h4.2.1 h4.2.2 0 1
 cases q with
 | nil => exact absurd rfl h0
 | cons p q =>
  obtain ⟨⟨y, r, p1, p2⟩, p3, p4⟩ := q2 p (List.mem_cons_self ..)
  have hu : Rd Any (uniqW ⟨kd, l1, l2, ex, vr, (p :: q).map Prod.fst, un, order, skip, limit, l10, l11, de⟩).data.toList (if un = true then [wdT wDISTINCT] else []) := by
   unfold uniqW
   simp only
   cases un with
   | true => exact rd_wordB wDISTINCT (by decide)
   | false => exact Rd.nil _
  have hi : Rd Nn (jn (((p :: q).map Prod.fst).map itemX)) (rowT ((p :: q).map Prod.snd)) := by
   have := rd_jn ((p :: q).map fun p => (itemX p.1, p.2)) (fun y hy => by obtain ⟨x, hx, rfl⟩ := List.mem_map.1 hy; exact (q2 x hx).2.1)
   rw [List.map_map, List.map_map] at this
   rw [List.map_map]
   exact this
  have hg : (tailG ⟨kd, l1, l2, ex, vr, (p :: q).map Prod.fst, un, order, skip, limit, l10, l11, de⟩).flatMap groupX = groupX ⟨⟨#[32, 79, 82, 68, 69, 82, 32, 66, 89, 32]⟩, order.map .so, 0, 1048576⟩ ++ (groupX ⟨⟨#[32, 83, 75, 73, 80, 32]⟩, skip.map .ex, 0, 1⟩ ++ groupX ⟨⟨#[32, 76, 73, 77, 73, 84, 32]⟩, limit.map .ex, 0, 1⟩) := by
   unfold tailG; simp
  rw [hg]
  refine ⟨(if un = true then [wdT wDISTINCT] else []) ++ rowT ((p :: q).map Prod.snd) ++ (tq ++ (tk ++ tl)), ?_, fun kind rest hf hn => Run.of ?_⟩
  ·exact (hu.app' hi).appH (o1.appH (k1.appH m1 m2) (k2.app m2)) (o2.app (k2.app m2))
  ·have e0 : (if un = true then [wdT wDISTINCT] else []) ++ rowT ((p :: q).map Prod.snd) ++ (tq ++ (tk ++ tl)) ++ rest = (if un = true then [wdT wDISTINCT] else []) ++ (p.2 ++ (tailT (q.map Prod.snd) ++ (tq ++ (tk ++ (tl ++ rest))))) := by simp [rowT]
   rw [e0]
   have f3 : Fo (tl ++ rest) := m3.fo (by decide +kernel) hf
   have n3 : Nw [wORDER, wSKIP, wAS, wASC, wDESC] (tl ++ rest) := m3.nw (by decide) fun w hw => hn w (by simp only [midR, List.mem_cons] at hw ⊢; (rcases hw with h | h | h | h | h | h <;> simp_all))
   have f2 : Fo (tk ++ (tl ++ rest)) := k3.fo (by decide +kernel) f3
   have n2 : Nw [wORDER, wAS, wASC, wDESC] (tk ++ (tl ++ rest)) := k3.nw (by decide) fun w hw => n3 w (by simp only [List.mem_cons] at hw ⊢; (rcases hw with h | h | h | h | h | h <;> simp_all))
   have f1 : Fo (tq ++ (tk ++ (tl ++ rest))) := o3.fo (by decide +kernel) f2
   have n1 : wrd wAS (tq ++ (tk ++ (tl ++ rest))) = false := o3.no (by decide) (n2 wAS (by decide))
   have hD : wrd wDISTINCT ((if un = true then [wdT wDISTINCT] else []) ++ (p.2 ++ (tailT (q.map Prod.snd) ++ (tq ++ (tk ++ (tl ++ rest)))))) = un := by
    cases un with
    | true => rfl
    | false => rw [p1]; exact open_word p2 (by decide)
   have hT : (if un = true then ((if un = true then [wdT wDISTINCT] else []) ++ (p.2 ++ (tailT (q.map Prod.snd) ++ (tq ++ (tk ++ (tl ++ rest)))))).tail else ((if un = true then [wdT wDISTINCT] else []) ++ (p.2 ++ (tailT (q.map Prod.snd) ++ (tq ++ (tk ++ (tl ++ rest))))))) = p.2 ++ (tailT (q.map Prod.snd) ++ (tq ++ (tk ++ (tl ++ rest)))) := by
    cases un <;> rfl
   have hE : endP (tailT (q.map Prod.snd) ++ (tq ++ (tk ++ (tl ++ rest)))) ∧ wrd wAS (tailT (q.map Prod.snd) ++ (tq ++ (tk ++ (tl ++ rest)))) = false := by
    cases q with
    | nil => exact ⟨f1.endP, n1⟩
    | cons z q => exact ⟨end_close 44 _ (by decide), rfl⟩
   simp only [step, hD, hT]
   refine Ans.bnd (Ans.rec (p4 _ hE.1 hE.2)) ?_
   refine Ans.bnd (Ans.rec (run_its _ f1 n1 q [p.1] fun z hz => q2 z (List.mem_cons_of_mem _ hz))) ?_
   refine Ans.bnd (Ans.rec (o4 _ f2 (n2 _ (by decide)) (n2 _ (by decide)) (n2 _ (by decide)))) ?_
   refine Ans.bnd (Ans.rec (k4 _ f3.endP (n3 _ (by decide)))) ?_
   refine Ans.bnd (Ans.rec (m4 _ hf.endP (hn _ (by decide)))) ?_
   exact Ans.ok
end Go.Proofs.YtndhpdclpgemfaaGreat

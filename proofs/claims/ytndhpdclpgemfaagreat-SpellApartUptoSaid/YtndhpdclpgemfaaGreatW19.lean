/- Parts X64, X65 of this seat (pruned, scripts that are alike kept once as default arguments: q1, q2, ..). Conditions: each says its own. -/
import Derived.Test.YtndhpdclpgemfaaGreatW13
import Derived.Test.YtndhpdclpgemfaaGreatW18
namespace Go.Proofs.YtndhpdclpgemfaaGreat
open Go.RowKit Go.Shelf
set_option linter.unusedSimpArgs false
set_option linter.unusedVariables false
set_option maxRecDepth 100000
theorem len0 {α : Type} {l : List α} (h : ((l.length : Int) == (([] : List α).length : Int)) = true) : l = [] := by
 have := eq_of_beq h
 exact List.length_eq_zero_iff.1 (by simp at this; simpa using this)
theorem alike_has {c : Clt} (h : alikeB c (hasC c) = true) (h2 : c.kind = 2 → opX c.e ≠ 0) : c = hasC c := by
 obtain ⟨kd, l1, l2, ex, vr, l5, un, l7, l8, l9, l10, l11, de⟩ := c
 simp only at h2
 have hx : ∀ {e : Ex}, ((opX emptyX != 0) || noneB e) = true → e = emptyX := fun {e} h => none_empty (by simpa [opX, emptyX] using h)
 have hv : ∀ {s : ByteArray}, (s.toList == (⟨#[]⟩ : ByteArray).toList) = true → s = ⟨#[]⟩ := fun {s} h => (ba_nil (by rw [ba_list (⟨#[]⟩ : ByteArray)] at h; exact h)).1
 unfold alikeB at h
 simp only [Bool.and_eq_true] at h
 obtain ⟨a1, a2, a3, a4, a5, a6, a7, a8, a9, a10, a11, a12⟩ := h
 unfold hasC at a1 a2 a3 a4 a5 a6 a7 a8 a9 a10 a11 a12 ⊢
 simp only at a1 a2 a3 a4 a5 a6 a7 a8 a9 a10 a11 a12 ⊢
 by_cases k1 : kd = 1
 ·simp only [if_pos k1, bareC] at a1 a2 a3 a4 a5 a6 a7 a8 a9 a10 a11 a12 ⊢
  rw [hx a3, hv a4, len0 a5, eq_of_beq a6, len0 a7, len0 a8, len0 a9, len0 a10, len0 a11, eq_of_beq a12]
 simp only [if_neg k1] at a1 a2 a3 a4 a5 a6 a7 a8 a9 a10 a11 a12 ⊢
 by_cases k2 : kd = 2
 ·simp only [if_pos k2, bareC] at a1 a2 a3 a4 a5 a6 a7 a8 a9 a10 a11 a12 ⊢
  rw [len0 a1, len0 a2, len0 a5, eq_of_beq a6, len0 a7, len0 a8, len0 a9, len0 a10, len0 a11, eq_of_beq a12]
 simp only [if_neg k2] at a1 a2 a3 a4 a5 a6 a7 a8 a9 a10 a11 a12 ⊢
 by_cases k3 : kd = 3
 ·simp only [if_pos k3, bareC] at a1 a2 a3 a4 a5 a6 a7 a8 a9 a10 a11 a12 ⊢
  rw [len0 a1, hx a3, hv a4, len0 a10, len0 a11, eq_of_beq a12]
 simp only [if_neg k3] at a1 a2 a3 a4 a5 a6 a7 a8 a9 a10 a11 a12 ⊢
 by_cases k9 : kd = 9
 ·simp only [if_pos k9, bareC] at a1 a2 a3 a4 a5 a6 a7 a8 a9 a10 a11 a12 ⊢
  rw [len0 a1, len0 a2, hx a3, hv a4, len0 a10, len0 a11, eq_of_beq a12]
 simp only [if_neg k9] at a1 a2 a3 a4 a5 a6 a7 a8 a9 a10 a11 a12 ⊢
 by_cases k4 : kd = 4 ∨ kd = 5
 ·simp only [if_pos k4, bareC] at a1 a2 a3 a4 a5 a6 a7 a8 a9 a10 a11 a12 ⊢
  rw [len0 a2, hx a3, hv a4, len0 a5, eq_of_beq a6, len0 a7, len0 a8, len0 a9, len0 a10, len0 a11, eq_of_beq a12]
 simp only [if_neg k4] at a1 a2 a3 a4 a5 a6 a7 a8 a9 a10 a11 a12 ⊢
 by_cases k6 : kd = 6 ∨ kd = 7
 ·simp only [if_pos k6, bareC] at a1 a2 a3 a4 a5 a6 a7 a8 a9 a10 a11 a12 ⊢
  rw [len0 a1, len0 a2, hx a3, hv a4, len0 a5, eq_of_beq a6, len0 a7, len0 a8, len0 a9, len0 a11, eq_of_beq a12]
 simp only [if_neg k6] at a1 a2 a3 a4 a5 a6 a7 a8 a9 a10 a11 a12 ⊢
 by_cases k8 : kd = 8
 ·simp only [if_pos k8, bareC] at a1 a2 a3 a4 a5 a6 a7 a8 a9 a10 a11 a12 ⊢
  rw [len0 a1, len0 a2, hx a3, hv a4, len0 a5, eq_of_beq a6, len0 a7, len0 a8, len0 a9, len0 a10]
 simp only [if_neg k8, bareC] at a1 a2 a3 a4 a5 a6 a7 a8 a9 a10 a11 a12 ⊢
 rw [len0 a1, len0 a2, hx a3, hv a4, len0 a5, eq_of_beq a6, len0 a7, len0 a8, len0 a9, len0 a10, len0 a11, eq_of_beq a12]
theorem op_ne {d : Nat} {t : Ex} (h : deepB d t = true) : opX t ≠ 0 := by
 obtain ⟨op, nm, v, ns, az⟩ := t
 cases d with
 | zero => rw [deepB] at h; cases h
 | succ d =>
  intro h2
  have h3 : op = 0 := h2
  rcases named_no (deep_parts h).1 with h | h | h | h | h | h | h | h | h | h | h | h | h | h | h <;> omega
def c64 (c : Clt) : Prop := (∀ p ∈ c.paths, p64 p) ∧ e64s c.whr ∧ e64 c.e ∧ (∀ i ∈ c.items, e64 i.e) ∧ (∀ s ∈ c.order, e64 s.e) ∧ e64s c.skip ∧ e64s c.limit ∧ ∀ s ∈ c.sets, e64 s.e
def midL : List (List UInt8) := [wWHERE, wORDER, wSKIP, wLIMIT, wAS, wASC, wDESC]
theorem groupM_parts {g : Grt} (h : groupM g = true) : g.least ≤ (g.parts.length : Int) ∧ (g.parts.length : Int) ≤ g.most ∧ ∀ p ∈ g.parts, partM p = true := by
 unfold groupM at h
 simp only [Bool.and_eq_true, decide_eq_true_eq, List.all_eq_true] at h
 exact h
theorem most1 {l : List Ex} {w : ByteArray} {a : Int} (h : groupM ⟨w, l.map .ex, a, 1⟩ = true) : l.length ≤ 1 ∧ l.all (deepB 32) = true := by
 obtain ⟨-, h2, h3⟩ := groupM_parts h
 simp only [List.length_map] at h2
 refine ⟨by omega, List.all_eq_true.2 fun t ht => ?_⟩
 exact h3 (.ex t) (List.mem_map.2 ⟨t, ht, rfl⟩)
theorem least1 {α : Type} {f : α → Part} {l : List α} {w : ByteArray} {b : Int} (h : groupM ⟨w, l.map f, 1, b⟩ = true) : l ≠ [] ∧ ∀ x ∈ l, partM (f x) = true := by
 obtain ⟨h1, -, h3⟩ := groupM_parts h
 refine ⟨fun e => ?_, fun x hx => h3 (f x) (List.mem_map.2 ⟨x, hx, rfl⟩)⟩
 subst e; simp at h1
theorem tail_parts {c : Clt} (h : ∀ g ∈ tailG c, groupM g = true) : (∀ s ∈ c.order, sortM s = true) ∧ (c.skip.length ≤ 1 ∧ c.skip.all (deepB 32) = true) ∧ (c.limit.length ≤ 1 ∧ c.limit.all (deepB 32) = true) := by
 unfold tailG at h
 refine ⟨fun s hs => ?_, most1 (h ⟨⟨#[32, 83, 75, 73, 80, 32]⟩, c.skip.map .ex, 0, 1⟩ (by simp)), most1 (h ⟨⟨#[32, 76, 73, 77, 73, 84, 32]⟩, c.limit.map .ex, 0, 1⟩ (by simp))⟩
 obtain ⟨-, -, h3⟩ := groupM_parts (h _ (List.mem_cons_self ..))
 exact h3 (.so s) (List.mem_map.2 ⟨s, hs, rfl⟩)
def ClOk (c : Clt) (ts : List Tok) : Prop := ∃ W r, ts = wdT W :: r ∧ W ∈ headsL ∧ Rd Nn (clauseX c) ts ∧ ∀ rest, Fo rest → Nw midL rest → Run (.clause W) (r ++ rest) (.ok (.cl c) rest)
theorem nw_sub {L M : List (List UInt8)} {r : List Tok} (h : Nw L r) (hM : ∀ w ∈ M, w ∈ L) : Nw M r := fun w hw => h w (hM w hw)
theorem clauseX_eq {c : Clt} {gs : List Grt} (h : groupsL c = gs) : clauseX c = gs.flatMap groupX := by unfold clauseX; rw [h]
theorem sets_all {kind : Int} {l : List Sit} (h0 : l ≠ []) (h : ∀ s ∈ l, setM s (kind == 6) = true ∧ e64 s.e) : ∃ ts, Rd Nn (jn (l.map fun s => setX s (kind == 6))) ts ∧ ∀ rest, Fo rest → Run (.setL kind []) (ts ++ rest) (.ok (.zl l) rest) := by
 obtain ⟨q, rfl, q2⟩ := each (P := SiOk kind) l fun s hs => set_all (h s hs).1 (h s hs).2
 refine ⟨rowT (q.map Prod.snd), ?_, fun rest hf => run_sets kind rest hf q [] (fun e => h0 (by rw [e]; rfl)) q2⟩
 have := rd_jn (q.map fun p => (setX p.1 (kind == 6), p.2)) (fun y hy => by obtain ⟨x, hx, rfl⟩ := List.mem_map.1 hy; exact (q2 x hx).1)
 rw [List.map_map, List.map_map] at this
 rw [List.map_map]
 exact this
theorem vars_all {l : List ByteArray} (h0 : l ≠ []) (h : ∀ s ∈ l, plainB s = true) : ∃ ts, Rd Nn (jn (l.map fun s => s.data.toList)) ts ∧ ∀ rest, Fo rest → Run (.vars []) (ts ++ rest) (.ok (.ss l) rest) := by
 refine ⟨_, ?_, fun rest hf => run_vars rest hf l [] h0⟩
 have := rd_jn (l.map fun s => (s.data.toList, [nmT s.data.toList])) (fun y hy => by obtain ⟨x, hx, rfl⟩ := List.mem_map.1 hy; exact rd_name (h x hx))
 rw [List.map_map, List.map_map] at this
 exact this
theorem clause_all {c : Clt} {m : Bool} (h : clauseM c m = true) (h64 : c64 c) : ∃ ts, ClOk c ts := by
 unfold clauseM at h
 simp only [Bool.and_eq_true, List.all_eq_true] at h
 obtain ⟨hg, hne, -, hgs⟩ := h
 obtain ⟨q1, q2, q3, q4, q5, q6, q7, q8⟩ := h64
 have hal : alikeB c (hasC c) = true := by
  unfold groupsB at hg
  split at hg
  ·cases hg
  ·exact hg
 by_cases k1 : c.kind = 1
 ·have eg : groupsL c = [pathsG c ⟨#[77, 65, 84, 67, 72, 32]⟩ 1048576, whereG c] := by unfold groupsL; rw [if_pos k1]
  have ec := alike_has hal fun h => by omega
  unfold hasC at ec
  rw [if_pos k1] at ec
  rw [eg] at hgs
  obtain ⟨p1, p2⟩ := least1 (hgs (pathsG c ⟨#[77, 65, 84, 67, 72, 32]⟩ 1048576) (by simp))
  obtain ⟨w1, w2⟩ := most1 (hgs (whereG c) (by simp))
  obtain ⟨ts, a1, a2⟩ := paths_all p1 fun p hp => ⟨p2 p hp, q1 p hp⟩
  obtain ⟨us, b1, b2, b3, b4⟩ := maybe_all wWHERE (by decide) (by decide +kernel) ⟨#[32, 87, 72, 69, 82, 69, 32]⟩ rfl w1 w2 q2 0 1
  have ex : clauseX c = (wMATCH ++ [32]) ++ (jn (c.paths.map pathX) ++ groupX (whereG c)) := by
   rw [clauseX_eq eg, List.flatMap_cons, List.flatMap_cons, List.flatMap_nil, List.append_nil]
   show groupX ⟨_, c.paths.map .pt, 1, 1048576⟩ ++ _ = _
   rw [groupX_jn _ _ _ _ (by simpa using p1), List.map_map, List.append_assoc]; rfl
  refine ⟨_, wMATCH, ts ++ us, rfl, by decide, ?_, fun rest hf hn => Run.of ?_⟩
  ·rw [ex]; exact (rd_wordB wMATCH (by decide)).app' (a1.appH b1 b2)
  ·rw [List.append_assoc]
   simp only [step, ↓reduceIte]
   refine Ans.bnd (Ans.rec (a2 _ (b3.fo (by decide +kernel) hf))) (Ans.bnd (Ans.rec (b4 _ hf.endP (hn _ (by decide)))) ?_)
   rw [show (okP (.cl { bareC 1 with paths := (V.ps c.paths).paths, whr := (V.xs c.whr).exs }) rest) = some (.ok (.cl c) rest) from by unfold okP; rw [k1] at ec; exact congrArg (fun z => some (Pr.ok (.cl z) rest)) ec.symm]
   exact Ans.ok
 by_cases k2 : c.kind = 2
 ·have eg : groupsL c = [⟨⟨#[85, 78, 87, 73, 78, 68, 32]⟩, [.ex c.e], 1, 1⟩, ⟨⟨#[32, 65, 83, 32]⟩, [.nm c.var], 1, 1⟩] := by unfold groupsL; rw [if_neg k1, if_pos k2]
  rw [eg] at hgs
  obtain ⟨-, -, p3⟩ := groupM_parts (hgs ⟨⟨#[85, 78, 87, 73, 78, 68, 32]⟩, [.ex c.e], 1, 1⟩ (by simp))
  obtain ⟨-, -, p4⟩ := groupM_parts (hgs ⟨⟨#[32, 65, 83, 32]⟩, [.nm c.var], 1, 1⟩ (by simp))
  have hd : deepB 32 c.e = true := p3 (.ex c.e) (by simp)
  have hp : plainB c.var = true := p4 (.nm c.var) (by simp)
  have ho : opX c.e ≠ 0 := op_ne hd
  have ec := alike_has hal fun h => ho
  unfold hasC at ec
  rw [if_neg k1, if_pos k2] at ec
  obtain ⟨ts, a1, -, a4⟩ := (xg_all 32 c.e hd q3).whole
  have ex : clauseX c = (wUNWIND ++ [32]) ++ (textX c.e ++ ([32] ++ ((wAS ++ [32]) ++ c.var.data.toList))) := by
   rw [clauseX_eq eg, List.flatMap_cons, List.flatMap_cons, List.flatMap_nil, List.append_nil, groupX_jn _ _ _ _ (by simp), groupX_jn _ _ _ _ (by simp)]
   show _ ++ jn [textX c.e] ++ (_ ++ jn [c.var.data.toList]) = _
   rw [jn_one, jn_one, List.append_assoc]; rfl
  have h5 : Rd Nn ([32] ++ ((wAS ++ [32]) ++ c.var.data.toList)) ([] ++ ([wdT wAS] ++ [nmT c.var.data.toList])) := rd_blank.app' ((rd_wordB wAS (by decide)).app' (rd_name hp))
  refine ⟨_, wUNWIND, ts ++ [wdT wAS, nmT c.var.data.toList], rfl, by decide, ?_, fun rest hf hn => Run.of ?_⟩
  ·rw [ex]; exact (rd_wordB wUNWIND (by decide)).app' (a1.appN h5 (by simp) rfl)
  ·rw [List.append_assoc]
   simp (decide := true) only [step, ↓reduceIte]
   refine Ans.bnd (Ans.rec (a4 _ (end_word wAS _ (by decide +kernel)))) ?_
   simp only [List.cons_append, List.nil_append, must, nameP, show ∀ r, wrd wAS (wdT wAS :: r) = true from fun _ => rfl, show (nx (nmT c.var.data.toList :: rest)).k = 1 from rfl, show strOf (nx (nmT c.var.data.toList :: rest)).t = c.var from rfl, List.tail_cons, ↓reduceIte]
   rw [show (okP (.cl { bareC 2 with e := (V.x c.e).ex, var := c.var }) rest) = some (.ok (.cl c) rest) from by unfold okP; rw [k2] at ec; exact congrArg (fun z => some (Pr.ok (.cl z) rest)) ec.symm]
   exact Ans.ok
 by_cases k3 : c.kind = 3
 ·have eg : groupsL c = itemsG c (⟨#[87, 73, 84, 72, 32]⟩ ++ uniqW c) :: (tailG c ++ [whereG c]) := by unfold groupsL; rw [if_neg k1, if_neg k2, if_pos k3]
  have ec := alike_has hal fun h => by omega
  unfold hasC at ec
  rw [if_neg k1, if_neg k2, if_pos k3] at ec
  rw [eg] at hgs
  obtain ⟨p1, p2⟩ := least1 (hgs _ (List.mem_cons_self ..))
  obtain ⟨t1, t2, t3⟩ := tail_parts (c := c) fun g hg => hgs g (by simp [hg])
  obtain ⟨w1, w2⟩ := most1 (hgs (whereG c) (by simp))
  obtain ⟨ts, a1, a2⟩ := rows_all p1 (fun i hi => ⟨p2 i hi, q4 i hi⟩) (fun s hs => ⟨t1 s hs, q5 s hs⟩) ⟨t2.1, t2.2, q6⟩ ⟨t3.1, t3.2, q7⟩
  obtain ⟨us, b1, b2, b3, b4⟩ := maybe_all wWHERE (by decide) (by decide +kernel) ⟨#[32, 87, 72, 69, 82, 69, 32]⟩ rfl w1 w2 q2 0 1
  have ex : clauseX c = (wWITH ++ [32]) ++ (((uniqW c).data.toList ++ jn (c.items.map itemX) ++ (tailG c).flatMap groupX) ++ groupX (whereG c)) := by
   rw [clauseX_eq eg, List.flatMap_cons, List.flatMap_append, List.flatMap_cons, List.flatMap_nil, List.append_nil]
   show groupX ⟨_, c.items.map .it, 1, 1048576⟩ ++ _ = _
   rw [groupX_jn _ _ _ _ (by simpa using p1), List.map_map, ba_app]
   show (_ ++ (uniqW c).data.toList) ++ jn (c.items.map itemX) ++ _ = _
   simp
  refine ⟨_, wWITH, ts ++ us, rfl, by decide, ?_, fun rest hf hn => Run.of ?_⟩
  ·rw [ex]; exact (rd_wordB wWITH (by decide)).app' (a1.appH b1 b2)
  ·rw [List.append_assoc]
   simp (decide := true) only [step, ↓reduceIte]
   refine Ans.bnd (Ans.rec (a2 3 _ (b3.fo (by decide +kernel) hf) (b3.nw (by decide) (nw_sub hn (by decide))))) (Ans.bnd (Ans.rec (b4 _ hf.endP (hn _ (by decide)))) ?_)
   rw [show ∀ z, (okP (.cl { (V.cl z).clause with whr := (V.xs c.whr).exs }) rest) = some (.ok (.cl { z with whr := c.whr }) rest) from fun _ => rfl]
   rw [k3] at ec
   exact (congrArg (fun z => Ans (fun _ => some (Pr.ok (.cl z) rest)) (Pr.ok (.cl c) rest)) ec) ▸ Ans.ok
 by_cases k9 : c.kind = 9
 ·have eg : groupsL c = itemsG c (⟨#[82, 69, 84, 85, 82, 78, 32]⟩ ++ uniqW c) :: tailG c := by unfold groupsL; rw [if_neg k1, if_neg k2, if_neg k3, if_pos k9]
  have ec := alike_has hal fun h => by omega
  unfold hasC at ec
  rw [if_neg k1, if_neg k2, if_neg k3, if_pos k9] at ec
  rw [eg] at hgs
  obtain ⟨p1, p2⟩ := least1 (hgs _ (List.mem_cons_self ..))
  obtain ⟨t1, t2, t3⟩ := tail_parts (c := c) fun g hg => hgs g (by simp [hg])
  obtain ⟨ts, a1, a2⟩ := rows_all p1 (fun i hi => ⟨p2 i hi, q4 i hi⟩) (fun s hs => ⟨t1 s hs, q5 s hs⟩) ⟨t2.1, t2.2, q6⟩ ⟨t3.1, t3.2, q7⟩
  have ex : clauseX c = (wRETURN ++ [32]) ++ ((uniqW c).data.toList ++ jn (c.items.map itemX) ++ (tailG c).flatMap groupX) := by
   rw [clauseX_eq eg, List.flatMap_cons]
   show groupX ⟨_, c.items.map .it, 1, 1048576⟩ ++ _ = _
   rw [groupX_jn _ _ _ _ (by simpa using p1), List.map_map, ba_app]
   show (_ ++ (uniqW c).data.toList) ++ jn (c.items.map itemX) ++ _ = _
   simp
  refine ⟨_, wRETURN, ts, rfl, by decide, ?_, fun rest hf hn => Run.of ?_⟩
  ·rw [ex]; exact (rd_wordB wRETURN (by decide)).app' a1
  ·simp (decide := true) only [step, ↓reduceIte]
   have := a2 9 rest hf (nw_sub hn (by decide))
   rw [k9] at ec
   rw [← ec] at this
   exact Ans.rec this
 by_cases k4 : c.kind = 4
 ·have eg : groupsL c = [pathsG c ⟨#[67, 82, 69, 65, 84, 69, 32]⟩ 1048576] := by unfold groupsL; rw [if_neg k1, if_neg k2, if_neg k3, if_neg k9, if_pos k4]
  have ec := alike_has hal fun h => by omega
  unfold hasC at ec
  rw [if_neg k1, if_neg k2, if_neg k3, if_neg k9, if_pos (.inl k4)] at ec
  rw [eg] at hgs
  obtain ⟨p1, p2⟩ := least1 (hgs _ (List.mem_cons_self ..))
  obtain ⟨ts, a1, a2⟩ := paths_all p1 fun p hp => ⟨p2 p hp, q1 p hp⟩
  have ex : clauseX c = (wCREATE ++ [32]) ++ jn (c.paths.map pathX) := by
   rw [clauseX_eq eg, List.flatMap_cons, List.flatMap_nil, List.append_nil]
   show groupX ⟨_, c.paths.map .pt, 1, 1048576⟩ = _
   rw [groupX_jn _ _ _ _ (by simpa using p1), List.map_map]; rfl
  refine ⟨_, wCREATE, ts, rfl, by decide, ?_, fun rest hf hn => Run.of ?_⟩
  ·rw [ex]; exact (rd_wordB wCREATE (by decide)).app' a1
  ·simp (decide := true) only [step, ↓reduceIte]
   refine Ans.bnd (Ans.rec (a2 _ hf)) ?_
   rw [show (okP (.cl { bareC 4 with paths := (V.ps c.paths).paths }) rest) = some (.ok (.cl c) rest) from by unfold okP; rw [k4] at ec; exact congrArg (fun z => some (Pr.ok (.cl z) rest)) ec.symm]
   exact Ans.ok
 by_cases k5 : c.kind = 5
 ·have hmb : mergeBad c = false := by
   unfold groupsB at hg
   cases hb : mergeBad c with
   | false => rfl
   | true => rw [if_pos ⟨k5, hb⟩] at hg; cases hg
  have eg : groupsL c = [pathsG c ⟨#[77, 69, 82, 71, 69, 32]⟩ 1] := by unfold groupsL; rw [if_neg k1, if_neg k2, if_neg k3, if_neg k9, if_neg k4, if_pos k5, hmb]; rfl
  have ec := alike_has hal fun h => by omega
  unfold hasC at ec
  rw [if_neg k1, if_neg k2, if_neg k3, if_neg k9, if_pos (.inr k5)] at ec
  rw [eg] at hgs
  obtain ⟨g1, g2, -⟩ := groupM_parts (hgs _ (List.mem_cons_self ..))
  obtain ⟨p1, p2⟩ := least1 (hgs _ (List.mem_cons_self ..))
  simp only [pathsG, List.length_map] at g1 g2
  obtain ⟨p, hp⟩ : ∃ p, c.paths = [p] := by
   match hc : c.paths with
   | [] => exact absurd hc p1
   | [p] => exact ⟨p, rfl⟩
   | a :: b :: r => rw [hc] at g2; simp at g2; omega
  have hpm : pathM p = true := p2 p (by rw [hp]; simp)
  have hp64 := q1 p (by rw [hp]; simp)
  have he : p.edges = [] := by
   unfold mergeBad at hmb
   rw [hp] at hmb
   have : ¬ 0 < p.edges.length := of_decide_eq_false hmb
   exact List.length_eq_zero_iff.1 (by omega)
  obtain ⟨n, hn⟩ : ∃ n, p = ⟨[n], []⟩ := by
   obtain ⟨ns, es⟩ := p
   simp only at he
   subst he
   unfold pathM at hpm
   simp only [Bool.and_eq_true, decide_eq_true_eq] at hpm
   match ns, hpm.1 with
   | [n], _ => exact ⟨n, rfl⟩
   | [], h => simp at h
   | a :: b :: r, h => simp at h
  have hnm : nodeM n = true := by
   rw [hn] at hpm
   unfold pathM at hpm
   simp only [Bool.and_eq_true, List.all_eq_true] at hpm
   exact hpm.2.1 n (by simp)
  obtain ⟨r, a1, a2⟩ := node_all hnm (hp64.1 n (by rw [hn]; simp))
  have ex : clauseX c = (wMERGE ++ [32]) ++ nodeX n := by
   rw [clauseX_eq eg, List.flatMap_cons, List.flatMap_nil, List.append_nil]
   show groupX ⟨_, c.paths.map .pt, 1, 1⟩ = _
   rw [groupX_jn _ _ _ _ (by simpa using p1), List.map_map, hp]
   show _ ++ jn [pathX p] = _
   rw [jn_one, hn]; simp [pathX, pathPre, nodeAtX]
  refine ⟨_, wMERGE, sgT [40] :: r, rfl, by decide, ?_, fun rest hf hn2 => Run.of ?_⟩
  ·rw [ex]; exact (rd_wordB wMERGE (by decide)).app' a1.any
  ·simp (decide := true) only [step, ↓reduceIte]
   refine Ans.bnd (Ans.rec (a2 rest)) ?_
   rw [show (okP (.cl { bareC 5 with paths := [⟨[(V.np n).node], []⟩] }) rest) = some (.ok (.cl c) rest) from by unfold okP; rw [k5, hp, hn] at ec; exact congrArg (fun z => some (Pr.ok (.cl z) rest)) ec.symm]
   exact Ans.ok
 by_cases k6 : c.kind = 6
 ·have eg : groupsL c = [setsG c ⟨#[83, 69, 84, 32]⟩] := by unfold groupsL; rw [if_neg k1, if_neg k2, if_neg k3, if_neg k9, if_neg k4, if_neg k5, if_pos k6]
  have ec := alike_has hal fun h => by omega
  unfold hasC at ec
  rw [if_neg k1, if_neg k2, if_neg k3, if_neg k9, if_neg (by omega), if_pos (.inl k6)] at ec
  rw [eg] at hgs
  obtain ⟨p1, p2⟩ := least1 (f := fun s => .si s (c.kind == 6)) (hgs _ (List.mem_cons_self ..))
  obtain ⟨ts, a1, a2⟩ := sets_all (kind := c.kind) p1 fun s hs => ⟨p2 s hs, q8 s hs⟩
  have ex : clauseX c = (wSET ++ [32]) ++ jn (c.sets.map fun s => setX s (c.kind == 6)) := by
   rw [clauseX_eq eg, List.flatMap_cons, List.flatMap_nil, List.append_nil]
   show groupX ⟨_, c.sets.map (fun s => .si s (c.kind == 6)), 1, 1048576⟩ = _
   rw [groupX_jn _ _ _ _ (by simpa using p1), List.map_map]; rfl
  refine ⟨_, wSET, ts, rfl, by decide, ?_, fun rest hf hn2 => Run.of ?_⟩
  ·rw [ex]; exact (rd_wordB wSET (by decide)).app' a1
  ·simp (decide := true) only [step, ↓reduceIte]
   have a3 := a2 rest hf
   rw [k6] at a3
   refine Ans.bnd (Ans.rec a3) ?_
   rw [show (okP (.cl { bareC 6 with sets := (V.zl c.sets).sets }) rest) = some (.ok (.cl c) rest) from by unfold okP; rw [k6] at ec; exact congrArg (fun z => some (Pr.ok (.cl z) rest)) ec.symm]
   exact Ans.ok
 by_cases k7 : c.kind = 7
 ·have eg : groupsL c = [setsG c ⟨#[82, 69, 77, 79, 86, 69, 32]⟩] := by unfold groupsL; rw [if_neg k1, if_neg k2, if_neg k3, if_neg k9, if_neg k4, if_neg k5, if_neg k6, if_pos k7]
  have ec := alike_has hal fun h => by omega
  unfold hasC at ec
  rw [if_neg k1, if_neg k2, if_neg k3, if_neg k9, if_neg (by omega), if_pos (.inr k7)] at ec
  rw [eg] at hgs
  obtain ⟨p1, p2⟩ := least1 (f := fun s => .si s (c.kind == 6)) (hgs _ (List.mem_cons_self ..))
  obtain ⟨ts, a1, a2⟩ := sets_all (kind := c.kind) p1 fun s hs => ⟨p2 s hs, q8 s hs⟩
  have ex : clauseX c = (wREMOVE ++ [32]) ++ jn (c.sets.map fun s => setX s (c.kind == 6)) := by
   rw [clauseX_eq eg, List.flatMap_cons, List.flatMap_nil, List.append_nil]
   show groupX ⟨_, c.sets.map (fun s => .si s (c.kind == 6)), 1, 1048576⟩ = _
   rw [groupX_jn _ _ _ _ (by simpa using p1), List.map_map]; rfl
  refine ⟨_, wREMOVE, ts, rfl, by decide, ?_, fun rest hf hn2 => Run.of ?_⟩
  ·rw [ex]; exact (rd_wordB wREMOVE (by decide)).app' a1
  ·simp (decide := true) only [step, ↓reduceIte]
   have a3 := a2 rest hf
   rw [k7] at a3
   refine Ans.bnd (Ans.rec a3) ?_
   rw [show (okP (.cl { bareC 7 with sets := (V.zl c.sets).sets }) rest) = some (.ok (.cl c) rest) from by unfold okP; rw [k7] at ec; exact congrArg (fun z => some (Pr.ok (.cl z) rest)) ec.symm]
   exact Ans.ok
 by_cases k8 : c.kind = 8
 ·have eg : groupsL c = [⟨if c.detach = true then ⟨#[68, 69, 84, 65, 67, 72, 32, 68, 69, 76, 69, 84, 69, 32]⟩ else ⟨#[68, 69, 76, 69, 84, 69, 32]⟩, c.vars.map .nm, 1, 1048576⟩] := by unfold groupsL; rw [if_neg k1, if_neg k2, if_neg k3, if_neg k9, if_neg k4, if_neg k5, if_neg k6, if_neg k7, if_pos k8]
  have ec := alike_has hal fun h => by omega
  unfold hasC at ec
  rw [if_neg k1, if_neg k2, if_neg k3, if_neg k9, if_neg (by omega), if_neg (by omega), if_pos k8] at ec
  rw [eg] at hgs
  obtain ⟨p1, p2⟩ := least1 (hgs _ (List.mem_cons_self ..))
  obtain ⟨ts, a1, a2⟩ := vars_all p1 fun s hs => p2 s hs
  have ex0 : clauseX c = (if c.detach = true then (⟨#[68, 69, 84, 65, 67, 72, 32, 68, 69, 76, 69, 84, 69, 32]⟩ : ByteArray) else ⟨#[68, 69, 76, 69, 84, 69, 32]⟩).data.toList ++ jn (c.vars.map fun s => s.data.toList) := by
   rw [clauseX_eq eg, List.flatMap_cons, List.flatMap_nil, List.append_nil, groupX_jn _ _ _ _ (by simpa using p1), List.map_map]; rfl
  cases hd : c.detach with
  | true =>
   rw [hd] at ex0
   have ex : clauseX c = (wDETACH ++ [32]) ++ ((wDELETE ++ [32]) ++ jn (c.vars.map fun s => s.data.toList)) := ex0
   refine ⟨_, wDETACH, wdT wDELETE :: ts, rfl, by decide, ?_, fun rest hf hn2 => Run.of ?_⟩
   ·rw [ex]; exact (rd_wordB wDETACH (by decide)).app' ((rd_wordB wDELETE (by decide)).app' a1)
   ·simp (decide := true) only [step, ↓reduceIte, must, List.cons_append, show ∀ r, wrd wDELETE (wdT wDELETE :: r) = true from fun _ => rfl, List.tail_cons]
    refine Ans.bnd (Ans.rec (a2 rest hf)) ?_
    rw [show (okP (.cl { bareC 8 with vars := (V.ss c.vars).strs, detach := true }) rest) = some (.ok (.cl c) rest) from by unfold okP; rw [k8, hd] at ec; exact congrArg (fun z => some (Pr.ok (.cl z) rest)) ec.symm]
    exact Ans.ok
  | false =>
   rw [hd] at ex0
   have ex : clauseX c = (wDELETE ++ [32]) ++ jn (c.vars.map fun s => s.data.toList) := ex0
   refine ⟨_, wDELETE, ts, rfl, by decide, ?_, fun rest hf hn2 => Run.of ?_⟩
   ·rw [ex]; exact (rd_wordB wDELETE (by decide)).app' a1
   ·simp (decide := true) only [step, ↓reduceIte]
    refine Ans.bnd (Ans.rec (a2 rest hf)) ?_
    rw [show (okP (.cl { bareC 8 with vars := (V.ss c.vars).strs }) rest) = some (.ok (.cl c) rest) from by unfold okP; rw [k8, hd] at ec; exact congrArg (fun z => some (Pr.ok (.cl z) rest)) ec.symm]
    exact Ans.ok
 have eg : groupsL c = [] := by unfold groupsL; rw [if_neg k1, if_neg k2, if_neg k3, if_neg k9, if_neg k4, if_neg k5, if_neg k6, if_neg k7, if_neg k8]
 rw [eg] at hne; simp at hne
theorem head_words : ∀ W ∈ headsL, pwT (wdT W) = 0 ∧ W ∉ midL := by decide +kernel
theorem endT_fo : Fo [⟨6, [], 0⟩] ∧ Nw midL [⟨6, [], 0⟩] := ⟨⟨by decide, by decide +kernel⟩, fun w _ => rfl⟩
theorem clauses_all : ∀ (l : List Clt), clausesM l = true → (∀ c ∈ l, c64 c) → ∃ ts, (ts = [] ∨ ∃ W r, ts = wdT W :: r ∧ W ∈ headsL) ∧ Rd Nn (clTail false l) ts ∧ Hn (clTail false l) ∧
    ∀ acc, (l = [] ∨ lastK acc ≠ 9) → 4 ≤ lastK (acc ++ l) → Run (.stmt acc) (ts ++ [⟨6, [], 0⟩]) (.ok (.cs (acc ++ l)) [⟨6, [], 0⟩])
  | [], _, _ => ⟨[], .inl rfl, Rd.nil _, .inl rfl, fun acc _ h4 => Run.of (by
    rw [List.append_nil] at h4 ⊢
    show Ans (fun c => step c (.stmt acc) [⟨6, [], 0⟩]) _
    simp only [step, if_pos (show (nx [⟨6, [], 0⟩]).k = 6 ∧ 4 ≤ lastK acc from ⟨rfl, h4⟩)]
    exact Ans.ok)⟩
  | c :: l, h, h64 => by
    rw [clausesM, Bool.and_eq_true] at h
    obtain ⟨ts, a1, a2, a3, a4⟩ := clauses_all l h.2 fun x hx => h64 x (List.mem_cons_of_mem _ hx)
    obtain ⟨us, W, r, rfl, b1, b2, b3⟩ := clause_all h.1 (h64 c (List.mem_cons_self ..))
    have hf : Fo (ts ++ [⟨6, [], 0⟩]) ∧ Nw midL (ts ++ [⟨6, [], 0⟩]) := by
      rcases a1 with rfl | ⟨W2, r2, rfl, hW2⟩
      · exact endT_fo
      · refine ⟨fo_word W2 _ (head_words W2 hW2).1, fun w hw => ?_⟩
        show (decide (2 = 2) && decide (W2 = w)) = false
        rw [decide_eq_false (fun (e : W2 = w) => (head_words W2 hW2).2 (by rw [e]; exact hw))]; rfl
    have et : clTail false (c :: l) = [32] ++ (clauseX c ++ clTail false l) := rfl
    rw [et]
    refine ⟨(wdT W :: r) ++ ts, .inr ⟨W, r ++ ts, rfl, b1⟩, rd_blank.app' (b2.appH a2 a3), .inr rfl, fun acc hk h4 => Run.of ?_⟩
    have hk9 : lastK acc ≠ 9 := hk.resolve_left (by simp)
    have e0 : (wdT W :: r) ++ ts ++ [⟨6, [], 0⟩] = wdT W :: (r ++ (ts ++ [⟨6, [], 0⟩])) := by simp
    rw [e0]
    have n6 : ¬ ((nx (wdT W :: (r ++ (ts ++ [⟨6, [], 0⟩])))).k = 6 ∧ 4 ≤ lastK acc) := fun h => absurd h.1 (by decide : ¬ (2 : Nat) = 6)
    have y2 : (nx (wdT W :: (r ++ (ts ++ [⟨6, [], 0⟩])))).k = 2 ∧ (nx (wdT W :: (r ++ (ts ++ [⟨6, [], 0⟩])))).t ∈ headsL ∧ lastK acc ≠ 9 := ⟨rfl, b1, hk9⟩
    simp only [step, if_neg n6, if_pos y2]
    refine Ans.bnd (Ans.rec (b3 _ hf.1 hf.2)) ?_
    have e1 : acc ++ c :: l = acc ++ [c] ++ l := by simp
    rw [e1] at h4 ⊢
    refine Ans.rec (a4 (acc ++ [c]) ?_ h4)
    by_cases hl : l = []
    · exact .inl hl
    · refine .inr ?_
      have h1 := h.1
      unfold clauseM at h1
      simp only [Bool.and_eq_true] at h1
      have h2 := h1.2.2.1
      have h3 : l.isEmpty = false := by cases l with | nil => exact absurd rfl hl | cons _ _ => rfl
      rw [h3] at h2
      have h5 : lastK (acc ++ [c]) = c.kind := by unfold lastK; simp
      rw [h5]
      intro h6
      rw [h6] at h2
      simp at h2
theorem stmt_back {s : Smt} (h : rightB s = true) (h64 : ∀ c ∈ s.clauses, c64 c) : ∃ ts, Rd Nn (stmtX s.clauses) ts ∧ Run (.stmt []) (ts ++ [⟨6, [], 0⟩]) (.ok (.cs s.clauses) [⟨6, [], 0⟩]) := by
 unfold rightB at h
 simp only [Bool.and_eq_true, decide_eq_true_eq] at h
 obtain ⟨h1, -, h3, h4⟩ := h
 obtain ⟨l⟩ := s
 simp only at h1 h3 h4 h64 ⊢
 obtain ⟨ts, a1, a2, a3, a4⟩ := clauses_all l h4 h64
 refine ⟨ts, ?_, a4 [] (.inr (by decide)) ?_⟩
 ·cases l with
  | nil => simp at h1
  | cons c l =>
   intro r us hr hs
   exact a2 r us hr (ScE.blank 32 _ us (by decide) hs)
 ·rw [List.nil_append]
  unfold lastM at h3
  unfold lastK
  cases hl : l.getLast? with
  | none => rw [hl] at h3; cases h3
  | some c =>
   rw [hl] at h3
   simp only [Bool.or_eq_true, writesB, Bool.and_eq_true, decide_eq_true_eq, beq_iff_eq] at h3 ⊢
   omega
theorem scan_back {s : Smt} {l : List (Tok × Nat)} (h : rightB s = true) (h64 : ∀ c ∈ s.clauses, c64 c) (hs : scanL (stmtX s.clauses) = .ok l) : Run (.stmt []) (l.map Prod.fst) (.ok (.cs s.clauses) [⟨6, [], 0⟩]) := by
 obtain ⟨ts, h1, h2⟩ := stmt_back h h64
 obtain ⟨us, h3, h4⟩ := scanL_sc hs
 obtain ⟨vs, rfl, h5⟩ := h1 [] us rfl (by rw [List.append_nil]; exact h3)
 have : vs = [] := (ScE.fn h5 ScE.nil)
 subst this
 rw [h4, List.append_nil]
 exact h2
theorem text_apart {s t : Smt} {l : List (Tok × Nat)} (hs : rightB s = true) (ht : rightB t = true) (h1 : ∀ c ∈ s.clauses, c64 c) (h2 : ∀ c ∈ t.clauses, c64 c) (hsc : scanL (stmtX s.clauses) = .ok l) (he : stmtX s.clauses = stmtX t.clauses) : s = t := by
 have a := scan_back hs h1 hsc
 rw [he] at hsc
 have b := scan_back ht h2 hsc
 have c := a.fn b
 injection c with c1 _
 injection c1 with c2
 obtain ⟨x⟩ := s
 obtain ⟨y⟩ := t
 have : x = y := c2
 rw [this]
theorem e64s_of : ∀ {l : List Ex}, (∀ t ∈ l, e64 t) → e64s l
  | [], _ => by rw [e64s]; trivial
  | t :: l, h => by rw [e64s]; exact ⟨h t (List.mem_cons_self ..), e64s_of fun x hx => h x (List.mem_cons_of_mem _ hx)⟩
theorem isX_64 {B : Nat} {w : World} (t : Ex) : ∀ cs, IsX B w cs t → e64 t := by
 refine t.down (p := fun t => ∀ cs, IsX B w cs t → e64 t) fun op nm v ns az ih cs h => ?_
 obtain ⟨k, b, i, s, l, ks, la, lc, ka, kc, na, nc, xa, xc, rfl, rfl, -, hV, -, -, -, hR⟩ := h.cells
 unfold IsV at hV
 obtain ⟨_, _, _, _, he, -, hi, -⟩ := hV
 rw [e64]
 refine ⟨hi, e64s_of fun t ht => ?_⟩
 obtain ⟨j, hj⟩ := List.getElem?_of_mem ht
 obtain ⟨_, _, cs, -, -, -, -, h5⟩ := hR j t hj
 exact ih j t hj cs h5
theorem row_64 {α : Type} {R : List Value → α → Prop} {P : α → Prop} {s B : Nat} {w : World} {a : Option Addr} {l : List α} (h : RowR R s B w a l) (hp : ∀ cs x, R cs x → P x) : ∀ x ∈ l, P x := fun x hx => by
  obtain ⟨j, hj⟩ := List.getElem?_of_mem hx
  obtain ⟨_, _, cs, -, -, -, -, h5⟩ := h j x hj
  exact hp cs x h5
theorem rowX_64 {B : Nat} {w : World} {a : Option Addr} {l : List Ex} (h : RowR (IsX B w) 10 B w a l) : e64s l := e64s_of (row_64 h fun cs x hx => isX_64 x cs hx)
theorem isPt_64 {B : Nat} {w : World} (cs : List Value) (p : Ptt) (h : IsPt B w cs p) : p64 p := by
 obtain ⟨_, _, _, _, -, -, h1, -, h2⟩ := h
 refine ⟨row_64 h1 fun cs x hx => ?_, row_64 h2 fun cs x hx => ?_⟩
 ·obtain ⟨_, _, _, _, _, _, -, -, -, -, -, -, h3⟩ := hx; exact rowX_64 h3
 ·obtain ⟨_, _, _, _, -, -, -, -, -, h3⟩ := hx; exact rowX_64 h3
theorem isCl_64 {B : Nat} {w : World} (cs : List Value) (c : Clt) (h : IsCl B w cs c) : c64 c := by
 obtain ⟨_, _, _, _, _, _, _, _, _, _, _, _, _, _, _, _, _, -, -, -, h1, -, h2, h3, -, h5, -, h7, -, h8, -, h9, -, h10, -⟩ := h
 exact ⟨row_64 h1 isPt_64, rowX_64 h2, isX_64 _ _ h3, row_64 h5 fun cs x hx => (by obtain ⟨_, -, h4⟩ := hx; exact isX_64 _ _ h4), row_64 h7 fun cs x hx => (by obtain ⟨_, -, h4⟩ := hx; exact isX_64 _ _ h4), rowX_64 h8, rowX_64 h9, row_64 h10 fun cs x hx => (by obtain ⟨_, -, h4⟩ := hx; exact isX_64 _ _ h4)⟩
theorem sm_64 {B : Nat} {w : World} {cs : List Value} {s : Smt} (h : IsSm B w cs s) : ∀ c ∈ s.clauses, c64 c := by
 obtain ⟨_, _, -, -, h1⟩ := h
 exact row_64 h1 isCl_64
set_option maxHeartbeats 32000000 in
theorem same_stmt (s t : Smt) (cs ds : List Value) (B : Nat) (w : World) (hX : IsSm B w cs s) (hY : IsSm B w ds t) (hB : B ≤ w.heap.size) (hw1 : wtSm s ≤ 1099511627776) (hw2 : wtSm t ≤ 1099511627776) :
    Calls Tryz.prog 21 #[.agg cs.toArray, .agg ds.toArray] w fun e w' => e = .returned (.bool (eqB s t)) ∧ Below w.heap.size w w' := by
 obtain ⟨l⟩ := s
 obtain ⟨m⟩ := t
 obtain ⟨a1, c1, rfl, -, hR1⟩ := hX
 obtain ⟨a2, c2, rfl, -, hR2⟩ := hY
 simp only at hR1 hR2 ⊢
 have W1 : Hid (∀ c ∈ l, wtCl c ≤ 1099511627776) := Lib.hid (fun c hc => by have := sum_mem (f := wtCl) hc; unfold wtSm at hw1; simp only at hw1; omega)
 have W2 : Hid (∀ c ∈ m, wtCl c ≤ 1099511627776) := Lib.hid (fun c hc => by have := sum_mem (f := wtCl) hc; unfold wtSm at hw2; simp only at hw2; omega)
 have ln1 : l.length ≤ 1099511627776 := by have := len_sum (f := wtCl) (fun x => by unfold wtCl; omega) l; unfold wtSm at hw1; simp only at hw1; omega
 have ln2 : m.length ≤ 1099511627776 := by have := len_sum (f := wtCl) (fun x => by unfold wtCl; omega) m; unfold wtSm at hw2; simp only at hw2; omega
 obtain ⟨n1, hn1⟩ := nam l.length
 obtain ⟨n2, hn2⟩ := nam m.length
 rw [hn1] at ln1 ⊢
 rw [hn2] at ln2 ⊢
 obtain ⟨W0, u0, HW0, HU0, HSZ, HBE, hc1, hc2⟩ := box2 w [.slice a1 n1 c1] [.slice a2 n2 c2] 24 24
 have e0 := fun u => hc1 u 0 _ rfl
 have f0 := fun u => hc2 u 0 _ rfl
 clear hc1 hc2
 have HA1 : Hid (∀ (j : Nat) c, l[j]? = some c → ∃ bb off cs, a1 = some ⟨bb, off, none⟩ ∧ bb < B ∧ cs.length = 22 ∧ (∀ (u : Ext (w.heap.size + 2) W0) (q : Nat) v, cs[q]? = some v → u.w.cell? ⟨bb, off + j * 22 + q, none⟩ = some v) ∧ ∀ u : Ext (w.heap.size + 2) W0, IsCl B u.w cs c) := Lib.hid (fun j c hc => hR1.at_gen (R := fun v => IsCl B v) (f := fun u : Ext (w.heap.size + 2) W0 => u.w) hB HBE.out (fun u cs x h => h.below (HBE.out u) hB) hc)
 have HA2 : Hid (∀ (j : Nat) c, m[j]? = some c → ∃ bb off cs, a2 = some ⟨bb, off, none⟩ ∧ bb < B ∧ cs.length = 22 ∧ (∀ (u : Ext (w.heap.size + 2) W0) (q : Nat) v, cs[q]? = some v → u.w.cell? ⟨bb, off + j * 22 + q, none⟩ = some v) ∧ ∀ u : Ext (w.heap.size + 2) W0, IsCl B u.w cs c) := Lib.hid (fun j c hc => hR2.at_gen (R := fun v => IsCl B v) (f := fun u : Ext (w.heap.size + 2) W0 => u.w) hB HBE.out (fun u cs x h => h.below (HBE.out u) hB) hc)
 have HBB := Lib.hid (fun u => Nat.le_trans hB (HBE.out u).size)
 have HN1 := Lib.hid hn1
 have HN2 := Lib.hid hn2
 clear hR1 hR2 hn1 hn2 hw1 hw2 hB
 by_cases hn : n1 = n2
 ·subst hn
  have hi : ((n1 : Int) != (n1 : Int)) = false := by simp
  go_enter Tryz.func21, Tryz.ntmps21
  go_upto_region 1 with fail
  rw [HW0.out, HU0.out]
  clear HW0 HU0
  go_wp2_with fail
  go_loopw [5] (fun iv wr => ∃ (j : Nat) (u : Ext (w.heap.size + 2) W0), iv = .int .i64 j ∧ j ≤ n1 ∧ Hid (l.take j = m.take j) ∧ wr = u.w) (fun iv _ => n1 - (intOf iv).toNat)
  case atStart => exact ⟨0, _, rfl, Nat.zero_le _, Lib.hid rfl, rfl⟩
  case round =>
   obtain ⟨j, u, rfl, hj, HALL, rfl⟩ := hrel
   by_cases hlt : j < n1
   ·have hlt' : (j : Int) < n1 := by omega
    have hj0 : (0 : Int) ≤ (j : Int) := by omega
    have hwi : IntKind.i64.wrap ((j : Int) + 1) = (j : Int) + 1 := IntWalk.i64_in _ (by omega)
    obtain ⟨x, hx⟩ := get_some (l := l) (j := j) (by have := HN1.out; omega)
    obtain ⟨y, hy⟩ := get_some (l := m) (j := j) (by have := HN2.out; omega)
    obtain ⟨b1, o1, cs1, rfl, hb1, l1, g1, x1⟩ := HA1.out j x hx
    obtain ⟨b2, o2, cs2, rfl, hb2, l2, g2, x2⟩ := HA2.out j y hy
    have HC := Lib.hid (fun u : Ext (w.heap.size + 2) W0 => ext_call u HSZ.out (sameClause_any x y cs1 cs2 B u.w (x1 u) (x2 u) (HBB.out u) (W1.out x (List.mem_of_getElem? hx)) (W2.out y (List.mem_of_getElem? hy))))
    have HX := Lib.hid hx
    have HY := Lib.hid hy
    have HL1 := Lib.hid (show (Tryz.prog.info? 42).map (·.size) = some cs1.length from by rw [l1]; kernel_rfl)
    have HL2 := Lib.hid (show (Tryz.prog.info? 42).map (·.size) = some cs2.length from by rw [l2]; kernel_rfl)
    obtain ⟨r, hr⟩ := nam (eqB x y)
    rw [hr] at HC
    have HR := Lib.hid hr
    have HSS : Hid (∀ v : Ext (w.heap.size + 2) W0, (fun u : World => u.cell? ⟨w.heap.size, 0, none⟩ = some (.slice (some ⟨b1, o1, none⟩) n1 c1) ∧ u.cell? ⟨w.heap.size + 1, 0, none⟩ = some (.slice (some ⟨b2, o2, none⟩) n1 c2) ∧ u.rangeAt b1 (o1 + j * 22) cs1 ∧ u.rangeAt b2 (o2 + j * 22) cs2) v.w) := Lib.hid (fun v => ⟨e0 v, f0 v, fun q z hz => g1 v q z hz, fun q z hz => g2 v q z hz⟩)
    clear hx hy x1 x2 g1 g2 hr l1 l2
    go_upto_region 6 with fail
    refine wp_region_noPanic ?_
    refine wp_region_J (S := fun u : World => u.cell? ⟨w.heap.size, 0, none⟩ = some (.slice (some ⟨b1, o1, none⟩) n1 c1) ∧ u.cell? ⟨w.heap.size + 1, 0, none⟩ = some (.slice (some ⟨b2, o2, none⟩) n1 c2) ∧ u.rangeAt b1 (o1 + j * 22) cs1 ∧ u.rangeAt b2 (o2 + j * 22) cs2) (fun j => false) (by kernel_rfl) ?_
    obtain ⟨x0, hx0⟩ : ∃ v : Ext (w.heap.size + 2) W0, u.w.drew = v.w := ⟨⟨_, u.below.drew⟩, rfl⟩
    rw [hx0]
    clear hx0
    have hHeld := HSS.out x0
    refine Jt 0 ?_
    refine Jl 1 ?_
    refine Jt 2 ?_
    refine Jt 3 ?_
    refine Jl 4 ?_ (hy := yieldsIf_load_mid (by rfl) 42 (.tmp 23) rfl b1 (o1 + j * 22) (by rfl) cs1 _ (fun _ h => h.2.2.1) Tryz.underlying42 rfl HL1.out)
    refine Jt 5 ?_
    refine Jl 6 ?_
    refine Jt 7 ?_
    refine Jt 8 ?_
    refine Jl 9 ?_ (hy := yieldsIf_load_mid (by rfl) 42 (.tmp 28) rfl b2 (o2 + j * 22) (by rfl) cs2 _ (fun _ h => h.2.2.2) Tryz.underlying42 rfl HL2.out)
    refine Jr 10 fun KK hKK => ?_
    go_simp
    go_at_call 55
    refine (HC.out x0).mono ?_
    rintro e w3 ⟨rfl, x3, rfl⟩
    refine hKK _ _ (fun _ _ => HSS.out x3) ?_
    clear hKK KK hHeld
    have hHeld := HSS.out x3
    refine Jn ?_
    refine Jt 11 ?_
    refine wpAnyJ_done (by kernel_rfl) ?_ _
    refine NoPanic.normal ?_
    clear hHeld HSS HC
    cases r with
    | true =>
     go_wp2_with fail
     go_round
     case rel => exact ⟨j + 1, x3, by go_num, by omega, Lib.hid (by rw [take_succ_get HX.out, take_succ_get HY.out, HALL.out, eqB_iff.1 HR.out]), rfl⟩
     case measure => simp [intOf]; omega
    | false =>
     go_wp2_with fail
     go_ret
     have hne : x ≠ y := fun h => by have h2 := HR.out; rw [h, eqB_refl] at h2; cases h2
     have hnf : eqB (⟨l⟩ : Smt) ⟨m⟩ = false := eqB_of (q := false) ⟨fun h => (by cases h), fun h => (by injection h with h1; have h2 := HX.out; rw [h1, HY.out] at h2; exact absurd (Option.some.inj h2).symm hne)⟩
     rw [hnf]
     exact ⟨by rfl, HBE.out _⟩
   ·have hlt' : ¬ (j : Int) < n1 := by omega
    go_wp2_with fail
    go_ret
    have hnt : eqB (⟨l⟩ : Smt) ⟨m⟩ = true := by
     rw [eqB_iff, Smt.mk.injEq]
     have h := HALL.out
     rwa [List.take_of_length_le (by have := HN1.out; omega), List.take_of_length_le (by have := HN2.out; omega)] at h
    rw [hnt]
    exact ⟨by rfl, HBE.out _⟩
 ·have hi : ((n1 : Int) != (n2 : Int)) = true := by simp; omega
  go_enter Tryz.func21, Tryz.ntmps21
  go_upto_region 1 with fail
  rw [HW0.out, HU0.out]
  clear HW0 HU0
  go_wp2_with fail
  go_ret
  have hnf : eqB (⟨l⟩ : Smt) ⟨m⟩ = false := eqB_of (q := false) ⟨fun h => (by cases h), fun h => (by injection h with h1; exact absurd (by rw [← HN1.out, ← HN2.out, h1]) hn)⟩
  rw [hnf]
  exact ⟨by rfl, HBE.out _⟩
end Go.Proofs.YtndhpdclpgemfaaGreat

/- Layer 11: a statement's text is whole signs, and begins with a word of the language. Conditions: none. -/
import Derived.Test.YtndhpdclpgemfaaGreatTX48
import Derived.Test.YtndhpdclpgemfaaGreatY20
namespace Go.Proofs.YtndhpdclpgemfaaGreat
open Go.RowKit Go.Shelf
set_option linter.unusedSimpArgs false
set_option linter.unusedVariables false
set_option maxRecDepth 100000

theorem wh_props (ks : List ByteArray) {vs : List Ex} (h : vs.all (deepB 32) = true) : Wh (propsX ks vs) := by
  unfold propsX
  refine ((wh_asc _ (by decide)).app (wh_jn _ (wh_withK _ _ fun x hx => ?_))).app (wh_asc _ (by decide))
  obtain ⟨t, ht, rfl⟩ := List.mem_map.1 hx
  exact wh_text 32 t (List.all_eq_true.1 h t ht)
theorem wh_inner (a : Bool) (ks : List ByteArray) {vs : List Ex} (h : vs.all (deepB 32) = true) : Wh (innerX a ks vs) := by
  unfold innerX
  split
  · exact Wh.nil
  · refine Wh.app ?_ (wh_props ks h)
    split
    · exact wh_asc _ (by decide)
    · exact Wh.nil
theorem wh_lab (l : ByteArray) : Wh (labX l) := (wh_asc _ (by decide)).app (wh_key l)
theorem wh_var {s : ByteArray} (h : varM s = true) : Wh s.data.toList := by
  unfold varM at h
  rw [Bool.or_eq_true] at h
  rcases h with h | h
  · rw [← ba_list, eq_of_beq h]; exact Wh.nil
  · exact wh_plain h
theorem wh_node {n : Npt} (h : nodeM n = true) : Wh (nodeX n) := by
  unfold nodeM propsM at h
  simp only [Bool.and_eq_true] at h
  exact ((wh_asc _ (by decide)).app (wh_var h.2.1)).app ((wh_flat fun l _ => wh_lab l).app ((wh_inner _ _ h.2.2.2.2).app (wh_asc _ (by decide))))
theorem wh_edge {e : Ept} (h : edgeM e = true) : Wh (edgeX e) := by
  unfold edgeM propsM at h
  simp only [Bool.and_eq_true] at h
  have h1 : Wh (edgeIn e) := by
    unfold edgeIn
    split
    · refine ((wh_asc _ (by decide)).app (wh_var h.1)).app (Wh.app ?_ ((wh_inner _ _ h.2.2.2.2.2.2).app (wh_asc _ (by decide))))
      split
      · exact Wh.nil
      · exact wh_lab _
    · exact Wh.nil
  unfold edgeX
  refine Wh.app ?_ ((wh_asc _ (by decide)).app (h1.app ((wh_asc _ (by decide)).app ?_)))
  · split
    · exact wh_asc _ (by decide)
    · exact Wh.nil
  · split
    · exact wh_asc _ (by decide)
    · exact Wh.nil
theorem wh_path {p : Ptt} (h : pathM p = true) : Wh (pathX p) := by
  unfold pathM at h
  simp only [Bool.and_eq_true, List.all_eq_true] at h
  have hn : ∀ j, Wh (nodeAtX p.nodes j) := fun j => by
    unfold nodeAtX
    cases hj : p.nodes[j]? with
    | none => exact Wh.nil
    | some n => exact wh_node (h.2.1 n (List.mem_of_getElem? hj))
  have he : ∀ j, Wh (edgeAtX p.edges j) := fun j => by
    unfold edgeAtX
    cases hj : p.edges[j]? with
    | none => exact Wh.nil
    | some n => exact wh_edge (h.2.2 n (List.mem_of_getElem? hj))
  have hp : ∀ j, Wh (pathPre p.nodes p.edges j) := fun j => by
    induction j with
    | zero => exact Wh.nil
    | succ j ih =>
      rw [pathPre]
      refine ih.app (Wh.app ?_ (hn j))
      split
      · exact Wh.nil
      · exact he _
  exact hp _
theorem wh_part {p : Part} (h : partM p = true) : Wh (partX p) := by
  cases p with
  | ex t => exact wh_text 32 t h
  | nm s => exact wh_plain h
  | pt p => exact wh_path h
  | it i =>
    simp only [partM, itemM, Bool.and_eq_true] at h
    refine (wh_text 32 i.e h.2).app ?_
    split
    · exact (wh_asc _ (by decide)).app (wh_plain h.1)
    · exact Wh.nil
  | so s =>
    refine (wh_text 32 s.e h).app ?_
    split
    · exact wh_asc _ (by decide)
    · exact Wh.nil
  | si s st =>
    simp only [partM, setM, Bool.and_eq_true] at h
    obtain ⟨h1, h2, h3, h4⟩ := h
    refine (wh_plain h1).app ?_
    split
    · rename_i hl
      refine ((wh_asc _ (by decide)).app (wh_key _)).app ?_
      split
      · rename_i hs
        subst hs
        refine (wh_asc _ (by decide)).app (wh_text 32 s.e ?_)
        rw [hl] at h2
        have hk : (s.key.toList == []) = false := by cases hk : (s.key.toList == []) with | false => rfl | true => rw [hk] at h2; simp at h2
        rw [hk] at h4
        simpa using h4
      · exact Wh.nil
    · exact wh_lab _
theorem wh_parts {w : List UInt8} (hw : Wh w) : ∀ (f : Bool) (ps : List Part), ps.all partM = true → Wh (partsX w f ps)
  | _, [], _ => Wh.nil
  | f, p :: ps, h => by
    rw [List.all_cons, Bool.and_eq_true] at h
    rw [partsX]
    refine Wh.app ?_ ((wh_part h.1).app (wh_parts hw false ps h.2))
    split
    · exact hw
    · exact wh_asc _ (by decide)
theorem uniq_asc (c : Clt) : (uniqW c).data.toList.all asc = true := by unfold uniqW; split <;> decide
/-- Every group's word is plain signs; the first one begins with a word of the language and has a part at least. -/
theorem groups_words (c : Clt) : (∀ g ∈ groupsL c, g.word.data.toList.all asc = true) ∧ (groupsL c = [] ∨ ∃ g gs W r, groupsL c = g :: gs ∧ 1 ≤ g.least ∧ W ∈ wordsL ∧ g.word.data.toList = W ++ 32 :: r) := by
  have hN : ∀ g ∈ ([] : List Grt), g.word.data.toList.all asc = true := fun g hg => by simp at hg
  have hT : ∀ g ∈ tailG c, g.word.data.toList.all asc = true := by
    intro g hg
    simp only [tailG, List.mem_cons, List.not_mem_nil, or_false] at hg
    rcases hg with rfl | rfl | rfl <;> kernel_rfl
  have hW : (whereG c).word.data.toList.all asc = true := by kernel_rfl
  have hU : ∀ l : List UInt8, l.all asc = true → ((⟨l.toArray⟩ : ByteArray) ++ uniqW c).data.toList.all asc = true := fun l hl => by
    rw [ba_app, List.all_append, uniq_asc, Bool.and_true]; simpa using hl
  unfold groupsL
  by_cases k1 : c.kind = 1
  · rw [if_pos k1]; exact ⟨List.forall_mem_cons.2 ⟨by kernel_rfl, List.forall_mem_cons.2 ⟨hW, hN⟩⟩, .inr ⟨_, _, [77, 65, 84, 67, 72], [], rfl, Int.le_refl 1, by decide, rfl⟩⟩
  rw [if_neg k1]
  by_cases k2 : c.kind = 2
  · rw [if_pos k2]; exact ⟨List.forall_mem_cons.2 ⟨by kernel_rfl, List.forall_mem_cons.2 ⟨by kernel_rfl, hN⟩⟩, .inr ⟨_, _, [85, 78, 87, 73, 78, 68], [], rfl, Int.le_refl 1, by decide, rfl⟩⟩
  rw [if_neg k2]
  by_cases k3 : c.kind = 3
  · rw [if_pos k3]
    refine ⟨List.forall_mem_cons.2 ⟨hU [87, 73, 84, 72, 32] (by decide), fun g hg => ?_⟩, .inr ⟨_, _, [87, 73, 84, 72], (uniqW c).data.toList, rfl, Int.le_refl 1, by decide, by show (_ ++ uniqW c).data.toList = _; rw [ba_app]; rfl⟩⟩
    rcases List.mem_append.1 hg with hg | hg
    · exact hT g hg
    · rw [List.mem_singleton.1 hg]; exact hW
  rw [if_neg k3]
  by_cases k9 : c.kind = 9
  · rw [if_pos k9]
    exact ⟨List.forall_mem_cons.2 ⟨hU [82, 69, 84, 85, 82, 78, 32] (by decide), hT⟩, .inr ⟨_, _, [82, 69, 84, 85, 82, 78], (uniqW c).data.toList, rfl, Int.le_refl 1, by decide, by show (_ ++ uniqW c).data.toList = _; rw [ba_app]; rfl⟩⟩
  rw [if_neg k9]
  by_cases k4 : c.kind = 4
  · rw [if_pos k4]; exact ⟨List.forall_mem_cons.2 ⟨by kernel_rfl, hN⟩, .inr ⟨_, _, [67, 82, 69, 65, 84, 69], [], rfl, Int.le_refl 1, by decide, rfl⟩⟩
  rw [if_neg k4]
  by_cases k5 : c.kind = 5
  · rw [if_pos k5]
    by_cases hm : mergeBad c = true
    · rw [if_pos hm]; exact ⟨hN, .inl rfl⟩
    · rw [if_neg hm]; exact ⟨List.forall_mem_cons.2 ⟨by kernel_rfl, hN⟩, .inr ⟨_, _, [77, 69, 82, 71, 69], [], rfl, Int.le_refl 1, by decide, rfl⟩⟩
  rw [if_neg k5]
  by_cases k6 : c.kind = 6
  · rw [if_pos k6]; exact ⟨List.forall_mem_cons.2 ⟨by kernel_rfl, hN⟩, .inr ⟨_, _, [83, 69, 84], [], rfl, Int.le_refl 1, by decide, rfl⟩⟩
  rw [if_neg k6]
  by_cases k7 : c.kind = 7
  · rw [if_pos k7]; exact ⟨List.forall_mem_cons.2 ⟨by kernel_rfl, hN⟩, .inr ⟨_, _, [82, 69, 77, 79, 86, 69], [], rfl, Int.le_refl 1, by decide, rfl⟩⟩
  rw [if_neg k7]
  by_cases k8 : c.kind = 8
  · rw [if_pos k8]
    by_cases hd : c.detach = true
    · rw [if_pos hd]; exact ⟨List.forall_mem_cons.2 ⟨by kernel_rfl, hN⟩, .inr ⟨_, _, [68, 69, 84, 65, 67, 72], [68, 69, 76, 69, 84, 69, 32], rfl, Int.le_refl 1, by decide, rfl⟩⟩
    · rw [if_neg hd]; exact ⟨List.forall_mem_cons.2 ⟨by kernel_rfl, hN⟩, .inr ⟨_, _, [68, 69, 76, 69, 84, 69], [], rfl, Int.le_refl 1, by decide, rfl⟩⟩
  rw [if_neg k8]
  exact ⟨hN, .inl rfl⟩
theorem wh_clause {c : Clt} {m : Bool} (h : clauseM c m = true) : Wh (clauseX c) := by
  unfold clauseM at h
  simp only [Bool.and_eq_true, List.all_eq_true] at h
  refine wh_flat fun g hg => ?_
  have h1 := h.2.2.2 g hg
  unfold groupM at h1
  simp only [Bool.and_eq_true] at h1
  exact wh_parts (wh_asc _ ((groups_words c).1 g hg)) true g.parts h1.2.2
theorem wh_tail : ∀ (f : Bool) (l : List Clt), clausesM l = true → Wh (clTail f l)
  | _, [], _ => Wh.nil
  | f, c :: cs, h => by
    rw [clausesM, Bool.and_eq_true] at h
    rw [clTail]
    refine Wh.app ?_ ((wh_clause h.1).app (wh_tail false cs h.2))
    split
    · exact Wh.nil
    · exact wh_asc _ (by decide)
theorem wh_stmt {s : Smt} (h : rightB s = true) : Wh (stmtX s.clauses) := by
  unfold rightB at h
  simp only [Bool.and_eq_true] at h
  exact wh_tail true _ h.2.2.2
theorem head_word {s : Smt} (h : rightB s = true) : ∃ W r, W ∈ wordsL ∧ stmtX s.clauses = W ++ 32 :: r := by
  unfold rightB at h
  simp only [Bool.and_eq_true, decide_eq_true_eq] at h
  obtain ⟨h1, -, -, h4⟩ := h
  obtain ⟨cl⟩ := s
  simp only at h1 h4 ⊢
  cases cl with
  | nil => simp at h1
  | cons c cs =>
    rw [clausesM, Bool.and_eq_true] at h4
    have h5 := h4.1
    unfold clauseM at h5
    simp only [Bool.and_eq_true, List.all_eq_true] at h5
    rcases (groups_words c).2 with he | ⟨g, gs, W, r, he, hl, hW, hw⟩
    · rw [he] at h5; simp at h5
    · have h6 := h5.2.2.2 g (by rw [he]; exact List.mem_cons_self ..)
      unfold groupM at h6
      simp only [Bool.and_eq_true, decide_eq_true_eq] at h6
      have h7 := h6.1
      obtain ⟨gw, gp, gl, gm⟩ := g
      simp only at hl hw h7 he
      cases gp with
      | nil => simp at h7; omega
      | cons p ps =>
        refine ⟨W, r ++ (partX p ++ partsX gw.data.toList false ps) ++ gs.flatMap groupX ++ clTail false cs, hW, ?_⟩
        have e1 : stmtX (c :: cs) = [] ++ (clauseX c ++ clTail false cs) := rfl
        have e2 : clauseX c = partsX gw.data.toList true (p :: ps) ++ gs.flatMap groupX := by unfold clauseX; rw [he, List.flatMap_cons]; rfl
        have e3 : partsX gw.data.toList true (p :: ps) = gw.data.toList ++ (partX p ++ partsX gw.data.toList false ps) := rfl
        rw [e1, e2, e3, hw]
        simp
theorem scanN_bad : ∀ (f : Nat) (r : List UInt8) (p : Nat) (acc : List (Tok × Nat)) (q : Nat) (x : Int), scanN f r p acc = .bad q x → q ≤ p + r.length ∧ x ≠ 0
  | 0, r, p, acc, q, x, h => by rw [scanN] at h; cases h; exact ⟨by omega, by decide⟩
  | f + 1, r, p, acc, q, x, h => by
    have hle := spanB_le blankB r
    rw [scanN] at h
    by_cases hd : r.drop (spanB blankB r) = []
    · rw [if_pos hd] at h
      split at h
      · cases h; exact ⟨by omega, by decide⟩
      · cases h
    · rw [if_neg hd] at h
      cases ho : oneL (r.drop (spanB blankB r)) with
      | bad e => rw [ho] at h; cases h; exact ⟨by omega, oneL_ne ho⟩
      | tok t n =>
        rw [ho] at h
        dsimp only at h
        have hsz := oneL_size hd ho
        split at h
        · cases h; exact ⟨by omega, by decide⟩
        · have := scanN_bad f _ _ _ q x h
          rw [List.length_drop] at hsz
          rw [List.length_drop, List.length_drop] at this
          exact ⟨by omega, this.2⟩
theorem scanL_bad {s : List UInt8} {q : Nat} {x : Int} (h : scanL s = .bad q x) : q ≤ s.length ∧ x ≠ 0 := by
  unfold scanL at h
  split at h
  · cases h; exact ⟨by omega, by decide⟩
  · have := scanN_bad _ _ _ _ _ _ h
    exact ⟨by omega, this.2⟩
theorem word_bytes : ∀ W ∈ wordsL, wordB W = true ∧ W ≠ [] ∧ W.length ≤ 64 ∧ largeL W = W ∧ (∀ c ∈ W, nchar c.toNat = true) ∧ letter (nb W 0) = true ∧ blankB (nb W 0) = false := by decide +kernel
theorem scan_head {W r : List UInt8} {l : List (Tok × Nat)} (hW : W ∈ wordsL) (h : scanL (W ++ 32 :: r) = .ok l) : 2 ≤ l.length ∧ l[0]? = some (⟨2, W, 0⟩, 0) := by
  obtain ⟨f1, f2, f3, f4, f5, f6, f7⟩ := word_bytes W hW
  have hn0 : nb (W ++ 32 :: r) 0 = nb W 0 := by
    cases W with
    | nil => exact absurd rfl f2
    | cons c W => rfl
  have hsp : spanB nchar (W ++ 32 :: r) = W.length := spanB_text W r f5 (by decide)
  have hbl : spanB blankB (W ++ 32 :: r) = 0 := by
    cases W with
    | nil => exact absurd rfl f2
    | cons c W => exact spanB_neg _ f7
  have htk : (W ++ 32 :: r).take W.length = W := List.take_left
  have h1 : oneL (W ++ 32 :: r) = .tok ⟨2, W, 0⟩ W.length := by
    have := oneL_word (r := W ++ 32 :: r) (by rw [hn0]; exact f6) (by rw [hsp]; omega) (by rw [hsp, htk]; exact f1)
    rwa [hsp, htk, f4] at this
  unfold scanL at h
  split at h
  · cases h
  · rw [scanN, hbl] at h
    simp only [List.drop_zero] at h
    rw [if_neg (by simp), h1] at h
    dsimp only at h
    rw [if_neg (by simp)] at h
    obtain ⟨toks, q, h2, -, -⟩ := scanN_form _ _ _ _ _ h
    rw [h2]
    simp
end Go.Proofs.YtndhpdclpgemfaaGreat

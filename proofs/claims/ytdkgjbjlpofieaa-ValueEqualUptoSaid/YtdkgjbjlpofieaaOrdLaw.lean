/- Layer 3: the order of values is one. Conditions: the values may be. -/
import Derived.Test.YtdkgjbjlpofieaaLawT
namespace Go.Proofs.Ytdkgjbjlpofieaa
open Go.RowKit
set_option linter.unusedSimpArgs false
set_option linter.unusedVariables false

/-- Of three comparisons (a b, b c, a c): they go together. -/
def TR (x y z : Int) : Prop := (x = 0 → y = 0 → z = 0) ∧ (x < 0 → y ≤ 0 → z < 0) ∧ (x ≤ 0 → y < 0 → z < 0)
def lex (c r : Int) : Int := if c = 0 then r else c
theorem firstI_cons (x : Int) (l : List Int) : firstI (x :: l) = lex x (firstI l) := rfl
theorem TR.lex {x y z X Y Z : Int} (h : TR x y z) (H : x = 0 → y = 0 → TR X Y Z) : TR (lex x X) (lex y Y) (lex z Z) := by
  obtain ⟨h1, h2, h3⟩ := h
  unfold Proofs.Ytdkgjbjlpofieaa.lex
  by_cases hx : x = 0
  · by_cases hy : y = 0
    · rw [if_pos hx, if_pos hy, if_pos (h1 hx hy)]
      exact H hx hy
    · rw [if_pos hx, if_neg hy]
      refine ⟨fun _ h => absurd h hy, fun _ hy2 => ?_, fun _ hy2 => ?_⟩
      all_goals
        have hz := h3 (by omega) (show y < 0 by omega)
        rw [if_neg (by omega)]
        exact hz
  · rw [if_neg hx]
    refine ⟨fun h => absurd h hx, fun hx2 hy2 => ?_, fun hx2 hy2 => ?_⟩
    all_goals
      have hz := h2 (show x < 0 by omega) (by split at hy2 <;> omega)
      rw [if_neg (by omega)]
      exact hz
theorem TR.neg {x y z x' y' z' : Int} (h : TR x y z) (hx : x' = -x) (hy : y' = -y) (hz : z' = -z) : True := trivial
theorem TR_int (a b c : Int) : TR (cmpI a b) (cmpI b c) (cmpI a c) := by
  unfold TR cmpI
  refine ⟨?_, ?_, ?_⟩ <;> (repeat' split) <;> omega
theorem cmpI_neg (a b : Int) : cmpI b a = -cmpI a b := by unfold cmpI; (repeat' split) <;> omega
theorem cmpI_eq {a b : Int} (h : cmpI a b = 0) : a = b := by unfold cmpI at h; (repeat' split at h) <;> omega
theorem cmpI_self (a : Int) : cmpI a a = 0 := by unfold cmpI; simp
theorem cmpS_neg (a b : ByteArray) : cmpS b a = -cmpS a b := by
  unfold cmpS
  rcases bl_tri a.toList b.toList with ⟨h, h', _⟩ | ⟨_, h, h'⟩ | ⟨h, h', _⟩ <;> rw [h, h'] <;> simp
theorem cmpS_eq {a b : ByteArray} (h : cmpS a b = 0) : a = b := by
  unfold cmpS at h
  rcases bl_tri a.toList b.toList with ⟨k, k', _⟩ | ⟨e, _, _⟩ | ⟨k, k', _⟩
  · rw [k] at h; simp at h
  · have := ba_beq a b
    rw [e] at this
    simpa using this.symm
  · rw [k', k] at h; simp at h
theorem cmpS_self (a : ByteArray) : cmpS a a = 0 := by
  have := cmpS_neg a a
  omega
theorem cmpS_lt {a b : ByteArray} : cmpS a b < 0 ↔ ltS a b = true := by
  unfold cmpS ltS
  rcases bl_tri a.toList b.toList with ⟨h, h', _⟩ | ⟨_, h, h'⟩ | ⟨h, h', _⟩ <;> rw [h, h'] <;> simp
theorem TR_str (a b c : ByteArray) : TR (cmpS a b) (cmpS b c) (cmpS a c) := by
  have key : ∀ a b c : ByteArray, ltS a b = true → ltS b c = true → ltS a c = true := fun a b c => bl_trans _ _ _
  refine ⟨fun h1 h2 => ?_, fun h1 h2 => ?_, fun h1 h2 => ?_⟩
  · rw [cmpS_eq h1, cmpS_eq h2]; exact cmpS_self c
  · by_cases h3 : cmpS b c = 0
    · rw [← cmpS_eq h3]; exact h1
    · exact cmpS_lt.2 (key _ _ _ (cmpS_lt.1 h1) (cmpS_lt.1 (by omega)))
  · by_cases h3 : cmpS a b = 0
    · rw [cmpS_eq h3]; exact h2
    · exact cmpS_lt.2 (key _ _ _ (cmpS_lt.1 (by omega)) (cmpS_lt.1 h2))
/-- The order of two rows, as one comparison. -/
def ordL (m : Bool) : List Vt → List Vt → List ByteArray → List ByteArray → Int
  | [], [], _, _ => 0
  | [], _ :: _, _, _ => -1
  | _ :: _, [], _, _ => 1
  | t :: ts, u :: us, ks, ms => lex (if m then cmpS (ks.headD ⟨#[]⟩) (ms.headD ⟨#[]⟩) else 0) (lex (ordV t u) (ordL m ts us ks.tail ms.tail))
theorem ordL_is (m : Bool) : ∀ (l l' : List Vt) (ks ms : List ByteArray), lex (ordVs m l l' ks ms) (cmpI l.length l'.length) = ordL m l l' ks ms := by
  intro l
  induction l with
  | nil =>
    intro l' ks ms
    cases l' with
    | nil => rfl
    | cons u us =>
      show lex (ordVs m [] (u :: us) ks ms) _ = -1
      simp only [ordVs, lex, if_true]
      unfold cmpI
      simp only [List.length_nil, List.length_cons]
      rw [if_pos (by omega)]
  | cons t ts ih =>
    intro l' ks ms
    cases l' with
    | nil =>
      show lex (ordVs m (t :: ts) [] ks ms) _ = 1
      simp only [ordVs, lex, if_true]
      unfold cmpI
      simp only [List.length_nil, List.length_cons]
      rw [if_neg (by omega), if_pos (by omega)]
    | cons u us =>
      have h1 : cmpI ((t :: ts).length : Nat) ((u :: us).length : Nat) = cmpI (ts.length : Nat) (us.length : Nat) := by
        unfold cmpI
        simp only [List.length_cons]
        (repeat' split) <;> omega
      rw [h1]
      show lex (ordVs m (t :: ts) (u :: us) ks ms) _ = lex _ (lex _ (ordL m ts us ks.tail ms.tail))
      rw [← ih us ks.tail ms.tail]
      simp only [ordVs, firstI_cons]
      generalize (if m = true then cmpS (ks.headD ⟨#[]⟩) (ms.headD ⟨#[]⟩) else 0) = a
      generalize ordV t u = b
      generalize ordVs m ts us ks.tail ms.tail = c
      generalize cmpI (ts.length : Nat) (us.length : Nat) = d
      show lex (lex a (lex b (lex c (firstI [])))) d = _
      unfold lex firstI
      (repeat' split) <;> first | rfl | omega
def MayE (t : Vt) : Prop := ∃ d p, (mayV t d p).2 = true
theorem MayE.parts {k : Int} {b : Bool} {i : Int} {s : ByteArray} {l : List Vt} {ks : List ByteArray} (h : MayE (.mk k b i s l ks)) : (0 ≤ k ∧ k ≤ 7) ∧ (k = 5 → ks.length = l.length) ∧ (k ≠ 5 → ks = []) ∧ ∀ (j : Nat) t, l[j]? = some t → MayE t := by
  obtain ⟨d, p, h⟩ := h
  obtain ⟨k', b', i', s', l', ks', he, hh, hj⟩ := mayV_parts h
  cases he
  have h1 := of_decide_eq_true hh
  have h2 : unusedV k b i s l.length ks.length = true := h1.2.2.2.2.1
  have h3 := of_decide_eq_true h2
  exact ⟨⟨h1.2.2.1, h1.2.2.2.1⟩, fun hk => (h1.2.2.2.2.2.2 hk).1, fun hk => List.eq_nil_of_length_eq_zero (by omega), fun j t ht => by
    obtain ⟨q, hq⟩ := hj j t ht
    exact ⟨_, q, hq⟩⟩
theorem ordV_form (k : Int) (b : Bool) (i : Int) (s : ByteArray) (l : List Vt) (ks : List ByteArray) (k' : Int) (b' : Bool) (i' : Int) (s' : ByteArray) (l' : List Vt) (ks' : List ByteArray) :
    ordV (.mk k b i s l ks) (.mk k' b' i' s' l' ks') = if k = k' then lex (ordL (k == 5) l l' ks ks') (lex (cmpI (bn b) (bn b')) (lex (cmpI i i') (cmpS s s'))) else cmpI (placeI k) (placeI k') := by
  unfold ordV
  by_cases hk : k = k'
  · rw [if_pos hk, if_pos hk, ← ordL_is]
    simp only [firstI_cons]
    unfold lex firstI
    (repeat' split) <;> first | rfl | omega
  · rw [if_neg hk, if_neg hk]
theorem place_inj {k k' : Int} (h0 : 0 ≤ k) (h7 : k ≤ 7) (h0' : 0 ≤ k') (h7' : k' ≤ 7) (h : placeI k = placeI k') : k = k' := by
  have a : k = 0 ∨ k = 1 ∨ k = 2 ∨ k = 3 ∨ k = 4 ∨ k = 5 ∨ k = 6 ∨ k = 7 := by omega
  have b : k' = 0 ∨ k' = 1 ∨ k' = 2 ∨ k' = 3 ∨ k' = 4 ∨ k' = 5 ∨ k' = 6 ∨ k' = 7 := by omega
  rcases a with rfl | rfl | rfl | rfl | rfl | rfl | rfl | rfl <;> rcases b with rfl | rfl | rfl | rfl | rfl | rfl | rfl | rfl <;> first | rfl | (exact absurd h (by decide))
theorem lex_neg {c c' r r' : Int} (h : c' = -c) (h' : r' = -r) : lex c' r' = -lex c r := by unfold lex; (repeat' split) <;> omega
theorem lex_zero {c r : Int} (h : lex c r = 0) : c = 0 ∧ r = 0 := by
  unfold lex at h
  split at h
  · exact ⟨by assumption, h⟩
  · exact absurd h (by assumption)
theorem ordL_neg (m : Bool) : ∀ (l l' : List Vt) (ks ms : List ByteArray), (∀ (j : Nat) t, l[j]? = some t → ∀ u, ordV u t = -ordV t u) → ordL m l' l ms ks = -ordL m l l' ks ms := by
  intro l
  induction l with
  | nil => intro l' ks ms _; cases l' <;> rfl
  | cons t ts ih =>
    intro l' ks ms h
    cases l' with
    | nil => rfl
    | cons u us =>
      simp only [ordL]
      refine lex_neg ?_ (lex_neg (h 0 t rfl u) (ih us ks.tail ms.tail (fun j v hv => h (j + 1) v (by simpa using hv))))
      cases m
      · rfl
      · exact cmpS_neg _ _
/-- Turned round, the order is turned round. -/
theorem ordV_neg (a : Vt) : ∀ b, ordV b a = -ordV a b := by
  refine a.down (p := fun a => ∀ b, ordV b a = -ordV a b) fun k b i s l ks ih c => ?_
  obtain ⟨k', b', i', s', l', ks'⟩ := c
  rw [ordV_form, ordV_form]
  by_cases hk : k = k'
  · subst hk
    rw [if_pos rfl, if_pos rfl]
    exact lex_neg (ordL_neg _ l l' ks ks' ih) (lex_neg (cmpI_neg _ _) (lex_neg (cmpI_neg _ _) (cmpS_neg _ _)))
  · rw [if_neg hk, if_neg (Ne.symm hk)]
    exact cmpI_neg _ _
theorem ordL_eq (m : Bool) : ∀ (l l' : List Vt) (ks ms : List ByteArray), (∀ (j : Nat) t, l[j]? = some t → ∀ (j' : Nat) u, l'[j']? = some u → ordV t u = 0 → t = u) → (m = true → ks.length = l.length ∧ ms.length = l'.length) → ordL m l l' ks ms = 0 → l = l' ∧ (m = true → ks = ms) := by
  intro l
  induction l with
  | nil =>
    intro l' ks ms _ hl h
    cases l' with
    | nil => exact ⟨rfl, fun hm => by
        have h1 := hl hm
        rw [List.eq_nil_of_length_eq_zero h1.1, List.eq_nil_of_length_eq_zero h1.2]⟩
    | cons u us => simp [ordL] at h
  | cons t ts ih =>
    intro l' ks ms he hl h
    cases l' with
    | nil => simp [ordL] at h
    | cons u us =>
      simp only [ordL] at h
      obtain ⟨h1, h2⟩ := lex_zero h
      obtain ⟨h3, h4⟩ := lex_zero h2
      obtain ⟨e1, e2⟩ := ih us ks.tail ms.tail (fun j v hv j' v' hv' => he (j + 1) v (by simpa using hv) (j' + 1) v' (by simpa using hv')) (fun hm => by have := hl hm; simp at this ⊢; omega) h4
      refine ⟨by rw [he 0 t rfl 0 u rfl h3, e1], fun hm => ?_⟩
      have h5 := hl hm
      cases ks with
      | nil => simp at h5
      | cons x xs =>
        cases ms with
        | nil => simp at h5
        | cons y ys =>
          rw [hm] at h1
          have h6 : x = y := cmpS_eq h1
          have h7 : xs = ys := e2 hm
          rw [h6, h7]
/-- Two values that the order does not part are the same. -/
theorem ordV_eq (a : Vt) : ∀ b, MayE a → MayE b → ordV a b = 0 → a = b := by
  refine a.down (p := fun a => ∀ b, MayE a → MayE b → ordV a b = 0 → a = b) fun k b i s l ks ih c ha hc h => ?_
  obtain ⟨k', b', i', s', l', ks'⟩ := c
  obtain ⟨⟨h0, h7⟩, hk5, hkn, hsub⟩ := ha.parts
  obtain ⟨⟨h0', h7'⟩, hk5', hkn', hsub'⟩ := hc.parts
  rw [ordV_form] at h
  by_cases hk : k = k'
  · subst hk
    rw [if_pos rfl] at h
    obtain ⟨h1, h2⟩ := lex_zero h
    obtain ⟨h3, h4⟩ := lex_zero h2
    obtain ⟨h5, h6⟩ := lex_zero h4
    obtain ⟨e1, e2⟩ := ordL_eq _ l l' ks ks' (fun j t ht j' u hu h => ih j t ht u (hsub j t ht) (hsub' j' u hu) h) (fun hm => by
      have : k = 5 := by simpa using hm
      exact ⟨hk5 this, hk5' this⟩) h1
    have hks : ks = ks' := by
      by_cases h5 : k = 5
      · exact e2 (by simpa using h5)
      · rw [hkn h5, hkn' h5]
    have hbb : b = b' := by have := cmpI_eq h3; cases b <;> cases b' <;> simp [bn] at this <;> rfl
    rw [e1, hks, hbb, cmpI_eq h5, cmpS_eq h6]
  · rw [if_neg hk] at h
    exact absurd (place_inj h0 h7 h0' h7' (cmpI_eq h)) hk
theorem ordL_tr (m : Bool) : ∀ (l l' l'' : List Vt) (ks ms ns : List ByteArray), (∀ (j : Nat) t, l[j]? = some t → ∀ (j' : Nat) u, l'[j']? = some u → ∀ (j'' : Nat) v, l''[j'']? = some v → TR (ordV t u) (ordV u v) (ordV t v)) → TR (ordL m l l' ks ms) (ordL m l' l'' ms ns) (ordL m l l'' ks ns) := by
  intro l
  induction l with
  | nil =>
    intro l' l'' ks ms ns _
    cases l' with
    | nil => cases l'' <;> (simp only [ordL]; unfold TR; omega)
    | cons u us => cases l'' <;> (simp only [ordL]; unfold TR; omega)
  | cons t ts ih =>
    intro l' l'' ks ms ns h
    cases l' with
    | nil => cases l'' <;> (simp only [ordL]; unfold TR; omega)
    | cons u us =>
      cases l'' with
      | nil => simp only [ordL]; unfold TR; omega
      | cons v vs =>
        simp only [ordL]
        refine TR.lex ?_ (fun _ _ => TR.lex (h 0 t rfl 0 u rfl 0 v rfl) (fun _ _ => ih us vs _ _ _ (fun j a ha j' b hb j'' c hc => h (j + 1) a (by simpa using ha) (j' + 1) b (by simpa using hb) (j'' + 1) c (by simpa using hc))))
        cases m
        · simp only [Bool.false_eq_true, if_false]; unfold TR; omega
        · exact TR_str _ _ _
/-- What stands ahead of what stands ahead stands ahead. -/
theorem ordV_tr (a : Vt) : ∀ b c, MayE a → MayE b → MayE c → TR (ordV a b) (ordV b c) (ordV a c) := by
  refine a.down (p := fun a => ∀ b c, MayE a → MayE b → MayE c → TR (ordV a b) (ordV b c) (ordV a c)) fun k b i s l ks ih c d ha hc hd => ?_
  obtain ⟨k', b', i', s', l', ks'⟩ := c
  obtain ⟨k'', b'', i'', s'', l'', ks''⟩ := d
  obtain ⟨⟨h0, h7⟩, _, _, hsub⟩ := ha.parts
  obtain ⟨⟨h0', h7'⟩, _, _, hsub'⟩ := hc.parts
  obtain ⟨⟨h0'', h7''⟩, _, _, hsub''⟩ := hd.parts
  have pf : ∀ {k k' : Int} (X : Int), 0 ≤ k → k ≤ 7 → 0 ≤ k' → k' ≤ 7 → (if k = k' then X else cmpI (placeI k) (placeI k')) = lex (cmpI (placeI k) (placeI k')) (if k = k' then X else 0) := fun {k k'} X a b c d => by
    by_cases hk : k = k'
    · subst hk
      simp [lex, cmpI_self]
    · rw [if_neg hk]
      unfold lex
      rw [if_neg (fun h => hk (place_inj a b c d (cmpI_eq h)))]
  rw [ordV_form, ordV_form, ordV_form, pf _ h0 h7 h0' h7', pf _ h0' h7' h0'' h7'', pf _ h0 h7 h0'' h7'']
  refine TR.lex (TR_int _ _ _) fun hx hy => ?_
  obtain rfl := place_inj h0 h7 h0' h7' (cmpI_eq hx)
  obtain rfl := place_inj h0' h7' h0'' h7'' (cmpI_eq hy)
  rw [if_pos rfl, if_pos rfl, if_pos rfl]
  exact TR.lex (ordL_tr _ l l' l'' ks ks' ks'' (fun j t ht j' u hu j'' v hv => ih j t ht u v (hsub j t ht) (hsub' j' u hu) (hsub'' j'' v hv))) fun _ _ =>
    TR.lex (TR_int _ _ _) fun _ _ => TR.lex (TR_int _ _ _) fun _ _ => TR_str _ _ _
theorem ordV_self (a : Vt) : ordV a a = 0 := by have := ordV_neg a a; omega
/-- The order gives -1, 0 or 1. -/
theorem ordV_unit (a : Vt) : ∀ b, ordV a b = -1 ∨ ordV a b = 0 ∨ ordV a b = 1 := by
  have hI : ∀ a b, cmpI a b = -1 ∨ cmpI a b = 0 ∨ cmpI a b = 1 := fun a b => by unfold cmpI; (repeat' split) <;> omega
  have hS : ∀ a b, cmpS a b = -1 ∨ cmpS a b = 0 ∨ cmpS a b = 1 := fun a b => by unfold cmpS; (repeat' split) <;> omega
  have hX : ∀ {c r : Int}, (c = -1 ∨ c = 0 ∨ c = 1) → (r = -1 ∨ r = 0 ∨ r = 1) → (lex c r = -1 ∨ lex c r = 0 ∨ lex c r = 1) := fun {c r} h1 h2 => by unfold lex; split <;> omega
  have hL : ∀ (m : Bool) (l l' : List Vt) (ks ms : List ByteArray), (∀ (j : Nat) t, l[j]? = some t → ∀ b, ordV t b = -1 ∨ ordV t b = 0 ∨ ordV t b = 1) → (ordL m l l' ks ms = -1 ∨ ordL m l l' ks ms = 0 ∨ ordL m l l' ks ms = 1) := by
    intro m l
    induction l with
    | nil => intro l' ks ms _; cases l' <;> simp [ordL]
    | cons t ts ih =>
      intro l' ks ms h
      cases l' with
      | nil => simp [ordL]
      | cons u us =>
        simp only [ordL]
        refine hX ?_ (hX (h 0 t rfl u) (ih us _ _ (fun j v hv => h (j + 1) v (by simpa using hv))))
        split
        · exact hS _ _
        · omega
  refine a.down (p := fun a => ∀ b, ordV a b = -1 ∨ ordV a b = 0 ∨ ordV a b = 1) fun k b i s l ks ih c => ?_
  obtain ⟨k', b', i', s', l', ks'⟩ := c
  rw [ordV_form]
  split
  · exact hX (hL _ _ _ _ _ ih) (hX (hI _ _) (hX (hI _ _) (hS _ _)))
  · exact hI _ _
end Go.Proofs.Ytdkgjbjlpofieaa

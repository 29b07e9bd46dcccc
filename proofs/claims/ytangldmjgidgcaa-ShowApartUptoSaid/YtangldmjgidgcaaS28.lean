/- Layer 5: two values that may be and have one text are one value, in plain trees. Conditions: none. -/
import Derived.Test.YtangldmjgidgcaaS27
namespace Go.Proofs.Ytangldmjgidgcaa
open Go.RowKit
set_option linter.unusedVariables false

def Laid (t : Vt) : Prop := ∃ B w cs, IsV B w cs t
theorem Laid.head {k : Int} {b : Bool} {i : Int} {s : ByteArray} {l : List Vt} {ks : List ByteArray} (h : Laid (.mk k b i s l ks)) : In64 i ∧ ∀ (j : Nat) u, l[j]? = some u → Laid u := by
  obtain ⟨B, w, cs, h⟩ := h
  unfold IsV at h
  obtain ⟨la, lc, ka, kc, -, -, h2, -, -, -, -, -, hL⟩ := h
  exact ⟨h2, fun j u hu => by obtain ⟨_, _, cs', _, _, _, hV⟩ := hL.get j u hu; exact ⟨_, _, cs', hV⟩⟩
theorem MayE.unused {k : Int} {b : Bool} {i : Int} {s : ByteArray} {l : List Vt} {ks : List ByteArray} (h : MayE (.mk k b i s l ks)) : unusedV k b i s l.length ks.length = true := by
  obtain ⟨d, p, h⟩ := h
  obtain ⟨k', b', i', s', l', ks', he, hh, _⟩ := mayV_parts h
  injection he with e1 e2 e3 e4 e5 e6
  subst e1 e2 e3 e4 e5 e6
  exact (of_decide_eq_true hh).2.2.2.2.1
theorem ba_zero {s t : ByteArray} (h : s.size = 0) (k : t.size = 0) : s = t := by
  apply ByteArray.ext
  apply Array.ext'
  rw [List.length_eq_zero_iff.1 (show s.data.toList.length = 0 by simpa using h), List.length_eq_zero_iff.1 (show t.data.toList.length = 0 by simpa using k)]
theorem may_eq {k : Int} {b b' : Bool} {i i' : Int} {s s' : ByteArray} {l l' : List Vt} {ks ks' : List ByteArray} (u : unusedV k b i s l.length ks.length = true) (u' : unusedV k b' i' s' l'.length ks'.length = true)
    (h1 : k = 1 → b = b') (h2 : k = 2 ∨ k = 6 ∨ k = 7 → i = i') (h3 : k = 3 → s = s') (h4 : k = 4 ∨ k = 5 → l = l') (h5 : k = 5 → ks = ks') : Vt.mk k b i s l ks = .mk k b' i' s' l' ks' := by
  obtain ⟨a1, a2, a3, a4, a5⟩ := of_decide_eq_true u
  obtain ⟨b1, b2, b3, b4, b5⟩ := of_decide_eq_true u'
  have e1 : b = b' := by
    by_cases hk : k = 1
    · exact h1 hk
    · rw [a1.resolve_left hk, b1.resolve_left hk]
  have e2 : i = i' := by
    by_cases hk : k = 2 ∨ k = 6 ∨ k = 7
    · exact h2 hk
    · have c : i = 0 := by omega
      have d : i' = 0 := by omega
      rw [c, d]
  have e3 : s = s' := by
    by_cases hk : k = 3
    · exact h3 hk
    · exact ba_zero (a3.resolve_left hk) (b3.resolve_left hk)
  have e4 : l = l' := by
    by_cases hk : k = 4 ∨ k = 5
    · exact h4 hk
    · have c : l.length = 0 := by omega
      have d : l'.length = 0 := by omega
      rw [List.length_eq_zero_iff.1 c, List.length_eq_zero_iff.1 d]
  have e5 : ks = ks' := by
    by_cases hk : k = 5
    · exact h5 hk
    · rw [List.length_eq_zero_iff.1 (a5.resolve_left hk), List.length_eq_zero_iff.1 (b5.resolve_left hk)]
  rw [e1, e2, e3, e4, e5]
/-- Lists of texts, each read to its end. -/
theorem join_inj {α : Type} (E : α → List UInt8) (ok : α → Prop) (e : UInt8) (he : e = 93 ∨ e = 125) (hd : ∀ x, ok x → ∃ c t, E x = c :: t ∧ c ≠ e) (xs : List α) (hx : ∀ x ∈ xs, ok x)
    (inj : ∀ x ∈ xs, ∀ y, ok y → ∀ r q, Term r → Term q → E x ++ r = E y ++ q → x = y ∧ r = q) (ys : List α) (hy : ∀ y ∈ ys, ok y) (r q : List UInt8) (h : jn (xs.map E) ++ e :: r = jn (ys.map E) ++ e :: q) : xs = ys ∧ r = q := by
  have hterm : ∀ (zs : List α) (p : List UInt8), Term (Lib.joinTail [44, 32] (zs.map E) ++ e :: p) := fun zs p c hc => by
    cases zs with
    | nil =>
      simp [Lib.joinTail] at hc
      rw [← hc]
      rcases he with rfl | rfl
      · exact .inr (.inl rfl)
      · exact .inr (.inr rfl)
    | cons z zs =>
      simp [Lib.joinTail] at hc
      exact .inl hc.symm
  have htail : ∀ (xs ys : List α) (r q : List UInt8), (∀ x ∈ xs, ok x) → (∀ y ∈ ys, ok y) → (∀ x ∈ xs, ∀ y, ok y → ∀ r q, Term r → Term q → E x ++ r = E y ++ q → x = y ∧ r = q) →
      Lib.joinTail [44, 32] (xs.map E) ++ e :: r = Lib.joinTail [44, 32] (ys.map E) ++ e :: q → xs = ys ∧ r = q := by
    intro xs
    induction xs with
    | nil =>
      intro ys r q _ _ _ h
      cases ys with
      | nil => simp [Lib.joinTail] at h; exact ⟨rfl, h⟩
      | cons y ys =>
        exfalso
        simp [Lib.joinTail] at h
        rcases he with rfl | rfl
        · exact absurd h.1 (by decide)
        · exact absurd h.1 (by decide)
    | cons x xs ih =>
      intro ys r q hx hy inj h
      cases ys with
      | nil =>
        exfalso
        simp [Lib.joinTail] at h
        rcases he with rfl | rfl
        · exact absurd h.1 (by decide)
        · exact absurd h.1 (by decide)
      | cons y ys =>
        have h2 : E x ++ (Lib.joinTail [44, 32] (xs.map E) ++ e :: r) = E y ++ (Lib.joinTail [44, 32] (ys.map E) ++ e :: q) := by
          simpa [Lib.joinTail, List.append_assoc] using h
        obtain ⟨h3, h4⟩ := inj x (by simp) y (hy y (by simp)) _ _ (hterm xs r) (hterm ys q) h2
        obtain ⟨h5, h6⟩ := ih ys r q (fun x hx' => hx x (by simp [hx'])) (fun y hy' => hy y (by simp [hy'])) (fun x hx' => inj x (by simp [hx'])) h4
        exact ⟨by rw [h3, h5], h6⟩
  cases xs with
  | nil =>
    cases ys with
    | nil => simp [jn_nil] at h; exact ⟨rfl, h⟩
    | cons y ys =>
      exfalso
      obtain ⟨c, t, hc, hne⟩ := hd y (hy y (by simp))
      unfold jn at h
      rw [List.map_cons, Lib.join_cons, hc] at h
      simp [Lib.join_nil] at h
      exact hne h.1.symm
  | cons x xs =>
    cases ys with
    | nil =>
      exfalso
      obtain ⟨c, t, hc, hne⟩ := hd x (hx x (by simp))
      unfold jn at h
      rw [List.map_cons, Lib.join_cons, hc] at h
      simp [Lib.join_nil] at h
      exact hne h.1
    | cons y ys =>
      unfold jn at h
      rw [List.map_cons, List.map_cons, Lib.join_cons, Lib.join_cons, List.append_assoc, List.append_assoc] at h
      obtain ⟨h3, h4⟩ := inj x (by simp) y (hy y (by simp)) _ _ (hterm xs r) (hterm ys q) h
      obtain ⟨h5, h6⟩ := htail xs ys r q (fun x hx' => hx x (by simp [hx'])) (fun y hy' => hy y (by simp [hy'])) (fun x hx' => inj x (by simp [hx'])) h4
      exact ⟨by rw [h3, h5], h6⟩
theorem show_0 (b : Bool) (i : Int) (s : ByteArray) (l : List Vt) (ks : List ByteArray) : showV (.mk 0 b i s l ks) = [110, 117, 108, 108] := by unfold showV; rfl
theorem show_1 (b : Bool) (i : Int) (s : ByteArray) (l : List Vt) (ks : List ByteArray) : showV (.mk 1 b i s l ks) = if b then [116, 114, 117, 101] else [102, 97, 108, 115, 101] := by unfold showV; rfl
theorem show_2 (b : Bool) (i : Int) (s : ByteArray) (l : List Vt) (ks : List ByteArray) : showV (.mk 2 b i s l ks) = textOf i := by unfold showV; rfl
theorem show_3 (b : Bool) (i : Int) (s : ByteArray) (l : List Vt) (ks : List ByteArray) : showV (.mk 3 b i s l ks) = 39 :: (quoteL s.data.toList ++ [39]) := by unfold showV; rfl
theorem show_6 (b : Bool) (i : Int) (s : ByteArray) (l : List Vt) (ks : List ByteArray) : showV (.mk 6 b i s l ks) = [35, 110] ++ textOf i := by unfold showV; rfl
theorem show_7 (b : Bool) (i : Int) (s : ByteArray) (l : List Vt) (ks : List ByteArray) : showV (.mk 7 b i s l ks) = [35, 101] ++ textOf i := by unfold showV; rfl
theorem show_4 (b : Bool) (i : Int) (s : ByteArray) (l : List Vt) (ks : List ByteArray) : showV (.mk 4 b i s l ks) = [91] ++ jn (showVs l) ++ [93] := by unfold showV; rfl
theorem show_5 (b : Bool) (i : Int) (s : ByteArray) (l : List Vt) (ks : List ByteArray) : showV (.mk 5 b i s l ks) = [123] ++ jn (withKeys ks (showVs l)) ++ [125] := by unfold showV; rfl
theorem show_head {k : Int} {b : Bool} {i : Int} {s : ByteArray} {l : List Vt} {ks : List ByteArray} (h0 : 0 ≤ k) (h7 : k ≤ 7) (hi : In64 i) : ∃ c t, showV (.mk k b i s l ks) = c :: t ∧ headK k c := by
  have : k = 0 ∨ k = 1 ∨ k = 2 ∨ k = 3 ∨ k = 4 ∨ k = 5 ∨ k = 6 ∨ k = 7 := by omega
  unfold headK
  rcases this with rfl | rfl | rfl | rfl | rfl | rfl | rfl | rfl
  · exact ⟨_, _, show_0 b i s l ks, .inl ⟨rfl, rfl⟩⟩
  · cases b
    · exact ⟨_, _, show_1 false i s l ks, .inr (.inl ⟨rfl, .inr rfl⟩)⟩
    · exact ⟨_, _, show_1 true i s l ks, .inr (.inl ⟨rfl, .inl rfl⟩)⟩
  · obtain ⟨c, t, h1, h2⟩ := textOf_ne hi
    exact ⟨c, t, by rw [show_2, h1], .inr (.inr (.inl ⟨rfl, h2⟩))⟩
  · exact ⟨_, _, show_3 b i s l ks, .inr (.inr (.inr (.inl ⟨rfl, rfl⟩)))⟩
  · exact ⟨_, _, show_4 b i s l ks, .inr (.inr (.inr (.inr (.inl ⟨rfl, rfl⟩))))⟩
  · exact ⟨_, _, show_5 b i s l ks, .inr (.inr (.inr (.inr (.inr (.inl ⟨rfl, rfl⟩)))))⟩
  · exact ⟨_, _, show_6 b i s l ks, .inr (.inr (.inr (.inr (.inr (.inr ⟨.inl rfl, rfl⟩)))))⟩
  · exact ⟨_, _, show_7 b i s l ks, .inr (.inr (.inr (.inr (.inr (.inr ⟨.inr rfl, rfl⟩)))))⟩
theorem headK_end {k : Int} {c : UInt8} (h : headK k c) : c ≠ 93 ∧ c ≠ 125 := by
  unfold headK at h
  rcases h with ⟨_, rfl⟩ | ⟨_, rfl | rfl⟩ | ⟨_, hc⟩ | ⟨_, rfl⟩ | ⟨_, rfl⟩ | ⟨_, rfl⟩ | ⟨_, rfl⟩
  all_goals first | decide | (constructor <;> (rintro rfl; revert hc; decide))
theorem keyL_head (l : List UInt8) : ∃ c t, keyL l = c :: t ∧ c ≠ 125 := by
  unfold keyL
  by_cases h : nameB l = true
  · rw [if_pos h]
    obtain ⟨_, c, t, rfl, hc⟩ := nameB_all h
    exact ⟨c, t, rfl, fun e => by rw [e] at hc; revert hc; decide⟩
  · rw [if_neg h]
    exact ⟨39, _, rfl, by decide⟩
def ShowInj (a : Vt) : Prop := ∀ b r q, MayE a → MayE b → Laid a → Laid b → Term r → Term q → showV a ++ r = showV b ++ q → a = b ∧ r = q
theorem withKeys_zip (ks : List ByteArray) (l : List Vt) : withKeys ks (showVs l) = (ks.zip l).map fun p => keyL p.1.data.toList ++ [58, 32] ++ showV p.2 := by
  unfold withKeys
  rw [showVs_map, List.zipWith_map_right, List.zip, List.map_zipWith]
theorem show_inj (a : Vt) : ShowInj a := by
  refine a.down (p := ShowInj) fun k b i s l ks ih b' r q hMa hMb hLa hLb hr hq h => ?_
  obtain ⟨k', b2, i', s', l', ks'⟩ := b'
  obtain ⟨a0, a7, a5, aM⟩ := hMa.head
  obtain ⟨c0, c7, c5, cM⟩ := hMb.head
  obtain ⟨ai, aL⟩ := hLa.head
  obtain ⟨ci, cL⟩ := hLb.head
  have ua := hMa.unused
  have uc := hMb.unused
  obtain ⟨x, t, hx, hkx⟩ := show_head (b := b) (s := s) (l := l) (ks := ks) a0 a7 ai
  obtain ⟨y, u, hy, hky⟩ := show_head (b := b2) (s := s') (l := l') (ks := ks') c0 c7 ci
  have hxy : x = y := by
    rw [hx, hy, List.cons_append, List.cons_append] at h
    injection h
  subst hxy
  have hok : ∀ z : Vt, (MayE z ∧ Laid z) → ∃ c t, showV z = c :: t ∧ c ≠ 93 ∧ c ≠ 125 := fun z hz => by
    obtain ⟨k, b, i, s, l, ks⟩ := z
    obtain ⟨z0, z7, -, -⟩ := hz.1.head
    obtain ⟨zi, -⟩ := hz.2.head
    obtain ⟨c, t, h1, h2⟩ := show_head (b := b) (s := s) (l := l) (ks := ks) z0 z7 zi
    exact ⟨c, t, h1, headK_end h2⟩
  rcases headK_one hkx hky with rfl | ⟨hk, hk'⟩
  rotate_left
  · have : (k = k') ∨ (k = 6 ∧ k' = 7) ∨ (k = 7 ∧ k' = 6) := by omega
    rcases this with rfl | ⟨rfl, rfl⟩ | ⟨rfl, rfl⟩
    · rcases hk with rfl | rfl
      · rw [show_6, show_6, List.append_assoc, List.append_assoc] at h
        obtain ⟨h1, h2⟩ := text_inj ai ci hr hq (List.append_cancel_left h)
        exact ⟨may_eq ua uc (by omega) (fun _ => h1) (by omega) (by omega) (by omega), h2⟩
      · rw [show_7, show_7, List.append_assoc, List.append_assoc] at h
        obtain ⟨h1, h2⟩ := text_inj ai ci hr hq (List.append_cancel_left h)
        exact ⟨may_eq ua uc (by omega) (fun _ => h1) (by omega) (by omega) (by omega), h2⟩
    · rw [show_6, show_7] at h
      exact absurd (List.cons.inj (List.cons.inj h).2).1 (by decide)
    · rw [show_7, show_6] at h
      exact absurd (List.cons.inj (List.cons.inj h).2).1 (by decide)
  have hc : k = 0 ∨ k = 1 ∨ k = 2 ∨ k = 3 ∨ k = 4 ∨ k = 5 ∨ k = 6 ∨ k = 7 := by omega
  rcases hc with rfl | rfl | rfl | rfl | rfl | rfl | rfl | rfl
  · rw [show_0, show_0] at h
    exact ⟨may_eq ua uc (by omega) (by omega) (by omega) (by omega) (by omega), List.append_cancel_left h⟩
  · rw [show_1, show_1] at h
    cases b <;> cases b2
    · exact ⟨may_eq ua uc (fun _ => rfl) (by omega) (by omega) (by omega) (by omega), List.append_cancel_left h⟩
    · exact absurd (List.cons.inj h).1 (by decide)
    · exact absurd (List.cons.inj h).1 (by decide)
    · exact ⟨may_eq ua uc (fun _ => rfl) (by omega) (by omega) (by omega) (by omega), List.append_cancel_left h⟩
  · rw [show_2, show_2] at h
    obtain ⟨h1, h2⟩ := text_inj ai ci hr hq h
    exact ⟨may_eq ua uc (by omega) (fun _ => h1) (by omega) (by omega) (by omega), h2⟩
  · rw [show_3, show_3] at h
    have h2 : quoteL s.data.toList ++ 39 :: r = quoteL s'.data.toList ++ 39 :: q := by simpa using h
    obtain ⟨h3, h4⟩ := quote_inj h2
    refine ⟨may_eq ua uc (by omega) (by omega) (fun _ => ?_) (by omega) (by omega), h4⟩
    rw [← strOf_toList s, h3, strOf_toList]
  · rw [show_4, show_4] at h
    have h2 : jn (l.map showV) ++ 93 :: r = jn (l'.map showV) ++ 93 :: q := by
      rw [← showVs_map, ← showVs_map]
      simpa using h
    obtain ⟨h3, h4⟩ := join_inj showV (fun z => MayE z ∧ Laid z) 93 (.inl rfl) (fun z hz => by obtain ⟨c, t, g1, g2, _⟩ := hok z hz; exact ⟨c, t, g1, g2⟩) l
      (fun z hz => by obtain ⟨j, hj⟩ := List.getElem?_of_mem hz; exact ⟨aM j z hj, aL j z hj⟩)
      (fun z hz y hy r q hr hq hh => by obtain ⟨j, hj⟩ := List.getElem?_of_mem hz; exact ih j z hj y r q (aM j z hj) hy.1 (aL j z hj) hy.2 hr hq hh) l'
      (fun z hz => by obtain ⟨j, hj⟩ := List.getElem?_of_mem hz; exact ⟨cM j z hj, cL j z hj⟩) r q h2
    exact ⟨may_eq ua uc (by omega) (by omega) (by omega) (fun _ => h3) (by omega), h4⟩
  · rw [show_5, show_5, withKeys_zip, withKeys_zip] at h
    have h2 : jn ((ks.zip l).map fun p => keyL p.1.data.toList ++ [58, 32] ++ showV p.2) ++ 125 :: r = jn ((ks'.zip l').map fun p => keyL p.1.data.toList ++ [58, 32] ++ showV p.2) ++ 125 :: q := by simpa using h
    have hmem : ∀ (ks : List ByteArray) (l : List Vt) p, p ∈ ks.zip l → ∃ j, l[j]? = some p.2 := fun ks l p hp => by
      obtain ⟨j, hj⟩ := List.getElem?_of_mem hp
      rw [List.getElem?_zip_eq_some] at hj
      exact ⟨j, hj.2⟩
    obtain ⟨h3, h4⟩ := join_inj (fun p : ByteArray × Vt => keyL p.1.data.toList ++ [58, 32] ++ showV p.2) (fun p => MayE p.2 ∧ Laid p.2) 125 (.inr rfl)
      (fun p hp => by obtain ⟨c, t, g1, g2⟩ := keyL_head p.1.data.toList; exact ⟨c, _, by rw [g1]; rfl, g2⟩) (ks.zip l)
      (fun p hp => by obtain ⟨j, hj⟩ := hmem ks l p hp; exact ⟨aM j _ hj, aL j _ hj⟩)
      (fun p hp y hy r q hr hq hh => by
        obtain ⟨j, hj⟩ := hmem ks l p hp
        have hh2 : keyL p.1.data.toList ++ 58 :: (32 :: (showV p.2 ++ r)) = keyL y.1.data.toList ++ 58 :: (32 :: (showV y.2 ++ q)) := by simpa using hh
        obtain ⟨g1, g2⟩ := key_inj hh2
        obtain ⟨g3, g4⟩ := ih j p.2 hj y.2 r q (aM j _ hj) hy.1 (aL j _ hj) hy.2 hr hq (List.cons.inj g2).2
        refine ⟨Prod.ext ?_ g3, g4⟩
        rw [← strOf_toList p.1, g1, strOf_toList]) (ks'.zip l')
      (fun p hp => by obtain ⟨j, hj⟩ := hmem ks' l' p hp; exact ⟨cM j _ hj, cL j _ hj⟩) r q h2
    have e1 : ks = ks' := by
      have := congrArg (List.map Prod.fst) h3
      rwa [List.map_fst_zip (by rw [a5 rfl]; exact Nat.le_refl _), List.map_fst_zip (by rw [c5 rfl]; exact Nat.le_refl _)] at this
    have e2 : l = l' := by
      have := congrArg (List.map Prod.snd) h3
      rwa [List.map_snd_zip (by rw [a5 rfl]; exact Nat.le_refl _), List.map_snd_zip (by rw [c5 rfl]; exact Nat.le_refl _)] at this
    exact ⟨may_eq ua uc (by omega) (by omega) (by omega) (fun _ => e2) (fun _ => e1), h4⟩
  · rw [show_6, show_6, List.append_assoc, List.append_assoc] at h
    obtain ⟨h1, h2⟩ := text_inj ai ci hr hq (List.append_cancel_left h)
    exact ⟨may_eq ua uc (by omega) (fun _ => h1) (by omega) (by omega) (by omega), h2⟩
  · rw [show_7, show_7, List.append_assoc, List.append_assoc] at h
    obtain ⟨h1, h2⟩ := text_inj ai ci hr hq (List.append_cancel_left h)
    exact ⟨may_eq ua uc (by omega) (fun _ => h1) (by omega) (by omega) (by omega), h2⟩
theorem show_eq {a b : Vt} (ha : MayE a) (hb : MayE b) (la : Laid a) (lb : Laid b) : showV a = showV b ↔ a = b := by
  constructor
  · intro h
    exact (show_inj a b [] [] ha hb la lb (fun c hc => by simp at hc) (fun c hc => by simp at hc) (by rw [h])).1
  · rintro rfl; rfl
end Go.Proofs.Ytangldmjgidgcaa

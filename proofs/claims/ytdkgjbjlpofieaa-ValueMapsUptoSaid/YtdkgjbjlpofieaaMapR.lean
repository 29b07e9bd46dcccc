/- Layer 3, in plain words: a map made by putting one key after another where it belongs is the map made by sorting. Conditions: none. -/
import Derived.Test.YtdkgjbjlpofieaaWorks
namespace Go.Proofs.Ytdkgjbjlpofieaa
open Go.RowKit
set_option linter.unusedSimpArgs false
set_option linter.unusedVariables false

abbrev KV := ByteArray × Vt
def Asc (l : List KV) : Prop := l.Pairwise fun a b => ltS a.1 b.1 = true
def posK (l : List KV) (k : ByteArray) : Nat := (l.takeWhile fun x => ltS x.1 k).length
def insP (l : List KV) (p : KV) : Option (List KV) :=
  match l[posK l p.1]? with
  | some y => if y.1 = p.1 then none else some (l.take (posK l p.1) ++ p :: l.drop (posK l p.1))
  | none => some (l.take (posK l p.1) ++ p :: l.drop (posK l p.1))
def refM : List KV → List KV → Option (List KV)
  | acc, [] => some acc
  | acc, p :: ps => match insP acc p with
    | none => none
    | some a => refM a ps
theorem ltS_tri (x y : ByteArray) : (ltS x y = true ∧ ltS y x = false ∧ x ≠ y) ∨ (ltS x y = false ∧ ltS y x = false ∧ x = y) ∨ (ltS x y = false ∧ ltS y x = true ∧ x ≠ y) := by
  have hxy : x.toList = y.toList ↔ x = y := ⟨fun h => by have h2 := ba_beq x y; rw [h] at h2; simpa using h2, fun h => by rw [h]⟩
  rcases bl_tri x.toList y.toList with ⟨h1, h2, h3⟩ | ⟨h3, h1, h2⟩ | ⟨h1, h2, h3⟩
  · exact .inl ⟨h1, h2, fun e => h3 (hxy.2 e)⟩
  · exact .inr (.inl ⟨h1, h2, hxy.1 h3⟩)
  · exact .inr (.inr ⟨h2, h1, fun e => h3 (hxy.2 e)⟩)
theorem ltS_trans {x y z : ByteArray} (h1 : ltS x y = true) (h2 : ltS y z = true) : ltS x z = true := bl_trans _ _ _ h1 h2
theorem posK_le (l : List KV) (k : ByteArray) : posK l k ≤ l.length := by
  unfold posK
  exact (List.takeWhile_sublist _).length_le
theorem posK_low {l : List KV} {k : ByteArray} {x : KV} (h : x ∈ l.take (posK l k)) : ltS x.1 k = true := by
  have e : l.take (posK l k) = l.takeWhile fun x => ltS x.1 k := by
    unfold posK
    have := List.takeWhile_prefix (l := l) (fun x : KV => ltS x.1 k)
    exact (List.prefix_iff_eq_take.1 this).symm
  rw [e] at h
  have := List.all_takeWhile (p := fun x : KV => ltS x.1 k) (l := l)
  rw [List.all_eq_true] at this
  exact this x h
theorem posK_at {l : List KV} {k : ByteArray} {x : KV} (h : l[posK l k]? = some x) : ltS x.1 k = false := by
  unfold posK at h
  induction l with
  | nil => simp at h
  | cons a l ih =>
    rw [List.takeWhile_cons] at h
    split at h
    · exact ih (by simpa using h)
    · next ha => simp at h; subst h; simpa using ha
theorem insP_spec {l : List KV} {p : KV} (h : Asc l) : (∀ r, insP l p = some r → Asc r ∧ r.Perm (p :: l)) ∧ (insP l p = none → p.1 ∈ l.map (·.1)) := by
  obtain ⟨n, hn⟩ : ∃ n, posK l p.1 = n := ⟨_, rfl⟩
  have hlow : ∀ x ∈ l.take n, ltS x.1 p.1 = true := fun x hx => posK_low (by rw [hn]; exact hx)
  have hat : ∀ x, l[n]? = some x → ltS x.1 p.1 = false := fun x hx => posK_at (by rw [hn]; exact hx)
  have hsp : Asc (l.take n ++ l.drop n) := by rw [List.take_append_drop]; exact h
  have hsp' := List.pairwise_append.1 hsp
  have good : (∀ x, l[n]? = some x → x.1 ≠ p.1) → Asc (l.take n ++ p :: l.drop n) := fun hne => by
    have hup : ∀ y ∈ l.drop n, ltS p.1 y.1 = true := by
      cases hd : l.drop n with
      | nil => simp
      | cons z zs =>
        have hz : l[n]? = some z := by
          have := congrArg (fun l => l[0]?) hd
          simpa using this
        have h1 := hat z hz
        have h2 : ltS p.1 z.1 = true := by
          rcases ltS_tri p.1 z.1 with ⟨a, _⟩ | ⟨_, _, a⟩ | ⟨_, a, _⟩
          · exact a
          · exact absurd a.symm (hne z hz)
          · rw [a] at h1; cases h1
        intro y hy
        rcases List.mem_cons.1 hy with rfl | hy
        · exact h2
        · have := hsp'.2.1
          rw [hd] at this
          exact ltS_trans h2 ((List.pairwise_cons.1 this).1 y hy)
    refine List.pairwise_append.2 ⟨hsp'.1, List.pairwise_cons.2 ⟨hup, hsp'.2.1⟩, fun x hx y hy => ?_⟩
    rcases List.mem_cons.1 hy with rfl | hy
    · exact hlow x hx
    · exact hsp'.2.2 x hx y hy
  have perm : (l.take n ++ p :: l.drop n).Perm (p :: l) := by
    have h1 : (l.take n ++ p :: l.drop n).Perm (p :: (l.take n ++ l.drop n)) := List.perm_middle
    rwa [List.take_append_drop] at h1
  unfold insP
  rw [hn]
  cases hx : l[n]? with
  | none => exact ⟨fun r hr => by injection hr with hr; subst hr; exact ⟨good (fun x h => by rw [hx] at h; cases h), perm⟩, fun h => by cases h⟩
  | some y =>
    by_cases hy : y.1 = p.1
    · simp only [if_pos hy]
      exact ⟨fun r hr => (by cases hr), fun _ => by rw [← hy]; exact List.mem_map.2 ⟨y, List.mem_of_getElem? hx, rfl⟩⟩
    · simp only [if_neg hy]
      exact ⟨fun r hr => by injection hr with hr; subst hr; exact ⟨good (fun x h => by rw [hx] at h; injection h with h; subst h; exact hy), perm⟩, fun h => by cases h⟩
theorem refM_spec : ∀ (ps acc : List KV), Asc acc → (∀ r, refM acc ps = some r → Asc r ∧ r.Perm (ps ++ acc)) ∧ (refM acc ps = none → ¬ ((ps ++ acc).map (·.1)).Nodup)
  | [], acc, h => ⟨fun r hr => by injection hr with hr; subst hr; exact ⟨h, List.Perm.refl _⟩, fun h => by cases h⟩
  | p :: ps, acc, h => by
    obtain ⟨h1, h2⟩ := insP_spec (p := p) h
    unfold refM
    cases hi : insP acc p with
    | none =>
      refine ⟨fun r hr => (by cases hr), fun _ hnd => ?_⟩
      have := h2 hi
      rw [List.cons_append, List.map_cons, List.nodup_cons, List.map_append] at hnd
      exact hnd.1 (List.mem_append.2 (.inr this))
    | some a =>
      obtain ⟨ha, hp⟩ := h1 a hi
      obtain ⟨g1, g2⟩ := refM_spec ps a ha
      have hpp : (ps ++ a).Perm (p :: (ps ++ acc)) := (List.Perm.append_left ps hp).trans List.perm_middle
      exact ⟨fun r hr => ⟨(g1 r hr).1, (g1 r hr).2.trans hpp⟩, fun hn hnd => g2 hn ((hpp.map _).nodup_iff.2 hnd)⟩
theorem Asc.irrefl {l : List KV} (h : Asc l) : (l.map (·.1)).Nodup := by
  induction l with
  | nil => simp
  | cons a l ih =>
    obtain ⟨h1, h2⟩ := List.pairwise_cons.1 h
    refine List.nodup_cons.2 ⟨fun hm => ?_, ih h2⟩
    obtain ⟨y, hy, e⟩ := List.mem_map.1 hm
    have := h1 y hy
    rw [e] at this
    rcases ltS_tri a.1 a.1 with ⟨_, b, _⟩ | ⟨b, _⟩ | ⟨b, _⟩ <;> rw [this] at b <;> cases b
theorem asc_eq : ∀ {l m : List KV}, Asc l → Asc m → l.Perm m → l = m
  | [], m, _, _, h => (List.nil_perm.1 h).symm
  | a :: l, [], _, _, h => absurd h.length_eq (by simp)
  | a :: l, b :: m, h1, h2, h => by
    obtain ⟨a1, a2⟩ := List.pairwise_cons.1 h1
    obtain ⟨b1, b2⟩ := List.pairwise_cons.1 h2
    have hab : a = b := by
      have ha : a ∈ b :: m := h.subset (by simp)
      have hb : b ∈ a :: l := h.symm.subset (by simp)
      rcases List.mem_cons.1 ha with e | ha
      · exact e
      · rcases List.mem_cons.1 hb with e | hb
        · exact e.symm
        · have g1 := b1 a ha
          have g2 := a1 b hb
          rcases ltS_tri a.1 b.1 with ⟨_, c, _⟩ | ⟨_, c, _⟩ | ⟨c, _⟩
          · rw [g1] at c; cases c
          · rw [g1] at c; cases c
          · rw [g2] at c; cases c
    subst hab
    rw [asc_eq a2 b2 (List.Perm.cons_inv h)]
theorem nodup_of {α : Type} {l : List α} (h : ∀ (i j : Nat) x, i < j → l[i]? = some x → l[j]? = some x → False) : l.Nodup := by
  rw [List.Nodup, List.pairwise_iff_getElem]
  intro i j hi hj hij e
  exact h i j l[i] hij (List.getElem?_eq_getElem hi) (by rw [e]; exact List.getElem?_eq_getElem hj)
theorem nodup_ne {α : Type} {l : List α} (h : l.Nodup) {i j : Nat} {x : α} (hij : i < j) (hx : l[i]? = some x) (hy : l[j]? = some x) : False := by
  rw [List.Nodup, List.pairwise_iff_getElem] at h
  obtain ⟨h1, e1⟩ := List.getElem?_eq_some_iff.1 hx
  obtain ⟨h2, e2⟩ := List.getElem?_eq_some_iff.1 hy
  exact h i j h1 h2 hij (e1.trans e2.symm)
/-- The sorted places, as pairs. -/
def pairsL (ks : List ByteArray) (ts : List Vt) (L : List Nat) : List KV := L.map fun p => (ks.getD p ⟨#[]⟩, ts.getD p (.mk 0 false 0 ⟨#[]⟩ [] []))
theorem pairsL_perm {ks : List ByteArray} {ts : List Vt} {L : List Nat} (h : L.Perm (List.range ks.length)) (hl : ks.length = ts.length) : (pairsL ks ts L).Perm (ks.zip ts) := by
  have e : (List.range ks.length).map (fun p => (ks.getD p ⟨#[]⟩, ts.getD p (.mk 0 false 0 ⟨#[]⟩ [] []))) = ks.zip ts := by
    apply List.ext_getElem?
    intro i
    by_cases hi : i < ks.length
    · rw [List.getElem?_map, List.getElem?_range hi, show (ks.zip ts)[i]? = some (ks[i], ts[i]'(by omega)) from List.getElem?_zip_eq_some.2 ⟨List.getElem?_eq_getElem hi, List.getElem?_eq_getElem (show i < ts.length by omega)⟩]
      simp [List.getD_eq_getElem?_getD, hi, show i < ts.length by omega]
    · rw [List.getElem?_eq_none (by simp; omega), List.getElem?_eq_none (by simp; omega)]
  rw [← e]
  exact h.map _
/-- Both ways come to the same map, or to none. -/
theorem refM_map {ks : List ByteArray} {ts : List Vt} {L : List Nat} (h : OrderOf ks L) (hl : ks.length = ts.length) :
    (refM [] (ks.zip ts) = none → mayB (mapT ks ts L) = false) ∧ ∀ r, refM [] (ks.zip ts) = some r → mapT ks ts L = .mk 5 false 0 ⟨#[]⟩ (r.map (·.2)) (r.map (·.1)) := by
  obtain ⟨h1, h2⟩ := refM_spec (ks.zip ts) [] List.Pairwise.nil
  rw [List.append_nil] at h2
  have hp := pairsL_perm h.1 hl
  have hlen : (pairsL ks ts L).length = ks.length := by unfold pairsL; rw [List.length_map, h.1.length_eq, List.length_range]
  have hkey : (pairsL ks ts L).map (·.1) = L.map fun p => ks.getD p ⟨#[]⟩ := by unfold pairsL; rw [List.map_map]; rfl
  have hval : (pairsL ks ts L).map (·.2) = L.map fun p => ts.getD p (.mk 0 false 0 ⟨#[]⟩ [] []) := by unfold pairsL; rw [List.map_map]; rfl
  constructor
  · intro hn
    cases hm : mayB (mapT ks ts L) with
    | false => rfl
    | true =>
      exfalso
      refine h2 hn ((hp.map (·.1)).nodup_iff.1 ?_)
      rw [hkey]
      have hs := (may_sorted (show (mayV (mapT ks ts L) 32 0).2 = true from by simpa [mayB] using hm)).1
      refine nodup_of fun i j x hij hx hy => ?_
      have := hs i j x x hij hx hy
      rcases ltS_tri x x with ⟨_, b, _⟩ | ⟨b, _⟩ | ⟨b, _⟩ <;> rw [this] at b <;> cases b
  · intro r hr
    obtain ⟨g1, g2⟩ := h1 r hr
    rw [List.append_nil] at g2
    have hnd : ((pairsL ks ts L).map (·.1)).Nodup := ((hp.trans g2.symm).map _).nodup_iff.2 g1.irrefl
    have hasc : Asc (pairsL ks ts L) := by
      rw [Asc, List.pairwise_iff_getElem]
      intro i j hi hj hij
      have hL : L.length = ks.length := by rw [h.1.length_eq, List.length_range]
      have w := h.2 i j hij (by omega)
      have e : ∀ (t : Nat) (ht : t < (pairsL ks ts L).length), (pairsL ks ts L)[t].1 = ks.getD (L.getD t 0) ⟨#[]⟩ := fun t ht => by
        have hLt : t < L.length := by omega
        have h5 : (pairsL ks ts L)[t]? = some (pairsL ks ts L)[t] := List.getElem?_eq_getElem ht
        have h6 : (pairsL ks ts L)[t]? = some (ks.getD L[t] ⟨#[]⟩, ts.getD L[t] (.mk 0 false 0 ⟨#[]⟩ [] [])) := by
          unfold pairsL
          rw [List.getElem?_map, List.getElem?_eq_getElem hLt]
          rfl
        rw [h5] at h6
        injection h6 with h6
        rw [h6, List.getD_eq_getElem?_getD (l := L), List.getElem?_eq_getElem hLt]
        rfl
      rw [← e i hi, ← e j hj] at w
      rcases ltS_tri (pairsL ks ts L)[i].1 (pairsL ks ts L)[j].1 with ⟨a, _⟩ | ⟨_, _, a⟩ | ⟨_, a, _⟩
      · exact a
      · exfalso
        exact nodup_ne hnd (x := (pairsL ks ts L)[j].1) hij (by rw [List.getElem?_map, List.getElem?_eq_getElem hi, Option.map_some, a]) (by rw [List.getElem?_map, List.getElem?_eq_getElem hj, Option.map_some])
      · rw [a] at w; cases w
    have e := asc_eq hasc g1 (hp.trans g2.symm)
    unfold mapT
    rw [← hkey, ← hval, e]
end Go.Proofs.Ytdkgjbjlpofieaa

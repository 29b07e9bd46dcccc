/- Layer 12: a text that is cut behind a token and goes on otherwise has the same tokens ahead of the cut, in plain lists. Conditions: none. -/
import Derived.Test.YteljlahcdipilaaGreatF12
namespace Go.Proofs.YteljlahcdipilaaGreat
open Go.RowKit
set_option linter.unusedVariables false
set_option linter.unusedSimpArgs false
set_option maxRecDepth 100000

/-! A text cut behind a token: what is read ahead of the cut is the same. -/
theorem drop_cut (l r : List UInt8) {n m : Nat} (h : m ≤ n) (hn : n ≤ l.length) : (l.take n ++ r).drop m = (l.drop m).take (n - m) ++ r := by
 rw [List.drop_append_of_le_length (by rw [List.length_take]; omega), List.drop_take]
theorem take_cut (l r : List UInt8) {n m : Nat} (h : m ≤ n) (hn : n ≤ l.length) : (l.take n ++ r).take m = l.take m := by
 rw [List.take_append_of_le_length (by rw [List.length_take]; omega), List.take_take, Nat.min_eq_left h]
theorem len_cut (l r : List UInt8) {n : Nat} (hn : n ≤ l.length) : (l.take n ++ r).length = n + r.length := by
 rw [List.length_append, List.length_take]; omega
theorem sg_cut {l : List UInt8} (r : List UInt8) {n : Nat} (h : sg l ≠ 0) (hs : sg l ≤ n) (hn : n ≤ l.length) : sg (l.take n ++ r) = sg l := by
 have e : l.take n ++ r = l.take (sg l) ++ ((l.drop (sg l)).take (n - sg l) ++ r) := by
  rw [← List.append_assoc]
  congr 1
  conv => lhs; rw [show n = sg l + (n - sg l) from by omega]
  rw [List.take_add]
 rw [e]
 exact sg_take _ h
theorem escV_cut {l : List UInt8} {x : UInt8} {q : Nat} (r : List UInt8) {n : Nat} (h : escV l = some (x, q)) (hq : q ≤ n) (hn : n ≤ l.length) : escV (l.take n ++ r) = some (x, q) := by
 have hl := escV_len h
 have n1 := nb_take l r n 1 (by omega) hn
 have hz := len_cut l r hn
 unfold escV at h ⊢
 rw [if_neg (by omega), n1]
 rw [if_neg (by omega)] at h
 by_cases h2 : nb l 1 = 92 ∨ nb l 1 = 39
 ·rw [if_pos h2] at h ⊢; exact h
 rw [if_neg h2] at h ⊢
 by_cases h3 : nb l 1 = 110
 ·rw [if_pos h3] at h ⊢; exact h
 rw [if_neg h3] at h ⊢
 by_cases h4 : nb l 1 = 116
 ·rw [if_pos h4] at h ⊢; exact h
 rw [if_neg h4] at h ⊢
 by_cases h5 : nb l 1 = 114
 ·rw [if_pos h5] at h ⊢; exact h
 rw [if_neg h5] at h ⊢
 by_cases h6 : l.length < 4 ∨ nb l 1 ≠ 120 ∨ hexv (nb l 2) < 0 ∨ hexv (nb l 3) < 0
 ·rw [if_pos h6] at h; cases h
 rw [if_neg h6] at h
 have hq4 : q = 4 := by injection h with h; injection h with _ h; exact h.symm
 rw [nb_take l r n 2 (by omega) hn, nb_take l r n 3 (by omega) hn, if_neg (by omega)]
 exact h
theorem qd_cut : ∀ (k : Nat) (l : List UInt8), l.length = k → ∀ x rest, qd l = some (x, rest) → rest.length < l.length ∧ ∀ n r, l.length - rest.length ≤ n → n ≤ l.length → qd (l.take n ++ r) = some (x, (l.take n ++ r).drop (l.length - rest.length)) := by
 intro k
 induction k using Nat.strongRecOn with
 | _ k ih =>
  intro l hl x rest h
  rw [qd_eq] at h
  by_cases h0 : l.length = 0
  ·rw [if_pos h0] at h; cases h
  rw [if_neg h0] at h
  by_cases h1 : nb l 0 = 39
  ·rw [if_pos h1] at h
   injection h with h
   injection h with hx hr
   subst hx hr
   rw [List.length_drop]
   refine ⟨by omega, fun n r a b => ?_⟩
   rw [qd_eq, if_neg (by rw [len_cut l r b]; omega), if_pos (by rw [nb_take l r n 0 (by omega) b]; exact h1), show l.length - (l.length - 1) = 1 from by omega]
  rw [if_neg h1] at h
  by_cases h2 : bad l
  ·rw [if_pos h2] at h; cases h
  rw [if_neg h2] at h
  have hs := bad_not h2
  have hsl := (sg_le (l := l)).2
  have hbad : ∀ n r, sg l ≤ n → n ≤ l.length → ¬ bad (l.take n ++ r) := fun n r a b hb => h2 (by
   unfold bad at hb ⊢
   rw [sg_cut r hs a b, nb_take l r n 0 (by omega) b] at hb
   exact hb)
  have hstep : ∀ (q : Nat) (x' : List UInt8), 1 ≤ q → q ≤ l.length → qd (l.drop q) = some (x', rest) → rest.length < l.length ∧ q ≤ l.length - rest.length ∧ ∀ n r, l.length - rest.length ≤ n → n ≤ l.length → qd ((l.take n ++ r).drop q) = some (x', (l.take n ++ r).drop (l.length - rest.length)) := fun q x' a b hq => by
   obtain ⟨g1, g2⟩ := ih (l.drop q).length (by rw [List.length_drop]; omega) (l.drop q) rfl x' rest hq
   rw [List.length_drop] at g1 g2
   refine ⟨by omega, by omega, fun n r c d => ?_⟩
   have := g2 (n - q) r (by omega) (by omega)
   rw [← drop_cut l r (by omega) d, List.drop_drop, show q + (l.length - q - rest.length) = l.length - rest.length from by omega] at this
   exact this
  by_cases h3 : nb l 0 = 92
  ·rw [if_pos h3] at h
   cases he : escV l with
   | none => rw [he] at h; cases h
   | some p =>
    obtain ⟨y, q⟩ := p
    rw [he] at h
    dsimp only at h
    cases hq : qd (l.drop q) with
    | none => rw [hq] at h; cases h
    | some p =>
     obtain ⟨x', rest'⟩ := p
     rw [hq] at h
     injection h with h
     injection h with hx hr
     dsimp only at hx hr
     subst hx hr
     have hel := escV_len he
     obtain ⟨g1, g3, g2⟩ := hstep q x' (by omega) hel.2 hq
     refine ⟨g1, fun n r a b => ?_⟩
     have hs1 : sg l = 1 := sg_one.2 ⟨h0, by omega⟩
     rw [qd_eq, if_neg (by rw [len_cut l r b]; omega), nb_take l r n 0 (by omega) b, if_neg h1, if_neg (hbad n r (by omega) b), if_pos h3, escV_cut r he (by omega) b]
     dsimp only
     rw [g2 n r a b]
     rfl
  ·rw [if_neg h3] at h
   cases hq : qd (l.drop (sg l)) with
   | none => rw [hq] at h; cases h
   | some p =>
    obtain ⟨x', rest'⟩ := p
    rw [hq] at h
    injection h with h
    injection h with hx hr
    dsimp only at hx hr
    subst hx hr
    obtain ⟨g1, g3, g2⟩ := hstep (sg l) x' (by omega) hsl hq
    refine ⟨g1, fun n r a b => ?_⟩
    rw [qd_eq, if_neg (by rw [len_cut l r b]; omega), nb_take l r n 0 (by omega) b, if_neg h1, if_neg (hbad n r (by omega) b), if_neg h3, sg_cut r hs (by omega) b, g2 n r a b, take_cut l r (by omega) b]
    rfl
theorem spanB_fact (f : Nat → Bool) : ∀ l : List UInt8, (∀ k, k < spanB f l → f (nb l k) = true) ∧ (spanB f l < l.length → f (nb l (spanB f l)) = false)
 | [] => ⟨fun k h => absurd h (Nat.not_lt_zero _), fun h => absurd h (Nat.not_lt_zero _)⟩
 | c :: r => by
  obtain ⟨h1, h2⟩ := spanB_fact f r
  cases hc : f c.toNat with
  | true =>
   rw [spanB_pos r hc]
   refine ⟨fun k hk => ?_, fun h => h2 (by simpa using h)⟩
   cases k with
   | zero => exact hc
   | succ k => exact h1 k (by omega)
  | false =>
   rw [spanB_neg r hc]
   exact ⟨fun k hk => absurd hk (Nat.not_lt_zero _), fun _ => hc⟩
theorem nb_end (l m : List UInt8) (n : Nat) (h : n ≤ l.length) : nb (l.take n ++ 32 :: m) n = 32 := by
 unfold nb
 rw [List.getElem?_append_right (by rw [List.length_take]; omega), List.length_take, Nat.min_eq_left h, Nat.sub_self]
 rfl
theorem spanB_cut {f : Nat → Bool} (h32 : f 32 = false) {l : List UInt8} (m : List UInt8) {e : Nat} (h : spanB f l ≤ e) (he : e ≤ l.length) : spanB f (l.take e ++ 32 :: m) = spanB f l := by
 obtain ⟨h1, h2⟩ := spanB_fact f l
 refine spanB_is f _ _ (by rw [len_cut l _ he]; omega) (fun k hk => by rw [nb_take l _ e k (by omega) he]; exact h1 k hk) (fun _ => ?_)
 by_cases hx : spanB f l = e
 ·rw [hx, nb_end l m e he]; exact h32
 ·rw [nb_take l _ e _ (by omega) he]; exact h2 (by omega)
theorem signL_cut {l : List UInt8} (m : List UInt8) {e : Nat} (h1 : 1 ≤ e) (h : (signL l).length ≤ e) (he : e ≤ l.length) : signL (l.take e ++ 32 :: m) = signL l := by
 by_cases h2 : 2 ≤ e
 ·unfold signL
  rw [take_cut l _ h2 he, take_cut l _ h1 he]
 ·obtain rfl : e = 1 := by omega
  have hn : ¬ l.take 2 ∈ twosL := fun hm => by
   unfold signL at h
   rw [if_pos hm, twosL_len _ hm] at h
   omega
  obtain ⟨c, r, rfl, _⟩ := nb_zero (l := l) (by omega)
  unfold signL
  rw [if_neg hn, show (c :: r).take 1 ++ 32 :: m = c :: 32 :: m from rfl, show (c :: 32 :: m).take 2 = [c, 32] from rfl, if_neg (show ¬ [c, 32] ∈ twosL from by simp [twosL])]
  rfl
theorem oneL_cut {q : List UInt8} {t : Tok} {n e : Nat} (m : List UInt8) (hq : q ≠ []) (h : oneL q = .tok t n) (hn : n ≤ e) (he : e ≤ q.length) : oneL (q.take e ++ 32 :: m) = .tok t n := by
 have hsz := oneL_size hq h
 have n0 := nb_take q (32 :: m) e 0 (by omega) he
 unfold oneL at h ⊢
 rw [n0]
 by_cases a : letter (nb q 0) = true
 ·rw [if_pos a] at h ⊢
  have hsp : spanB nchar q = n := by
   split at h
   ·cases h
   ·split at h <;> (injection h)
  rw [spanB_cut (f := nchar) (by decide) m (by omega) he, take_cut q _ (by omega) he]
  exact h
 rw [if_neg a] at h ⊢
 by_cases b : digt (nb q 0) = true
 ·rw [if_pos b] at h ⊢
  have hsp : spanB digt q = n := by
   split at h
   ·injection h
   ·cases h
  rw [spanB_cut (f := digt) (by decide) m (by omega) he, take_cut q _ (by omega) he]
  exact h
 rw [if_neg b] at h ⊢
 by_cases c : nb q 0 = 39
 ·rw [if_pos c] at h ⊢
  cases hqd : qd (q.drop 1) with
  | none => rw [hqd] at h; cases h
  | some p =>
   obtain ⟨x, rest⟩ := p
   rw [hqd] at h
   dsimp only at h
   injection h with ht hl
   obtain ⟨g1, g2⟩ := qd_cut _ _ rfl x rest hqd
   rw [List.length_drop] at g1 g2
   have := g2 (e - 1) (32 :: m) (by omega) (by omega)
   rw [← drop_cut q _ (by omega) he, List.drop_drop] at this
   rw [this]
   dsimp only
   rw [ht, List.length_drop, len_cut q _ he]
   congr 1
   simp only [List.length_cons]
   omega
 rw [if_neg c] at h ⊢
 by_cases d : signL q = []
 ·rw [if_pos d] at h; cases h
 rw [if_neg d] at h
 injection h with ht hl
 rw [signL_cut m (by omega) (by omega) he, if_neg d, ht, hl]

/-! A scan that tells no fault, opened at its first token. -/
theorem scanN_open : ∀ (f : Nat) (r : List UInt8) (p : Nat) (acc l' : List (Tok × Nat)), scanN f r p acc = .ok l' → ∃ l, l' = acc ++ l ∧ ((r.drop (spanB blankB r) = [] ∧ l = [(⟨6, [], 0⟩, p + spanB blankB r)]) ∨
  ∃ f' t n d, f = f' + 1 ∧ r.drop (spanB blankB r) ≠ [] ∧ oneL (r.drop (spanB blankB r)) = .tok t n ∧ l = (t, p + spanB blankB r) :: d ∧ d ≠ [] ∧ scanN f' ((r.drop (spanB blankB r)).drop n) (p + spanB blankB r + n) (acc ++ [(t, p + spanB blankB r)]) = .ok ((acc ++ [(t, p + spanB blankB r)]) ++ d))
 | 0, r, p, acc, l', h => by rw [scanN] at h; cases h
 | f + 1, r, p, acc, l', h => by
  rw [scanN] at h
  by_cases hd : r.drop (spanB blankB r) = []
  ·rw [if_pos hd] at h
   split at h
   ·cases h
   ·injection h with h
    exact ⟨_, h.symm, .inl ⟨hd, rfl⟩⟩
  ·rw [if_neg hd] at h
   cases ho : oneL (r.drop (spanB blankB r)) with
   | bad e => rw [ho] at h; cases h
   | tok t n =>
    rw [ho] at h
    dsimp only at h
    split at h
    ·cases h
    ·obtain ⟨d, rfl, hd'⟩ := scanN_open f _ _ _ _ h
     refine ⟨(t, p + spanB blankB r) :: d, by simp, .inr ⟨f, t, n, d, rfl, hd, rfl, rfl, ?_, h⟩⟩
     rcases hd' with ⟨_, rfl⟩ | ⟨_, _, _, _, _, _, _, rfl, _⟩ <;> exact List.cons_ne_nil _ _
theorem scanN_facts : ∀ (f : Nat) (r : List UInt8) (p : Nat) (acc l : List (Tok × Nat)), scanN f r p acc = .ok (acc ++ l) →
  (∀ (i : Nat) (y : Tok × Nat), l[i]? = some y → p ≤ y.2 ∧ y.2 ≤ p + r.length ∧ (y.1.k = 6 ↔ i + 1 = l.length) ∧ (i + 1 = l.length → y.2 = p + r.length)) ∧ (∀ (i j : Nat) (y z : Tok × Nat), i < j → l[i]? = some y → l[j]? = some z → y.2 < z.2)
 | f, r, p, acc, l, h => by
  obtain ⟨l0, e, ho⟩ := scanN_open f r p acc _ h
  obtain rfl := List.append_cancel_left e
  have hle := spanB_le blankB r
  rcases ho with ⟨hd, rfl⟩ | ⟨f', t, n, d, rfl, hd, ht, rfl, hne, h'⟩
  ·have hj : spanB blankB r = r.length := by have := congrArg List.length hd; rw [List.length_drop] at this; simp at this; omega
   refine ⟨fun i y hy => ?_, fun i j y z hij _ hz => ?_⟩
   ·cases i with
    | zero => obtain rfl := Option.some.inj hy; exact ⟨by omega, by omega, by simp, fun _ => by omega⟩
    | succ i => simp at hy
   ·cases j with
    | zero => omega
    | succ j => simp at hz
  ·have hsz := oneL_size hd ht
   rw [List.length_drop] at hsz
   have hk := oneL_kind ht
   obtain ⟨g1, g2⟩ := scanN_facts f' _ _ _ _ h'
   rw [List.length_drop, List.length_drop] at g1
   have hdl : 0 < d.length := List.length_pos_iff.2 hne
   refine ⟨fun i y hy => ?_, fun i j y z hij hy hz => ?_⟩
   ·cases i with
    | zero => obtain rfl := Option.some.inj hy; exact ⟨by omega, by omega, by simp only [List.length_cons]; omega, fun e => by simp only [List.length_cons] at e; omega⟩
    | succ i =>
     obtain ⟨q1, q2, q3, q4⟩ := g1 i y hy
     exact ⟨by omega, by omega, by simp only [List.length_cons]; omega, fun e => by simp only [List.length_cons] at e; have := q4 (by omega); omega⟩
   ·cases j with
    | zero => omega
    | succ j =>
     cases i with
     | zero => obtain rfl := Option.some.inj hy; have := (g1 j z hz).1; show p + spanB blankB r < z.2; omega
     | succ i => exact g2 i j y z (by omega) hy hz
theorem scanN_cut (m : List UInt8) : ∀ (k f g : Nat) (r : List UInt8) (p : Nat) (acc acc2 l L2 : List (Tok × Nat)) (y : Tok × Nat), scanN f r p acc = .ok (acc ++ l) → l[k + 1]? = some y → scanN g (r.take (y.2 - p) ++ 32 :: m) p acc2 = .ok L2 → ∃ R2, L2 = acc2 ++ (l.take (k + 1) ++ R2) := by
 intro k
 induction k with
 | zero => ?z
 | succ k ih => ?s
 all_goals
  intro f g r p acc acc2 l L2 y h hy h2
  have hle := spanB_le blankB r
  have hf := (scanN_facts f r p acc l h).1 _ y hy
  obtain ⟨l0, e, ho⟩ := scanN_open f r p acc _ h
  obtain rfl := List.append_cancel_left e
  rcases ho with ⟨hd, rfl⟩ | ⟨f', t, n, d, rfl, hd, ht, rfl, hne, h'⟩
  ·simp at hy
  have hsz := oneL_size hd ht
  rw [List.length_drop] at hsz
  have hq : p + spanB blankB r + n ≤ y.2 := ((scanN_facts f' _ _ _ _ h').1 _ y hy).1
  have he : y.2 - p ≤ r.length := by omega
  have hsp : spanB blankB (r.take (y.2 - p) ++ 32 :: m) = spanB blankB r := by
   obtain ⟨s1, s2⟩ := spanB_fact blankB r
   refine spanB_is blankB _ _ (by rw [len_cut r _ he]; omega) (fun k hk => by rw [nb_take r _ _ k (by omega) he]; exact s1 k hk) (fun _ => by rw [nb_take r _ _ _ (by omega) he]; exact s2 (by omega))
  have hdr : (r.take (y.2 - p) ++ 32 :: m).drop (spanB blankB r) = (r.drop (spanB blankB r)).take (y.2 - p - spanB blankB r) ++ 32 :: m := drop_cut r _ (by omega) he
  have hon : oneL ((r.drop (spanB blankB r)).take (y.2 - p - spanB blankB r) ++ 32 :: m) = .tok t n := oneL_cut m hd ht (by omega) (by rw [List.length_drop]; omega)
  obtain ⟨l2, rfl, ho2⟩ := scanN_open g _ p acc2 _ h2
  rw [hsp, hdr] at ho2
  rcases ho2 with ⟨hd2, _⟩ | ⟨g', t2, n2, d2, rfl, hd2, ht2, rfl, hne2, h2'⟩
  ·simp at hd2
  rw [hon] at ht2
  injection ht2 with e1 e2
  subst e1 e2
 case z => exact ⟨d2, rfl⟩
 case s =>
  rw [drop_cut _ _ (by omega) (by rw [List.length_drop]; omega), show y.2 - p - spanB blankB r - n = y.2 - (p + spanB blankB r + n) from by omega] at h2'
  obtain ⟨R2, e⟩ := ih f' g' _ _ _ _ d _ y h' hy h2'
  have := List.append_cancel_left e
  subst this
  exact ⟨R2, rfl⟩
theorem scan_prefix {s m : List UInt8} {L L2 : List (Tok × Nat)} {k : Nat} {y : Tok × Nat} (h : scanL s = .ok L) (hy : L[k + 1]? = some y) (h2 : scanL (s.take y.2 ++ 32 :: m) = .ok L2) : ∃ R2, L2 = L.take (k + 1) ++ R2 := by
 unfold scanL at h h2
 split at h
 ·cases h
 split at h2
 ·cases h2
 obtain ⟨R2, e⟩ := scanN_cut m k _ _ s 0 [] [] L L2 y h hy h2
 exact ⟨R2, e⟩
theorem scanL_facts {s : List UInt8} {L : List (Tok × Nat)} (h : scanL s = .ok L) : (∀ (i : Nat) (y : Tok × Nat), L[i]? = some y → y.2 ≤ s.length ∧ (y.1.k = 6 ↔ i + 1 = L.length) ∧ (i + 1 = L.length → y.2 = s.length)) ∧ (∀ (i j : Nat) (y z : Tok × Nat), i < j → L[i]? = some y → L[j]? = some z → y.2 < z.2) := by
 unfold scanL at h
 split at h
 ·cases h
 obtain ⟨g1, g2⟩ := scanN_facts _ s 0 [] L h
 exact ⟨fun i y hy => by obtain ⟨a, b, c, d⟩ := g1 i y hy; exact ⟨by omega, c, fun e => by have := d e; omega⟩, g2⟩
end Go.Proofs.YteljlahcdipilaaGreat

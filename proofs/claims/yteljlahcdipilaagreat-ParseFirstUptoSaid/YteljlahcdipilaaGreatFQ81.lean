/- Layer 12: what a scan without a fault tells of its tokens, in plain lists. Conditions: none. -/
import Derived.Test.YteljlahcdipilaaGreatFQ80
import Derived.Test.YteljlahcdipilaaGreatF40
namespace Go.Proofs.YteljlahcdipilaaGreat
open Go.RowKit
set_option linter.unusedVariables false
set_option linter.unusedSimpArgs false
set_option maxRecDepth 100000

theorem qd_len : ∀ (k : Nat) (l : List UInt8), l.length = k → ∀ x rest, qd l = some (x, rest) → x.length + rest.length ≤ l.length := by
 intro k
 induction k using Nat.strongRecOn with
 | _ k ih =>
  intro l hl x rest h
  rw [qd_eq] at h
  by_cases h0 : l.length = 0
  ·rw [if_pos h0] at h; cases h
  rw [if_neg h0] at h
  by_cases h1 : nb l 0 = 39
  ·rw [if_pos h1] at h
   injection h with h
   injection h with hx hr
   subst hx hr
   rw [List.length_drop, List.length_nil]; omega
  rw [if_neg h1] at h
  by_cases h2 : bad l
  ·rw [if_pos h2] at h; cases h
  rw [if_neg h2] at h
  have hs := bad_not h2
  have hsl := (sg_le (l := l)).2
  by_cases h3 : nb l 0 = 92
  ·rw [if_pos h3] at h
   cases he : escV l with
   | none => rw [he] at h; cases h
   | some p =>
    obtain ⟨y, q⟩ := p
    rw [he] at h
    dsimp only at h
    cases hq : qd (l.drop q) with
    | none => rw [hq] at h; cases h
    | some p =>
     obtain ⟨x', rest'⟩ := p
     rw [hq] at h
     injection h with h
     injection h with hx hr
     dsimp only at hx hr
     subst hx hr
     have hel := escV_len he
     have := ih (l.drop q).length (by rw [List.length_drop]; omega) (l.drop q) rfl x' _ hq
     rw [List.length_drop] at this
     rw [List.length_cons]; omega
  ·rw [if_neg h3] at h
   cases hq : qd (l.drop (sg l)) with
   | none => rw [hq] at h; cases h
   | some p =>
    obtain ⟨x', rest'⟩ := p
    rw [hq] at h
    injection h with h
    injection h with hx hr
    dsimp only at hx hr
    subst hx hr
    have := ih (l.drop (sg l)).length (by rw [List.length_drop]; omega) (l.drop (sg l)) rfl x' _ hq
    rw [List.length_drop] at this
    rw [List.length_append, List.length_take]; omega
theorem one_len {r : List UInt8} {t : Tok} {n : Nat} (hr : r ≠ []) (h : oneL r = .tok t n) : t.t.length ≤ n := by
 have hsz := oneL_size hr h
 rcases oneL_taken h with ⟨_, _, _, _, ht, _⟩ | ⟨_, _, _, _, ht, _⟩ | ⟨_, _, _, _, ht, _⟩ | ⟨_, _, ⟨rest, hq, hn⟩, _⟩ | ⟨_, _, _, _, ht, _, hn, _⟩
 ·rw [ht, largeL_len, List.length_take]; omega
 ·rw [ht, List.length_take]; omega
 ·rw [ht]; exact Nat.zero_le _
 ·have := qd_len _ _ rfl _ _ hq
  rw [List.length_drop] at this
  omega
 ·rw [ht, hn]; exact Nat.le_refl _
theorem scanN_phi : ∀ (f : Nat) (r : List UInt8) (p : Nat) (acc l : List (Tok × Nat)), scanN f r p acc = .ok (acc ++ l) → Phi (l.map Prod.fst) ≤ 16 * l.length + 16 * r.length
 | f, r, p, acc, l, h => by
  obtain ⟨l0, e, ho⟩ := scanN_open f r p acc _ h
  obtain rfl := List.append_cancel_left e
  have hle := spanB_le blankB r
  rcases ho with ⟨hd, rfl⟩ | ⟨f', t, n, d, rfl, hd, ht, rfl, hne, h'⟩
  ·show 16 + 16 * 0 + 0 ≤ 16 * 1 + 16 * r.length
   omega
  ·have hsz := oneL_size hd ht
   have hl := one_len hd ht
   have := scanN_phi f' _ _ _ _ h'
   rw [List.length_drop] at hsz
   rw [List.length_drop, List.length_drop] at this
   show 16 + 16 * t.t.length + Phi (d.map Prod.fst) ≤ 16 * (d.length + 1) + 16 * r.length
   omega
theorem scan_good {s : List UInt8} {L : List (Tok × Nat)} (h : scanL s = .ok L) : Tk L ∧ 0 < L.length ∧ L.length ≤ 4097 ∧ (∀ (j : Nat) y, L[j]? = some y → y.1.t.length ≤ 4294967296) ∧ 1 + Phi (rem L 0) ≤ 1048576 := by
 obtain ⟨hs, toks, q, e, h2, h3⟩ := scanL_form h
 have hx : ∀ (j : Nat) y, L[j]? = some y → In64 y.1.n ∧ y.1.t.length ≤ 16384 := fun j y hy => by
  have hm := List.mem_of_getElem? hy
  rw [e] at hm
  rcases List.mem_append.1 hm with hm | hm
  ·obtain ⟨r', n, g1, g2, g3⟩ := h2 y hm
   have := tok_small g1 g3 (by omega)
   exact ⟨this.1, this.2.1⟩
  ·obtain rfl := List.mem_singleton.1 hm
   exact ⟨(by show In64 0; unfold In64; omega), Nat.zero_le _⟩
 have hlen := scanL_len h
 obtain ⟨f1, _⟩ := scanL_facts h
 have hph : Phi (rem L 0) ≤ 16 * L.length + 16 * s.length := by
  have h' := h
  unfold scanL at h'
  rw [if_neg (by omega)] at h'
  exact scanN_phi _ s 0 [] L h'
 refine ⟨fun k x hk => ⟨(by have := (hx k x hk).1; unfold In64 at this; unfold in64; omega), fun hk6 => ?_⟩, by rw [e]; simp, hlen, fun j y hy => Nat.le_trans (hx j y hy).2 (by decide), by omega⟩
 have hlt := (List.getElem?_eq_some_iff.1 hk).1
 have h6 := (f1 k x hk).2.1
 omega
end Go.Proofs.YteljlahcdipilaaGreat

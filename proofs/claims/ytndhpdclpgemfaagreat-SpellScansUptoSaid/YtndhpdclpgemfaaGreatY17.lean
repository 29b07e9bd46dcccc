/- Parts L2, L9, L12, L13, L14, L15, L10, L11, L16 of this seat (pruned, scripts that are alike kept once as default arguments: q1, q2, ..). Conditions: each says its own. -/
import Derived.Deep.RegionLaw
import Derived.IntWalk
import Derived.Deep.QuietTactic
import Derived.BigQuiet
import Derived.Test.YtndhpdclpgemfaaGreatY2
import Derived.Test.YtndhpdclpgemfaaGreatY7
import Derived.Test.YtndhpdclpgemfaaGreatY10
import Derived.Test.YtndhpdclpgemfaaGreatY15
import Derived.Test.YtndhpdclpgemfaaGreatY16
namespace Go.Proofs.YtndhpdclpgemfaaGreat
open Go.RowKit
set_option linter.unusedVariables false
def rawF : List UInt8 → Option Nat
  | [] => none
  | c :: r => if c = 39 then some 0 else if c = 92 then (match r with | [] => none | _ :: r' => (rawF r').map (· + 2)) else (rawF r).map (· + 1)
theorem rawF_cons (c : UInt8) (r : List UInt8) : rawF (c :: r) = if c = 39 then some 0 else if c = 92 then (match r with | [] => none | _ :: r' => (rawF r').map (· + 2)) else (rawF r).map (· + 1) := by rw [rawF.eq_def]
theorem rawF_skip (p r : List UInt8) (h : ∀ c ∈ p, c ≠ 39 ∧ c ≠ 92) : rawF (p ++ r) = (rawF r).map (· + p.length) := by
 induction p with
 | nil => simp
 | cons c p ih =>
  have hc := h c (by simp)
  rw [List.cons_append, rawF_cons, if_neg hc.1, if_neg hc.2, ih (fun d hd => h d (by simp [hd]))]
  cases rawF r with
  | none => rfl
  | some j => simp; omega
theorem rawF_lt {r : List UInt8} {j : Nat} : rawF r = some j → j < r.length := by
 induction hn : r.length using Nat.strongRecOn generalizing r j with
 | _ n ih =>
  intro h
  cases r with
  | nil => simp [rawF] at h
  | cons c r =>
   rw [rawF_cons] at h
   by_cases a : c = 39
   ·rw [if_pos a] at h; cases h; simp at hn; omega
   rw [if_neg a] at h
   by_cases b : c = 92
   ·rw [if_pos b] at h
    cases r with
    | nil => cases h
    | cons d r =>
     dsimp only at h
     cases hr : rawF r with
     | none => rw [hr] at h; cases h
     | some i =>
      rw [hr] at h
      have := ih r.length (by simp at hn; omega) rfl hr
      cases h
      show i + 2 < n
      simp at hn; omega
   ·rw [if_neg b] at h
    cases hr : rawF r with
    | none => rw [hr] at h; cases h
    | some i =>
     rw [hr] at h
     have := ih r.length (by simp at hn; omega) rfl hr
     cases h
     show i + 1 < n
     simp at hn; omega
theorem nb_takeN (r : List UInt8) (j k : Nat) (h : k < j) : nb (r.take j) k = nb r k := by
 unfold nb
 rw [List.getElem?_take, if_pos h]
theorem hexv_byte {c : Nat} (h : ¬ hexv c < 0) : c ≠ 39 ∧ c ≠ 92 := by
 constructor
 ·rintro rfl; exact h (by decide)
 ·rintro rfl; exact h (by decide)
theorem escV_take_none {r : List UInt8} {m : Nat} (hm : 2 ≤ m) (h : escV r = none) : escV (r.take m) = none := by
 by_cases h1 : r.length < 2
 ·exact escV_short (by rw [List.length_take]; omega)
 have n1 : nb (r.take m) 1 = nb r 1 := nb_takeN r m 1 (by omega)
 have hl : ¬ (r.take m).length < 2 := by rw [List.length_take]; omega
 unfold escV at h
 rw [if_neg h1] at h
 by_cases a1 : nb r 1 = 92 ∨ nb r 1 = 39
 ·rw [if_pos a1] at h; cases h
 rw [if_neg a1] at h
 by_cases a2 : nb r 1 = 110
 ·rw [if_pos a2] at h; cases h
 rw [if_neg a2] at h
 by_cases a3 : nb r 1 = 116
 ·rw [if_pos a3] at h; cases h
 rw [if_neg a3] at h
 by_cases a4 : nb r 1 = 114
 ·rw [if_pos a4] at h; cases h
 rw [if_neg a4] at h
 by_cases a5 : r.length < 4 ∨ nb r 1 ≠ 120 ∨ hexv (nb r 2) < 0 ∨ hexv (nb r 3) < 0
 ·refine escV_no hl (by omega) (by omega) (by omega) (by omega) (by omega) ?_
  by_cases h4 : (r.take m).length < 4
  ·exact .inl h4
  ·rw [List.length_take] at h4
   rw [n1, nb_takeN r m 2 (by omega), nb_takeN r m 3 (by omega)]
   rcases a5 with a5 | a5
   ·omega
   ·exact .inr a5
 ·rw [if_neg a5] at h; cases h
theorem escV_take_some {r : List UInt8} {m : Nat} {x : UInt8} {n : Nat} (hm : n ≤ m) (h : escV r = some (x, n)) : escV (r.take m) = some (x, n) := by
 have hn := escV_len h
 have hl : ¬ (r.take m).length < 2 := by rw [List.length_take]; omega
 have n1 : nb (r.take m) 1 = nb r 1 := nb_takeN r m 1 (by omega)
 unfold escV at h
 rw [if_neg (by omega)] at h
 by_cases a1 : nb r 1 = 92 ∨ nb r 1 = 39
 ·rw [if_pos a1] at h
  rw [escV_q hl (by omega), n1]; exact h
 rw [if_neg a1] at h
 by_cases a2 : nb r 1 = 110
 ·rw [if_pos a2] at h
  rw [escV_n hl (by omega)]; exact h
 rw [if_neg a2] at h
 by_cases a3 : nb r 1 = 116
 ·rw [if_pos a3] at h
  rw [escV_t hl (by omega)]; exact h
 rw [if_neg a3] at h
 by_cases a4 : nb r 1 = 114
 ·rw [if_pos a4] at h
  rw [escV_r hl (by omega)]; exact h
 rw [if_neg a4] at h
 by_cases a5 : r.length < 4 ∨ nb r 1 ≠ 120 ∨ hexv (nb r 2) < 0 ∨ hexv (nb r 3) < 0
 ·rw [if_pos a5] at h; cases h
 rw [if_neg a5] at h
 have h4 : n = 4 := by injection h with h; injection h with _ h; exact h.symm
 subst h4
 have n2 : nb (r.take m) 2 = nb r 2 := nb_takeN r m 2 (by omega)
 have n3 : nb (r.take m) 3 = nb r 3 := nb_takeN r m 3 (by omega)
 rw [escV_x (by rw [List.length_take]; omega) (by rw [n1]; exact Classical.byContradiction fun e => a5 (.inr (.inl e))) (by rw [n2]; exact fun e => a5 (.inr (.inr (.inl e)))) (by rw [n3]; exact fun e => a5 (.inr (.inr (.inr e)))), n2, n3]
 exact h
theorem escV_four {r : List UInt8} {x : UInt8} (h : escV r = some (x, 4)) : ∃ a b c d q, r = a :: b :: c :: d :: q ∧ (c.toNat ≠ 39 ∧ c.toNat ≠ 92) ∧ (d.toNat ≠ 39 ∧ d.toNat ≠ 92) := by
 have hn := escV_len h
 match r, hn.2 with
 | a :: b :: c :: d :: q, _ =>
  refine ⟨a, b, c, d, q, rfl, ?_⟩
  unfold escV at h
  rw [if_neg (by simp)] at h
  by_cases a1 : nb (a :: b :: c :: d :: q) 1 = 92 ∨ nb (a :: b :: c :: d :: q) 1 = 39
  ·rw [if_pos a1] at h; injection h with h; injection h with _ h; cases h
  rw [if_neg a1] at h
  by_cases a2 : nb (a :: b :: c :: d :: q) 1 = 110
  ·rw [if_pos a2] at h; injection h with h; injection h with _ h; cases h
  rw [if_neg a2] at h
  by_cases a3 : nb (a :: b :: c :: d :: q) 1 = 116
  ·rw [if_pos a3] at h; injection h with h; injection h with _ h; cases h
  rw [if_neg a3] at h
  by_cases a4 : nb (a :: b :: c :: d :: q) 1 = 114
  ·rw [if_pos a4] at h; injection h with h; injection h with _ h; cases h
  rw [if_neg a4] at h
  by_cases a5 : (a :: b :: c :: d :: q).length < 4 ∨ nb (a :: b :: c :: d :: q) 1 ≠ 120 ∨ hexv (nb (a :: b :: c :: d :: q) 2) < 0 ∨ hexv (nb (a :: b :: c :: d :: q) 3) < 0
  ·rw [if_pos a5] at h; cases h
  exact ⟨hexv_byte (fun e => a5 (.inr (.inr (.inl e)))), hexv_byte (fun e => a5 (.inr (.inr (.inr e))))⟩
theorem raw_qd : ∀ (k : Nat) (r : List UInt8), r.length = k → qd r = match rawF r with | none => none | some j => (uq (r.take j)).map fun t => (t, r.drop (j + 1)) := by
 intro k
 induction k using Nat.strongRecOn with
 | _ k ih =>
  intro r hk
  by_cases h0 : r.length = 0
  ·have : r = [] := List.length_eq_zero_iff.1 h0
   subst this
   rw [qd_eq, if_pos (show ([] : List UInt8).length = 0 from rfl)]; rfl
  obtain ⟨c, s, rfl⟩ : ∃ c s, r = c :: s := by
   cases r with
   | nil => simp at h0
   | cons c s => exact ⟨c, s, rfl⟩
  have n0 : nb (c :: s) 0 = c.toNat := rfl
  rw [qd_eq, if_neg h0, n0]
  by_cases h39 : c.toNat = 39
  ·have hc : c = 39 := UInt8.toNat_inj.1 h39
   rw [if_pos h39, rawF_cons, if_pos hc]
   dsimp only
   rw [List.take_zero, uq_eq, if_pos (show ([] : List UInt8).length = 0 from rfl)]
   rfl
  have hc39 : c ≠ 39 := fun e => h39 (by rw [e]; rfl)
  rw [if_neg h39]
  by_cases h92 : c.toNat = 92
  ·have hc : c = 92 := UInt8.toNat_inj.1 h92
   have hnb : ¬ bad (c :: s) := by
    have := sg_one.2 ⟨h0, show nb (c :: s) 0 < 128 by rw [n0]; omega⟩
    unfold bad
    rw [n0]; omega
   rw [if_neg hnb, if_pos h92, rawF_cons, if_neg hc39, if_pos hc]
   cases s with
   | nil => rw [escV_short (by simp)]
   | cons d q =>
    dsimp only
    have huq : ∀ j, uq ((c :: d :: q).take (j + 2)) = match escV ((c :: d :: q).take (j + 2)) with | none => none | some (x, n) => (uq (((c :: d :: q).take (j + 2)).drop n)).map fun p => x :: p := fun j => by
     rw [uq_eq, if_neg (by simp), if_pos (by rw [nb_takeN _ _ _ (by omega), n0]; exact h92)]
     rfl
    cases he : escV (c :: d :: q) with
    | none =>
     cases hr : rawF q with
     | none => rfl
     | some j =>
      simp only [Option.map_some]
      rw [huq, escV_take_none (by omega) he]
      rfl
    | some p =>
     obtain ⟨x, n⟩ := p
     have hl := escV_len he
     dsimp only
     rcases hl.1 with rfl | rfl
     ·rw [show (c :: d :: q).drop 2 = q from rfl, ih q.length (by simp at hk; omega) q rfl]
      cases hr : rawF q with
      | none => rfl
      | some j =>
       simp only [Option.map_some]
       rw [huq, escV_take_some (by omega) he]
       dsimp only
       rw [show ((c :: d :: q).take (j + 2)).drop 2 = q.take j from rfl]
       rw [show (c :: d :: q).drop (j + 2 + 1) = q.drop (j + 1) from rfl]
       cases uq (q.take j) <;> rfl
     ·obtain ⟨a, b, e, f, z, heq, h3, h4⟩ := escV_four he
      injection heq with _ heq
      injection heq with _ heq
      subst heq
      have hsk : rawF (e :: f :: z) = (rawF z).map (· + 2) := rawF_skip [e, f] z (fun y hy => by
       simp at hy
       rcases hy with rfl | rfl
       ·exact ⟨fun k => h3.1 (by rw [k]; rfl), fun k => h3.2 (by rw [k]; rfl)⟩
       ·exact ⟨fun k => h4.1 (by rw [k]; rfl), fun k => h4.2 (by rw [k]; rfl)⟩)
      rw [hsk, show (c :: d :: e :: f :: z).drop 4 = z from rfl, ih z.length (by simp at hk; omega) z rfl]
      cases hr : rawF z with
      | none => rfl
      | some j =>
       simp only [Option.map_some]
       rw [huq, escV_take_some (by omega) he]
       dsimp only
       rw [show ((c :: d :: e :: f :: z).take (j + 2 + 2)).drop 4 = z.take j from rfl]
       rw [show (c :: d :: e :: f :: z).drop (j + 2 + 2 + 1) = z.drop (j + 1) from rfl]
       cases uq (z.take j) <;> rfl
  have hc92 : c ≠ 92 := fun e => h92 (by rw [e]; rfl)
  by_cases hb : bad (c :: s)
  ·rw [if_pos hb]
   have hraw : rawF (c :: s) = (rawF s).map (· + 1) := by rw [rawF_cons, if_neg hc39, if_neg hc92]
   rw [hraw]
   cases hr : rawF s with
   | none => rfl
   | some j =>
    simp only [Option.map_some]
    have hn0 : nb ((c :: s).take (j + 1)) 0 = c.toNat := by rw [nb_takeN _ _ _ (by omega)]; exact n0
    have hbt : bad ((c :: s).take (j + 1)) := by
     rcases hb with hb | hb | hb
     ·refine .inl ?_
      apply Classical.byContradiction
      intro hne
      have h5 := sg_take ((c :: s).drop (sg ((c :: s).take (j + 1)))) hne
      have h6 := (sg_le (l := (c :: s).take (j + 1))).2
      rw [List.length_take] at h6
      rw [List.take_take, Nat.min_eq_left (by omega), List.take_append_drop, hb] at h5
      exact hne h5.symm
     ·exact .inr (.inl (by rw [hn0]; rw [n0] at hb; exact hb))
     ·exact .inr (.inr (by rw [hn0]; rw [n0] at hb; exact hb))
    rw [uq_eq, if_neg (by simp), if_neg (by rw [hn0]; exact h92), if_pos (.inr hbt)]
    rfl
  rw [if_neg hb, if_neg h92]
  have h1 := bad_not hb
  have h2 := sg_le (l := c :: s)
  have hby : ∀ y ∈ (c :: s).take (sg (c :: s)), y ≠ 39 ∧ y ≠ 92 := fun y hy => by
   obtain ⟨i, hi, rfl⟩ := List.getElem_of_mem hy
   rw [List.length_take] at hi
   have hin : nb (c :: s) i = ((c :: s).take (sg (c :: s)))[i].toNat := by
    rw [List.getElem_take]
    unfold nb
    rw [List.getElem?_eq_getElem (by omega)]
    rfl
   have hne : nb (c :: s) i ≠ 39 ∧ nb (c :: s) i ≠ 92 := by
    by_cases hi0 : i = 0
    ·subst hi0; rw [n0]; exact ⟨h39, h92⟩
    ·obtain ⟨f2, f3, f4⟩ := sg_facts (l := c :: s)
     have hcs : sg (c :: s) = 2 ∨ sg (c :: s) = 3 ∨ sg (c :: s) = 4 := by omega
     rcases hcs with e | e | e
     ·have := f2 e
      have hi1 : i = 1 := by omega
      subst hi1; omega
     ·have := f3 e
      have hi1 : i = 1 ∨ i = 2 := by omega
      rcases hi1 with rfl | rfl <;> omega
     ·have := f4 e
      have hi1 : i = 1 ∨ i = 2 ∨ i = 3 := by omega
      rcases hi1 with rfl | rfl | rfl <;> omega
   rw [hin] at hne
   exact ⟨fun e => hne.1 (by rw [e]; rfl), fun e => hne.2 (by rw [e]; rfl)⟩
  have hraw : rawF (c :: s) = (rawF ((c :: s).drop (sg (c :: s)))).map (· + sg (c :: s)) := by
   have := rawF_skip _ ((c :: s).drop (sg (c :: s))) hby
   rw [List.take_append_drop, List.length_take, Nat.min_eq_left h2.2] at this
   exact this
  rw [hraw, ih ((c :: s).drop (sg (c :: s))).length (by rw [List.length_drop]; omega) _ rfl]
  cases hr : rawF ((c :: s).drop (sg (c :: s))) with
  | none => rfl
  | some j =>
   simp only [Option.map_some]
   have hlt := rawF_lt hr
   rw [List.length_drop] at hlt
   have hn0 : nb ((c :: s).take (j + sg (c :: s))) 0 = c.toNat := by rw [nb_takeN _ _ _ (by omega)]; exact n0
   have hsp : (c :: s).take (j + sg (c :: s)) = (c :: s).take (sg (c :: s)) ++ ((c :: s).drop (sg (c :: s))).take j := by
    rw [Nat.add_comm, List.take_add]
   have hst : sg ((c :: s).take (j + sg (c :: s))) = sg (c :: s) := by rw [hsp]; exact sg_take _ h1
   have hbt : ¬ bad ((c :: s).take (j + sg (c :: s))) := by
    unfold bad at hb ⊢
    rw [hst, hn0]
    rw [n0] at hb
    exact hb
   rw [uq_eq ((c :: s).take (j + sg (c :: s))), if_neg (by rw [List.length_take]; omega), if_neg (by rw [hn0]; exact h92), if_neg (by rw [hn0]; exact fun h => h.elim h39 hbt), hst]
   have hd1 : ((c :: s).take (j + sg (c :: s))).drop (sg (c :: s)) = ((c :: s).drop (sg (c :: s))).take j := by
    rw [hsp, List.drop_append_of_le_length (by rw [List.length_take]; omega), List.drop_of_length_le (by rw [List.length_take]; omega), List.nil_append]
   have hd2 : ((c :: s).take (j + sg (c :: s))).take (sg (c :: s)) = (c :: s).take (sg (c :: s)) := by
    rw [List.take_take, Nat.min_eq_left (by omega)]
   rw [hd1, hd2, List.drop_drop, show sg (c :: s) + (j + 1) = j + sg (c :: s) + 1 from by omega]
   cases uq (((c :: s).drop (sg (c :: s))).take j) <;> rfl
end Go.Proofs.YtndhpdclpgemfaaGreat
namespace Go.Proofs.YtndhpdclpgemfaaGreat
set_option maxRecDepth 100000
open Go.RowKit
set_option linter.unusedVariables false
def spanB (f : Nat → Bool) : List UInt8 → Nat
  | [] => 0
  | c :: r => if f c.toNat then spanB f r + 1 else 0
theorem spanB_le (f : Nat → Bool) : ∀ l, spanB f l ≤ l.length
  | [] => Nat.le_refl _
  | c :: r => by unfold spanB; have := spanB_le f r; split <;> simp <;> omega
theorem spanB_pos {f : Nat → Bool} {c : UInt8} (r : List UInt8) (h : f c.toNat = true) : spanB f (c :: r) = spanB f r + 1 := by rw [spanB, if_pos h]
theorem spanB_neg {f : Nat → Bool} {c : UInt8} (r : List UInt8) (h : f c.toNat = false) : spanB f (c :: r) = 0 := by rw [spanB, if_neg (by simp [h])]
theorem spanB_is (f : Nat → Bool) : ∀ (l : List UInt8) (n : Nat), n ≤ l.length → (∀ k, k < n → f (nb l k) = true) → (n < l.length → f (nb l n) = false) → spanB f l = n
  | [], n, h, _, _ => by simp at h; subst h; rfl
  | c :: r, 0, _, _, h2 => spanB_neg r (by have := h2 (by simp); simpa [nb] using this)
  | c :: r, n + 1, h, h1, h2 => by
    rw [spanB_pos r (by have := h1 0 (by omega); simpa [nb] using this)]
    rw [spanB_is f r n (by simpa using h) (fun k hk => by have := h1 (k + 1) (by omega); simpa [nb] using this) (fun hn => by have := h2 (by simpa using hn); simpa [nb] using this)]
def blankB (c : Nat) : Bool := decide (c = 32 ∨ c = 9 ∨ c = 10 ∨ c = 13)
structure Tok where
  k : Nat
  t : List UInt8
  n : Int
inductive One where
  | bad (e : Int)
  | tok (t : Tok) (len : Nat)
def oneL (r : List UInt8) : One :=
  if letter (nb r 0) then
    (if 64 < spanB nchar r then .bad 1
     else if wordB (r.take (spanB nchar r)) then .tok ⟨2, largeL (r.take (spanB nchar r)), 0⟩ (spanB nchar r)
     else .tok ⟨1, r.take (spanB nchar r), 0⟩ (spanB nchar r))
  else if digt (nb r 0) then
    (if (parseOf (r.take (spanB digt r))).2 = 0 then .tok ⟨3, [], (parseOf (r.take (spanB digt r))).1⟩ (spanB digt r) else .bad (parseOf (r.take (spanB digt r))).2)
  else if nb r 0 = 39 then (match qd (r.drop 1) with | none => .bad 1 | some (x, rest) => .tok ⟨4, x, 0⟩ (r.length - rest.length))
  else if signL r = [] then .bad 1 else .tok ⟨5, signL r, 0⟩ (signL r).length
inductive ScanR where
  | bad (place : Nat) (e : Int)
  | ok (l : List (Tok × Nat))
def scanN : Nat → List UInt8 → Nat → List (Tok × Nat) → ScanR
  | 0, _, p, _ => .bad p 8
  | f + 1, r, p, acc =>
    if r.drop (spanB blankB r) = [] then
      (if 4096 ≤ acc.length then .bad (p + spanB blankB r) 8 else .ok (acc ++ [(⟨6, [], 0⟩, p + spanB blankB r)]))
    else match oneL (r.drop (spanB blankB r)) with
      | .bad e => .bad (p + spanB blankB r) e
      | .tok t n => if 4096 ≤ acc.length then .bad (p + spanB blankB r) 8
        else scanN f ((r.drop (spanB blankB r)).drop n) (p + spanB blankB r + n) (acc ++ [(t, p + spanB blankB r)])
def scanL (s : List UInt8) : ScanR := if 16384 < s.length then .bad 0 8 else scanN (s.length + 1) s 0 []
theorem signL_pos {r : List UInt8} (h : signL r ≠ []) : 1 ≤ (signL r).length := by
 cases hs : signL r with
 | nil => exact absurd hs h
 | cons c l => simp
theorem signL_le (r : List UInt8) : (signL r).length ≤ r.length := by
 unfold signL
 split
 ·simp; omega
 ·split
  ·simp; omega
  ·simp
theorem oneL_len {r : List UInt8} {t : Tok} {n : Nat} (hr : r ≠ []) (h : oneL r = .tok t n) (hq : ∀ x rest, qd (r.drop 1) = some (x, rest) → rest.length < r.length) : 1 ≤ n ∧ n ≤ r.length := by
 obtain ⟨c, l, rfl⟩ : ∃ c l, r = c :: l := by cases r with | nil => exact absurd rfl hr | cons c l => exact ⟨c, l, rfl⟩
 have hc : nb (c :: l) 0 = c.toNat := by simp [nb]
 unfold oneL at h
 rw [hc] at h
 by_cases a : letter c.toNat = true
 ·have hn : nchar c.toNat = true := by unfold nchar; rw [a]; rfl
  rw [if_pos a] at h
  have hp := spanB_pos l hn
  have hle := spanB_le nchar (c :: l)
  split at h
  ·cases h
  ·split at h <;> (cases h; exact ⟨by omega, hle⟩)
 ·rw [if_neg a] at h
  by_cases b : digt c.toNat = true
  ·rw [if_pos b] at h
   have hp := spanB_pos l b
   have hle := spanB_le digt (c :: l)
   split at h
   ·cases h; exact ⟨by omega, hle⟩
   ·cases h
  ·rw [if_neg b] at h
   split at h
   ·split at h
    ·cases h
    ·rename_i x rest hqd
     have := hq x rest hqd
     cases h
     omega
   ·split at h
    ·cases h
    ·rename_i hne
     cases h
     exact ⟨signL_pos hne, signL_le _⟩
end Go.Proofs.YtndhpdclpgemfaaGreat
namespace Go.Proofs.YtndhpdclpgemfaaGreat
set_option maxRecDepth 100000
open Go.RowKit Go.Shelf
set_option linter.unusedSimpArgs false
set_option linter.unusedVariables false
def SpanTo (f : Nat → Bool) (l : List UInt8) (p j : Nat) : Prop := p ≤ j ∧ j ≤ l.length ∧ ∀ k, p ≤ k → k < j → f (nb l k) = true
theorem spanTo_zero {f : Nat → Bool} {l : List UInt8} {p : Nat} (hp : p ≤ l.length) : SpanTo f l p p := ⟨by omega, hp, fun k h1 h2 => by omega⟩
theorem spanTo_step {f : Nat → Bool} {l : List UInt8} {p j : Nat} (h : SpanTo f l p j) (hj : j < l.length) (hf : f (nb l j) = true) : SpanTo f l p (j + 1) :=
  ⟨by have := h.1; omega, by omega, fun k h1 h2 => by
    by_cases e : k = j
    · subst e; exact hf
    · exact h.2.2 k h1 (by omega)⟩
theorem spanTo_end {f : Nat → Bool} {l : List UInt8} {p j : Nat} (h : SpanTo f l p j) (he : j < l.length → f (nb l j) = false) : spanB f (l.drop p) = j - p := by
 have h1 := h.1
 have h2 := h.2.1
 refine spanB_is f _ _ (by rw [List.length_drop]; omega) (fun k hk => ?_) (fun hn => ?_)
 ·rw [nb_drop]; exact h.2.2 _ (by omega) (by omega)
 ·rw [List.length_drop] at hn
  rw [nb_drop, show p + (j - p) = j from by omega]; exact he (by omega)
theorem extract_drop (s : ByteArray) (p j : Nat) : (s.extract p j).data.toList = (s.data.toList.drop p).take (j - p) := by
 rw [Lib.extract_data]
theorem oneL_bad_name {r : List UInt8} (h : letter (nb r 0) = true) (h2 : 64 < spanB nchar r) : oneL r = .bad 1 := by
 unfold oneL; rw [if_pos h, if_pos h2]
theorem oneL_word {r : List UInt8} (h : letter (nb r 0) = true) (h2 : ¬ 64 < spanB nchar r) (h3 : wordB (r.take (spanB nchar r)) = true) : oneL r = .tok ⟨2, largeL (r.take (spanB nchar r)), 0⟩ (spanB nchar r) := by
 unfold oneL; rw [if_pos h, if_neg h2, if_pos h3]
theorem oneL_name {r : List UInt8} (h : letter (nb r 0) = true) (h2 : ¬ 64 < spanB nchar r) (h3 : wordB (r.take (spanB nchar r)) = false) : oneL r = .tok ⟨1, r.take (spanB nchar r), 0⟩ (spanB nchar r) := by
 unfold oneL; rw [if_pos h, if_neg h2, if_neg (by rw [h3]; decide)]
theorem oneL_num {r : List UInt8} (h : letter (nb r 0) = false) (h2 : digt (nb r 0) = true) (h3 : (parseOf (r.take (spanB digt r))).2 = 0) : oneL r = .tok ⟨3, [], (parseOf (r.take (spanB digt r))).1⟩ (spanB digt r) := by
 unfold oneL; rw [h, if_neg (by decide), h2, if_pos rfl, if_pos h3]
theorem oneL_numbad {r : List UInt8} (h : letter (nb r 0) = false) (h2 : digt (nb r 0) = true) (h3 : ¬ (parseOf (r.take (spanB digt r))).2 = 0) : oneL r = .bad (parseOf (r.take (spanB digt r))).2 := by
 unfold oneL; rw [h, if_neg (by decide), h2, if_pos rfl, if_neg h3]
theorem oneL_q {r : List UInt8} (h : nb r 0 = 39) : oneL r = match qd (r.drop 1) with | none => .bad 1 | some (x, rest) => .tok ⟨4, x, 0⟩ (r.length - rest.length) := by
 unfold oneL; rw [h, if_neg (by decide), if_neg (by decide), if_pos rfl]
 all_goals (generalize qd (r.drop 1) = o; cases o <;> rfl)
theorem oneL_sign {r : List UInt8} (h : letter (nb r 0) = false) (h2 : digt (nb r 0) = false) (h3 : ¬ nb r 0 = 39) : oneL r = if signL r = [] then .bad 1 else .tok ⟨5, signL r, 0⟩ (signL r).length := by
 unfold oneL; rw [h, if_neg (by decide), h2, if_neg (by decide), if_neg h3]
theorem own_heap {w w' : World} {B : Nat} {e : TypeId} {size : Nat} {v : Value} {n : Nat} {xs : List Value} (h : w.ownsRow B e size v n xs) (hk : ∀ k, v.ownBlock = some k → w'.heap[k]? = w.heap[k]?) : w'.ownsRow B e size v n xs := by
 refine ⟨h.1, ?_⟩
 rcases h.2 with h2 | ⟨g, cap, cur, rfl, hb, hg, rest⟩
 ·exact .inl h2
 ·exact .inr ⟨g, cap, cur, rfl, hb, (hk g rfl).trans hg, rest⟩
theorem own_set {w : World} {B : Nat} {e : TypeId} {size : Nat} {v : Value} {n : Nat} {xs : List Value} (h : w.ownsRow B e size v n xs) {a : Addr} (ha : ∀ k, v.ownBlock = some k → k ≠ a.block) (x : Value) : (w.setCell a x).ownsRow B e size v n xs :=
  own_heap h (fun k hk => Below.heap_setCell _ _ _ _ (ha k hk))
theorem own_form {w : World} {B : Nat} {e : TypeId} {size : Nat} {v : Value} {n : Nat} {xs : List Value} (h : w.ownsRow B e size v n xs) : ∃ a cap, v = .slice a n cap := by
 rcases h.2 with ⟨rfl, rfl⟩ | ⟨g, cap, cur, rfl, _⟩
 ·exact ⟨none, 0, rfl⟩
 ·exact ⟨_, _, rfl⟩
theorem heap_newN (w : World) (n : Nat) (o : Obj) (h : w.heap.size = n) : (w.alloc o).heap[n]? = some o := by subst h; exact heap_alloc_new w o
theorem Tryz.infoTok : (Tryz.prog.info? 51).map (fun i => (i.zero, i.size, i.bytes)) = some (some (.agg #[.int .i64 0, .string ⟨#[]⟩, .int .i64 0, .int .i64 0]), 4, 40) := by kernel_rfl
def tokC (x : Tok × Nat) : List Value := [.int .i64 x.1.k, .string (strOf x.1.t), .int .i64 x.1.n, .int .i64 x.2]
def tokCells (l : List (Tok × Nat)) : List Value := l.flatMap tokC
theorem tokCells_snoc (l : List (Tok × Nat)) (x : Tok × Nat) : tokCells (l ++ [x]) = tokCells l ++ tokC x := by simp [tokCells]
def ScanE (r : ScanR) (B : Nat) (e : Ending) (w' : World) : Prop :=
  match r with
  | .bad p x => e = .returned (.tuple #[.slice none 0 0, .int .i64 p, .int .i64 x])
  | .ok l => ∃ v, e = .returned (.tuple #[v, .int .i64 0, .int .i64 0]) ∧ w'.ownsRow B 51 4 v l.length (tokCells l)
def ScanP (r : ScanR) (w : World) (e : Ending) (w' : World) : Prop := ScanE r w.heap.size e w' ∧ Below w.heap.size w w'
theorem scanN_at (f : Nat) (L : List UInt8) (p j : Nat) (acc : List (Tok × Nat)) (hj : p ≤ j) (h : spanB blankB (L.drop p) = j - p) :
    scanN (f + 1) (L.drop p) p acc = if L.drop j = [] then (if 4096 ≤ acc.length then .bad j 8 else .ok (acc ++ [(⟨6, [], 0⟩, j)]))
      else match oneL (L.drop j) with
        | .bad e => .bad j e
        | .tok t n => if 4096 ≤ acc.length then .bad j 8 else scanN f (L.drop (j + n)) (j + n) (acc ++ [(t, j)]) := by
 rw [scanN, h, List.drop_drop, show p + (j - p) = j from by omega]
 by_cases hd : L.drop j = []
 ·rw [if_pos hd, if_pos hd]
 ·rw [if_neg hd, if_neg hd]
  cases oneL (L.drop j) with
  | bad e => rfl
  | tok t n => simp only [List.drop_drop]
theorem oneL_kind {r : List UInt8} {t : Tok} {n : Nat} (h : oneL r = .tok t n) : 1 ≤ t.k ∧ t.k ≤ 5 := by
 unfold oneL at h
 split at h
 ·split at h
  ·cases h
  ·split at h <;> (cases h; exact ⟨by simp, by simp⟩)
 ·split at h
  ·split at h
   ·cases h; exact ⟨by simp, by simp⟩
   ·cases h
  ·split at h
   ·split at h
    ·cases h
    ·cases h; exact ⟨by simp, by simp⟩
   ·split at h
    ·cases h
    ·cases h; exact ⟨by simp, by simp⟩
theorem oneL_size {r : List UInt8} {t : Tok} {n : Nat} (hr : r ≠ []) (h : oneL r = .tok t n) : 1 ≤ n ∧ n ≤ r.length :=
  oneL_len hr h (fun x rest hq => by
    obtain ⟨j, hj, _, hr2⟩ := qd_last _ _ rfl _ _ hq
    have : 0 < r.length := List.length_pos_iff.2 hr
    rw [hr2, List.length_drop, List.length_drop]; omega)
theorem oneL_ne {r : List UInt8} {e : Int} (h : oneL r = .bad e) : e ≠ 0 := by
 unfold oneL at h
 split at h
 ·split at h
  ·cases h; decide
  ·split at h <;> cases h
 ·split at h
  ·split at h
   ·cases h
   ·rename_i hp
    cases h; exact hp
  ·split at h
   ·split at h
    ·cases h; decide
    ·cases h
   ·split at h
    ·cases h; decide
    ·cases h
end Go.Proofs.YtndhpdclpgemfaaGreat
namespace Go.Proofs.YtndhpdclpgemfaaGreat
set_option maxRecDepth 100000
open Go.RowKit
set_option linter.unusedSimpArgs false
set_option linter.unusedVariables false
theorem blank_any (c : Nat) (hc : c < 256) (w : World) :
    Calls Tryz.prog 50 #[.int .u8 c] w fun e w' => e = .returned (.bool (blankB c)) ∧ w' = w := by
 unfold blankB
 by_cases a : c = 32
 ·subst a
  go_enter Tryz.func50, Tryz.ntmps50
  go_wp2_with fail
  go_ret
  exact ⟨rfl, rfl⟩
 ·by_cases b : c = 9
  ·subst b
   go_enter Tryz.func50, Tryz.ntmps50
   go_wp2_with fail
   go_ret
   exact ⟨rfl, rfl⟩
  ·by_cases d : c = 10
   ·subst d
    go_enter Tryz.func50, Tryz.ntmps50
    go_wp2_with fail
    go_ret
    exact ⟨rfl, rfl⟩
   ·by_cases e : c = 13
    ·subst e
     go_enter Tryz.func50, Tryz.ntmps50
     go_wp2_with fail
     go_ret
     exact ⟨rfl, rfl⟩
    ·have h1 : ((c : Int) == 32) = false := beq_eq_false_iff_ne.2 (by omega)
     have h2 : ((c : Int) == 9) = false := beq_eq_false_iff_ne.2 (by omega)
     have h3 : ((c : Int) == 10) = false := beq_eq_false_iff_ne.2 (by omega)
     have h4 : ((c : Int) == 13) = false := beq_eq_false_iff_ne.2 (by omega)
     have HR : Hid (decide (c = 32 ∨ c = 9 ∨ c = 10 ∨ c = 13) = false) := Lib.hid (decide_eq_false (by omega))
     go_enter Tryz.func50, Tryz.ntmps50
     go_wp2_with fail
     go_ret
     exact ⟨(by rw [HR.out]; rfl), rfl⟩
set_option maxRecDepth 20000 in
theorem pletter_any (c : Nat) (hc : c < 256) (w : World) :
    Calls Tryz.prog 41 #[.int .u8 c] w fun e w' => e = .returned (.bool (letter c)) ∧ w = w' := Sq30
set_option maxRecDepth 20000 in
theorem pdigit_any (c : Nat) (hc : c < 256) (w : World) :
    Calls Tryz.prog 43 #[.int .u8 c] w fun e w' => e = .returned (.bool (digt c)) ∧ w = w' := Sq51
theorem nchar_any (c : Nat) (hc : c < 256) (w : World) :
    Calls Tryz.prog 98 #[.int .u8 c] w fun e w' => e = .returned (.bool (nchar c)) ∧ w' = w := by
 obtain ⟨R, hR⟩ := nam (nchar c)
 have HR := Lib.hid hR
 rw [hR]
 clear hR
 have hl := pletter_any c hc w
 have hd := pdigit_any c hc w
 cases ha : letter c with
 | true =>
  rw [ha] at hl
  have hr : R = true := by rw [← HR.out]; unfold nchar; rw [ha]; rfl
  subst hr
  clear ha
  go_enter Tryz.func98, Tryz.ntmps98
  go_wp2_with fail
  refine hl.mono ?_
  rintro e w1 ⟨rfl, rfl⟩
  go_wp2_with fail
  go_ret
  exact ⟨rfl, rfl⟩
 | false =>
  rw [ha] at hl
  have hr : R = digt c := by rw [← HR.out]; unfold nchar; rw [ha]; rfl
  rw [← hr] at hd
  clear ha hr
  go_enter Tryz.func98, Tryz.ntmps98
  go_wp2_with fail
  refine hl.mono ?_
  rintro e w1 ⟨rfl, rfl⟩
  go_wp2_with fail
  refine hd.mono ?_
  rintro e w1 ⟨rfl, rfl⟩
  go_wp2_with fail
  go_ret
  exact ⟨rfl, rfl⟩
theorem isq_any (c : Nat) (hc : c < 256) (w : World) :
    Calls Tryz.prog 45 #[.int .u8 c] w fun e w' => e = .returned (.bool (decide (c = 39))) ∧ w' = w := by
 by_cases a : c = 39
 ·subst a
  go_enter Tryz.func45, Tryz.ntmps45
  go_wp2_with fail
  go_ret
  exact ⟨rfl, rfl⟩
 ·have h1 : ((c : Int) == 39) = false := beq_eq_false_iff_ne.2 (by omega)
  have HR : Hid (decide (c = 39) = false) := Lib.hid (decide_eq_false a)
  go_enter Tryz.func45, Tryz.ntmps45
  go_wp2_with fail
  go_ret
  exact ⟨(by rw [HR.out]; rfl), rfl⟩
theorem isany_any (c : Nat) (w : World) :
    Calls Tryz.prog 47 #[.int .u8 c] w fun e w' => e = .returned (.bool true) ∧ w' = w := by
 go_enter Tryz.func47, Tryz.ntmps47
 go_wp2_with fail
 go_ret
 exact ⟨rfl, rfl⟩
def tokT (k : Int) (s : List UInt8) (n : Int) : List UInt8 := if k = 3 then textOf n else if k = 4 then 39 :: (quoteL s ++ [39]) else s
end Go.Proofs.YtndhpdclpgemfaaGreat
namespace Go.Proofs.YtndhpdclpgemfaaGreat
set_option maxRecDepth 100000
open Go.RowKit Go.Shelf
set_option linter.unusedSimpArgs false
set_option linter.unusedVariables false
def Sc (w : World) (B b : Nat) (s : ByteArray) (p : Nat) (v : Value) (acc : List (Tok × Nat)) : Prop :=
  B ≤ b ∧ Block w b [.string s, .int .i64 p, v] 98 ∧ w.ownsRow B 51 4 v acc.length (tokCells acc) ∧ (∀ k, v.ownBlock = some k → k ≠ b)
theorem Sc.drewN {w : World} {B b : Nat} {s : ByteArray} {p : Nat} {v : Value} {acc : List (Tok × Nat)} (h : Sc w B b s p v acc) (n : Nat) : Sc (w.drewN n) B b s p v acc := h
theorem pdigit_any' (c : Nat) (hc : c < 256) (w : World) : Calls Tryz.prog 43 #[.int .u8 c] w fun e w' => e = .returned (.bool (digt c)) ∧ w' = w := (pdigit_any c hc w).mono fun _ _ ⟨h, k⟩ => ⟨h, k.symm⟩
theorem pletter_any' (c : Nat) (hc : c < 256) (w : World) : Calls Tryz.prog 41 #[.int .u8 c] w fun e w' => e = .returned (.bool (letter c)) ∧ w' = w := (pletter_any c hc w).mono fun _ _ ⟨h, k⟩ => ⟨h, k.symm⟩
def WhileP (n : Nat) (w : World) (e : Ending) (w' : World) : Prop := e = .returned (.int .i64 n) ∧ ∃ m, w' = w.drewN m
theorem Sq24 {P : Prop} (h : P := by
 have HLN : Hid (s.data.toList.length = s.size) := Lib.hid (by simp)
 have HB := Lib.hid hb
 clear hb
 go_enter Tryz.func49, Tryz.ntmps49
 go_wp2_with fail
 first
 | (guard_hyp z24a; go_loopw [5] (fun k wr => ∃ n : Nat, k = .int .i64 n ∧ Hid (SpanTo blankB s.data.toList p (p + n)) ∧ Hid (∃ m, wr = w.drewN m)) (fun k _ => s.size - (intOf k).toNat))
 | (guard_hyp z24c; go_loopw [5] (fun k wr => ∃ n : Nat, k = .int .i64 n ∧ Hid (SpanTo nchar s.data.toList p (p + n)) ∧ Hid (∃ m, wr = w.drewN m)) (fun k _ => s.size - (intOf k).toNat))
 | (go_loopw [5] (fun k wr => ∃ n : Nat, k = .int .i64 n ∧ Hid (SpanTo digt s.data.toList p (p + n)) ∧ Hid (∃ m, wr = w.drewN m)) (fun k _ => s.size - (intOf k).toNat))
 case atStart => exact ⟨0, rfl, Lib.hid (spanTo_zero (by rw [HLN.out]; exact hp)), Lib.hid ⟨0, rfl⟩⟩
 case round =>
  obtain ⟨n, rfl, hd, HM⟩ := hrel
  have hnl : p + n ≤ s.size := by have := hd.out.2.1; rw [HLN.out] at this; exact this
  have HBR : Hid (Block wr b [.string s, .int .i64 p, v] 98) := Lib.hid (by obtain ⟨m, hm⟩ := HM.out; rw [hm]; exact HB.out)
  have c0 := HBR.out.cell (i := 0) rfl
  have c1 := HBR.out.cell (i := 1) rfl
  have s1 : IntKind.i64.wrap ((p : Int) + n) = (p : Int) + n := IntWalk.i64_in _ (by omega)
  have s2 : (0 : Int) ≤ (p : Int) + n := by omega
  have s3 : ((p : Int) + n).toNat = p + n := by omega
  by_cases hq : p + n < s.size
  ·have hq' : (p : Int) + n < s.size := by omega
   have hc : s[p + n].toNat < 256 := by have := s[p + n].toNat_lt; omega
   have X : Hid (s[p + n].toNat = nb s.data.toList (p + n)) := Lib.hid (nb_get s (p + n) hq)
   first
   |(
    guard_hyp z24a
    have HT := Lib.hid (fun w => blank_any s[p + n].toNat hc w)
    cases ht : blankB s[p + n].toNat with
    | true =>
     rw [ht] at HT
     have HU := Lib.hid (spanTo_step hd.out (by rw [HLN.out]; exact hq) (by rw [← X.out]; exact ht))
     clear ht
     go_wp2_with fail
     go_quiet ((go_at_call 50; exact Calls.quiet_of_same (HT.out _)))
     clear s1
     go_wp2_with fail
     go_roundw
     case rel => exact ⟨n + 1, by go_num, HU, Lib.hid (by obtain ⟨m, hm⟩ := HM.out; exact ⟨_, by rw [hm, World.drewN_drewN]⟩)⟩
     case measure => simp [intOf]; omega
    | false =>
     rw [ht] at HT
     have HSP := Lib.hid (spanTo_end hd.out (fun _ => by rw [← X.out]; exact ht))
     clear ht
     go_wp2_with fail
     go_quiet ((go_at_call 50; exact Calls.quiet_of_same (HT.out _)))
     clear s1
     go_wp2_with fail
     go_ret
     exact ⟨by rw [HSP.out, show p + n - p = n from by omega]; rfl, by obtain ⟨m, hm⟩ := HM.out; exact ⟨_, by rw [hm, World.drewN_drewN]⟩⟩)
   |(
    guard_hyp z24b
    have HT := Lib.hid (fun w => pdigit_any' s[p + n].toNat hc w)
    cases ht : digt s[p + n].toNat with
    | true =>
     rw [ht] at HT
     have HU := Lib.hid (spanTo_step hd.out (by rw [HLN.out]; exact hq) (by rw [← X.out]; exact ht))
     clear ht
     go_wp2_with fail
     go_quiet ((go_at_call 43; exact Calls.quiet_of_same (HT.out _)))
     clear s1
     go_wp2_with fail
     go_roundw
     case rel => exact ⟨n + 1, by go_num, HU, Lib.hid (by obtain ⟨m, hm⟩ := HM.out; exact ⟨_, by rw [hm, World.drewN_drewN]⟩)⟩
     case measure => simp [intOf]; omega
    | false =>
     rw [ht] at HT
     have HSP := Lib.hid (spanTo_end hd.out (fun _ => by rw [← X.out]; exact ht))
     clear ht
     go_wp2_with fail
     go_quiet ((go_at_call 43; exact Calls.quiet_of_same (HT.out _)))
     clear s1
     go_wp2_with fail
     go_ret
     exact ⟨by rw [HSP.out, show p + n - p = n from by omega]; rfl, by obtain ⟨m, hm⟩ := HM.out; exact ⟨_, by rw [hm, World.drewN_drewN]⟩⟩)
   |(
    have HT := Lib.hid (fun w => nchar_any s[p + n].toNat hc w)
    cases ht : nchar s[p + n].toNat with
    | true =>
     rw [ht] at HT
     have HU := Lib.hid (spanTo_step hd.out (by rw [HLN.out]; exact hq) (by rw [← X.out]; exact ht))
     clear ht
     go_wp2_with fail
     go_quiet ((go_at_call 98; exact Calls.quiet_of_same (HT.out _)))
     clear s1
     go_wp2_with fail
     go_roundw
     case rel => exact ⟨n + 1, by go_num, HU, Lib.hid (by obtain ⟨m, hm⟩ := HM.out; exact ⟨_, by rw [hm, World.drewN_drewN]⟩)⟩
     case measure => simp [intOf]; omega
    | false =>
     rw [ht] at HT
     have HSP := Lib.hid (spanTo_end hd.out (fun _ => by rw [← X.out]; exact ht))
     clear ht
     go_wp2_with fail
     go_quiet ((go_at_call 98; exact Calls.quiet_of_same (HT.out _)))
     clear s1
     go_wp2_with fail
     go_ret
     exact ⟨by rw [HSP.out, show p + n - p = n from by omega]; rfl, by obtain ⟨m, hm⟩ := HM.out; exact ⟨_, by rw [hm, World.drewN_drewN]⟩⟩)
  ·have hqd : decide ((p : Int) + n < s.size) = false := decide_eq_false (by omega)
   have HSP := Lib.hid (spanTo_end hd.out (fun h => by rw [HLN.out] at h; omega))
   go_wp2_with fail
   go_quiet (fail)
   clear s1
   go_wp2_with fail
   go_ret
   exact ⟨by rw [HSP.out, show p + n - p = n from by omega]; rfl, by obtain ⟨m, hm⟩ := HM.out; exact ⟨_, by rw [hm, World.drewN_drewN]⟩⟩) : P := h
set_option maxRecDepth 1000000 in
set_option maxHeartbeats 4000000 in
theorem while_name (s : ByteArray) (p b : Nat) (w : World) (v : Value) (hs : s.size ≤ 1099511627776) (hp : p ≤ s.size) (hb : Block w b [.string s, .int .i64 p, v] 98) :
    Calls Tryz.prog 49 #[.pointer (some ⟨b, 0, none⟩), .func (.func 98) #[] #[]] w (WhileP (spanB nchar (s.data.toList.drop p)) w) := by
 have z24c := trivial
 exact Sq24
set_option maxRecDepth 1000000 in
set_option maxHeartbeats 4000000 in
theorem while_digit (s : ByteArray) (p b : Nat) (w : World) (v : Value) (hs : s.size ≤ 1099511627776) (hp : p ≤ s.size) (hb : Block w b [.string s, .int .i64 p, v] 98) :
    Calls Tryz.prog 49 #[.pointer (some ⟨b, 0, none⟩), .func (.func 43) #[] #[]] w (WhileP (spanB digt (s.data.toList.drop p)) w) := by
 have z24b := trivial
 exact Sq24
set_option maxRecDepth 1000000 in
set_option maxHeartbeats 4000000 in
theorem while_blank (s : ByteArray) (p b : Nat) (w : World) (v : Value) (hs : s.size ≤ 1099511627776) (hp : p ≤ s.size) (hb : Block w b [.string s, .int .i64 p, v] 98) :
    Calls Tryz.prog 49 #[.pointer (some ⟨b, 0, none⟩), .func (.func 50) #[] #[]] w (WhileP (spanB blankB (s.data.toList.drop p)) w) := by
 have z24a := trivial
 exact Sq24
end Go.Proofs.YtndhpdclpgemfaaGreat

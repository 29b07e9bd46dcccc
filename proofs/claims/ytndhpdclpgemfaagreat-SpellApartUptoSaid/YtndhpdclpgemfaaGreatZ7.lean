/- Parts S18, L2 of this seat (pruned, scripts that are alike kept once as default arguments: q1, q2, ..). Conditions: each says its own. -/
import Derived.Test.YtndhpdclpgemfaaGreatZ6
namespace Go.Proofs.YtndhpdclpgemfaaGreat
open Go.RowKit
set_option linter.unusedVariables false
theorem sg_2 {l : List UInt8} (h1 : 194 ≤ nb l 0) (h2 : nb l 0 < 224) (h3 : tl l 1 = true) : sg l = 2 := by
 have := (tl_true.1 h3).1
 unfold sg
 rw [if_neg (by omega), if_neg (by omega), if_neg (by rw [h3]; simp; omega), if_pos h2]
theorem sg_3 {l : List UInt8} (h1 : 224 ≤ nb l 0) (h2 : nb l 0 < 240) (h3 : tl l 1 = true) (h4 : tl l 2 = true) (h5 : ¬ (nb l 0 = 224 ∧ nb l 1 < 160)) (h6 : ¬ (nb l 0 = 237 ∧ 160 ≤ nb l 1)) : sg l = 3 := by
 have := (tl_true.1 h3).1
 unfold sg
 rw [if_neg (by omega), if_neg (by omega), if_neg (by rw [h3]; simp; omega), if_neg (by omega), if_neg (by rw [h4]; simp only [Bool.true_eq_false, false_or]; omega), if_pos h2]
theorem sg_4 {l : List UInt8} (h1 : 240 ≤ nb l 0) (h2 : nb l 0 ≤ 244) (h3 : tl l 1 = true) (h4 : tl l 2 = true) (h7 : tl l 3 = true) (h5 : ¬ (nb l 0 = 240 ∧ nb l 1 < 144)) (h6 : ¬ (nb l 0 = 244 ∧ 144 ≤ nb l 1)) : sg l = 4 := by
 have := (tl_true.1 h3).1
 unfold sg
 rw [if_neg (by omega), if_neg (by omega), if_neg (by rw [h3]; simp; omega), if_neg (by omega), if_neg (by rw [h4]; simp only [Bool.true_eq_false, false_or]; omega), if_neg (by omega), if_neg (by rw [h7]; simp only [Bool.true_eq_false, false_or]; omega)]
theorem nb_take (l r : List UInt8) (n k : Nat) (h : k < n) (hn : n ≤ l.length) : nb (l.take n ++ r) k = nb l k := by
 unfold nb
 rw [List.getElem?_append_left (by rw [List.length_take]; omega), List.getElem?_take, if_pos h]
theorem tl_take (l r : List UInt8) (n k : Nat) (h : k < n) (hn : n ≤ l.length) (ht : 128 ≤ nb l k ∧ nb l k < 192) : tl (l.take n ++ r) k = true := by
 rw [tl_true, nb_take l r n k h hn, List.length_append, List.length_take]
 exact ⟨by omega, ht⟩
theorem sg_take {l : List UInt8} (r : List UInt8) (h : sg l ≠ 0) : sg (l.take (sg l) ++ r) = sg l := by
 obtain ⟨f2, f3, f4⟩ := sg_facts (l := l)
 have hle := sg_le (l := l)
 have hc : sg l = 1 ∨ sg l = 2 ∨ sg l = 3 ∨ sg l = 4 := by omega
 have n0 : nb (l.take (sg l) ++ r) 0 = nb l 0 := nb_take l r _ 0 (by omega) hle.2
 rcases hc with e | e | e | e
 ·have h1 := (sg_one.1 e).2
  rw [e] at n0 hle ⊢
  exact sg_one.2 ⟨by rw [List.length_append, List.length_take]; omega, by omega⟩
 ·have h1 := f2 e
  rw [e] at n0 hle ⊢
  exact sg_2 (by omega) (by omega) (tl_take l r 2 1 (by omega) hle.2 h1.2.2)
 ·have h1 := f3 e
  rw [e] at n0 hle ⊢
  have n1 := nb_take l r 3 1 (by omega) hle.2
  exact sg_3 (by omega) (by omega) (tl_take l r 3 1 (by omega) hle.2 h1.2.2.1) (tl_take l r 3 2 (by omega) hle.2 h1.2.2.2.1) (by rw [n0, n1]; exact h1.2.2.2.2.1) (by rw [n0, n1]; exact h1.2.2.2.2.2)
 ·have h1 := f4 e
  rw [e] at n0 hle ⊢
  have n1 := nb_take l r 4 1 (by omega) hle.2
  exact sg_4 (by omega) (by omega) (tl_take l r 4 1 (by omega) hle.2 h1.2.2.1) (tl_take l r 4 2 (by omega) hle.2 h1.2.2.2.1) (tl_take l r 4 3 (by omega) hle.2 h1.2.2.2.2.1) (by rw [n0, n1]; exact h1.2.2.2.2.2.1) (by rw [n0, n1]; exact h1.2.2.2.2.2.2)
theorem hexd_all : ∀ k : Fin 16, hexv (hxd k.val).toNat = k.val ∧ 48 ≤ (hxd k.val).toNat ∧ (hxd k.val).toNat < 127 := by decide
theorem hexd (k : Nat) (h : k < 16) : hexv (hxd k).toNat = k ∧ 48 ≤ (hxd k).toNat ∧ (hxd k).toNat < 127 := hexd_all ⟨k, h⟩
theorem escV_hex (c : Nat) (hc : c < 256) (r : List UInt8) : escV ([92, 120] ++ hx2 c ++ r) = some (UInt8.ofNat c, 4) := by
 have a := hexd (c / 16) (by omega)
 have b := hexd (c % 16) (by omega)
 have e : [92, 120] ++ hx2 c ++ r = 92 :: 120 :: hxd (c / 16) :: hxd (c % 16) :: r := rfl
 have n2 : nb (92 :: 120 :: hxd (c / 16) :: hxd (c % 16) :: r) 2 = (hxd (c / 16)).toNat := rfl
 have n3 : nb (92 :: 120 :: hxd (c / 16) :: hxd (c % 16) :: r) 3 = (hxd (c % 16)).toNat := rfl
 rw [e, escV_x (by simp) rfl (by rw [n2, a.1]; omega) (by rw [n3, b.1]; omega), n2, n3, a.1, b.1]
 rw [show (((c / 16 : Nat) : Int) * (16 : Int) + ((c % 16 : Nat) : Int)).toNat = c from by omega]
theorem take_one {l : List UInt8} (h : l.length ≠ 0) : l.take 1 = [UInt8.ofNat (nb l 0)] := by
 rw [take_nb l 1 (by omega)]; rfl
def rawF : List UInt8 → Option Nat
  | [] => none
  | c :: r => if c = 39 then some 0 else if c = 92 then (match r with | [] => none | _ :: r' => (rawF r').map (· + 2)) else (rawF r).map (· + 1)
theorem rawF_cons (c : UInt8) (r : List UInt8) : rawF (c :: r) = if c = 39 then some 0 else if c = 92 then (match r with | [] => none | _ :: r' => (rawF r').map (· + 2)) else (rawF r).map (· + 1) := by rw [rawF.eq_def]
theorem rawF_skip (p r : List UInt8) (h : ∀ c ∈ p, c ≠ 39 ∧ c ≠ 92) : rawF (p ++ r) = (rawF r).map (· + p.length) := by
 induction p with
 | nil => simp
 | cons c p ih =>
  have hc := h c (by simp)
  rw [List.cons_append, rawF_cons, if_neg hc.1, if_neg hc.2, ih (fun d hd => h d (by simp [hd]))]
  cases rawF r with
  | none => rfl
  | some j => simp; omega
theorem rawF_lt {r : List UInt8} {j : Nat} : rawF r = some j → j < r.length := by
 induction hn : r.length using Nat.strongRecOn generalizing r j with
 | _ n ih =>
  intro h
  cases r with
  | nil => simp [rawF] at h
  | cons c r =>
   rw [rawF_cons] at h
   by_cases a : c = 39
   ·rw [if_pos a] at h; cases h; simp at hn; omega
   rw [if_neg a] at h
   by_cases b : c = 92
   ·rw [if_pos b] at h
    cases r with
    | nil => cases h
    | cons d r =>
     dsimp only at h
     cases hr : rawF r with
     | none => rw [hr] at h; cases h
     | some i =>
      rw [hr] at h
      have := ih r.length (by simp at hn; omega) rfl hr
      cases h
      show i + 2 < n
      simp at hn; omega
   ·rw [if_neg b] at h
    cases hr : rawF r with
    | none => rw [hr] at h; cases h
    | some i =>
     rw [hr] at h
     have := ih r.length (by simp at hn; omega) rfl hr
     cases h
     show i + 1 < n
     simp at hn; omega
theorem nb_takeN (r : List UInt8) (j k : Nat) (h : k < j) : nb (r.take j) k = nb r k := by
 unfold nb
 rw [List.getElem?_take, if_pos h]
theorem hexv_byte {c : Nat} (h : ¬ hexv c < 0) : c ≠ 39 ∧ c ≠ 92 := by
 constructor
 ·rintro rfl; exact h (by decide)
 ·rintro rfl; exact h (by decide)
theorem escV_take_none {r : List UInt8} {m : Nat} (hm : 2 ≤ m) (h : escV r = none) : escV (r.take m) = none := by
 by_cases h1 : r.length < 2
 ·exact escV_short (by rw [List.length_take]; omega)
 have n1 : nb (r.take m) 1 = nb r 1 := nb_takeN r m 1 (by omega)
 have hl : ¬ (r.take m).length < 2 := by rw [List.length_take]; omega
 unfold escV at h
 rw [if_neg h1] at h
 by_cases a1 : nb r 1 = 92 ∨ nb r 1 = 39
 ·rw [if_pos a1] at h; cases h
 rw [if_neg a1] at h
 by_cases a2 : nb r 1 = 110
 ·rw [if_pos a2] at h; cases h
 rw [if_neg a2] at h
 by_cases a3 : nb r 1 = 116
 ·rw [if_pos a3] at h; cases h
 rw [if_neg a3] at h
 by_cases a4 : nb r 1 = 114
 ·rw [if_pos a4] at h; cases h
 rw [if_neg a4] at h
 by_cases a5 : r.length < 4 ∨ nb r 1 ≠ 120 ∨ hexv (nb r 2) < 0 ∨ hexv (nb r 3) < 0
 ·refine escV_no hl (by omega) (by omega) (by omega) (by omega) (by omega) ?_
  by_cases h4 : (r.take m).length < 4
  ·exact .inl h4
  ·rw [List.length_take] at h4
   rw [n1, nb_takeN r m 2 (by omega), nb_takeN r m 3 (by omega)]
   rcases a5 with a5 | a5
   ·omega
   ·exact .inr a5
 ·rw [if_neg a5] at h; cases h
theorem escV_take_some {r : List UInt8} {m : Nat} {x : UInt8} {n : Nat} (hm : n ≤ m) (h : escV r = some (x, n)) : escV (r.take m) = some (x, n) := by
 have hn := escV_len h
 have hl : ¬ (r.take m).length < 2 := by rw [List.length_take]; omega
 have n1 : nb (r.take m) 1 = nb r 1 := nb_takeN r m 1 (by omega)
 unfold escV at h
 rw [if_neg (by omega)] at h
 by_cases a1 : nb r 1 = 92 ∨ nb r 1 = 39
 ·rw [if_pos a1] at h
  rw [escV_q hl (by omega), n1]; exact h
 rw [if_neg a1] at h
 by_cases a2 : nb r 1 = 110
 ·rw [if_pos a2] at h
  rw [escV_n hl (by omega)]; exact h
 rw [if_neg a2] at h
 by_cases a3 : nb r 1 = 116
 ·rw [if_pos a3] at h
  rw [escV_t hl (by omega)]; exact h
 rw [if_neg a3] at h
 by_cases a4 : nb r 1 = 114
 ·rw [if_pos a4] at h
  rw [escV_r hl (by omega)]; exact h
 rw [if_neg a4] at h
 by_cases a5 : r.length < 4 ∨ nb r 1 ≠ 120 ∨ hexv (nb r 2) < 0 ∨ hexv (nb r 3) < 0
 ·rw [if_pos a5] at h; cases h
 rw [if_neg a5] at h
 have h4 : n = 4 := by injection h with h; injection h with _ h; exact h.symm
 subst h4
 have n2 : nb (r.take m) 2 = nb r 2 := nb_takeN r m 2 (by omega)
 have n3 : nb (r.take m) 3 = nb r 3 := nb_takeN r m 3 (by omega)
 rw [escV_x (by rw [List.length_take]; omega) (by rw [n1]; exact Classical.byContradiction fun e => a5 (.inr (.inl e))) (by rw [n2]; exact fun e => a5 (.inr (.inr (.inl e)))) (by rw [n3]; exact fun e => a5 (.inr (.inr (.inr e)))), n2, n3]
 exact h
theorem escV_four {r : List UInt8} {x : UInt8} (h : escV r = some (x, 4)) : ∃ a b c d q, r = a :: b :: c :: d :: q ∧ (c.toNat ≠ 39 ∧ c.toNat ≠ 92) ∧ (d.toNat ≠ 39 ∧ d.toNat ≠ 92) := by
 have hn := escV_len h
 match r, hn.2 with
 | a :: b :: c :: d :: q, _ =>
  refine ⟨a, b, c, d, q, rfl, ?_⟩
  unfold escV at h
  rw [if_neg (by simp)] at h
  by_cases a1 : nb (a :: b :: c :: d :: q) 1 = 92 ∨ nb (a :: b :: c :: d :: q) 1 = 39
  ·rw [if_pos a1] at h; injection h with h; injection h with _ h; cases h
  rw [if_neg a1] at h
  by_cases a2 : nb (a :: b :: c :: d :: q) 1 = 110
  ·rw [if_pos a2] at h; injection h with h; injection h with _ h; cases h
  rw [if_neg a2] at h
  by_cases a3 : nb (a :: b :: c :: d :: q) 1 = 116
  ·rw [if_pos a3] at h; injection h with h; injection h with _ h; cases h
  rw [if_neg a3] at h
  by_cases a4 : nb (a :: b :: c :: d :: q) 1 = 114
  ·rw [if_pos a4] at h; injection h with h; injection h with _ h; cases h
  rw [if_neg a4] at h
  by_cases a5 : (a :: b :: c :: d :: q).length < 4 ∨ nb (a :: b :: c :: d :: q) 1 ≠ 120 ∨ hexv (nb (a :: b :: c :: d :: q) 2) < 0 ∨ hexv (nb (a :: b :: c :: d :: q) 3) < 0
  ·rw [if_pos a5] at h; cases h
  exact ⟨hexv_byte (fun e => a5 (.inr (.inr (.inl e)))), hexv_byte (fun e => a5 (.inr (.inr (.inr e))))⟩
theorem raw_qd : ∀ (k : Nat) (r : List UInt8), r.length = k → qd r = match rawF r with | none => none | some j => (uq (r.take j)).map fun t => (t, r.drop (j + 1)) := by
 intro k
 induction k using Nat.strongRecOn with
 | _ k ih =>
  intro r hk
  by_cases h0 : r.length = 0
  ·have : r = [] := List.length_eq_zero_iff.1 h0
   subst this
   rw [qd_eq, if_pos (show ([] : List UInt8).length = 0 from rfl)]; rfl
  obtain ⟨c, s, rfl⟩ : ∃ c s, r = c :: s := by
   cases r with
   | nil => simp at h0
   | cons c s => exact ⟨c, s, rfl⟩
  have n0 : nb (c :: s) 0 = c.toNat := rfl
  rw [qd_eq, if_neg h0, n0]
  by_cases h39 : c.toNat = 39
  ·have hc : c = 39 := UInt8.toNat_inj.1 h39
   rw [if_pos h39, rawF_cons, if_pos hc]
   dsimp only
   rw [List.take_zero, uq_eq, if_pos (show ([] : List UInt8).length = 0 from rfl)]
   rfl
  have hc39 : c ≠ 39 := fun e => h39 (by rw [e]; rfl)
  rw [if_neg h39]
  by_cases h92 : c.toNat = 92
  ·have hc : c = 92 := UInt8.toNat_inj.1 h92
   have hnb : ¬ bad (c :: s) := by
    have := sg_one.2 ⟨h0, show nb (c :: s) 0 < 128 by rw [n0]; omega⟩
    unfold bad
    rw [n0]; omega
   rw [if_neg hnb, if_pos h92, rawF_cons, if_neg hc39, if_pos hc]
   cases s with
   | nil => rw [escV_short (by simp)]
   | cons d q =>
    dsimp only
    have huq : ∀ j, uq ((c :: d :: q).take (j + 2)) = match escV ((c :: d :: q).take (j + 2)) with | none => none | some (x, n) => (uq (((c :: d :: q).take (j + 2)).drop n)).map fun p => x :: p := fun j => by
     rw [uq_eq, if_neg (by simp), if_pos (by rw [nb_takeN _ _ _ (by omega), n0]; exact h92)]
     rfl
    cases he : escV (c :: d :: q) with
    | none =>
     cases hr : rawF q with
     | none => rfl
     | some j =>
      simp only [Option.map_some]
      rw [huq, escV_take_none (by omega) he]
      rfl
    | some p =>
     obtain ⟨x, n⟩ := p
     have hl := escV_len he
     dsimp only
     rcases hl.1 with rfl | rfl
     ·rw [show (c :: d :: q).drop 2 = q from rfl, ih q.length (by simp at hk; omega) q rfl]
      cases hr : rawF q with
      | none => rfl
      | some j =>
       simp only [Option.map_some]
       rw [huq, escV_take_some (by omega) he]
       dsimp only
       rw [show ((c :: d :: q).take (j + 2)).drop 2 = q.take j from rfl]
       rw [show (c :: d :: q).drop (j + 2 + 1) = q.drop (j + 1) from rfl]
       cases uq (q.take j) <;> rfl
     ·obtain ⟨a, b, e, f, z, heq, h3, h4⟩ := escV_four he
      injection heq with _ heq
      injection heq with _ heq
      subst heq
      have hsk : rawF (e :: f :: z) = (rawF z).map (· + 2) := rawF_skip [e, f] z (fun y hy => by
       simp at hy
       rcases hy with rfl | rfl
       ·exact ⟨fun k => h3.1 (by rw [k]; rfl), fun k => h3.2 (by rw [k]; rfl)⟩
       ·exact ⟨fun k => h4.1 (by rw [k]; rfl), fun k => h4.2 (by rw [k]; rfl)⟩)
      rw [hsk, show (c :: d :: e :: f :: z).drop 4 = z from rfl, ih z.length (by simp at hk; omega) z rfl]
      cases hr : rawF z with
      | none => rfl
      | some j =>
       simp only [Option.map_some]
       rw [huq, escV_take_some (by omega) he]
       dsimp only
       rw [show ((c :: d :: e :: f :: z).take (j + 2 + 2)).drop 4 = z.take j from rfl]
       rw [show (c :: d :: e :: f :: z).drop (j + 2 + 2 + 1) = z.drop (j + 1) from rfl]
       cases uq (z.take j) <;> rfl
  have hc92 : c ≠ 92 := fun e => h92 (by rw [e]; rfl)
  by_cases hb : bad (c :: s)
  ·rw [if_pos hb]
   have hraw : rawF (c :: s) = (rawF s).map (· + 1) := by rw [rawF_cons, if_neg hc39, if_neg hc92]
   rw [hraw]
   cases hr : rawF s with
   | none => rfl
   | some j =>
    simp only [Option.map_some]
    have hn0 : nb ((c :: s).take (j + 1)) 0 = c.toNat := by rw [nb_takeN _ _ _ (by omega)]; exact n0
    have hbt : bad ((c :: s).take (j + 1)) := by
     rcases hb with hb | hb | hb
     ·refine .inl ?_
      apply Classical.byContradiction
      intro hne
      have h5 := sg_take ((c :: s).drop (sg ((c :: s).take (j + 1)))) hne
      have h6 := (sg_le (l := (c :: s).take (j + 1))).2
      rw [List.length_take] at h6
      rw [List.take_take, Nat.min_eq_left (by omega), List.take_append_drop, hb] at h5
      exact hne h5.symm
     ·exact .inr (.inl (by rw [hn0]; rw [n0] at hb; exact hb))
     ·exact .inr (.inr (by rw [hn0]; rw [n0] at hb; exact hb))
    rw [uq_eq, if_neg (by simp), if_neg (by rw [hn0]; exact h92), if_pos (.inr hbt)]
    rfl
  rw [if_neg hb, if_neg h92]
  have h1 := bad_not hb
  have h2 := sg_le (l := c :: s)
  have hby : ∀ y ∈ (c :: s).take (sg (c :: s)), y ≠ 39 ∧ y ≠ 92 := fun y hy => by
   obtain ⟨i, hi, rfl⟩ := List.getElem_of_mem hy
   rw [List.length_take] at hi
   have hin : nb (c :: s) i = ((c :: s).take (sg (c :: s)))[i].toNat := by
    rw [List.getElem_take]
    unfold nb
    rw [List.getElem?_eq_getElem (by omega)]
    rfl
   have hne : nb (c :: s) i ≠ 39 ∧ nb (c :: s) i ≠ 92 := by
    by_cases hi0 : i = 0
    ·subst hi0; rw [n0]; exact ⟨h39, h92⟩
    ·obtain ⟨f2, f3, f4⟩ := sg_facts (l := c :: s)
     have hcs : sg (c :: s) = 2 ∨ sg (c :: s) = 3 ∨ sg (c :: s) = 4 := by omega
     rcases hcs with e | e | e
     ·have := f2 e
      have hi1 : i = 1 := by omega
      subst hi1; omega
     ·have := f3 e
      have hi1 : i = 1 ∨ i = 2 := by omega
      rcases hi1 with rfl | rfl <;> omega
     ·have := f4 e
      have hi1 : i = 1 ∨ i = 2 ∨ i = 3 := by omega
      rcases hi1 with rfl | rfl | rfl <;> omega
   rw [hin] at hne
   exact ⟨fun e => hne.1 (by rw [e]; rfl), fun e => hne.2 (by rw [e]; rfl)⟩
  have hraw : rawF (c :: s) = (rawF ((c :: s).drop (sg (c :: s)))).map (· + sg (c :: s)) := by
   have := rawF_skip _ ((c :: s).drop (sg (c :: s))) hby
   rw [List.take_append_drop, List.length_take, Nat.min_eq_left h2.2] at this
   exact this
  rw [hraw, ih ((c :: s).drop (sg (c :: s))).length (by rw [List.length_drop]; omega) _ rfl]
  cases hr : rawF ((c :: s).drop (sg (c :: s))) with
  | none => rfl
  | some j =>
   simp only [Option.map_some]
   have hlt := rawF_lt hr
   rw [List.length_drop] at hlt
   have hn0 : nb ((c :: s).take (j + sg (c :: s))) 0 = c.toNat := by rw [nb_takeN _ _ _ (by omega)]; exact n0
   have hsp : (c :: s).take (j + sg (c :: s)) = (c :: s).take (sg (c :: s)) ++ ((c :: s).drop (sg (c :: s))).take j := by
    rw [Nat.add_comm, List.take_add]
   have hst : sg ((c :: s).take (j + sg (c :: s))) = sg (c :: s) := by rw [hsp]; exact sg_take _ h1
   have hbt : ¬ bad ((c :: s).take (j + sg (c :: s))) := by
    unfold bad at hb ⊢
    rw [hst, hn0]
    rw [n0] at hb
    exact hb
   rw [uq_eq ((c :: s).take (j + sg (c :: s))), if_neg (by rw [List.length_take]; omega), if_neg (by rw [hn0]; exact h92), if_neg (by rw [hn0]; exact fun h => h.elim h39 hbt), hst]
   have hd1 : ((c :: s).take (j + sg (c :: s))).drop (sg (c :: s)) = ((c :: s).drop (sg (c :: s))).take j := by
    rw [hsp, List.drop_append_of_le_length (by rw [List.length_take]; omega), List.drop_of_length_le (by rw [List.length_take]; omega), List.nil_append]
   have hd2 : ((c :: s).take (j + sg (c :: s))).take (sg (c :: s)) = (c :: s).take (sg (c :: s)) := by
    rw [List.take_take, Nat.min_eq_left (by omega)]
   rw [hd1, hd2, List.drop_drop, show sg (c :: s) + (j + 1) = j + sg (c :: s) + 1 from by omega]
   cases uq (((c :: s).drop (sg (c :: s))).take j) <;> rfl
end Go.Proofs.YtndhpdclpgemfaaGreat

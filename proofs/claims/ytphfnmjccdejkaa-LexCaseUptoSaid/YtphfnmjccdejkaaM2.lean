/- The texts L2, P1, P2, P3, P4, P5, P8, P9, P10, P6, P11, P12, L9, L12, L13, S16, L14, L15, L10, L11, L16, L17, L18 of this seat, one behind the other. Conditions: each says its own. -/
import Derived.Test.YtphfnmjccdejkaaProg
import Derived.Outline
import Derived.Lib.Mul64
import Derived.Laws.Bits64b
import Derived.Laws.BytesString
import Derived.Laws.IdiomStrings
import Derived.Lib.Strings
import Derived.Lib.IndexBytes
import Derived.Deep.RegionLaw
import Derived.IntWalk
import Derived.Deep.QuietTactic
import Derived.BigQuiet
import Derived.Deep.AppendLies
import Derived.Test.YtphfnmjccdejkaaM1

/- Layer 10: the end of a text in quotes as the program looks for it, in plain lists. Conditions: none. -/
namespace Go.Proofs.Ytphfnmjccdejkaa
open Go.RowKit
set_option linter.unusedVariables false

/-- The place of the closing quote: bytes behind a backslash are passed over. -/
def rawF : List UInt8 → Option Nat
  | [] => none
  | c :: r => if c = 39 then some 0 else if c = 92 then (match r with | [] => none | _ :: r' => (rawF r').map (· + 2)) else (rawF r).map (· + 1)
theorem rawF_cons (c : UInt8) (r : List UInt8) : rawF (c :: r) = if c = 39 then some 0 else if c = 92 then (match r with | [] => none | _ :: r' => (rawF r').map (· + 2)) else (rawF r).map (· + 1) := by rw [rawF.eq_def]
theorem rawF_skip (p r : List UInt8) (h : ∀ c ∈ p, c ≠ 39 ∧ c ≠ 92) : rawF (p ++ r) = (rawF r).map (· + p.length) := by
  induction p with
  | nil => simp
  | cons c p ih =>
    have hc := h c (by simp)
    rw [List.cons_append, rawF_cons, if_neg hc.1, if_neg hc.2, ih (fun d hd => h d (by simp [hd]))]
    cases rawF r with
    | none => rfl
    | some j => simp; omega
theorem rawF_lt {r : List UInt8} {j : Nat} : rawF r = some j → j < r.length := by
  induction hn : r.length using Nat.strongRecOn generalizing r j with
  | _ n ih =>
    intro h
    cases r with
    | nil => simp [rawF] at h
    | cons c r =>
      rw [rawF_cons] at h
      by_cases a : c = 39
      · rw [if_pos a] at h; cases h; simp at hn; omega
      rw [if_neg a] at h
      by_cases b : c = 92
      · rw [if_pos b] at h
        cases r with
        | nil => cases h
        | cons d r =>
          dsimp only at h
          cases hr : rawF r with
          | none => rw [hr] at h; cases h
          | some i =>
            rw [hr] at h
            have := ih r.length (by simp at hn; omega) rfl hr
            cases h
            show i + 2 < n
            simp at hn; omega
      · rw [if_neg b] at h
        cases hr : rawF r with
        | none => rw [hr] at h; cases h
        | some i =>
          rw [hr] at h
          have := ih r.length (by simp at hn; omega) rfl hr
          cases h
          show i + 1 < n
          simp at hn; omega
theorem nb_takeN (r : List UInt8) (j k : Nat) (h : k < j) : nb (r.take j) k = nb r k := by
  unfold nb
  rw [List.getElem?_take, if_pos h]
theorem hexv_byte {c : Nat} (h : ¬ hexv c < 0) : c ≠ 39 ∧ c ≠ 92 := by
  constructor
  · rintro rfl; exact h (by decide)
  · rintro rfl; exact h (by decide)
theorem escV_take_none {r : List UInt8} {m : Nat} (hm : 2 ≤ m) (h : escV r = none) : escV (r.take m) = none := by
  by_cases h1 : r.length < 2
  · exact escV_short (by rw [List.length_take]; omega)
  have n1 : nb (r.take m) 1 = nb r 1 := nb_takeN r m 1 (by omega)
  have hl : ¬ (r.take m).length < 2 := by rw [List.length_take]; omega
  unfold escV at h
  rw [if_neg h1] at h
  by_cases a1 : nb r 1 = 92 ∨ nb r 1 = 39
  · rw [if_pos a1] at h; cases h
  rw [if_neg a1] at h
  by_cases a2 : nb r 1 = 110
  · rw [if_pos a2] at h; cases h
  rw [if_neg a2] at h
  by_cases a3 : nb r 1 = 116
  · rw [if_pos a3] at h; cases h
  rw [if_neg a3] at h
  by_cases a4 : nb r 1 = 114
  · rw [if_pos a4] at h; cases h
  rw [if_neg a4] at h
  by_cases a5 : r.length < 4 ∨ nb r 1 ≠ 120 ∨ hexv (nb r 2) < 0 ∨ hexv (nb r 3) < 0
  · refine escV_no hl (by omega) (by omega) (by omega) (by omega) (by omega) ?_
    by_cases h4 : (r.take m).length < 4
    · exact .inl h4
    · rw [List.length_take] at h4
      rw [n1, nb_takeN r m 2 (by omega), nb_takeN r m 3 (by omega)]
      rcases a5 with a5 | a5
      · omega
      · exact .inr a5
  · rw [if_neg a5] at h; cases h
theorem escV_take_some {r : List UInt8} {m : Nat} {x : UInt8} {n : Nat} (hm : n ≤ m) (h : escV r = some (x, n)) : escV (r.take m) = some (x, n) := by
  have hn := escV_len h
  have hl : ¬ (r.take m).length < 2 := by rw [List.length_take]; omega
  have n1 : nb (r.take m) 1 = nb r 1 := nb_takeN r m 1 (by omega)
  unfold escV at h
  rw [if_neg (by omega)] at h
  by_cases a1 : nb r 1 = 92 ∨ nb r 1 = 39
  · rw [if_pos a1] at h
    rw [escV_q hl (by omega), n1]; exact h
  rw [if_neg a1] at h
  by_cases a2 : nb r 1 = 110
  · rw [if_pos a2] at h
    rw [escV_n hl (by omega)]; exact h
  rw [if_neg a2] at h
  by_cases a3 : nb r 1 = 116
  · rw [if_pos a3] at h
    rw [escV_t hl (by omega)]; exact h
  rw [if_neg a3] at h
  by_cases a4 : nb r 1 = 114
  · rw [if_pos a4] at h
    rw [escV_r hl (by omega)]; exact h
  rw [if_neg a4] at h
  by_cases a5 : r.length < 4 ∨ nb r 1 ≠ 120 ∨ hexv (nb r 2) < 0 ∨ hexv (nb r 3) < 0
  · rw [if_pos a5] at h; cases h
  rw [if_neg a5] at h
  have h4 : n = 4 := by injection h with h; injection h with _ h; exact h.symm
  subst h4
  have n2 : nb (r.take m) 2 = nb r 2 := nb_takeN r m 2 (by omega)
  have n3 : nb (r.take m) 3 = nb r 3 := nb_takeN r m 3 (by omega)
  rw [escV_x (by rw [List.length_take]; omega) (by rw [n1]; exact Classical.byContradiction fun e => a5 (.inr (.inl e))) (by rw [n2]; exact fun e => a5 (.inr (.inr (.inl e)))) (by rw [n3]; exact fun e => a5 (.inr (.inr (.inr e)))), n2, n3]
  exact h
/-- An escape of four bytes: what lies in it. -/
theorem escV_four {r : List UInt8} {x : UInt8} (h : escV r = some (x, 4)) : ∃ a b c d q, r = a :: b :: c :: d :: q ∧ (c.toNat ≠ 39 ∧ c.toNat ≠ 92) ∧ (d.toNat ≠ 39 ∧ d.toNat ≠ 92) := by
  have hn := escV_len h
  match r, hn.2 with
  | a :: b :: c :: d :: q, _ =>
    refine ⟨a, b, c, d, q, rfl, ?_⟩
    unfold escV at h
    rw [if_neg (by simp)] at h
    by_cases a1 : nb (a :: b :: c :: d :: q) 1 = 92 ∨ nb (a :: b :: c :: d :: q) 1 = 39
    · rw [if_pos a1] at h; injection h with h; injection h with _ h; cases h
    rw [if_neg a1] at h
    by_cases a2 : nb (a :: b :: c :: d :: q) 1 = 110
    · rw [if_pos a2] at h; injection h with h; injection h with _ h; cases h
    rw [if_neg a2] at h
    by_cases a3 : nb (a :: b :: c :: d :: q) 1 = 116
    · rw [if_pos a3] at h; injection h with h; injection h with _ h; cases h
    rw [if_neg a3] at h
    by_cases a4 : nb (a :: b :: c :: d :: q) 1 = 114
    · rw [if_pos a4] at h; injection h with h; injection h with _ h; cases h
    rw [if_neg a4] at h
    by_cases a5 : (a :: b :: c :: d :: q).length < 4 ∨ nb (a :: b :: c :: d :: q) 1 ≠ 120 ∨ hexv (nb (a :: b :: c :: d :: q) 2) < 0 ∨ hexv (nb (a :: b :: c :: d :: q) 3) < 0
    · rw [if_pos a5] at h; cases h
    exact ⟨hexv_byte (fun e => a5 (.inr (.inr (.inl e)))), hexv_byte (fun e => a5 (.inr (.inr (.inr e))))⟩
/-- What the program's way of looking for the end says of what is read. -/
theorem raw_qd : ∀ (k : Nat) (r : List UInt8), r.length = k → qd r = match rawF r with | none => none | some j => (uq (r.take j)).map fun t => (t, r.drop (j + 1)) := by
  intro k
  induction k using Nat.strongRecOn with
  | _ k ih =>
    intro r hk
    by_cases h0 : r.length = 0
    · have : r = [] := List.length_eq_zero_iff.1 h0
      subst this
      rw [qd_eq, if_pos (show ([] : List UInt8).length = 0 from rfl)]; rfl
    obtain ⟨c, s, rfl⟩ : ∃ c s, r = c :: s := by
      cases r with
      | nil => simp at h0
      | cons c s => exact ⟨c, s, rfl⟩
    have n0 : nb (c :: s) 0 = c.toNat := rfl
    rw [qd_eq, if_neg h0, n0]
    by_cases h39 : c.toNat = 39
    · have hc : c = 39 := UInt8.toNat_inj.1 h39
      rw [if_pos h39, rawF_cons, if_pos hc]
      dsimp only
      rw [List.take_zero, uq_eq, if_pos (show ([] : List UInt8).length = 0 from rfl)]
      rfl
    have hc39 : c ≠ 39 := fun e => h39 (by rw [e]; rfl)
    rw [if_neg h39]
    by_cases h92 : c.toNat = 92
    · have hc : c = 92 := UInt8.toNat_inj.1 h92
      have hnb : ¬ bad (c :: s) := by
        have := sg_one.2 ⟨h0, show nb (c :: s) 0 < 128 by rw [n0]; omega⟩
        unfold bad
        rw [n0]; omega
      rw [if_neg hnb, if_pos h92, rawF_cons, if_neg hc39, if_pos hc]
      cases s with
      | nil => rw [escV_short (by simp)]
      | cons d q =>
        dsimp only
        have huq : ∀ j, uq ((c :: d :: q).take (j + 2)) = match escV ((c :: d :: q).take (j + 2)) with | none => none | some (x, n) => (uq (((c :: d :: q).take (j + 2)).drop n)).map fun p => x :: p := fun j => by
          rw [uq_eq, if_neg (by simp), if_pos (by rw [nb_takeN _ _ _ (by omega), n0]; exact h92)]
          rfl
        cases he : escV (c :: d :: q) with
        | none =>
          cases hr : rawF q with
          | none => rfl
          | some j =>
            simp only [Option.map_some]
            rw [huq, escV_take_none (by omega) he]
            rfl
        | some p =>
          obtain ⟨x, n⟩ := p
          have hl := escV_len he
          dsimp only
          rcases hl.1 with rfl | rfl
          · rw [show (c :: d :: q).drop 2 = q from rfl, ih q.length (by simp at hk; omega) q rfl]
            cases hr : rawF q with
            | none => rfl
            | some j =>
              simp only [Option.map_some]
              rw [huq, escV_take_some (by omega) he]
              dsimp only
              rw [show ((c :: d :: q).take (j + 2)).drop 2 = q.take j from rfl]
              rw [show (c :: d :: q).drop (j + 2 + 1) = q.drop (j + 1) from rfl]
              cases uq (q.take j) <;> rfl
          · obtain ⟨a, b, e, f, z, heq, h3, h4⟩ := escV_four he
            injection heq with _ heq
            injection heq with _ heq
            subst heq
            have hsk : rawF (e :: f :: z) = (rawF z).map (· + 2) := rawF_skip [e, f] z (fun y hy => by
              simp at hy
              rcases hy with rfl | rfl
              · exact ⟨fun k => h3.1 (by rw [k]; rfl), fun k => h3.2 (by rw [k]; rfl)⟩
              · exact ⟨fun k => h4.1 (by rw [k]; rfl), fun k => h4.2 (by rw [k]; rfl)⟩)
            rw [hsk, show (c :: d :: e :: f :: z).drop 4 = z from rfl, ih z.length (by simp at hk; omega) z rfl]
            cases hr : rawF z with
            | none => rfl
            | some j =>
              simp only [Option.map_some]
              rw [huq, escV_take_some (by omega) he]
              dsimp only
              rw [show ((c :: d :: e :: f :: z).take (j + 2 + 2)).drop 4 = z.take j from rfl]
              rw [show (c :: d :: e :: f :: z).drop (j + 2 + 2 + 1) = z.drop (j + 1) from rfl]
              cases uq (z.take j) <;> rfl
    have hc92 : c ≠ 92 := fun e => h92 (by rw [e]; rfl)
    by_cases hb : bad (c :: s)
    · rw [if_pos hb]
      have hraw : rawF (c :: s) = (rawF s).map (· + 1) := by rw [rawF_cons, if_neg hc39, if_neg hc92]
      rw [hraw]
      cases hr : rawF s with
      | none => rfl
      | some j =>
        simp only [Option.map_some]
        have hn0 : nb ((c :: s).take (j + 1)) 0 = c.toNat := by rw [nb_takeN _ _ _ (by omega)]; exact n0
        have hbt : bad ((c :: s).take (j + 1)) := by
          rcases hb with hb | hb | hb
          · refine .inl ?_
            apply Classical.byContradiction
            intro hne
            have h5 := sg_take ((c :: s).drop (sg ((c :: s).take (j + 1)))) hne
            have h6 := (sg_le (l := (c :: s).take (j + 1))).2
            rw [List.length_take] at h6
            rw [List.take_take, Nat.min_eq_left (by omega), List.take_append_drop, hb] at h5
            exact hne h5.symm
          · exact .inr (.inl (by rw [hn0]; rw [n0] at hb; exact hb))
          · exact .inr (.inr (by rw [hn0]; rw [n0] at hb; exact hb))
        rw [uq_eq, if_neg (by simp), if_neg (by rw [hn0]; exact h92), if_pos (.inr hbt)]
        rfl
    rw [if_neg hb, if_neg h92]
    have h1 := bad_not hb
    have h2 := sg_le (l := c :: s)
    have hby : ∀ y ∈ (c :: s).take (sg (c :: s)), y ≠ 39 ∧ y ≠ 92 := fun y hy => by
      obtain ⟨i, hi, rfl⟩ := List.getElem_of_mem hy
      rw [List.length_take] at hi
      have hin : nb (c :: s) i = ((c :: s).take (sg (c :: s)))[i].toNat := by
        rw [List.getElem_take]
        unfold nb
        rw [List.getElem?_eq_getElem (by omega)]
        rfl
      have hne : nb (c :: s) i ≠ 39 ∧ nb (c :: s) i ≠ 92 := by
        by_cases hi0 : i = 0
        · subst hi0; rw [n0]; exact ⟨h39, h92⟩
        · obtain ⟨f2, f3, f4⟩ := sg_facts (l := c :: s)
          have hcs : sg (c :: s) = 2 ∨ sg (c :: s) = 3 ∨ sg (c :: s) = 4 := by omega
          rcases hcs with e | e | e
          · have := f2 e
            have hi1 : i = 1 := by omega
            subst hi1; omega
          · have := f3 e
            have hi1 : i = 1 ∨ i = 2 := by omega
            rcases hi1 with rfl | rfl <;> omega
          · have := f4 e
            have hi1 : i = 1 ∨ i = 2 ∨ i = 3 := by omega
            rcases hi1 with rfl | rfl | rfl <;> omega
      rw [hin] at hne
      exact ⟨fun e => hne.1 (by rw [e]; rfl), fun e => hne.2 (by rw [e]; rfl)⟩
    have hraw : rawF (c :: s) = (rawF ((c :: s).drop (sg (c :: s)))).map (· + sg (c :: s)) := by
      have := rawF_skip _ ((c :: s).drop (sg (c :: s))) hby
      rw [List.take_append_drop, List.length_take, Nat.min_eq_left h2.2] at this
      exact this
    rw [hraw, ih ((c :: s).drop (sg (c :: s))).length (by rw [List.length_drop]; omega) _ rfl]
    cases hr : rawF ((c :: s).drop (sg (c :: s))) with
    | none => rfl
    | some j =>
      simp only [Option.map_some]
      have hlt := rawF_lt hr
      rw [List.length_drop] at hlt
      have hn0 : nb ((c :: s).take (j + sg (c :: s))) 0 = c.toNat := by rw [nb_takeN _ _ _ (by omega)]; exact n0
      have hsp : (c :: s).take (j + sg (c :: s)) = (c :: s).take (sg (c :: s)) ++ ((c :: s).drop (sg (c :: s))).take j := by
        rw [Nat.add_comm, List.take_add]
      have hst : sg ((c :: s).take (j + sg (c :: s))) = sg (c :: s) := by rw [hsp]; exact sg_take _ h1
      have hbt : ¬ bad ((c :: s).take (j + sg (c :: s))) := by
        unfold bad at hb ⊢
        rw [hst, hn0]
        rw [n0] at hb
        exact hb
      rw [uq_eq ((c :: s).take (j + sg (c :: s))), if_neg (by rw [List.length_take]; omega), if_neg (by rw [hn0]; exact h92), if_neg (by rw [hn0]; exact fun h => h.elim h39 hbt), hst]
      have hd1 : ((c :: s).take (j + sg (c :: s))).drop (sg (c :: s)) = ((c :: s).drop (sg (c :: s))).take j := by
        rw [hsp, List.drop_append_of_le_length (by rw [List.length_take]; omega), List.drop_of_length_le (by rw [List.length_take]; omega), List.nil_append]
      have hd2 : ((c :: s).take (j + sg (c :: s))).take (sg (c :: s)) = (c :: s).take (sg (c :: s)) := by
        rw [List.take_take, Nat.min_eq_left (by omega)]
      rw [hd1, hd2, List.drop_drop, show sg (c :: s) + (j + 1) = j + sg (c :: s) + 1 from by omega]
      cases uq (((c :: s).drop (sg (c :: s))).take j) <;> rfl
end Go.Proofs.Ytphfnmjccdejkaa

/- Contracts of num.Add, Sub, size, signed, Neg and of the references Add, Sub, Neg: each gives the whole number if it is one of 64 bits, else 0 and the overflow's number. Conditions: the arguments are numbers of 64 bits. -/
namespace Go.Proofs.Ytphfnmjccdejkaa
open Go.RowKit
set_option linter.unusedSimpArgs false
set_option linter.unusedVariables false

def In64 (n : Int) : Prop := -9223372036854775808 ≤ n ∧ n ≤ 9223372036854775807
instance (n : Int) : Decidable (In64 n) := by unfold In64; exact inferInstance
def chkV (n : Int) : Int := if In64 n then n else 0
def chkE (n : Int) : Int := if In64 n then 0 else 4
theorem In64.of_wf {n : Int} (h : (Lit.int .i64 n).wf = true) : In64 n := by
  simpa [Lit.wf, IntKind.min, IntKind.max, IntKind.signed, IntKind.bits, In64] using h
theorem chk_in {n : Int} (h : In64 n) : chkV n = n ∧ chkE n = 0 := by simp [chkV, chkE, h]
theorem chk_out {n : Int} (h : ¬ In64 n) : chkV n = 0 ∧ chkE n = 4 := by simp [chkV, chkE, h]

theorem ret_two {a b c d : Int} (h1 : a = c) (h2 : b = d) : Ending.returned (.tuple #[.int .i64 a, .int .i64 b]) = .returned (.tuple #[.int .i64 c, .int .i64 d]) := by rw [h1, h2]

theorem chk_cases (n : Int) : (In64 n ∧ chkV n = n ∧ chkE n = 0) ∨ (¬ In64 n ∧ chkV n = 0 ∧ chkE n = 4) := by
  by_cases h : In64 n
  · exact .inl ⟨h, chk_in h⟩
  · exact .inr ⟨h, chk_out h⟩
theorem add_end (a b s : Int) (ha : In64 a) (hb : In64 b) (hs : wrap64 (a + b) = s) : ((a < 0 ↔ b < 0) ∧ ¬ (s < 0 ↔ a < 0) ∧ chkV (a + b) = 0 ∧ chkE (a + b) = 4) ∨ (¬ ((a < 0 ↔ b < 0) ∧ ¬ (s < 0 ↔ a < 0)) ∧ chkV (a + b) = s ∧ chkE (a + b) = 0) := by
  have h := chk_cases (a + b)
  (unfold In64 at *; unfold wrap64 at hs; omega)
theorem sub_end (a b s : Int) (ha : In64 a) (hb : In64 b) (hs : wrap64 (a - b) = s) : (¬ (a < 0 ↔ b < 0) ∧ ¬ (s < 0 ↔ a < 0) ∧ chkV (a - b) = 0 ∧ chkE (a - b) = 4) ∨ (¬ (¬ (a < 0 ↔ b < 0) ∧ ¬ (s < 0 ↔ a < 0)) ∧ chkV (a - b) = s ∧ chkE (a - b) = 0) := by
  have h := chk_cases (a - b)
  (unfold In64 at *; unfold wrap64 at hs; omega)

theorem ret_u64 {a b : Int} (h : a = b) : Ending.returned (.int .u64 a) = .returned (.int .u64 b) := by rw [h]
theorem signed_any (m : Int) (b : Bool) (w : World) (h0 : 0 ≤ m) (hm : m ≤ 18446744073709551615) : Calls Try.prog 48 #[.int .u64 m, .bool b] w fun e w' => e = .returned (.tuple #[.int .i64 (chkV (if b then -m else m)), .int .i64 (chkE (if b then -m else m))]) ∧ w = w' := by
  have HM := Lib.hid hm; clear hm
  have HC := Lib.hid (chk_cases (if b then -m else m))
  cases b
  · by_cases h : m < 9223372036854775808
    all_goals
      go_enter Try.func48, Try.ntmps48
      go_wp2
      go_ret2
      have hc := HC.out
      have hm := HM.out
      simp only [In64, Bool.false_eq_true, if_false] at hc ⊢
      exact ⟨ret_two (by omega) (by omega), trivial⟩
  · by_cases h : m ≤ 9223372036854775808
    all_goals
      go_enter Try.func48, Try.ntmps48
      go_wp2
      go_ret2
      have hc := HC.out
      have hm := HM.out
      simp only [In64, if_true] at hc ⊢
      refine ⟨ret_two ?_ ?_, trivial⟩
      · first | omega | (simp only [IntKind.wrap_u64, wrap64]; omega)
      · omega
theorem natAbs_le {a : Int} (ha : In64 a) : (a.natAbs : Int) ≤ 9223372036854775808 := by unfold In64 at ha; omega

theorem radd_any (a b : Int) (w : World) (ha : In64 a) (hb : In64 b) : Calls Try.prog 53 #[.int .i64 a, .int .i64 b] w fun e w' => e = .returned (.tuple #[.int .i64 (chkV (a + b)), .int .i64 (chkE (a + b))]) ∧ w = w' := by
  have HC := Lib.hid (chk_cases (a + b))
  have HA := Lib.hid ha
  have HB := Lib.hid hb
  have e1 : 0 < b → wrap64 (9223372036854775807 - b) = 9223372036854775807 - b := fun h => by unfold In64 at hb; unfold wrap64; omega
  have e2 : b < 0 → wrap64 (-9223372036854775808 - b) = -9223372036854775808 - b := fun h => by unfold In64 at hb; unfold wrap64; omega
  have e3 : In64 (a + b) → wrap64 (a + b) = a + b := fun h => by unfold In64 at h; unfold wrap64; omega
  have E3 := Lib.hid e3
  clear ha hb e3
  by_cases h1 : 0 < b
  · have f1 := e1 h1
    clear e1 e2
    by_cases h2 : 9223372036854775807 - b < a
    all_goals
      go_enter Try.func53, Try.ntmps53
      go_wp2
      go_ret2
      have hc := HC.out
      have ha := HA.out
      have hb := HB.out
      have e3 := E3.out
      unfold In64 at *
      exact ⟨ret_two (by omega) (by omega), rfl⟩
  · by_cases h3 : b < 0
    · have f2 := e2 h3
      clear e1 e2
      by_cases h2 : a < -9223372036854775808 - b
      all_goals
        go_enter Try.func53, Try.ntmps53
        go_wp2
        go_ret2
        have hc := HC.out
        have ha := HA.out
        have hb := HB.out
        have e3 := E3.out
        unfold In64 at *
        exact ⟨ret_two (by omega) (by omega), rfl⟩
    · clear e1 e2
      go_enter Try.func53, Try.ntmps53
      go_wp2
      go_ret2
      have hc := HC.out
      have ha := HA.out
      have hb := HB.out
      have e3 := E3.out
      unfold In64 at *
      exact ⟨ret_two (by omega) (by omega), rfl⟩
end Go.Proofs.Ytphfnmjccdejkaa

/- Contracts of num.Mul, Div, Mod and of the references, of bits.Mul64, and of works. Conditions: the arguments are numbers of 64 bits. -/
namespace Go.Proofs.Ytphfnmjccdejkaa
open Go.RowKit
set_option linter.unusedSimpArgs false
set_option linter.unusedVariables false

namespace M64
theorem maskN (a : Nat) (ha : a < 18446744073709551616) : bits .and .u64 (a : Int) 4294967295 = ((a % 4294967296 : Nat) : Int) := by
  have h := bits_and_u64_nat a 4294967295 ha (by omega)
  have e : a &&& 4294967295 = a % 4294967296 := Nat.and_two_pow_sub_one_eq_mod a 32
  rw [e] at h
  exact h
theorem divN (a : Nat) : (a : Int) / 4294967296 = ((a / 4294967296 : Nat) : Int) := by omega
theorem mulN (a b : Nat) : (a : Int) * (b : Int) = ((a * b : Nat) : Int) := (Int.natCast_mul a b).symm
theorem addN (a b : Nat) : (a : Int) + (b : Int) = ((a + b : Nat) : Int) := (Int.natCast_add a b).symm
theorem wrapN (a : Nat) (ha : a < 18446744073709551616) : IntKind.u64.wrap (a : Int) = (a : Int) := by rw [IntKind.wrap_u64]; omega
theorem wrapM (a : Nat) : IntKind.u64.wrap (a : Int) = ((a % 18446744073709551616 : Nat) : Int) := by rw [IntKind.wrap_u64]; omega
end M64
end Go.Proofs.Ytphfnmjccdejkaa

/- Contracts of num.Mul, Div, Mod and of the references Sub, Neg, Mul, Div, Mod. Conditions: the arguments are numbers of 64 bits. -/
namespace Go.Proofs.Ytphfnmjccdejkaa
open Go.RowKit
set_option linter.unusedSimpArgs false
set_option linter.unusedVariables false

theorem signs (a b : Int) : ∃ x y : Nat, a.natAbs = x ∧ b.natAbs = y ∧ ((a < 0 ∧ a = -x) ∨ (¬ a < 0 ∧ a = x)) ∧ ((b < 0 ∧ b = -y) ∨ (¬ b < 0 ∧ b = y)) :=
  ⟨a.natAbs, b.natAbs, rfl, rfl, by omega, by omega⟩

/-- What a division answers. -/
def divV (a b : Int) : Int := if b = 0 then 0 else chkV (a.tdiv b)
def divE (a b : Int) : Int := if b = 0 then 4 else chkE (a.tdiv b)
def modV (a b : Int) : Int := if b = 0 then 0 else a.tmod b
def modE (a b : Int) : Int := if b = 0 then 4 else 0

theorem tmod_abs (a b : Int) (x y : Nat) (sa : (a < 0 ∧ a = -x) ∨ (¬ a < 0 ∧ a = x)) (sb : (b < 0 ∧ b = -y) ∨ (¬ b < 0 ∧ b = y)) : (if decide (a < 0) = true then -((x : Int) % y) else (x : Int) % y) = a.tmod b := by
  have e0 : (x : Int).tmod y = (x : Int) % y := Int.tmod_eq_emod_of_nonneg (by omega)
  rcases sa with ⟨h1, e1⟩ | ⟨h1, e1⟩ <;> rcases sb with ⟨_, e2⟩ | ⟨_, e2⟩ <;> simp only [h1, decide_true, decide_false, if_true, Bool.false_eq_true, if_false] <;> rw [e1, e2]
  · rw [Int.neg_tmod, Int.tmod_neg, e0]
  · rw [Int.neg_tmod, e0]
  · rw [Int.tmod_neg, e0]
  · rw [e0]
theorem tmod_in (a b : Int) (ha : In64 a) (hb : b ≠ 0) : In64 (a.tmod b) := by
  obtain ⟨x, y, hx, hy, sa, sb⟩ := signs a b
  rw [← tmod_abs a b x y sa sb]
  have h1 : (x : Int) % y ≤ x := by
    have := Nat.mod_le x y; omega
  have h2 : 0 ≤ (x : Int) % y := Int.emod_nonneg _ (by omega)
  unfold In64 at *
  by_cases h : a < 0 <;> simp only [h, decide_true, decide_false, if_true, Bool.false_eq_true, if_false] <;> omega
end Go.Proofs.Ytphfnmjccdejkaa

/- Contracts of the references Sub, Neg, Mul, Div, Mod. Conditions: the arguments are numbers of 64 bits. -/
namespace Go.Proofs.Ytphfnmjccdejkaa
open Go.RowKit
set_option linter.unusedSimpArgs false
set_option linter.unusedVariables false

theorem abs_tdiv (a b : Int) (x y : Nat) (sa : (a < 0 ∧ a = -x) ∨ (¬ a < 0 ∧ a = x)) (sb : (b < 0 ∧ b = -y) ∨ (¬ b < 0 ∧ b = y)) : (a.tdiv b = -((x : Int) / y) ∧ ¬ (a < 0 ∧ b < 0)) ∨ (a.tdiv b = (x : Int) / y ∧ (a < 0 ↔ b < 0)) ∨ (a.tdiv b = (x : Int) / y ∧ y = 0) := by
  have e0 : (x : Int).tdiv y = (x : Int) / y := Int.tdiv_eq_ediv_of_nonneg (by omega)
  rcases sa with ⟨h1, e1⟩ | ⟨h1, e1⟩ <;> rcases sb with ⟨h2, e2⟩ | ⟨h2, e2⟩
  · refine .inr (.inl ⟨?_, by omega⟩); rw [e1, e2, Int.neg_tdiv_neg, e0]
  · refine .inl ⟨?_, by omega⟩; rw [e1, e2, Int.neg_tdiv, e0]
  · refine .inl ⟨?_, by omega⟩; rw [e1, e2, Int.tdiv_neg, e0]
  · refine .inr (.inl ⟨?_, by omega⟩); rw [e1, e2, e0]

/-- The wrapped product divided by one factor is the other one just if nothing was too great. -/
theorem mul_back (a b p : Int) (ha : In64 a) (hb : In64 b) (hz : b ≠ 0) (hp : wrap64 (a * b) = p) (h1 : ¬ (b = -1 ∧ a = -9223372036854775808)) (h2 : ¬ (a = -1 ∧ b = -9223372036854775808)) :
    (wrap64 (p.tdiv b) = a ∧ chkV (a * b) = p ∧ chkE (a * b) = 0) ∨ (wrap64 (p.tdiv b) ≠ a ∧ chkV (a * b) = 0 ∧ chkE (a * b) = 4) := by
  have hc := chk_cases (a * b)
  have hr : (p.tmod b).natAbs < b.natAbs := by
    rw [Int.natAbs_tmod]; exact Nat.mod_lt _ (by omega)
  have hq : b * p.tdiv b + p.tmod b = p := Int.mul_tdiv_add_tmod p b
  by_cases hI : In64 (a * b)
  · have hpe : p = a * b := by unfold In64 at hI; unfold wrap64 at hp; omega
    have hd : p.tdiv b = a := by rw [hpe]; exact Int.mul_tdiv_cancel a hz
    left
    refine ⟨?_, ?_⟩
    · rw [hd]; unfold In64 at ha; unfold wrap64; omega
    · rcases hc with hc | hc
      · omega
      · exact absurd hI hc.1
  · right
    refine ⟨?_, ?_⟩
    · intro hw
      have hpI : In64 p := by unfold wrap64 at hp; unfold In64; omega
      have hqv : p.tdiv b = a := by
        obtain ⟨x, y, hx, hy, sa, sb⟩ := signs p b
        have hxy := abs_tdiv p b x y sa sb
        have h3 : 0 ≤ (x : Int) / y := Int.ediv_nonneg (by omega) (by omega)
        have h4 : (x : Int) / y ≤ x := Int.ediv_le_self _ (by omega)
        by_cases hb1 : b = -1
        · subst hb1
          have : p.tdiv (-1) = -p := by rw [Int.tdiv_neg, Int.tdiv_one]
          rw [this] at hw ⊢
          have h5 : a * -1 = -a := by rw [Int.mul_neg, Int.mul_one]
          rw [h5] at hp hI
          unfold In64 at *; unfold wrap64 at hw hp; omega
        · have h6 : y ≠ 1 ∨ 0 ≤ b := by omega
          have h7 : In64 (p.tdiv b) := by
            unfold In64 at *
            rcases hxy with hxy | hxy | hxy
            · omega
            · by_cases hx2 : p < 0
              · have hy2 : 2 ≤ y := by omega
                have h8 : (x : Int) / y ≤ x / 2 := by
                  have h9 : x / y ≤ x / 2 := Nat.div_le_div_left hy2 (by omega)
                  omega
                omega
              · omega
            · omega
          unfold In64 at h7; unfold wrap64 at hw; omega
      rw [hqv, Int.mul_comm b a] at hq
      unfold In64 at hI ha hb hpI; unfold wrap64 at hp
      generalize a * b = m at *
      omega
    · rcases hc with hc | hc
      · exact absurd hc.1 hI
      · exact hc.2

theorem chk_small {n : Int} (h : In64 n) {a b : Int} (ha : a = n) (hb : b = 0) : a = chkV n ∧ b = chkE n := by rw [(chk_in h).1, (chk_in h).2]; exact ⟨ha, hb⟩

theorem rmul_any (a b : Int) (w : World) (ha : In64 a) (hb : In64 b) : Calls Try.prog 52 #[.int .i64 a, .int .i64 b] w fun e w' => e = .returned (.tuple #[.int .i64 (chkV (a * b)), .int .i64 (chkE (a * b))]) ∧ w = w' := by
  by_cases ha0 : a = 0
  · subst ha0
    rw [Int.zero_mul]
    clear ha hb
    go_enter Try.func52, Try.ntmps52
    go_wp2_with fail
    go_ret2
    exact ⟨rfl, rfl⟩
  by_cases hb0 : b = 0
  · subst hb0
    rw [Int.mul_zero]
    have e0 : (a == 0) = false := by simpa using ha0
    clear ha hb ha0
    go_enter Try.func52, Try.ntmps52
    go_wp2_with fail
    go_ret2
    exact ⟨rfl, rfl⟩
  have e0 : (a == 0) = false := by simpa using ha0
  have f0 : (b == 0) = false := by simpa using hb0
  by_cases h1 : b = -1 ∧ a = -9223372036854775808
  · obtain ⟨rfl, rfl⟩ := h1
    clear ha hb
    go_enter Try.func52, Try.ntmps52
    go_wp2_with fail
    go_ret2
    exact ⟨rfl, rfl⟩
  by_cases h2 : a = -1 ∧ b = -9223372036854775808
  · obtain ⟨rfl, rfl⟩ := h2
    clear ha hb
    go_enter Try.func52, Try.ntmps52
    go_wp2_with fail
    go_ret2
    exact ⟨rfl, rfl⟩
  have ca : ((a == -1) = true ∧ (b == -9223372036854775808) = false) ∨ (a == -1) = false := by
    by_cases h : a = -1
    · exact .inl ⟨beq_iff_eq.2 h, beq_eq_false_iff_ne.2 (fun hb => h2 ⟨h, hb⟩)⟩
    · exact .inr (beq_eq_false_iff_ne.2 h)
  have cb : ((b == -1) = true ∧ (a == -9223372036854775808) = false) ∨ (b == -1) = false := by
    by_cases h : b = -1
    · exact .inl ⟨beq_iff_eq.2 h, beq_eq_false_iff_ne.2 (fun hb => h1 ⟨h, hb⟩)⟩
    · exact .inr (beq_eq_false_iff_ne.2 h)
  obtain ⟨p, hp⟩ : ∃ p, wrap64 (a * b) = p := ⟨_, rfl⟩
  have hm := mul_back a b p ha hb hb0 hp h1 h2
  have cm : ((wrap64 (p.tdiv b) != a) = false ∧ Hid (chkV (a * b) = p ∧ chkE (a * b) = 0)) ∨ ((wrap64 (p.tdiv b) != a) = true ∧ Hid (chkV (a * b) = 0 ∧ chkE (a * b) = 4)) := by
    rcases hm with ⟨h, hk⟩ | ⟨h, hk⟩
    · exact .inl ⟨by simp [h], Lib.hid hk⟩
    · exact .inr ⟨by simp [h], Lib.hid hk⟩
  clear ha hb ha0 h1 h2 hm
  have HP := Lib.hid hp
  rcases cm with ⟨hm, hk⟩ | ⟨hm, hk⟩ <;> rcases ca with ⟨a1, a2⟩ | a1 <;> rcases cb with ⟨b1, b2⟩ | b1
  all_goals
    go_enter Try.func52, Try.ntmps52
    go_wp2_with fail
    go_ret2
    have hk := hk.out
    exact ⟨ret_two (by omega) (by omega), rfl⟩
end Go.Proofs.Ytphfnmjccdejkaa

/- The contract of num.Text: the decimal digits. Conditions: the argument is a number of 64 bits. -/
namespace Go.Proofs.Ytphfnmjccdejkaa
open Go.RowKit
set_option linter.unusedSimpArgs false
set_option linter.unusedVariables false

/-- A digit's byte. -/
def digB (d : Nat) : UInt8 := UInt8.ofNat (48 + d)
/-- The digits of m, with fuel, ahead of acc. -/
def decF : Nat → Nat → List UInt8 → List UInt8
  | 0, _, acc => acc
  | f + 1, m, acc => if m < 10 then digB m :: acc else decF f (m / 10) (digB (m % 10) :: acc)
/-- The decimal digits of m, below 10^19. -/
def decN (m : Nat) : List UInt8 := decF 19 m []
def textOf (n : Int) : List UInt8 := (if n < 0 then [45] else []) ++ decN n.natAbs

def bytesV (l : List UInt8) : List Value := l.map fun b => .int .u8 b.toNat

def digitsV : List Value := [.int .u8 48, .int .u8 49, .int .u8 50, .int .u8 51, .int .u8 52, .int .u8 53, .int .u8 54, .int .u8 55, .int .u8 56, .int .u8 57]
theorem digitsV_get {d : Nat} (h : d < 10) : digitsV[d]? = some (.int .u8 (digB d).toNat) := by
  have : d = 0 ∨ d = 1 ∨ d = 2 ∨ d = 3 ∨ d = 4 ∨ d = 5 ∨ d = 6 ∨ d = 7 ∨ d = 8 ∨ d = 9 := by omega
  rcases this with rfl | rfl | rfl | rfl | rfl | rfl | rfl | rfl | rfl | rfl <;> rfl
theorem digB_nat {d : Nat} (h : d < 10) : ((digB d).toNat : Int) = 48 + d := by
  unfold digB; simp; omega
def bufV (f : Nat) (L : List UInt8) : List Value := List.replicate f (.int .u8 0) ++ bytesV L
theorem bufV_get (f : Nat) (L : List UInt8) : (bufV (f + 1) L)[f]? = some (.int .u8 0) := by
  unfold bufV; rw [List.getElem?_append_left (by simp)]; simp
theorem bufV_set (f : Nat) (L : List UInt8) (b : UInt8) : (bufV (f + 1) L).set f (.int .u8 b.toNat) = bufV f (b :: L) := by
  unfold bufV
  rw [List.set_append_left _ _ (by simp), List.replicate_succ', List.set_append_right _ _ (by simp)]
  simp [bytesV]
end Go.Proofs.Ytphfnmjccdejkaa

/- The contract of num.Parse: what a text is as a number. Conditions: the text can be read. -/
namespace Go.Proofs.Ytphfnmjccdejkaa
open Go.RowKit
set_option linter.unusedSimpArgs false
set_option linter.unusedVariables false

def isDig (c : UInt8) : Bool := 48 ≤ c.toNat && c.toNat ≤ 57
def valOf (l : List UInt8) : Nat := l.foldl (fun v c => v * 10 + (c.toNat - 48)) 0
def parseS (below : Bool) (d : List UInt8) : Int × Int :=
  if d = [] ∨ (d.head? = some 48 ∧ (1 < d.length ∨ below = true)) ∨ d.all isDig = false then (0, 1)
  else (chkV (if below then -(valOf d : Int) else valOf d), chkE (if below then -(valOf d : Int) else valOf d))
def parseOf (l : List UInt8) : Int × Int := if l.head? = some 45 then parseS true l.tail else parseS false l

theorem ba_empty {s : ByteArray} (h : s.size = 0) : s.toList.isEmpty = true ∧ s.toList = [] := by
  rw [ByteArray.toList_eq]
  have : s.data.toList = [] := by
    have h' : s.data.toList.length = 0 := by simpa using h
    exact List.length_eq_zero_iff.1 h'
  rw [this]; exact ⟨rfl, rfl⟩
theorem ba_ne {s : ByteArray} (h : 0 < s.size) : s.toList.isEmpty = false ∧ ¬ s.toList = [] := by
  rw [ByteArray.toList_eq]
  have : s.data.toList ≠ [] := fun h0 => by
    have h' : s.data.toList.length = 0 := by rw [h0]; rfl
    have h2 : s.data.toList.length = s.size := by simp
    omega
  exact ⟨by simpa using this, this⟩
theorem get_list (s : ByteArray) (k : Nat) (h : k < s.size) : s.data.toList[k]? = some s[k] := by
  rw [List.getElem?_eq_getElem (by simpa using h)]; rfl
theorem head_list (s : ByteArray) (h : 0 < s.size) : s.data.toList.head? = some s[0] := by
  rw [← get_list s 0 h]; exact List.head?_eq_getElem?
theorem len_list (s : ByteArray) : s.data.toList.length = s.size := by simp
theorem ne_list (s : ByteArray) (h : 0 < s.size) : s.data.toList ≠ [] := fun h0 => by
  have h2 := len_list s
  rw [h0] at h2; simp at h2; omega

/-- What stands in the loop's slots after k digits. -/
def Num (l : List UInt8) (k : Nat) (m : Int) (over : Bool) : Prop :=
  (l.take k).all isDig = true ∧ 0 ≤ m ∧ m ≤ 18446744073709551615 ∧ (over = false → m = valOf (l.take k)) ∧ (over = true → 9223372036854775808 < valOf (l.take k))
theorem valOf_snoc (l : List UInt8) (c : UInt8) : valOf (l ++ [c]) = valOf l * 10 + (c.toNat - 48) := by simp [valOf]
theorem Num.zero (l : List UInt8) : Num l 0 0 false := by simp [Num, valOf]
theorem isDig_iff (c : UInt8) {n : Int} (h : (c.toNat : Int) = n) : isDig c = true ↔ 48 ≤ n ∧ n ≤ 57 := by
  unfold isDig; simp only [Bool.and_eq_true, decide_eq_true_eq]; omega
theorem Num.step {l : List UInt8} {k : Nat} {m n m' : Int} {over over' : Bool} {c : UInt8} (h : Num l k m over) (hc : l[k]? = some c) (hn : (c.toNat : Int) = n) (h1 : 48 ≤ n) (h2 : n ≤ 57)
    (ho : over' = (over || decide (1152921504606846976 < m))) (hm : m' = IntKind.u64.wrap (IntKind.u64.wrap (m * 10) + (n - 48))) : Num l (k + 1) m' over' := by
  obtain ⟨a1, a2, a3, a4, a5⟩ := h
  have hd := (isDig_iff c hn).2 ⟨h1, h2⟩
  have hv : valOf (l.take (k + 1)) = valOf (l.take k) * 10 + (c.toNat - 48) := by rw [take_succ_some hc, valOf_snoc]
  simp only [IntKind.wrap_u64] at hm
  refine ⟨by rw [take_succ_some hc, List.all_append, a1]; simp [hd], by omega, by omega, fun h => ?_, fun h => ?_⟩
  · rw [ho, Bool.or_eq_false_iff, decide_eq_false_iff_not] at h
    have := a4 h.1
    rw [hv]; omega
  · rw [ho, Bool.or_eq_true, decide_eq_true_eq] at h
    rw [hv]
    rcases h with h | h
    · have := a5 h; omega
    · cases over with
      | true => have := a5 rfl; omega
      | false => have := a4 rfl; omega
theorem all_false {l : List UInt8} {k : Nat} {c : UInt8} {n : Int} (hc : l[k]? = some c) (hn : (c.toNat : Int) = n) (h : n < 48 ∨ 57 < n) : l.all isDig = false := by
  cases ha : l.all isDig with
  | false => rfl
  | true =>
    have := List.all_eq_true.1 ha c (List.mem_of_getElem? hc)
    rw [isDig_iff c hn] at this; omega
theorem parseS_bad {b : Bool} {l : List UInt8} {k : Nat} {c : UInt8} {n : Int} (hc : l[k]? = some c) (hn : (c.toNat : Int) = n) (h : n < 48 ∨ 57 < n) : parseS b l = (0, 1) := by
  unfold parseS
  rw [if_pos]
  refine .inr (.inr ?_)
  cases ha : l.all isDig with
  | false => rfl
  | true =>
    have := List.all_eq_true.1 ha c (List.mem_of_getElem? hc)
    rw [isDig_iff c hn] at this; omega
theorem parseS_good {b : Bool} {l : List UInt8} {m : Int} {over : Bool} (h : Num l l.length m over) (h0 : l ≠ []) (hz : ¬ (l.head? = some 48 ∧ (1 < l.length ∨ b = true))) :
    parseS b l = if over then (0, 4) else (chkV (if b then -m else m), chkE (if b then -m else m)) := by
  obtain ⟨a1, a2, a3, a4, a5⟩ := h
  rw [List.take_length] at a1 a4 a5
  unfold parseS
  rw [if_neg (by rintro (h | h | h); exact h0 h; exact hz h; rw [a1] at h; cases h)]
  cases over with
  | false => rw [← a4 rfl]; rfl
  | true =>
    have := a5 rfl
    have hn : ¬ In64 (if b then -(valOf l : Int) else valOf l) := by
      unfold In64; cases b
      · simp only [Bool.false_eq_true, if_false]; omega
      · simp only [if_true]; omega
    rw [(chk_out hn).1, (chk_out hn).2]; rfl
theorem pair_ret {a b : Int} {p : Int × Int} (h : p = (a, b)) : Ending.returned (.tuple #[.int .i64 a, .int .i64 b]) = .returned (.tuple #[.int .i64 p.1, .int .i64 p.2]) := by rw [h]

set_option maxHeartbeats 1000000 in
theorem parse_loop_b (d s : ByteArray) (w : World) (hs : 0 < s.size) (hm : d.size ≤ 9223372036854775807) (hb : ((s[0].toNat : Int) == 45) = true) (hd : s.extract 1 s.size = d) (h0 : 0 < d.size) (HG : Hid (¬ (d.data.toList.head? = some 48 ∧ (1 < d.data.toList.length ∨ true = true)))) (hz : ((d[0].toNat : Int) == 48) = false) :
    Calls Try.prog 41 #[.string s] w fun e w' => e = .returned (.tuple #[.int .i64 (parseS true d.data.toList).1, .int .i64 (parseS true d.data.toList).2]) ∧ w = w' := by
  obtain ⟨hn1, hn2⟩ := ba_ne h0
  have HL := Lib.hid (len_list d)
  go_enter Try.func41, Try.ntmps41
  go_wp2_with fail
  go_loop [2, 3, 5, 6, 7] (fun _ _ m o i => ∃ (k : Nat) (mm : Int) (over : Bool), k ≤ d.size ∧ i = .int .i64 k ∧ m = .int .u64 mm ∧ o = .bool over ∧ Hid (Num d.data.toList k mm over)) (fun _ _ _ _ i => d.size - (intOf i).toNat)
  case atStart => exact ⟨0, 0, false, Nat.zero_le _, rfl, rfl, rfl, Lib.hid (Num.zero _)⟩
  case round =>
    obtain ⟨k, mm, over, hk, rfl, rfl, rfl, hh⟩ := hrel
    by_cases hlt : k < d.size
    · obtain ⟨c, hc⟩ : ∃ c, d[k] = c := ⟨_, rfl⟩
      have HG2 : Hid (d.data.toList[k]? = some c) := by rw [get_list d k hlt, hc]; exact Lib.hid rfl
      obtain ⟨n, hcn, hn0, hn3⟩ : ∃ n : Int, (c.toNat : Int) = n ∧ 0 ≤ n ∧ n ≤ 255 := ⟨_, rfl, by omega, by have := c.toNat_lt; omega⟩
      have HCN := Lib.hid hcn
      by_cases h48 : n < 48
      · go_wp2_with fail
        go_ret2
        exact ⟨pair_ret (parseS_bad HG2.out HCN.out (.inl h48)), rfl⟩
      · by_cases h57 : 57 < n
        · go_wp2_with fail
          go_ret2
          exact ⟨pair_ret (parseS_bad HG2.out HCN.out (.inr h57)), rfl⟩
        · cases over
          · by_cases hbig : 1152921504606846976 < mm
            all_goals
              go_wp2_with fail
              go_round
              case rel =>
                refine ⟨k + 1, _, _, by omega, by go_num, rfl, rfl, Lib.hid (Num.step hh.out HG2.out HCN.out (by omega) (by omega) ?_ ?_)⟩
                · simp [hbig]
                · simp only [IntKind.wrap_u64]; try omega
              case measure => simp [intOf]; omega
          · go_wp2_with fail
            go_round
            case rel =>
              refine ⟨k + 1, _, _, by omega, by go_num, rfl, rfl, Lib.hid (Num.step hh.out HG2.out HCN.out (by omega) (by omega) ?_ ?_)⟩
              · simp
              · simp only [IntKind.wrap_u64]; try omega
            case measure => simp [intOf]; omega
    · obtain rfl : k = d.size := by omega
      have hN := hh.out
      rw [← HL.out] at hN
      have HP := Lib.hid (parseS_good (b := true) hN (ne_list d h0) (by simpa using HG.out))
      cases over
      · have b1 := hN.2.1
        have HB := Lib.hid hN.2.2.1
        clear hN
        go_wp2_with fail
        refine (signed_any mm _ _ b1 HB.out).mono ?_; rintro e w' ⟨rfl, rfl⟩
        go_wp2_with fail
        go_ret2
        exact ⟨pair_ret HP.out, rfl⟩
      · clear hN
        go_wp2_with fail
        go_ret2
        exact ⟨pair_ret HP.out, rfl⟩

set_option maxHeartbeats 1000000 in
theorem parse_loop_n (d : ByteArray) (w : World) (hm : d.size ≤ 9223372036854775807)  (h0 : 0 < d.size) (HG : Hid (¬ (d.data.toList.head? = some 48 ∧ (1 < d.data.toList.length ∨ false = true)))) (hb : ((d[0].toNat : Int) == 45) = false) (hz : ((d[0].toNat : Int) == 48) = false) :
    Calls Try.prog 41 #[.string d] w fun e w' => e = .returned (.tuple #[.int .i64 (parseS false d.data.toList).1, .int .i64 (parseS false d.data.toList).2]) ∧ w = w' := by
  obtain ⟨hn1, hn2⟩ := ba_ne h0
  have HL := Lib.hid (len_list d)
  go_enter Try.func41, Try.ntmps41
  go_wp2_with fail
  go_loop [2, 3, 5, 6, 7] (fun _ _ m o i => ∃ (k : Nat) (mm : Int) (over : Bool), k ≤ d.size ∧ i = .int .i64 k ∧ m = .int .u64 mm ∧ o = .bool over ∧ Hid (Num d.data.toList k mm over)) (fun _ _ _ _ i => d.size - (intOf i).toNat)
  case atStart => exact ⟨0, 0, false, Nat.zero_le _, rfl, rfl, rfl, Lib.hid (Num.zero _)⟩
  case round =>
    obtain ⟨k, mm, over, hk, rfl, rfl, rfl, hh⟩ := hrel
    by_cases hlt : k < d.size
    · obtain ⟨c, hc⟩ : ∃ c, d[k] = c := ⟨_, rfl⟩
      have HG2 : Hid (d.data.toList[k]? = some c) := by rw [get_list d k hlt, hc]; exact Lib.hid rfl
      obtain ⟨n, hcn, hn0, hn3⟩ : ∃ n : Int, (c.toNat : Int) = n ∧ 0 ≤ n ∧ n ≤ 255 := ⟨_, rfl, by omega, by have := c.toNat_lt; omega⟩
      have HCN := Lib.hid hcn
      by_cases h48 : n < 48
      · go_wp2_with fail
        go_ret2
        exact ⟨pair_ret (parseS_bad HG2.out HCN.out (.inl h48)), rfl⟩
      · by_cases h57 : 57 < n
        · go_wp2_with fail
          go_ret2
          exact ⟨pair_ret (parseS_bad HG2.out HCN.out (.inr h57)), rfl⟩
        · cases over
          · by_cases hbig : 1152921504606846976 < mm
            all_goals
              go_wp2_with fail
              go_round
              case rel =>
                refine ⟨k + 1, _, _, by omega, by go_num, rfl, rfl, Lib.hid (Num.step hh.out HG2.out HCN.out (by omega) (by omega) ?_ ?_)⟩
                · simp [hbig]
                · simp only [IntKind.wrap_u64]; try omega
              case measure => simp [intOf]; omega
          · go_wp2_with fail
            go_round
            case rel =>
              refine ⟨k + 1, _, _, by omega, by go_num, rfl, rfl, Lib.hid (Num.step hh.out HG2.out HCN.out (by omega) (by omega) ?_ ?_)⟩
              · simp
              · simp only [IntKind.wrap_u64]; try omega
            case measure => simp [intOf]; omega
    · obtain rfl : k = d.size := by omega
      have hN := hh.out
      rw [← HL.out] at hN
      have HP := Lib.hid (parseS_good (b := false) hN (ne_list d h0) (by simpa using HG.out))
      cases over
      · have b1 := hN.2.1
        have HB := Lib.hid hN.2.2.1
        clear hN
        go_wp2_with fail
        refine (signed_any mm _ _ b1 HB.out).mono ?_; rintro e w' ⟨rfl, rfl⟩
        go_wp2_with fail
        go_ret2
        exact ⟨pair_ret HP.out, rfl⟩
      · clear hN
        go_wp2_with fail
        go_ret2
        exact ⟨pair_ret HP.out, rfl⟩

set_option maxHeartbeats 1000000 in
theorem parse_loop_z (d : ByteArray) (w : World) (hm : d.size ≤ 9223372036854775807)  (h0 : 0 < d.size) (HG : Hid (¬ (d.data.toList.head? = some 48 ∧ (1 < d.data.toList.length ∨ false = true)))) (hb : ((d[0].toNat : Int) == 45) = false) (hz : ((d[0].toNat : Int) == 48) = true) (hone : ¬ (1 : Int) < d.size) :
    Calls Try.prog 41 #[.string d] w fun e w' => e = .returned (.tuple #[.int .i64 (parseS false d.data.toList).1, .int .i64 (parseS false d.data.toList).2]) ∧ w = w' := by
  obtain ⟨hn1, hn2⟩ := ba_ne h0
  have HL := Lib.hid (len_list d)
  go_enter Try.func41, Try.ntmps41
  go_wp2_with fail
  go_loop [2, 3, 5, 6, 7] (fun _ _ m o i => ∃ (k : Nat) (mm : Int) (over : Bool), k ≤ d.size ∧ i = .int .i64 k ∧ m = .int .u64 mm ∧ o = .bool over ∧ Hid (Num d.data.toList k mm over)) (fun _ _ _ _ i => d.size - (intOf i).toNat)
  case atStart => exact ⟨0, 0, false, Nat.zero_le _, rfl, rfl, rfl, Lib.hid (Num.zero _)⟩
  case round =>
    obtain ⟨k, mm, over, hk, rfl, rfl, rfl, hh⟩ := hrel
    by_cases hlt : k < d.size
    · obtain ⟨c, hc⟩ : ∃ c, d[k] = c := ⟨_, rfl⟩
      have HG2 : Hid (d.data.toList[k]? = some c) := by rw [get_list d k hlt, hc]; exact Lib.hid rfl
      obtain ⟨n, hcn, hn0, hn3⟩ : ∃ n : Int, (c.toNat : Int) = n ∧ 0 ≤ n ∧ n ≤ 255 := ⟨_, rfl, by omega, by have := c.toNat_lt; omega⟩
      have HCN := Lib.hid hcn
      by_cases h48 : n < 48
      · go_wp2_with fail
        go_ret2
        exact ⟨pair_ret (parseS_bad HG2.out HCN.out (.inl h48)), rfl⟩
      · by_cases h57 : 57 < n
        · go_wp2_with fail
          go_ret2
          exact ⟨pair_ret (parseS_bad HG2.out HCN.out (.inr h57)), rfl⟩
        · cases over
          · by_cases hbig : 1152921504606846976 < mm
            all_goals
              go_wp2_with fail
              go_round
              case rel =>
                refine ⟨k + 1, _, _, by omega, by go_num, rfl, rfl, Lib.hid (Num.step hh.out HG2.out HCN.out (by omega) (by omega) ?_ ?_)⟩
                · simp [hbig]
                · simp only [IntKind.wrap_u64]; try omega
              case measure => simp [intOf]; omega
          · go_wp2_with fail
            go_round
            case rel =>
              refine ⟨k + 1, _, _, by omega, by go_num, rfl, rfl, Lib.hid (Num.step hh.out HG2.out HCN.out (by omega) (by omega) ?_ ?_)⟩
              · simp
              · simp only [IntKind.wrap_u64]; try omega
            case measure => simp [intOf]; omega
    · obtain rfl : k = d.size := by omega
      have hN := hh.out
      rw [← HL.out] at hN
      have HP := Lib.hid (parseS_good (b := false) hN (ne_list d h0) (by simpa using HG.out))
      cases over
      · have b1 := hN.2.1
        have HB := Lib.hid hN.2.2.1
        clear hN
        go_wp2_with fail
        refine (signed_any mm _ _ b1 HB.out).mono ?_; rintro e w' ⟨rfl, rfl⟩
        go_wp2_with fail
        go_ret2
        exact ⟨pair_ret HP.out, rfl⟩
      · clear hN
        go_wp2_with fail
        go_ret2
        exact ⟨pair_ret HP.out, rfl⟩

theorem parseS_lead {b : Bool} {l : List UInt8} (h : l = [] ∨ (l.head? = some 48 ∧ (1 < l.length ∨ b = true))) : parseS b l = (0, 1) := by
  unfold parseS
  rw [if_pos]
  rcases h with h | h
  · exact .inl h
  · exact .inr (.inl h)
theorem u8_beq (c d : UInt8) : ((c.toNat : Int) == (d.toNat : Int)) = decide (c = d) := by
  by_cases h : c = d
  · subst h; simp
  · rw [decide_eq_false h, beq_eq_false_iff_ne]
    intro h2
    exact h (UInt8.toNat_inj.1 (by omega))

set_option maxHeartbeats 1000000 in
theorem parse_any (s : ByteArray) (w : World) (hs : s.size ≤ 9223372036854775807) : Calls Try.prog 41 #[.string s] w fun e w' => e = .returned (.tuple #[.int .i64 (parseOf s.data.toList).1, .int .i64 (parseOf s.data.toList).2]) ∧ w = w' := by
  by_cases h0 : s.size = 0
  · have hr : Hid (parseOf s.data.toList = (0, 1)) := Lib.hid (by
      have h' : s.data.toList.length = 0 := by simpa using h0
      rw [List.length_eq_zero_iff.1 h']; rfl)
    have hz : ¬ (0 : Int) < s.size := by omega
    obtain ⟨e1, e2⟩ := ba_empty h0
    clear h0
    go_enter Try.func41, Try.ntmps41
    go_wp2_with fail
    go_ret2
    exact ⟨pair_ret hr.out, rfl⟩
  · have h1 : 0 < s.size := by omega
    have hhd := head_list s h1
    have hb : ((s[0].toNat : Int) == 45) = decide (s[0] = 45) := u8_beq s[0] 45
    by_cases hc : s[0] = 45
    · rw [decide_eq_true hc] at hb
      obtain ⟨d, hd⟩ : ∃ d, s.extract 1 s.size = d := ⟨_, rfl⟩
      have hl : s.data.toList.tail = d.data.toList := by
        rw [← hd, Lib.extract_to_end, List.drop_one]
      have hdz : d.size = s.size - 1 := by rw [← len_list, ← len_list, ← hl, List.length_tail]
      have hp : parseOf s.data.toList = parseS true d.data.toList := by
        unfold parseOf; rw [hhd, hc, if_pos rfl, hl]
      rw [hp]
      clear hl hhd hp hc h0
      by_cases hz0 : d.size = 0
      · obtain ⟨e1, e2⟩ := ba_empty hz0
        have hr : Hid (parseS true d.data.toList = (0, 1)) := Lib.hid (parseS_lead (.inl (by rw [← ByteArray.toList_eq]; exact e2)))
        clear hz0 hdz
        go_enter Try.func41, Try.ntmps41
        go_wp2_with fail
        go_ret2
        exact ⟨pair_ret hr.out, rfl⟩
      · have h2 : 0 < d.size := by omega
        have hz : ((d[0].toNat : Int) == 48) = decide (d[0] = 48) := u8_beq d[0] 48
        have hhd := head_list d h2
        have hm : d.size ≤ 9223372036854775807 := by omega
        by_cases hc : d[0] = 48
        · rw [decide_eq_true hc] at hz
          have hr : Hid (parseS true d.data.toList = (0, 1)) := Lib.hid (parseS_lead (.inr ⟨by rw [hhd, hc], .inr rfl⟩))
          obtain ⟨e1, e2⟩ := ba_ne h2
          clear hz0 hdz hhd hc
          by_cases hlen : (1 : Int) < d.size
          all_goals
            go_enter Try.func41, Try.ntmps41
            go_wp2_with fail
            go_ret2
            exact ⟨pair_ret hr.out, rfl⟩
        · rw [decide_eq_false hc] at hz
          exact parse_loop_b d s w h1 hm hb hd h2 (Lib.hid (by rw [hhd]; simp [hc])) hz
    · rw [decide_eq_false hc] at hb
      have hp : parseOf s.data.toList = parseS false s.data.toList := by
        unfold parseOf; rw [hhd, if_neg (by simpa using hc)]
      rw [hp]
      have hz : ((s[0].toNat : Int) == 48) = decide (s[0] = 48) := u8_beq s[0] 48
      by_cases hc2 : s[0] = 48
      · rw [decide_eq_true hc2] at hz
        by_cases hlen : (1 : Int) < s.size
        · have hr : Hid (parseS false s.data.toList = (0, 1)) := Lib.hid (parseS_lead (.inr ⟨by rw [hhd, hc2], .inl (by rw [len_list]; omega)⟩))
          obtain ⟨e1, e2⟩ := ba_ne h1
          clear hp hc hc2 hhd h0
          go_enter Try.func41, Try.ntmps41
          go_wp2_with fail
          go_ret2
          exact ⟨pair_ret hr.out, rfl⟩
        · exact parse_loop_z s w hs h1 (Lib.hid (by rw [len_list]; rintro ⟨_, h | h⟩; omega; cases h)) hb hz hlen
      · rw [decide_eq_false hc2] at hz
        exact parse_loop_n s w hs h1 (Lib.hid (by rw [hhd]; simp [hc2])) hb hz
end Go.Proofs.Ytphfnmjccdejkaa

/- The contracts of the references Digits and Parse. Conditions: the text can be read. -/
namespace Go.Proofs.Ytphfnmjccdejkaa
open Go.RowKit
set_option linter.unusedSimpArgs false
set_option linter.unusedVariables false

def isNum (l : List UInt8) : Bool := l.all isDig && decide (0 < l.length)

theorem digits_any (d : ByteArray) (w : World) (hm : d.size ≤ 9223372036854775807) : Calls Try.prog 51 #[.string d] w fun e w' => e = .returned (.bool (isNum d.data.toList)) ∧ w = w' := by
  have HL := Lib.hid (len_list d)
  go_enter Try.func51, Try.ntmps51
  go_wp2_with fail
  go_loop [2, 3] (fun _ i => ∃ (k : Nat), k ≤ d.size ∧ i = .int .i64 k ∧ Hid ((d.data.toList.take k).all isDig = true)) (fun _ i => d.size - (intOf i).toNat)
  case atStart => exact ⟨0, Nat.zero_le _, rfl, Lib.hid rfl⟩
  case round =>
    obtain ⟨k, hk, rfl, hh⟩ := hrel
    by_cases hlt : k < d.size
    · obtain ⟨c, hc⟩ : ∃ c, d[k] = c := ⟨_, rfl⟩
      have HG2 : Hid (d.data.toList[k]? = some c) := by rw [get_list d k hlt, hc]; exact Lib.hid rfl
      obtain ⟨n, hcn, hn0, hn3⟩ : ∃ n : Int, (c.toNat : Int) = n ∧ 0 ≤ n ∧ n ≤ 255 := ⟨_, rfl, by omega, by have := c.toNat_lt; omega⟩
      have HCN := Lib.hid hcn
      by_cases h48 : n < 48
      · have HB : Hid (false = isNum d.data.toList) := Lib.hid (by unfold isNum; rw [all_false HG2.out HCN.out (.inl h48)]; rfl)
        go_wp2_with fail
        go_ret
        exact ⟨by rw [← HB.out]; rfl, rfl⟩
      · by_cases h57 : 57 < n
        · have HB : Hid (false = isNum d.data.toList) := Lib.hid (by unfold isNum; rw [all_false HG2.out HCN.out (.inr h57)]; rfl)
          go_wp2_with fail
          go_ret
          exact ⟨by rw [← HB.out]; rfl, rfl⟩
        · go_wp2_with fail
          go_round
          case rel => exact ⟨k + 1, by omega, by go_num, Lib.hid (by rw [take_succ_some HG2.out, List.all_append, hh.out]; simp [(isDig_iff c HCN.out).2 ⟨by omega, by omega⟩])⟩
          case measure => simp [intOf]; omega
    · obtain rfl : k = d.size := by omega
      have HA : Hid (d.data.toList.all isDig = true) := Lib.hid (by have := hh.out; rw [← HL.out, List.take_length] at this; exact this)
      by_cases hz : (0 : Int) < d.size
      all_goals
        go_wp2_with fail
        go_ret
        refine ⟨?_, rfl⟩
        unfold isNum
        rw [HA.out, HL.out]
        first | (rw [decide_eq_true (by omega)]; rfl) | (rw [decide_eq_false (by omega)]; rfl)

/-- What the reference holds after k digits: the number so far, which fits. -/
def sgn (b : Bool) (v : Nat) : Int := if b then -(v : Int) else v
theorem sgn_snoc (b : Bool) (v c : Nat) : sgn b (v * 10 + c) = sgn b v * 10 + sgn b c := by cases b <;> simp [sgn]; omega
theorem sgn_out {b : Bool} {v u : Nat} (h : ¬ In64 (sgn b v)) (hu : v ≤ u) : ¬ In64 (sgn b u) := by
  unfold In64 sgn at *; cases b <;> simp only [Bool.false_eq_true, if_false, if_true] at * <;> omega
theorem valOf_mono (l : List UInt8) (k : Nat) : valOf (l.take k) ≤ valOf l := by
  conv => rhs; rw [← List.take_append_drop k l]
  generalize l.take k = a
  generalize l.drop k = t
  induction t generalizing a with
  | nil => simp
  | cons c t ih =>
    rw [show a ++ c :: t = (a ++ [c]) ++ t from by simp]
    refine Nat.le_trans ?_ (ih (a ++ [c]))
    rw [valOf_snoc]; omega
theorem parseS_val {b : Bool} {l : List UInt8} (ha : l.all isDig = true) (h0 : l ≠ []) (hz : ¬ (l.head? = some 48 ∧ (1 < l.length ∨ b = true))) : parseS b l = (chkV (sgn b (valOf l)), chkE (sgn b (valOf l))) := by
  unfold parseS
  rw [if_neg (by rintro (h | h | h); exact h0 h; exact hz h; rw [ha] at h; cases h)]
  rfl
theorem parseS_over {b : Bool} {l : List UInt8} (ha : l.all isDig = true) (h0 : l ≠ []) (hz : ¬ (l.head? = some 48 ∧ (1 < l.length ∨ b = true))) {v : Nat} (hv : v ≤ valOf l) (ho : ¬ In64 (sgn b v)) : parseS b l = (0, 4) := by
  rw [parseS_val ha h0 hz, (chk_out (sgn_out ho hv)).1, (chk_out (sgn_out ho hv)).2]
theorem parseS_in {b : Bool} {l : List UInt8} (ha : l.all isDig = true) (h0 : l ≠ []) (hz : ¬ (l.head? = some 48 ∧ (1 < l.length ∨ b = true))) {n : Int} (hn : n = sgn b (valOf l)) (ho : In64 n) : parseS b l = (n, 0) := by
  subst hn; rw [parseS_val ha h0 hz, (chk_in ho).1, (chk_in ho).2]
theorem parseS_nodig {b : Bool} {l : List UInt8} (h : isNum l = false) : parseS b l = (0, 1) := by
  unfold isNum at h
  unfold parseS; rw [if_pos]
  cases ha : l.all isDig with
  | false => exact .inr (.inr rfl)
  | true =>
    rw [ha] at h
    have : ¬ 0 < l.length := by simpa using h
    exact .inl (List.length_eq_zero_iff.1 (by omega))

set_option maxHeartbeats 1000000 in
theorem rparse_loop_b (d s : ByteArray) (w : World) (hs : 0 < s.size) (hsm : s.size ≤ 9223372036854775807) (hlen : (d.size : Int) < s.size) (hm : d.size ≤ 9223372036854775807) (h0 : 0 < d.size) (HA : Hid (d.data.toList.all isDig = true)) (HG : Hid (¬ (d.data.toList.head? = some 48 ∧ (1 < d.data.toList.length ∨ true = true)))) (hb : ((s[0].toNat : Int) == 45) = true) (hd : s.extract 1 s.size = d) (hz : ((d[0].toNat : Int) == 48) = false) :
    Calls Try.prog 43 #[.string s] w fun e w' => e = .returned (.tuple #[.int .i64 (parseS true d.data.toList).1, .int .i64 (parseS true d.data.toList).2]) ∧ w = w' := by
  have HL := Lib.hid (len_list d)
  have HDG := Lib.hid (digits_any d w hm)
  have HN := Lib.hid (ne_list d h0)
  unfold isNum at HDG
  rw [HA.out, HL.out, decide_eq_true h0] at HDG
  go_enter Try.func43, Try.ntmps43
  go_wp2_with fail
  refine HDG.out.mono ?_; rintro e w' ⟨rfl, rfl⟩
  go_wp2_with fail
  go_loop [2, 3, 5, 6, 7, 8, 9] (fun _ _ m i _ _ _ => ∃ (k : Nat) (n : Int), k ≤ d.size ∧ i = .int .i64 k ∧ m = .int .i64 n ∧ Hid (n = sgn true (valOf (d.data.toList.take k)) ∧ In64 n)) (fun _ _ _ i _ _ _ => d.size - (intOf i).toNat)
  case atStart => exact ⟨0, 0, Nat.zero_le _, rfl, rfl, Lib.hid ⟨rfl, by unfold In64; omega⟩⟩
  case round =>
    obtain ⟨k, n, hk, rfl, rfl, hh⟩ := hrel
    by_cases hlt : k < d.size
    · obtain ⟨c, hc⟩ : ∃ c, d[k] = c := ⟨_, rfl⟩
      have HG2 : Hid (d.data.toList[k]? = some c) := by rw [get_list d k hlt, hc]; exact Lib.hid rfl
      obtain ⟨q, hcn, hn0, hn3⟩ : ∃ n : Int, (c.toNat : Int) = n ∧ 48 ≤ n ∧ n ≤ 57 := by
        have h := List.all_eq_true.1 HA.out c (List.mem_of_getElem? HG2.out)
        exact ⟨_, rfl, (isDig_iff c rfl).1 h⟩
      have HV : Hid (sgn true (valOf (d.data.toList.take (k + 1))) = n * 10 + (-(q - 48))) := Lib.hid (by
        rw [take_succ_some HG2.out, valOf_snoc, sgn_snoc, ← hh.out.1]
        have : sgn true (c.toNat - 48) = -(q - 48) := by simp only [sgn, Bool.false_eq_true, if_false, if_true]; omega
        rw [this])
      have HT10 : Hid (In64 10) := Lib.hid (by unfold In64; omega)
      have M := rmul_any n 10 w hh.out.2 HT10.out
      by_cases hI : In64 (n * 10)
      · rw [(chk_in hI).1, (chk_in hI).2] at M
        have HM := Lib.hid M
        have A := radd_any (n * 10) (-(q - 48)) w hI (by unfold In64; omega)
        rw [← HV.out] at A
        clear M
        have HI := Lib.hid hI
        clear hI
        by_cases hJ : In64 (sgn true (valOf (d.data.toList.take (k + 1))))
        · rw [(chk_in hJ).1, (chk_in hJ).2] at A
          have HJ := Lib.hid hJ
          clear hJ
          have HAd := Lib.hid A
          clear A
          go_wp2_with fail
          refine HM.out.mono ?_; rintro e w' ⟨rfl, rfl⟩
          go_wp2_with fail
          refine HAd.out.mono ?_; rintro e w' ⟨rfl, rfl⟩
          go_wp2_with fail
          go_round
          case rel => exact ⟨k + 1, _, by omega, by go_num, rfl, Lib.hid ⟨rfl, HJ.out⟩⟩
          case measure => simp [intOf]; omega
        · rw [(chk_out hJ).1, (chk_out hJ).2] at A
          have HP := Lib.hid (parseS_over (b := true) HA.out HN.out (by simpa using HG.out) (valOf_mono d.data.toList (k + 1)) hJ)
          clear hJ
          have HAd := Lib.hid A
          clear A
          go_wp2_with fail
          refine HM.out.mono ?_; rintro e w' ⟨rfl, rfl⟩
          go_wp2_with fail
          refine HAd.out.mono ?_; rintro e w' ⟨rfl, rfl⟩
          go_wp2_with fail
          go_ret2
          exact ⟨pair_ret HP.out, rfl⟩
      · rw [(chk_out hI).1, (chk_out hI).2] at M
        have HM := Lib.hid M
        clear M
        have HP := Lib.hid (parseS_over (b := true) (v := valOf (d.data.toList.take k) * 10) HA.out HN.out (by simpa using HG.out) (Nat.le_trans (by rw [take_succ_some HG2.out, valOf_snoc]; omega) (valOf_mono d.data.toList (k + 1)))
          (by have := sgn_snoc true (valOf (d.data.toList.take k)) 0; rw [Nat.add_zero] at this; rw [this, ← hh.out.1]; simpa [sgn] using hI))
        clear hI
        go_wp2_with fail
        refine HM.out.mono ?_; rintro e w' ⟨rfl, rfl⟩
        go_wp2_with fail
        go_ret2
        exact ⟨pair_ret HP.out, rfl⟩
    · obtain rfl : k = d.size := by omega
      have HP := Lib.hid (parseS_in (b := true) HA.out HN.out (by simpa using HG.out) (by have := hh.out.1; rw [← HL.out, List.take_length] at this; exact this) hh.out.2)
      go_wp2_with fail
      go_ret2
      exact ⟨pair_ret HP.out, rfl⟩

set_option maxHeartbeats 1000000 in
theorem rparse_loop_n (d : ByteArray) (w : World) (hm : d.size ≤ 9223372036854775807) (h0 : 0 < d.size) (HA : Hid (d.data.toList.all isDig = true)) (HG : Hid (¬ (d.data.toList.head? = some 48 ∧ (1 < d.data.toList.length ∨ false = true)))) (hb : ((d[0].toNat : Int) == 45) = false) (hz : ((d[0].toNat : Int) == 48) = false) :
    Calls Try.prog 43 #[.string d] w fun e w' => e = .returned (.tuple #[.int .i64 (parseS false d.data.toList).1, .int .i64 (parseS false d.data.toList).2]) ∧ w = w' := by
  have HL := Lib.hid (len_list d)
  have HDG := Lib.hid (digits_any d w hm)
  have HN := Lib.hid (ne_list d h0)
  unfold isNum at HDG
  rw [HA.out, HL.out, decide_eq_true h0] at HDG
  go_enter Try.func43, Try.ntmps43
  go_wp2_with fail
  refine HDG.out.mono ?_; rintro e w' ⟨rfl, rfl⟩
  go_wp2_with fail
  go_loop [2, 3, 5, 6, 7, 8, 9] (fun _ _ m i _ _ _ => ∃ (k : Nat) (n : Int), k ≤ d.size ∧ i = .int .i64 k ∧ m = .int .i64 n ∧ Hid (n = sgn false (valOf (d.data.toList.take k)) ∧ In64 n)) (fun _ _ _ i _ _ _ => d.size - (intOf i).toNat)
  case atStart => exact ⟨0, 0, Nat.zero_le _, rfl, rfl, Lib.hid ⟨rfl, by unfold In64; omega⟩⟩
  case round =>
    obtain ⟨k, n, hk, rfl, rfl, hh⟩ := hrel
    by_cases hlt : k < d.size
    · obtain ⟨c, hc⟩ : ∃ c, d[k] = c := ⟨_, rfl⟩
      have HG2 : Hid (d.data.toList[k]? = some c) := by rw [get_list d k hlt, hc]; exact Lib.hid rfl
      obtain ⟨q, hcn, hn0, hn3⟩ : ∃ n : Int, (c.toNat : Int) = n ∧ 48 ≤ n ∧ n ≤ 57 := by
        have h := List.all_eq_true.1 HA.out c (List.mem_of_getElem? HG2.out)
        exact ⟨_, rfl, (isDig_iff c rfl).1 h⟩
      have HV : Hid (sgn false (valOf (d.data.toList.take (k + 1))) = n * 10 + (q - 48)) := Lib.hid (by
        rw [take_succ_some HG2.out, valOf_snoc, sgn_snoc, ← hh.out.1]
        have : sgn false (c.toNat - 48) = q - 48 := by simp only [sgn, Bool.false_eq_true, if_false, if_true]; omega
        rw [this])
      have HT10 : Hid (In64 10) := Lib.hid (by unfold In64; omega)
      have M := rmul_any n 10 w hh.out.2 HT10.out
      by_cases hI : In64 (n * 10)
      · rw [(chk_in hI).1, (chk_in hI).2] at M
        have HM := Lib.hid M
        have A := radd_any (n * 10) (q - 48) w hI (by unfold In64; omega)
        rw [← HV.out] at A
        clear M
        have HI := Lib.hid hI
        clear hI
        by_cases hJ : In64 (sgn false (valOf (d.data.toList.take (k + 1))))
        · rw [(chk_in hJ).1, (chk_in hJ).2] at A
          have HJ := Lib.hid hJ
          clear hJ
          have HAd := Lib.hid A
          clear A
          go_wp2_with fail
          refine HM.out.mono ?_; rintro e w' ⟨rfl, rfl⟩
          go_wp2_with fail
          refine HAd.out.mono ?_; rintro e w' ⟨rfl, rfl⟩
          go_wp2_with fail
          go_round
          case rel => exact ⟨k + 1, _, by omega, by go_num, rfl, Lib.hid ⟨rfl, HJ.out⟩⟩
          case measure => simp [intOf]; omega
        · rw [(chk_out hJ).1, (chk_out hJ).2] at A
          have HP := Lib.hid (parseS_over (b := false) HA.out HN.out (by simpa using HG.out) (valOf_mono d.data.toList (k + 1)) hJ)
          clear hJ
          have HAd := Lib.hid A
          clear A
          go_wp2_with fail
          refine HM.out.mono ?_; rintro e w' ⟨rfl, rfl⟩
          go_wp2_with fail
          refine HAd.out.mono ?_; rintro e w' ⟨rfl, rfl⟩
          go_wp2_with fail
          go_ret2
          exact ⟨pair_ret HP.out, rfl⟩
      · rw [(chk_out hI).1, (chk_out hI).2] at M
        have HM := Lib.hid M
        clear M
        have HP := Lib.hid (parseS_over (b := false) (v := valOf (d.data.toList.take k) * 10) HA.out HN.out (by simpa using HG.out) (Nat.le_trans (by rw [take_succ_some HG2.out, valOf_snoc]; omega) (valOf_mono d.data.toList (k + 1)))
          (by have := sgn_snoc false (valOf (d.data.toList.take k)) 0; rw [Nat.add_zero] at this; rw [this, ← hh.out.1]; simpa [sgn] using hI))
        clear hI
        go_wp2_with fail
        refine HM.out.mono ?_; rintro e w' ⟨rfl, rfl⟩
        go_wp2_with fail
        go_ret2
        exact ⟨pair_ret HP.out, rfl⟩
    · obtain rfl : k = d.size := by omega
      have HP := Lib.hid (parseS_in (b := false) HA.out HN.out (by simpa using HG.out) (by have := hh.out.1; rw [← HL.out, List.take_length] at this; exact this) hh.out.2)
      go_wp2_with fail
      go_ret2
      exact ⟨pair_ret HP.out, rfl⟩

set_option maxHeartbeats 1000000 in
theorem rparse_loop_z (d : ByteArray) (w : World) (hm : d.size ≤ 9223372036854775807) (h0 : 0 < d.size) (HA : Hid (d.data.toList.all isDig = true)) (HG : Hid (¬ (d.data.toList.head? = some 48 ∧ (1 < d.data.toList.length ∨ false = true)))) (hb : ((d[0].toNat : Int) == 45) = false) (hz : ((d[0].toNat : Int) == 48) = true) (hone : (d.toList == [48]) = true) :
    Calls Try.prog 43 #[.string d] w fun e w' => e = .returned (.tuple #[.int .i64 (parseS false d.data.toList).1, .int .i64 (parseS false d.data.toList).2]) ∧ w = w' := by
  have HL := Lib.hid (len_list d)
  have HDG := Lib.hid (digits_any d w hm)
  have HN := Lib.hid (ne_list d h0)
  unfold isNum at HDG
  rw [HA.out, HL.out, decide_eq_true h0] at HDG
  go_enter Try.func43, Try.ntmps43
  go_wp2_with fail
  refine HDG.out.mono ?_; rintro e w' ⟨rfl, rfl⟩
  go_wp2_with fail
  go_loop [2, 3, 5, 6, 7, 8, 9] (fun _ _ m i _ _ _ => ∃ (k : Nat) (n : Int), k ≤ d.size ∧ i = .int .i64 k ∧ m = .int .i64 n ∧ Hid (n = sgn false (valOf (d.data.toList.take k)) ∧ In64 n)) (fun _ _ _ i _ _ _ => d.size - (intOf i).toNat)
  case atStart => exact ⟨0, 0, Nat.zero_le _, rfl, rfl, Lib.hid ⟨rfl, by unfold In64; omega⟩⟩
  case round =>
    obtain ⟨k, n, hk, rfl, rfl, hh⟩ := hrel
    by_cases hlt : k < d.size
    · obtain ⟨c, hc⟩ : ∃ c, d[k] = c := ⟨_, rfl⟩
      have HG2 : Hid (d.data.toList[k]? = some c) := by rw [get_list d k hlt, hc]; exact Lib.hid rfl
      obtain ⟨q, hcn, hn0, hn3⟩ : ∃ n : Int, (c.toNat : Int) = n ∧ 48 ≤ n ∧ n ≤ 57 := by
        have h := List.all_eq_true.1 HA.out c (List.mem_of_getElem? HG2.out)
        exact ⟨_, rfl, (isDig_iff c rfl).1 h⟩
      have HV : Hid (sgn false (valOf (d.data.toList.take (k + 1))) = n * 10 + (q - 48)) := Lib.hid (by
        rw [take_succ_some HG2.out, valOf_snoc, sgn_snoc, ← hh.out.1]
        have : sgn false (c.toNat - 48) = q - 48 := by simp only [sgn, Bool.false_eq_true, if_false, if_true]; omega
        rw [this])
      have HT10 : Hid (In64 10) := Lib.hid (by unfold In64; omega)
      have M := rmul_any n 10 w hh.out.2 HT10.out
      by_cases hI : In64 (n * 10)
      · rw [(chk_in hI).1, (chk_in hI).2] at M
        have HM := Lib.hid M
        have A := radd_any (n * 10) (q - 48) w hI (by unfold In64; omega)
        rw [← HV.out] at A
        clear M
        have HI := Lib.hid hI
        clear hI
        by_cases hJ : In64 (sgn false (valOf (d.data.toList.take (k + 1))))
        · rw [(chk_in hJ).1, (chk_in hJ).2] at A
          have HJ := Lib.hid hJ
          clear hJ
          have HAd := Lib.hid A
          clear A
          go_wp2_with fail
          refine HM.out.mono ?_; rintro e w' ⟨rfl, rfl⟩
          go_wp2_with fail
          refine HAd.out.mono ?_; rintro e w' ⟨rfl, rfl⟩
          go_wp2_with fail
          go_round
          case rel => exact ⟨k + 1, _, by omega, by go_num, rfl, Lib.hid ⟨rfl, HJ.out⟩⟩
          case measure => simp [intOf]; omega
        · rw [(chk_out hJ).1, (chk_out hJ).2] at A
          have HP := Lib.hid (parseS_over (b := false) HA.out HN.out (by simpa using HG.out) (valOf_mono d.data.toList (k + 1)) hJ)
          clear hJ
          have HAd := Lib.hid A
          clear A
          go_wp2_with fail
          refine HM.out.mono ?_; rintro e w' ⟨rfl, rfl⟩
          go_wp2_with fail
          refine HAd.out.mono ?_; rintro e w' ⟨rfl, rfl⟩
          go_wp2_with fail
          go_ret2
          exact ⟨pair_ret HP.out, rfl⟩
      · rw [(chk_out hI).1, (chk_out hI).2] at M
        have HM := Lib.hid M
        clear M
        have HP := Lib.hid (parseS_over (b := false) (v := valOf (d.data.toList.take k) * 10) HA.out HN.out (by simpa using HG.out) (Nat.le_trans (by rw [take_succ_some HG2.out, valOf_snoc]; omega) (valOf_mono d.data.toList (k + 1)))
          (by have := sgn_snoc false (valOf (d.data.toList.take k)) 0; rw [Nat.add_zero] at this; rw [this, ← hh.out.1]; simpa [sgn] using hI))
        clear hI
        go_wp2_with fail
        refine HM.out.mono ?_; rintro e w' ⟨rfl, rfl⟩
        go_wp2_with fail
        go_ret2
        exact ⟨pair_ret HP.out, rfl⟩
    · obtain rfl : k = d.size := by omega
      have HP := Lib.hid (parseS_in (b := false) HA.out HN.out (by simpa using HG.out) (by have := hh.out.1; rw [← HL.out, List.take_length] at this; exact this) hh.out.2)
      go_wp2_with fail
      go_ret2
      exact ⟨pair_ret HP.out, rfl⟩
end Go.Proofs.Ytphfnmjccdejkaa

/- The contract of the reference Parse. Conditions: the text can be read. -/
namespace Go.Proofs.Ytphfnmjccdejkaa
open Go.RowKit
set_option linter.unusedSimpArgs false
set_option linter.unusedVariables false

theorem isNum_true {l : List UInt8} (h : isNum l = true) : l.all isDig = true ∧ 0 < l.length := by
  unfold isNum at h; simpa only [Bool.and_eq_true, decide_eq_true_eq] using h
theorem beq_false_of {l m : List UInt8} (h : l ≠ m) : (l == m) = false := beq_eq_false_iff_ne.2 h

set_option maxHeartbeats 1000000 in
theorem rparse_any (s : ByteArray) (w : World) (hs : s.size ≤ 9223372036854775807) : Calls Try.prog 43 #[.string s] w fun e w' => e = .returned (.tuple #[.int .i64 (parseOf s.data.toList).1, .int .i64 (parseOf s.data.toList).2]) ∧ w = w' := by
  by_cases h0 : s.size = 0
  · have hl : s.data.toList = [] := List.length_eq_zero_iff.1 (by simpa using h0)
    have hr : Hid (parseOf s.data.toList = (0, 1)) := Lib.hid (by rw [hl]; rfl)
    have hz : ¬ (0 : Int) < s.size := by omega
    have HDG := Lib.hid (digits_any s w hs)
    rw [hl, show isNum [] = false from rfl] at HDG
    clear h0 hl hs
    go_enter Try.func43, Try.ntmps43
    go_wp2_with fail
    refine HDG.out.mono ?_; rintro e w' ⟨rfl, rfl⟩
    go_wp2_with fail
    go_ret2
    exact ⟨pair_ret hr.out, rfl⟩
  · have h1 : 0 < s.size := by omega
    have hhd := head_list s h1
    have hb : ((s[0].toNat : Int) == 45) = decide (s[0] = 45) := u8_beq s[0] 45
    by_cases hc : s[0] = 45
    · rw [decide_eq_true hc] at hb
      obtain ⟨d, hd⟩ : ∃ d, s.extract 1 s.size = d := ⟨_, rfl⟩
      have hl : s.data.toList.tail = d.data.toList := by
        rw [← hd, Lib.extract_to_end, List.drop_one]
      have hdz : d.size = s.size - 1 := by rw [← len_list, ← len_list, ← hl, List.length_tail]
      have hp : parseOf s.data.toList = parseS true d.data.toList := by
        unfold parseOf; rw [hhd, hc, if_pos rfl, hl]
      have hs0 : (s.toList == [48]) = false := beq_false_of (by
        rw [ByteArray.toList_eq]; intro h; rw [h] at hhd; simp at hhd; rw [← hhd] at hc; exact absurd hc (by decide))
      rw [hp]
      clear hl hhd hp hc h0
      have hm : d.size ≤ 9223372036854775807 := by omega
      cases hn : isNum d.data.toList with
      | false =>
        have hr := Lib.hid (parseS_nodig (b := true) hn)
        have HDG := Lib.hid (digits_any d w hm)
        rw [hn] at HDG
        clear hdz hn hm hs
        go_enter Try.func43, Try.ntmps43
        go_wp2_with fail
        refine HDG.out.mono ?_; rintro e w' ⟨rfl, rfl⟩
        go_wp2_with fail
        go_ret2
        exact ⟨pair_ret hr.out, rfl⟩
      | true =>
        obtain ⟨ha, hln⟩ := isNum_true hn
        have h2 : 0 < d.size := by rw [len_list] at hln; exact hln
        have hz : ((d[0].toNat : Int) == 48) = decide (d[0] = 48) := u8_beq d[0] 48
        have hhd := head_list d h2
        by_cases hc : d[0] = 48
        · rw [decide_eq_true hc] at hz
          have hr : Hid (parseS true d.data.toList = (0, 1)) := Lib.hid (parseS_lead (.inr ⟨by rw [hhd, hc], .inr rfl⟩))
          have HDG := Lib.hid (digits_any d w hm)
          rw [hn] at HDG
          clear hdz hhd hc hn ha hln hm hs
          go_enter Try.func43, Try.ntmps43
          go_wp2_with fail
          refine HDG.out.mono ?_; rintro e w' ⟨rfl, rfl⟩
          go_wp2_with fail
          go_ret2
          exact ⟨pair_ret hr.out, rfl⟩
        · rw [decide_eq_false hc] at hz
          exact rparse_loop_b d s w h1 hs (by omega) hm h2 (Lib.hid ha) (Lib.hid (by rw [hhd]; simp [hc])) hb hd hz
    · rw [decide_eq_false hc] at hb
      have hp : parseOf s.data.toList = parseS false s.data.toList := by
        unfold parseOf; rw [hhd, if_neg (by simpa using hc)]
      rw [hp]
      cases hn : isNum s.data.toList with
      | false =>
        have hr := Lib.hid (parseS_nodig (b := false) hn)
        have HDG := Lib.hid (digits_any s w hs)
        rw [hn] at HDG
        clear hn hs hp hhd hc h0
        go_enter Try.func43, Try.ntmps43
        go_wp2_with fail
        refine HDG.out.mono ?_; rintro e w' ⟨rfl, rfl⟩
        go_wp2_with fail
        go_ret2
        exact ⟨pair_ret hr.out, rfl⟩
      | true =>
        obtain ⟨ha, hln⟩ := isNum_true hn
        have hz : ((s[0].toNat : Int) == 48) = decide (s[0] = 48) := u8_beq s[0] 48
        by_cases hc2 : s[0] = 48
        · rw [decide_eq_true hc2] at hz
          by_cases hlen : s.size = 1
          · have hl : s.toList = [48] := by
              rw [ByteArray.toList_eq]
              have h3 := len_list s
              rw [hc2] at hhd
              cases hq : s.data.toList with
              | nil => rw [hq] at h3; simp at h3; omega
              | cons c t =>
                rw [hq] at h3 hhd
                simp at h3 hhd
                have : t = [] := List.length_eq_zero_iff.1 (by omega)
                rw [hhd, this]
            exact rparse_loop_z s w hs h1 (Lib.hid ha) (Lib.hid (by rw [len_list, hlen]; rintro ⟨_, h | h⟩; omega; cases h)) hb hz (by rw [hl]; rfl)
          · have hr : Hid (parseS false s.data.toList = (0, 1)) := Lib.hid (parseS_lead (.inr ⟨by rw [hhd, hc2], .inl (by rw [len_list]; omega)⟩))
            have hs0 : (s.toList == [48]) = false := beq_false_of (by
              rw [ByteArray.toList_eq]; intro h; have h3 := len_list s; rw [h] at h3; simp at h3; omega)
            have HDG := Lib.hid (digits_any s w hs)
            rw [hn] at HDG
            clear hp hc hc2 hhd h0 hn ha hlen hs
            go_enter Try.func43, Try.ntmps43
            go_wp2_with fail
            refine HDG.out.mono ?_; rintro e w' ⟨rfl, rfl⟩
            go_wp2_with fail
            go_ret2
            exact ⟨pair_ret hr.out, rfl⟩
        · rw [decide_eq_false hc2] at hz
          exact rparse_loop_n s w hs h1 (Lib.hid ha) (Lib.hid (by rw [hhd]; simp [hc2])) hb hz
end Go.Proofs.Ytphfnmjccdejkaa

/- The walks of NumSums, NumProducts, NumRing. Conditions: the arguments are numbers of 64 bits. -/
namespace Go.Proofs.Ytphfnmjccdejkaa
open Go.RowKit
set_option linter.unusedSimpArgs false
set_option linter.unusedVariables false

theorem chkV_in (n : Int) : In64 (chkV n) := by
  unfold chkV; split
  · assumption
  · unfold In64; omega
theorem divV_in (a b : Int) : In64 (divV a b) := by
  unfold divV; split
  · unfold In64; omega
  · exact chkV_in _
theorem modV_in (a b : Int) (ha : In64 a) : In64 (modV a b) := by
  unfold modV; split
  · unfold In64; omega
  · exact tmod_in a b ha (by assumption)
end Go.Proofs.Ytphfnmjccdejkaa

/- The contract of the reference Text. Conditions: the argument is a number of 64 bits. -/
namespace Go.Proofs.Ytphfnmjccdejkaa
open Go.RowKit
set_option linter.unusedSimpArgs false
set_option linter.unusedVariables false

theorem decF_acc (f : Nat) : ∀ (m : Nat) (acc : List UInt8), m < 10 ^ f → decF f m acc = decF f m [] ++ acc := by
  induction f with
  | zero => intro m acc h; simp [decF]
  | succ f ih =>
    intro m acc h
    unfold decF
    split
    · rfl
    · have hm : m / 10 < 10 ^ f := by rw [Nat.pow_succ] at h; omega
      rw [ih _ (digB (m % 10) :: acc) hm, ih _ [digB (m % 10)] hm, List.append_assoc]; rfl
theorem decF_fuel (f : Nat) : ∀ (g m : Nat) (acc : List UInt8), f ≤ g → 1 ≤ f → m < 10 ^ f → decF g m acc = decF f m acc := by
  induction f with
  | zero => intro g m acc _ h; omega
  | succ f ih =>
    intro g m acc hg _ h
    obtain ⟨g, rfl⟩ : ∃ g', g = g' + 1 := ⟨g - 1, by omega⟩
    unfold decF
    split
    · rfl
    · have hm : m / 10 < 10 ^ f := by rw [Nat.pow_succ] at h; omega
      rcases Nat.eq_zero_or_pos f with h0 | h0
      · subst h0; simp at hm; omega
      · exact ih g _ _ (by omega) h0 hm
theorem decF_len (f : Nat) : ∀ (m : Nat) (acc : List UInt8), (decF f m acc).length ≤ f + acc.length := by
  induction f with
  | zero => intro m acc; simp [decF]
  | succ f ih =>
    intro m acc
    unfold decF
    split
    · simp; omega
    · have := ih (m / 10) (digB (m % 10) :: acc); simp at this; omega
theorem decN_len (m : Nat) : (decN m).length ≤ 19 := decF_len 19 m []
theorem decN_small {m : Nat} (h : m < 10) : decN m = [digB m] := by unfold decN decF; rw [if_pos h]
theorem decN_step {m : Nat} (h : ¬ m < 10) (hm : m < 10 ^ 19) : decN m = decN (m / 10) ++ [digB (m % 10)] := by
  have h1 : m / 10 < 10 ^ 18 := by omega
  unfold decN
  rw [show (19 : Nat) = 18 + 1 from rfl, decF, if_neg h, decF_acc 18 _ _ h1, decF_fuel 18 (18 + 1) _ _ (by omega) (by omega) h1]

theorem convOne (w : World) (b : UInt8) : (convert 37 9 (.slice (some ⟨w.heap.size, 0, none⟩) 1 1)).run Try.prog (w.alloc (.cells #[.int .u8 b.toNat] 5)) = .ok (.string ⟨#[b]⟩) (w.alloc (.cells #[.int .u8 b.toNat] 5)) := by
  have h := Block.new w [.int .u8 b.toNat] 5
  have hc := run_convert_bytes_back (P := Try.prog) (w.alloc (.cells #[.int .u8 b.toNat] 5)) 37 9 5 ⟨w.heap.size, 0, none⟩ 1 [b] Try.underlying37 Try.underlying5 Try.underlying9 (fun j hj => by
    rw [addr_add]
    have : j = 0 := by simpa using hj
    subst this
    exact h.cell rfl)
  exact hc

theorem str_ret {a b : ByteArray} (h : a = b) : Ending.returned (.string a) = .returned (.string b) := by rw [h]
theorem ba_append (a b : List UInt8) : (⟨a.toArray⟩ : ByteArray) ++ (⟨b.toArray⟩ : ByteArray) = ⟨(a ++ b).toArray⟩ := by
  apply ByteArray.ext; simp

set_option maxHeartbeats 1000000 in
theorem rtext_small (n : Int) (w : World) (h0 : 0 ≤ n) (hlt : n < 10) : Calls Try.prog 34 #[.int .i64 n] w fun e w' => e = .returned (.string ⟨(decN n.toNat).toArray⟩) ∧ Below w.heap.size w w' := by
  have hl : (n == -9223372036854775808) = false := beq_eq_false_iff_ne.2 (by omega)
  obtain ⟨d, hd, hd2⟩ : ∃ d : UInt8, 48 + n % 10 = (d.toNat : Int) ∧ d = digB (n.toNat % 10) := ⟨_, by rw [digB_nat (by omega)]; omega, rfl⟩
  have HD2 : Hid (⟨#[d]⟩ = (⟨(decN n.toNat).toArray⟩ : ByteArray)) := Lib.hid (by rw [decN_small (by omega), hd2, Nat.mod_eq_of_lt (by omega)])
  have hcv := convOne w d
  clear hd2
  go_enter Try.func34, Try.ntmps34
  go_wp2_with fail
  go_ret
  exact ⟨str_ret HD2.out, (Below.refl _ _).alloc (Nat.le_refl _) _⟩

set_option maxHeartbeats 1000000 in
theorem rtext_nat (f : Nat) : ∀ (n : Int) (w : World), 0 ≤ n → n ≤ 9223372036854775807 → n.toNat < 10 ^ (f + 1) → f ≤ 18 → Calls Try.prog 34 #[.int .i64 n] w fun e w' => e = .returned (.string ⟨(decN n.toNat).toArray⟩) ∧ Below w.heap.size w w' := by
  induction f with
  | zero =>
    intro n w h0 _ h _
    exact rtext_small n w h0 (by simp at h; omega)
  | succ f ih =>
    intro n w h0 hub hn hf
    by_cases hlt : n < 10
    · exact rtext_small n w h0 hlt
    · have hl : (n == -9223372036854775808) = false := beq_eq_false_iff_ne.2 (by omega)
      obtain ⟨d, hd, hd2⟩ : ∃ d : UInt8, 48 + n % 10 = (d.toNat : Int) ∧ d = digB (n.toNat % 10) := ⟨_, by rw [digB_nat (by omega)]; omega, rfl⟩
      have HD2 : Hid (decN n.toNat = decN (n / 10).toNat ++ [d]) := Lib.hid (by
        have h19 : n.toNat < 10 ^ 19 := Nat.lt_of_lt_of_le hn (Nat.pow_le_pow_right (by omega) (by omega))
        rw [decN_step (by omega) h19, hd2, show n.toNat / 10 = (n / 10).toNat from by omega])
      have hcv := convOne w d
      have IH := Lib.hid (ih (n / 10) (w.alloc (.cells #[.int .u8 d.toNat] 5)) (by omega) (by omega) (by rw [Nat.pow_succ] at hn; omega) (by omega))
      clear hd2 ih hn
      go_enter Try.func34, Try.ntmps34
      go_wp2_with fail
      refine IH.out.mono ?_; rintro e w1 ⟨rfl, hb⟩
      have hadd := fun (wx : World) => run_string_add_sum (P := Try.prog) wx ⟨(decN (n / 10).toNat).toArray⟩ ⟨#[d]⟩ (by
        have := decN_len (n / 10).toNat
        show (decN (n / 10).toNat).toArray.size + 1 ≤ _
        simp only [List.size_toArray]; omega)
      have HB := Lib.hid hb
      clear hb
      go_wp2_with fail
      go_ret
      refine ⟨?_, ((Below.refl _ _).alloc (Nat.le_refl _) _).trans (HB.out.mono (by simp))⟩
      rw [HD2.out, ← ba_append]; rfl

set_option maxHeartbeats 1000000 in
theorem rtext_any (n : Int) (w : World) (hn : In64 n) : Calls Try.prog 34 #[.int .i64 n] w fun e w' => e = .returned (.string ⟨(textOf n).toArray⟩) ∧ Below w.heap.size w w' := by
  by_cases h0 : 0 ≤ n
  · rw [show textOf n = decN n.toNat from by unfold textOf; rw [if_neg (by omega), List.nil_append, show n.natAbs = n.toNat from by omega]]
    exact rtext_nat 18 n w h0 hn.2 (by unfold In64 at hn; omega) (by omega)
  · by_cases hl : n = -9223372036854775808
    · have HT : Hid (textOf n = [45, 57, 50, 50, 51, 51, 55, 50, 48, 51, 54, 56, 53, 52, 55, 55, 53, 56, 48, 56]) := Lib.hid (by rw [hl]; decide)
      have hl' : (n == -9223372036854775808) = true := beq_iff_eq.2 hl
      clear hl hn h0
      go_enter Try.func34, Try.ntmps34
      go_wp2_with fail
      go_ret
      refine ⟨?_, Below.refl _ _⟩
      rw [HT.out]; rfl
    · have hl' : (n == -9223372036854775808) = false := beq_eq_false_iff_ne.2 hl
      have hw : wrap64 (-n) = -n := by unfold In64 at hn; unfold wrap64; omega
      have hneg : n < 0 := by omega
      have HI := Lib.hid (rtext_nat 18 (-n) w (by omega) (by unfold In64 at hn; omega) (by unfold In64 at hn; omega) (by omega))
      have HT : Hid (textOf n = [45] ++ decN (-n).toNat) := Lib.hid (by unfold textOf; rw [if_pos hneg, show n.natAbs = (-n).toNat from by omega])
      clear hl hn h0
      go_enter Try.func34, Try.ntmps34
      go_wp2_with fail
      refine HI.out.mono ?_; rintro e w1 ⟨rfl, hb⟩
      have hadd := fun (wx : World) => run_string_add_sum (P := Try.prog) wx ⟨#[45]⟩ ⟨(decN (-n).toNat).toArray⟩ (by
        have := decN_len (-n).toNat
        show 1 + (decN (-n).toNat).toArray.size ≤ _
        simp only [List.size_toArray]; omega)
      go_wp2_with fail
      go_ret
      refine ⟨?_, hb⟩
      rw [HT.out, ← ba_append]; rfl
end Go.Proofs.Ytphfnmjccdejkaa

/- The walk of NumBack: what is written is read as it was, and the other way round. Conditions: the arguments can be read. -/
namespace Go.Proofs.Ytphfnmjccdejkaa
open Go.RowKit
set_option linter.unusedSimpArgs false
set_option linter.unusedVariables false

theorem digB_isDig {d : Nat} (h : d < 10) : isDig (digB d) = true := (isDig_iff _ (digB_nat h)).2 (by omega)
theorem digB_val {d : Nat} (h : d < 10) : (digB d).toNat - 48 = d := by have := digB_nat h; omega
theorem digB_of {c : UInt8} (h : isDig c = true) : digB (c.toNat - 48) = c := by
  have h1 := (isDig_iff c rfl).1 h
  apply UInt8.toNat_inj.1
  have := digB_nat (d := c.toNat - 48) (by omega)
  omega

theorem decN_facts (f : Nat) : ∀ m, m < 10 ^ (f + 1) → f ≤ 18 → (decN m).all isDig = true ∧ valOf (decN m) = m ∧ ∃ c t, decN m = c :: t ∧ (c = 48 → m = 0 ∧ t = []) ∧ c ≠ 45 := by
  induction f with
  | zero =>
    intro m h _
    have hm : m < 10 := by simpa using h
    rw [decN_small hm]
    have hd := digB_nat hm
    refine ⟨by simp [digB_isDig hm], by simp [valOf, digB_val hm], _, _, rfl, fun hc => ?_, fun hc => ?_⟩
    · rw [hc] at hd
      have : ((48 : UInt8).toNat : Int) = 48 := rfl
      exact ⟨by omega, rfl⟩
    · rw [hc] at hd
      have : ((45 : UInt8).toNat : Int) = 45 := rfl
      omega
  | succ f ih =>
    intro m h hf
    by_cases hm : m < 10
    · exact (by
        rw [decN_small hm]
        have hd := digB_nat hm
        refine ⟨by simp [digB_isDig hm], by simp [valOf, digB_val hm], _, _, rfl, fun hc => ?_, fun hc => ?_⟩
        · rw [hc] at hd
          have : ((48 : UInt8).toNat : Int) = 48 := rfl
          exact ⟨by omega, rfl⟩
        · rw [hc] at hd
          have : ((45 : UInt8).toNat : Int) = 45 := rfl
          omega)
    · have h19 : m < 10 ^ 19 := Nat.lt_of_lt_of_le h (Nat.pow_le_pow_right (by omega) (by omega))
      obtain ⟨a, b, c, t, hc, hz, h45⟩ := ih (m / 10) (by rw [Nat.pow_succ] at h; omega) (by omega)
      rw [decN_step hm h19]
      refine ⟨by rw [List.all_append, a]; simp [digB_isDig (d := m % 10) (by omega)], by rw [valOf_snoc, b, digB_val (by omega)]; omega, c, t ++ [digB (m % 10)], by rw [hc]; rfl, fun h48 => ?_, h45⟩
      have := hz h48; omega

theorem parse_text (n : Int) (hn : In64 n) : parseOf (textOf n) = (n, 0) := by
  have hm : n.natAbs < 10 ^ (18 + 1) := by unfold In64 at hn; omega
  obtain ⟨a, b, c, t, hc, hz, h45⟩ := decN_facts 18 n.natAbs hm (by omega)
  unfold textOf parseOf
  by_cases h : n < 0
  · rw [if_pos h]
    rw [if_pos (by simp)]
    show parseS true (decN n.natAbs) = _
    have hs : ¬ ((decN n.natAbs).head? = some 48 ∧ (1 < (decN n.natAbs).length ∨ true = true)) := by
      rintro ⟨h1, _⟩
      rw [hc] at h1; simp at h1
      have := hz h1; omega
    have he : sgn true (valOf (decN n.natAbs)) = n := by rw [b]; simp only [sgn, if_true]; omega
    rw [parseS_val a (by rw [hc]; simp) hs, he, (chk_in hn).1, (chk_in hn).2]
  · rw [if_neg h, List.nil_append]
    rw [if_neg (by rw [hc]; simpa using h45)]
    have hs : ¬ ((decN n.natAbs).head? = some 48 ∧ (1 < (decN n.natAbs).length ∨ false = true)) := by
      rintro ⟨h1, h2 | h2⟩
      · rw [hc] at h1 h2; simp at h1 h2
        have := (hz h1).2; rw [this] at h2; simp at h2
      · cases h2
    have he : sgn false (valOf (decN n.natAbs)) = n := by rw [b]; simp only [sgn, Bool.false_eq_true, if_false]; omega
    rw [parseS_val a (by rw [hc]; simp) hs, he, (chk_in hn).1, (chk_in hn).2]

theorem valOf_pos {c : UInt8} {t : List UInt8} (hc : isDig c = true) (h : c ≠ 48) : 0 < valOf (c :: t) := by
  have h1 := valOf_mono (c :: t) 1
  have h2 : valOf ((c :: t).take 1) = c.toNat - 48 := by simp [valOf]
  have h3 := (isDig_iff c rfl).1 hc
  have h4 : c.toNat ≠ 48 := fun h5 => h (UInt8.toNat_inj.1 (by rw [h5]; rfl))
  omega

theorem text_digits (n : Nat) : ∀ l : List UInt8, l.length = n → l.all isDig = true → l ≠ [] → ¬ (l.head? = some 48 ∧ 1 < l.length) → valOf l < 10 ^ 19 → decN (valOf l) = l := by
  induction n with
  | zero => intro l h _ h0; exact absurd (List.length_eq_zero_iff.1 h) h0
  | succ n ih =>
    intro l hl ha h0 hz hv
    obtain ⟨t, c, rfl⟩ : ∃ t c, l = t ++ [c] := ⟨l.dropLast, l.getLast h0, (List.dropLast_concat_getLast h0).symm⟩
    rw [List.all_append, Bool.and_eq_true] at ha
    have hc : isDig c = true := by simpa using ha.2
    have hcb := (isDig_iff c rfl).1 hc
    rw [valOf_snoc] at hv ⊢
    cases t with
    | nil =>
      simp only [valOf, List.foldl_nil, Nat.zero_mul, Nat.zero_add, List.nil_append]
      rw [decN_small (by omega), digB_of hc]
    | cons d t =>
      have hd : isDig d = true := by have := ha.1; simp only [List.all_cons, Bool.and_eq_true] at this; exact this.1
      have hd48 : d ≠ 48 := fun h => hz ⟨by rw [h]; rfl, by simp⟩
      have hp := valOf_pos (t := t) hd hd48
      have he : (valOf (d :: t) * 10 + (c.toNat - 48)) / 10 = valOf (d :: t) := by omega
      have he2 : (valOf (d :: t) * 10 + (c.toNat - 48)) % 10 = c.toNat - 48 := by omega
      rw [decN_step (by omega) hv, he, he2, digB_of hc, ih (d :: t) (by simpa using hl) ha.1 (by simp) (by rintro ⟨h, _⟩; simp at h; exact hd48 h) (by omega)]

theorem chkE_cases (n : Int) : (In64 n ∧ chkE n = 0 ∧ chkV n = n) ∨ (chkE n = 4 ∧ chkV n = 0) := by
  rcases chk_cases n with h | h
  · exact .inl ⟨h.1, h.2.2, h.2.1⟩
  · exact .inr ⟨h.2.2, h.2.1⟩

theorem parseS_cases (b : Bool) (l : List UInt8) : (∃ e, parseS b l = (0, e) ∧ e ≠ 0) ∨ (∃ n, parseS b l = (n, 0) ∧ In64 n ∧ n = sgn b (valOf l) ∧ decN (valOf l) = l ∧ (b = true → n < 0) ∧ (b = false → l.head? ≠ some 45)) := by
  by_cases h : l = [] ∨ (l.head? = some 48 ∧ (1 < l.length ∨ b = true)) ∨ l.all isDig = false
  · left; unfold parseS; rw [if_pos h]; exact ⟨1, rfl, by decide⟩
  · have h0 : l ≠ [] := fun e => h (.inl e)
    have hz : ¬ (l.head? = some 48 ∧ (1 < l.length ∨ b = true)) := fun e => h (.inr (.inl e))
    have ha : l.all isDig = true := by cases hq : l.all isDig with | true => rfl | false => exact absurd (.inr (.inr hq)) h
    rw [parseS_val ha h0 hz]
    rcases chkE_cases (sgn b (valOf l)) with hk | hk
    · right
      rw [hk.2.1, hk.2.2]
      refine ⟨_, rfl, hk.1, rfl, ?_, ?_, ?_⟩
      · refine text_digits _ l rfl ha h0 (fun e => hz ⟨e.1, .inl e.2⟩) ?_
        have := hk.1
        unfold In64 sgn at this
        cases b <;> simp only [Bool.false_eq_true, if_false, if_true] at this <;> omega
      · rintro rfl
        cases l with
        | nil => exact absurd rfl h0
        | cons c t =>
          have hc : isDig c = true := by simp only [List.all_cons, Bool.and_eq_true] at ha; exact ha.1
          have := valOf_pos (t := t) hc (fun e => hz ⟨by rw [e]; rfl, .inr rfl⟩)
          simp only [sgn, if_true]; omega
      · intro _ h45
        cases l with
        | nil => exact absurd rfl h0
        | cons c t =>
          have hc : isDig c = true := by simp only [List.all_cons, Bool.and_eq_true] at ha; exact ha.1
          simp at h45
          rw [h45] at hc; exact absurd hc (by decide)
    · left; rw [hk.1, hk.2]; exact ⟨4, rfl, by decide⟩

theorem parse_cases (l : List UInt8) : (∃ e, parseOf l = (0, e) ∧ e ≠ 0) ∨ (∃ n, parseOf l = (n, 0) ∧ In64 n ∧ textOf n = l) := by
  unfold parseOf
  by_cases h : l.head? = some 45
  · rw [if_pos h]
    cases l with
    | nil => simp at h
    | cons c t =>
      simp at h; subst h
      rcases parseS_cases true t with hk | ⟨n, h1, h2, h3, h4, h5, _⟩
      · exact .inl hk
      · refine .inr ⟨n, h1, h2, ?_⟩
        unfold textOf
        rw [if_pos (h5 rfl), h3]
        rw [show (sgn true (valOf t)).natAbs = valOf t from by simp only [sgn, if_true]; omega, h4]; rfl
  · rw [if_neg h]
    rcases parseS_cases false l with hk | ⟨n, h1, h2, h3, h4, _, h6⟩
    · exact .inl hk
    · refine .inr ⟨n, h1, h2, ?_⟩
      unfold textOf
      rw [if_neg (by rw [h3]; simp only [sgn, Bool.false_eq_true, if_false]; omega), h3]
      rw [show (sgn false (valOf l)).natAbs = valOf l from by simp only [sgn, Bool.false_eq_true, if_false]; omega, h4]; rfl
end Go.Proofs.Ytphfnmjccdejkaa

/- Layer 10: what a scan makes, in plain lists. Conditions: none. -/
namespace Go.Proofs.Ytphfnmjccdejkaa
open Go.RowKit
set_option linter.unusedVariables false

/-- How many bytes at the head are of a kind. -/
def spanB (f : Nat → Bool) : List UInt8 → Nat
  | [] => 0
  | c :: r => if f c.toNat then spanB f r + 1 else 0
theorem spanB_le (f : Nat → Bool) : ∀ l, spanB f l ≤ l.length
  | [] => Nat.le_refl _
  | c :: r => by unfold spanB; have := spanB_le f r; split <;> simp <;> omega
theorem spanB_pos {f : Nat → Bool} {c : UInt8} (r : List UInt8) (h : f c.toNat = true) : spanB f (c :: r) = spanB f r + 1 := by rw [spanB, if_pos h]
theorem spanB_neg {f : Nat → Bool} {c : UInt8} (r : List UInt8) (h : f c.toNat = false) : spanB f (c :: r) = 0 := by rw [spanB, if_neg (by simp [h])]
/-- n bytes are of the kind, and the next is not or there is none: n is the span. -/
theorem spanB_is (f : Nat → Bool) : ∀ (l : List UInt8) (n : Nat), n ≤ l.length → (∀ k, k < n → f (nb l k) = true) → (n < l.length → f (nb l n) = false) → spanB f l = n
  | [], n, h, _, _ => by simp at h; subst h; rfl
  | c :: r, 0, _, _, h2 => spanB_neg r (by have := h2 (by simp); simpa [nb] using this)
  | c :: r, n + 1, h, h1, h2 => by
    rw [spanB_pos r (by have := h1 0 (by omega); simpa [nb] using this)]
    rw [spanB_is f r n (by simpa using h) (fun k hk => by have := h1 (k + 1) (by omega); simpa [nb] using this) (fun hn => by have := h2 (by simpa using hn); simpa [nb] using this)]
def blankB (c : Nat) : Bool := decide (c = 32 ∨ c = 9 ∨ c = 10 ∨ c = 13)
/-- A token: kind, text, number. -/
structure Tok where
  k : Nat
  t : List UInt8
  n : Int
inductive One where
  | bad (e : Int)
  | tok (t : Tok) (len : Nat)
/-- The token at the head of a text that is not empty. -/
def oneL (r : List UInt8) : One :=
  if letter (nb r 0) then
    (if 64 < spanB nchar r then .bad 1
     else if wordB (r.take (spanB nchar r)) then .tok ⟨2, largeL (r.take (spanB nchar r)), 0⟩ (spanB nchar r)
     else .tok ⟨1, r.take (spanB nchar r), 0⟩ (spanB nchar r))
  else if digt (nb r 0) then
    (if (parseOf (r.take (spanB digt r))).2 = 0 then .tok ⟨3, [], (parseOf (r.take (spanB digt r))).1⟩ (spanB digt r) else .bad (parseOf (r.take (spanB digt r))).2)
  else if nb r 0 = 39 then (match qd (r.drop 1) with | none => .bad 1 | some (x, rest) => .tok ⟨4, x, 0⟩ (r.length - rest.length))
  else if signL r = [] then .bad 1 else .tok ⟨5, signL r, 0⟩ (signL r).length
end Go.Proofs.Ytphfnmjccdejkaa

/- Layer 10: what a scan of a whole text makes, in plain lists. Conditions: none. -/
namespace Go.Proofs.Ytphfnmjccdejkaa
open Go.RowKit
set_option linter.unusedVariables false

/-- A fault and its place, or the tokens, each with its place. -/
inductive ScanR where
  | bad (place : Nat) (e : Int)
  | ok (l : List (Tok × Nat))
def scanN : Nat → List UInt8 → Nat → List (Tok × Nat) → ScanR
  | 0, _, p, _ => .bad p 8
  | f + 1, r, p, acc =>
    if r.drop (spanB blankB r) = [] then
      (if 4096 ≤ acc.length then .bad (p + spanB blankB r) 8 else .ok (acc ++ [(⟨6, [], 0⟩, p + spanB blankB r)]))
    else match oneL (r.drop (spanB blankB r)) with
      | .bad e => .bad (p + spanB blankB r) e
      | .tok t n => if 4096 ≤ acc.length then .bad (p + spanB blankB r) 8
        else scanN f ((r.drop (spanB blankB r)).drop n) (p + spanB blankB r + n) (acc ++ [(t, p + spanB blankB r)])
def scanL (s : List UInt8) : ScanR := if 16384 < s.length then .bad 0 8 else scanN (s.length + 1) s 0 []
theorem signL_pos {r : List UInt8} (h : signL r ≠ []) : 1 ≤ (signL r).length := by
  cases hs : signL r with
  | nil => exact absurd hs h
  | cons c l => simp
theorem signL_le (r : List UInt8) : (signL r).length ≤ r.length := by
  unfold signL
  split
  · simp; omega
  · split
    · simp; omega
    · simp
/-- A token has bytes, and no more than there are. -/
theorem oneL_len {r : List UInt8} {t : Tok} {n : Nat} (hr : r ≠ []) (h : oneL r = .tok t n) (hq : ∀ x rest, qd (r.drop 1) = some (x, rest) → rest.length < r.length) : 1 ≤ n ∧ n ≤ r.length := by
  obtain ⟨c, l, rfl⟩ : ∃ c l, r = c :: l := by cases r with | nil => exact absurd rfl hr | cons c l => exact ⟨c, l, rfl⟩
  have hc : nb (c :: l) 0 = c.toNat := by simp [nb]
  unfold oneL at h
  rw [hc] at h
  by_cases a : letter c.toNat = true
  · have hn : nchar c.toNat = true := by unfold nchar; rw [a]; rfl
    rw [if_pos a] at h
    have hp := spanB_pos l hn
    have hle := spanB_le nchar (c :: l)
    split at h
    · cases h
    · split at h <;> (cases h; exact ⟨by omega, hle⟩)
  · rw [if_neg a] at h
    by_cases b : digt c.toNat = true
    · rw [if_pos b] at h
      have hp := spanB_pos l b
      have hle := spanB_le digt (c :: l)
      split at h
      · cases h; exact ⟨by omega, hle⟩
      · cases h
    · rw [if_neg b] at h
      split at h
      · split at h
        · cases h
        · rename_i x rest hqd
          have := hq x rest hqd
          cases h
          omega
      · split at h
        · cases h
        · rename_i hne
          cases h
          exact ⟨signL_pos hne, signL_le _⟩
end Go.Proofs.Ytphfnmjccdejkaa

/- Layer 10: the contract of the reference's one where a letter stands. Written by genL13.py. Conditions: the place lies in the text; the text is no longer than 2^40. -/
namespace Go.Proofs.Ytphfnmjccdejkaa
open Go.RowKit Go.Shelf
set_option linter.unusedSimpArgs false
set_option linter.unusedVariables false

theorem bcell {W w1 : World} (hb : Below W.heap.size W w1) : (∀ b o, b < W.heap.size → w1.cell? ⟨b, o, none⟩ = W.cell? ⟨b, o, none⟩) ∧ (∀ b o, b < W.heap.size → w1.frozen? ⟨b, o, none⟩ = W.frozen? ⟨b, o, none⟩) :=
  ⟨fun b o h => hb.cell (p := ⟨b, o, none⟩) h, fun b o h => hb.frozen (p := ⟨b, o, none⟩) h⟩
/-- From p on to j all bytes are of the kind. -/
def SpanTo (f : Nat → Bool) (l : List UInt8) (p j : Nat) : Prop := p ≤ j ∧ j ≤ l.length ∧ ∀ k, p ≤ k → k < j → f (nb l k) = true
theorem spanTo_one {f : Nat → Bool} {l : List UInt8} {p : Nat} (hp : p < l.length) (h : f (nb l p) = true) : SpanTo f l p (p + 1) :=
  ⟨by omega, by omega, fun k h1 h2 => by obtain rfl : k = p := by omega
                                         exact h⟩
theorem spanTo_zero {f : Nat → Bool} {l : List UInt8} {p : Nat} (hp : p ≤ l.length) : SpanTo f l p p := ⟨by omega, hp, fun k h1 h2 => by omega⟩
theorem spanTo_step {f : Nat → Bool} {l : List UInt8} {p j : Nat} (h : SpanTo f l p j) (hj : j < l.length) (hf : f (nb l j) = true) : SpanTo f l p (j + 1) :=
  ⟨by have := h.1; omega, by omega, fun k h1 h2 => by
    by_cases e : k = j
    · subst e; exact hf
    · exact h.2.2 k h1 (by omega)⟩
theorem spanTo_end {f : Nat → Bool} {l : List UInt8} {p j : Nat} (h : SpanTo f l p j) (he : j < l.length → f (nb l j) = false) : spanB f (l.drop p) = j - p := by
  have h1 := h.1
  have h2 := h.2.1
  refine spanB_is f _ _ (by rw [List.length_drop]; omega) (fun k hk => ?_) (fun hn => ?_)
  · rw [nb_drop]; exact h.2.2 _ (by omega) (by omega)
  · rw [List.length_drop] at hn
    rw [nb_drop, show p + (j - p) = j from by omega]; exact he (by omega)
theorem extract_drop (s : ByteArray) (p j : Nat) : (s.extract p j).data.toList = (s.data.toList.drop p).take (j - p) := by
  rw [Lib.extract_data]
def tokV (t : Tok) (p : Nat) : Value := .agg #[.int .i64 t.k, .string (strOf t.t), .int .i64 t.n, .int .i64 p]
/-- What one answers of what stands at the place p. -/
def OneE (r : One) (p : Nat) (e : Ending) : Prop :=
  match r with
  | .bad x => ∃ (k : Int) (t : ByteArray) (n : Int), e = .returned (.tuple #[.agg #[.int .i64 k, .string t, .int .i64 n, .int .i64 p], .int .i64 0, .int .i64 x])
  | .tok t n => e = .returned (.tuple #[tokV t p, .int .i64 ((p + n : Nat) : Int), .int .i64 0])
def OneP (r : One) (p : Nat) (w : World) (e : Ending) (w' : World) : Prop := OneE r p e ∧ Below w.heap.size w w'
theorem setCell_twice (w : World) (a : Addr) (x y : Value) : (w.setCell a x).setCell a y = w.setCell a y := by
  simp only [World.setCell]
  congr 1
  refine Array.ext (by simp) (fun i h1 h2 => ?_)
  have hi : i < w.heap.size := by simpa using h2
  simp only [Array.getElem_modify]
  split
  · cases w.heap[i]'hi with
    | cells c t f => cases a.spot <;> simp [Array.setIfInBounds_setIfInBounds]
    | _ => rfl
  · rfl
theorem setCell_swap (w : World) (b i j : Nat) (x y : Value) (h : i ≠ j) : (w.setCell ⟨b, i, none⟩ x).setCell ⟨b, j, none⟩ y = (w.setCell ⟨b, j, none⟩ y).setCell ⟨b, i, none⟩ x := by
  simp only [World.setCell]
  congr 1
  refine Array.ext (by simp) (fun k h1 h2 => ?_)
  have hk : k < w.heap.size := by simpa using h2
  simp only [Array.getElem_modify]
  split
  · cases w.heap[k]'hk with
    | cells c t f => simp [Array.setIfInBounds_comm _ _ h]
    | _ => rfl
  · rfl
theorem setCell_010 (w : World) (b : Nat) (x y z : Value) : ((w.setCell ⟨b, 0, none⟩ x).setCell ⟨b, 1, none⟩ y).setCell ⟨b, 0, none⟩ z = (w.setCell ⟨b, 0, none⟩ z).setCell ⟨b, 1, none⟩ y := by
  rw [setCell_swap _ b 0 1 _ _ (by decide), setCell_twice, setCell_swap _ b 1 0 _ _ (by decide)]
/-- The two new structs of one: the result's and t's. -/
def two0 (w : World) (p : Nat) : World := (w.alloc (.cells #[.int .i64 0, .string { data := #[] }, .int .i64 0, .int .i64 0] 33)).alloc (.cells #[.int .i64 0, .string { data := #[] }, .int .i64 0, .int .i64 p] 33)
theorem two0_below (w : World) (p : Nat) : Below w.heap.size w (two0 w p) := ((Below.refl _ _).alloc (Nat.le_refl _) _).alloc (by simp) _
theorem two0_a (w : World) (p : Nat) : Block (two0 w p) w.heap.size [.int .i64 0, .string { data := #[] }, .int .i64 0, .int .i64 0] 33 := (Block.new w [.int .i64 0, .string { data := #[] }, .int .i64 0, .int .i64 0] 33).alloc _
theorem two0_b (w : World) (p : Nat) : Block (two0 w p) (w.heap.size + 1) [.int .i64 0, .string { data := #[] }, .int .i64 0, .int .i64 p] 33 := by
  have h := Block.new (w.alloc (.cells #[.int .i64 0, .string { data := #[] }, .int .i64 0, .int .i64 0] 33)) [.int .i64 0, .string { data := #[] }, .int .i64 0, .int .i64 p] 33
  rw [show (w.alloc (.cells #[.int .i64 0, .string { data := #[] }, .int .i64 0, .int .i64 0] 33)).heap.size = w.heap.size + 1 from by simp] at h
  exact h
theorem two0_size (w : World) (p : Nat) : (two0 w p).heap.size = w.heap.size + 2 := by simp [two0]
/-- What is known of both behind a call that made memory. -/
theorem two0_call {w w1 : World} {p : Nat} (hb : Below (two0 w p).heap.size (two0 w p) w1) :
    Below w.heap.size w w1 ∧ w.heap.size + 1 < w1.heap.size ∧
    (w1.cell? ⟨w.heap.size, 0, none⟩ = some (.int .i64 0) ∧ w1.cell? ⟨w.heap.size, 1, none⟩ = some (.string { data := #[] }) ∧ w1.cell? ⟨w.heap.size, 2, none⟩ = some (.int .i64 0) ∧ w1.cell? ⟨w.heap.size, 3, none⟩ = some (.int .i64 0)) ∧
    (w1.cell? ⟨w.heap.size + 1, 0, none⟩ = some (.int .i64 0) ∧ w1.cell? ⟨w.heap.size + 1, 1, none⟩ = some (.string { data := #[] }) ∧ w1.cell? ⟨w.heap.size + 1, 2, none⟩ = some (.int .i64 0) ∧ w1.cell? ⟨w.heap.size + 1, 3, none⟩ = some (.int .i64 p)) ∧
    (∀ o, w1.frozen? ⟨w.heap.size, o, none⟩ = false) ∧ ∀ o, w1.frozen? ⟨w.heap.size + 1, o, none⟩ = false := by
  have hz := two0_size w p
  have h := hb.size
  have ha := (two0_a w p).below hb (by omega)
  have hc := (two0_b w p).below hb (by omega)
  exact ⟨(two0_below w p).trans (hb.mono (by omega)), by omega, ⟨ha.cell rfl, ha.cell rfl, ha.cell rfl, ha.cell rfl⟩, ⟨hc.cell rfl, hc.cell rfl, hc.cell rfl, hc.cell rfl⟩, ha.free, hc.free⟩
theorem oneL_bad_name {r : List UInt8} (h : letter (nb r 0) = true) (h2 : 64 < spanB nchar r) : oneL r = .bad 1 := by
  unfold oneL; rw [if_pos h, if_pos h2]
theorem oneL_word {r : List UInt8} (h : letter (nb r 0) = true) (h2 : ¬ 64 < spanB nchar r) (h3 : wordB (r.take (spanB nchar r)) = true) : oneL r = .tok ⟨2, largeL (r.take (spanB nchar r)), 0⟩ (spanB nchar r) := by
  unfold oneL; rw [if_pos h, if_neg h2, if_pos h3]
theorem oneL_name {r : List UInt8} (h : letter (nb r 0) = true) (h2 : ¬ 64 < spanB nchar r) (h3 : wordB (r.take (spanB nchar r)) = false) : oneL r = .tok ⟨1, r.take (spanB nchar r), 0⟩ (spanB nchar r) := by
  unfold oneL; rw [if_pos h, if_neg h2, if_neg (by rw [h3]; decide)]
set_option maxRecDepth 1000000 in
set_option maxHeartbeats 4000000 in
theorem rone_letter (s : ByteArray) (p : Nat) (w : World) (hs : s.size ≤ 1099511627776) (hp : p < s.size) (h : letter s[p].toNat = true) :
    Calls Try.prog 28 #[.string s, .int .i64 p] w (OneP (oneL (s.data.toList.drop p)) p w) := by
  have HLN : Hid (s.data.toList.length = s.size) := Lib.hid (by simp)
  obtain ⟨R, hR⟩ : ∃ R, oneL (s.data.toList.drop p) = R := ⟨_, rfl⟩
  have HR := Lib.hid hR
  rw [hR]
  clear hR
  have hpp : (p : Int) < s.size := by omega
  have p0 : (0 : Int) ≤ (p : Int) := by omega
  have hc0 : s[p].toNat < 256 := by have := s[p].toNat_lt; omega
  have L0 := Lib.hid (fun w => letter_any s[p].toNat hc0 w)
  rw [h] at L0
  have HLB : Hid (letter (nb s.data.toList p) = true) := Lib.hid (by rw [← nb_get s p hp]; exact h)
  clear h
  have HLD : Hid (letter (nb (s.data.toList.drop p) 0) = true) := Lib.hid (by rw [nb_drop]; exact HLB.out)
  have HB0 := Lib.hid (two0_below w p)
  go_enter Try.func28, Try.ntmps28
  go_wp2_with fail
  refine (L0.out _).mono ?_
  rintro e w8 ⟨rfl, rfl⟩
  go_wp2_with fail
  go_loop [9] (fun k => ∃ j : Nat, k = .int .i64 j ∧ Hid (SpanTo nchar s.data.toList p j) ∧ p < j) (fun k => s.size - (intOf k).toNat)
  case atStart => exact ⟨p + 1, by go_num, Lib.hid (spanTo_one (by rw [HLN.out]; exact hp) (letter_nchar HLB.out)), by omega⟩
  case round =>
    obtain ⟨j, rfl, hd, hpj⟩ := hrel
    have hjl : j ≤ s.size := by have := hd.out.2.1; rw [HLN.out] at this; exact this
    by_cases hq : j < s.size
    · have hq' : (j : Int) < s.size := by omega
      have hc : s[j].toNat < 256 := by have := s[j].toNat_lt; omega
      have X : Hid (s[j].toNat = nb s.data.toList j) := Lib.hid (nb_get s j hq)
      have HLi := Lib.hid (fun w => letter_any s[j].toNat hc w)
      have HDi := Lib.hid (fun w => digit_any s[j].toNat hc w)
      cases hl : letter s[j].toNat with
      | true =>
        rw [hl] at HLi
        have HU := Lib.hid (spanTo_step hd.out (by rw [HLN.out]; exact hq) (by rw [← X.out]; exact letter_nchar hl))
        clear hl
        go_wp2_with fail
        refine (HLi.out _).mono ?_
        rintro e w9 ⟨rfl, rfl⟩
        go_wp2_with fail
        go_round
        case rel => exact ⟨j + 1, by go_num, HU, by omega⟩
        case measure => simp [intOf]; omega
      | false =>
        rw [hl] at HLi
        cases hdg : digt s[j].toNat with
        | true =>
          rw [hdg] at HDi
          have HU := Lib.hid (spanTo_step hd.out (by rw [HLN.out]; exact hq) (by rw [← X.out]; exact digt_nchar hdg))
          clear hl hdg
          go_wp2_with fail
          refine (HLi.out _).mono ?_
          rintro e w9 ⟨rfl, rfl⟩
          go_wp2_with fail
          refine (HDi.out _).mono ?_
          rintro e w9 ⟨rfl, rfl⟩
          go_wp2_with fail
          go_round
          case rel => exact ⟨j + 1, by go_num, HU, by omega⟩
          case measure => simp [intOf]; omega
        | false =>
          rw [hdg] at HDi
          have HSP := Lib.hid (spanTo_end hd.out (fun _ => by rw [← X.out]; exact nchar_no hl hdg))
          clear hl hdg
          by_cases h64 : 64 < j - p
          · have h64' : (64 : Int) < (j : Int) - p := by omega
            have HRR : Hid (R = .bad 1) := Lib.hid (by rw [← HR.out]; exact oneL_bad_name HLD.out (by rw [HSP.out]; exact h64))
            go_wp2_with fail
            refine (HLi.out _).mono ?_
            rintro e w9 ⟨rfl, rfl⟩
            go_wp2_with fail
            refine (HDi.out _).mono ?_
            rintro e w9 ⟨rfl, rfl⟩
            go_wp2_with fail
            refine bodyPost_ret (v := .tuple #[.agg #[.int .i64 0, .string ⟨#[]⟩, .int .i64 0, .int .i64 p], .int .i64 0, .int .i64 1]) (by simp [results, Try.results28, go_sem]) rfl ⟨?_, ?_⟩
            · rw [HRR.out]; exact ⟨_, _, _, rfl⟩
            · exact ((Below.refl _ _).alloc (Nat.le_refl _) _).alloc (by simp) _
          · have h64' : ¬ (64 : Int) < (j : Int) - p := by omega
            have HN64 : Hid (¬ 64 < spanB nchar (s.data.toList.drop p)) := Lib.hid (by rw [HSP.out]; exact h64)
            have HX : Hid ((s.extract p j).data.toList = (s.data.toList.drop p).take (spanB nchar (s.data.toList.drop p))) := Lib.hid (by rw [HSP.out]; exact extract_drop s p j)
            have hxz : (s.extract p j).size ≤ 1099511627776 := by simp; omega
            have hpj' : (p : Int) ≤ j := by omega
            have HW := Lib.hid (fun w => rword_any (s.extract p j) w hxz)
            unfold wordR at HW
            rw [HX.out] at HW
            cases hw : wordB ((s.data.toList.drop p).take (spanB nchar (s.data.toList.drop p))) with
            | true =>
              have HRR : Hid (R = .tok ⟨2, largeL ((s.data.toList.drop p).take (spanB nchar (s.data.toList.drop p))), 0⟩ (j - p)) := Lib.hid (by rw [← HR.out, oneL_word HLD.out HN64.out hw, HSP.out])
              rw [hw] at HW
              clear hw
              generalize largeL ((s.data.toList.drop p).take (spanB nchar (s.data.toList.drop p))) = lw at *
              have HWW : Hid (∀ w, Calls Try.prog 11 #[.string (s.extract p j)] w fun e w' => e = .returned (.tuple #[.string (strOf lw), .bool true]) ∧ Below w.heap.size w w') := Lib.hid (fun w => HW.out w)
              clear HW
              go_wp2_with fail
              refine (HLi.out _).mono ?_
              rintro e w9 ⟨rfl, rfl⟩
              go_wp2_with fail
              refine (HDi.out _).mono ?_
              rintro e w9 ⟨rfl, rfl⟩
              go_wp2_with fail
              refine (HWW.out _).mono ?_
              rintro e w10 ⟨rfl, hb10⟩
              obtain ⟨hbx, hsz, ⟨a0, a1, a2, a3⟩, ⟨b0, b1, b2, b3⟩, fa, fb⟩ := two0_call (w := w) (p := p) hb10
              have HB10 := Lib.hid hbx
              clear hb10 hbx
              have Q1 := fun (W : World) (a : Addr) (x y : Value) => setCell_twice W a x y
              have Q2 := fun (W : World) (b : Nat) (x y z : Value) => setCell_010 W b x y z
              go_wp2_with fail
              refine bodyPost_ret (v := .tuple #[.agg #[.int .i64 2, .string (strOf lw), .int .i64 0, .int .i64 p], .int .i64 j, .int .i64 0]) (by simp [results, Try.results28, go_sem, a0, a1, a2, a3]) rfl ⟨?_, ?_⟩
              · rw [HRR.out]
                show _ = Ending.returned (.tuple #[tokV _ p, .int .i64 ((p + (j - p) : Nat) : Int), .int .i64 0])
                rw [show p + (j - p) = j from by omega]
                rfl
              · exact ((((((HB10.out.setCell (by simp) _).setCell (by simp) _).setCell (by simp) _).setCell (by simp) _).setCell (by simp) _).setCell (by simp) _)
            | false =>
              have HRR : Hid (R = .tok ⟨1, (s.data.toList.drop p).take (spanB nchar (s.data.toList.drop p)), 0⟩ (j - p)) := Lib.hid (by rw [← HR.out, oneL_name HLD.out HN64.out hw, HSP.out])
              have HXX : Hid (strOf ((s.data.toList.drop p).take (spanB nchar (s.data.toList.drop p))) = s.extract p j) := Lib.hid (by rw [← HX.out]; exact strOf_toList _)
              rw [hw] at HW
              clear hw
              have HWW : Hid (∀ w, Calls Try.prog 11 #[.string (s.extract p j)] w fun e w' => e = .returned (.tuple #[.string ⟨#[]⟩, .bool false]) ∧ Below w.heap.size w w') := Lib.hid (fun w => HW.out w)
              clear HW
              go_wp2_with fail
              refine (HLi.out _).mono ?_
              rintro e w9 ⟨rfl, rfl⟩
              go_wp2_with fail
              refine (HDi.out _).mono ?_
              rintro e w9 ⟨rfl, rfl⟩
              go_wp2_with fail
              refine (HWW.out _).mono ?_
              rintro e w10 ⟨rfl, hb10⟩
              obtain ⟨hbx, hsz, ⟨a0, a1, a2, a3⟩, ⟨b0, b1, b2, b3⟩, fa, fb⟩ := two0_call (w := w) (p := p) hb10
              have HB10 := Lib.hid hbx
              clear hb10 hbx
              go_wp2_with fail
              refine bodyPost_ret (v := .tuple #[.agg #[.int .i64 1, .string (s.extract p j), .int .i64 0, .int .i64 p], .int .i64 j, .int .i64 0]) (by simp [results, Try.results28, go_sem, a0, a1, a2, a3]) rfl ⟨?_, ?_⟩
              · rw [HRR.out]
                show _ = Ending.returned (.tuple #[tokV _ p, .int .i64 ((p + (j - p) : Nat) : Int), .int .i64 0])
                rw [show p + (j - p) = j from by omega]
                unfold tokV
                rw [HXX.out]
                rfl
              · exact ((((((HB10.out.setCell (by simp) _).setCell (by simp) _).setCell (by simp) _).setCell (by simp) _).setCell (by simp) _).setCell (by simp) _)
    · have hq' : ¬ (j : Int) < s.size := by omega
      have HSP := Lib.hid (spanTo_end hd.out (fun h => by rw [HLN.out] at h; omega))
      by_cases h64 : 64 < j - p
      · have h64' : (64 : Int) < (j : Int) - p := by omega
        have HRR : Hid (R = .bad 1) := Lib.hid (by rw [← HR.out]; exact oneL_bad_name HLD.out (by rw [HSP.out]; exact h64))
        go_wp2_with fail
        refine bodyPost_ret (v := .tuple #[.agg #[.int .i64 0, .string ⟨#[]⟩, .int .i64 0, .int .i64 p], .int .i64 0, .int .i64 1]) (by simp [results, Try.results28, go_sem]) rfl ⟨?_, ?_⟩
        · rw [HRR.out]; exact ⟨_, _, _, rfl⟩
        · exact ((Below.refl _ _).alloc (Nat.le_refl _) _).alloc (by simp) _
      · have h64' : ¬ (64 : Int) < (j : Int) - p := by omega
        have HN64 : Hid (¬ 64 < spanB nchar (s.data.toList.drop p)) := Lib.hid (by rw [HSP.out]; exact h64)
        have HX : Hid ((s.extract p j).data.toList = (s.data.toList.drop p).take (spanB nchar (s.data.toList.drop p))) := Lib.hid (by rw [HSP.out]; exact extract_drop s p j)
        have hxz : (s.extract p j).size ≤ 1099511627776 := by simp; omega
        have hpj' : (p : Int) ≤ j := by omega
        have HW := Lib.hid (fun w => rword_any (s.extract p j) w hxz)
        unfold wordR at HW
        rw [HX.out] at HW
        cases hw : wordB ((s.data.toList.drop p).take (spanB nchar (s.data.toList.drop p))) with
        | true =>
          have HRR : Hid (R = .tok ⟨2, largeL ((s.data.toList.drop p).take (spanB nchar (s.data.toList.drop p))), 0⟩ (j - p)) := Lib.hid (by rw [← HR.out, oneL_word HLD.out HN64.out hw, HSP.out])
          rw [hw] at HW
          clear hw
          generalize largeL ((s.data.toList.drop p).take (spanB nchar (s.data.toList.drop p))) = lw at *
          have HWW : Hid (∀ w, Calls Try.prog 11 #[.string (s.extract p j)] w fun e w' => e = .returned (.tuple #[.string (strOf lw), .bool true]) ∧ Below w.heap.size w w') := Lib.hid (fun w => HW.out w)
          clear HW
          go_wp2_with fail
          refine (HWW.out _).mono ?_
          rintro e w10 ⟨rfl, hb10⟩
          obtain ⟨hbx, hsz, ⟨a0, a1, a2, a3⟩, ⟨b0, b1, b2, b3⟩, fa, fb⟩ := two0_call (w := w) (p := p) hb10
          have HB10 := Lib.hid hbx
          clear hb10 hbx
          have Q1 := fun (W : World) (a : Addr) (x y : Value) => setCell_twice W a x y
          have Q2 := fun (W : World) (b : Nat) (x y z : Value) => setCell_010 W b x y z
          go_wp2_with fail
          refine bodyPost_ret (v := .tuple #[.agg #[.int .i64 2, .string (strOf lw), .int .i64 0, .int .i64 p], .int .i64 j, .int .i64 0]) (by simp [results, Try.results28, go_sem, a0, a1, a2, a3]) rfl ⟨?_, ?_⟩
          · rw [HRR.out]
            show _ = Ending.returned (.tuple #[tokV _ p, .int .i64 ((p + (j - p) : Nat) : Int), .int .i64 0])
            rw [show p + (j - p) = j from by omega]
            rfl
          · exact ((((((HB10.out.setCell (by simp) _).setCell (by simp) _).setCell (by simp) _).setCell (by simp) _).setCell (by simp) _).setCell (by simp) _)
        | false =>
          have HRR : Hid (R = .tok ⟨1, (s.data.toList.drop p).take (spanB nchar (s.data.toList.drop p)), 0⟩ (j - p)) := Lib.hid (by rw [← HR.out, oneL_name HLD.out HN64.out hw, HSP.out])
          have HXX : Hid (strOf ((s.data.toList.drop p).take (spanB nchar (s.data.toList.drop p))) = s.extract p j) := Lib.hid (by rw [← HX.out]; exact strOf_toList _)
          rw [hw] at HW
          clear hw
          have HWW : Hid (∀ w, Calls Try.prog 11 #[.string (s.extract p j)] w fun e w' => e = .returned (.tuple #[.string ⟨#[]⟩, .bool false]) ∧ Below w.heap.size w w') := Lib.hid (fun w => HW.out w)
          clear HW
          go_wp2_with fail
          refine (HWW.out _).mono ?_
          rintro e w10 ⟨rfl, hb10⟩
          obtain ⟨hbx, hsz, ⟨a0, a1, a2, a3⟩, ⟨b0, b1, b2, b3⟩, fa, fb⟩ := two0_call (w := w) (p := p) hb10
          have HB10 := Lib.hid hbx
          clear hb10 hbx
          go_wp2_with fail
          refine bodyPost_ret (v := .tuple #[.agg #[.int .i64 1, .string (s.extract p j), .int .i64 0, .int .i64 p], .int .i64 j, .int .i64 0]) (by simp [results, Try.results28, go_sem, a0, a1, a2, a3]) rfl ⟨?_, ?_⟩
          · rw [HRR.out]
            show _ = Ending.returned (.tuple #[tokV _ p, .int .i64 ((p + (j - p) : Nat) : Int), .int .i64 0])
            rw [show p + (j - p) = j from by omega]
            unfold tokV
            rw [HXX.out]
            rfl
          · exact ((((((HB10.out.setCell (by simp) _).setCell (by simp) _).setCell (by simp) _).setCell (by simp) _).setCell (by simp) _).setCell (by simp) _)
end Go.Proofs.Ytphfnmjccdejkaa

/- Layer 5: the contract of the reference's Quoted. Written by genS16.py. Conditions: the text is no longer than 2^40. -/
namespace Go.Proofs.Ytphfnmjccdejkaa
open Go.RowKit Go.Shelf
set_option linter.unusedSimpArgs false
set_option linter.unusedVariables false

set_option maxRecDepth 1000000 in
set_option maxHeartbeats 4000000 in
theorem quoted_any (s : ByteArray) (p : Nat) (w : World) (hs : s.size ≤ 1099511627776) (hpb : p ≤ 1099511627776) :
    Calls Try.prog 15 #[.string s, .int .i64 p] w fun e w' => e = .returned (qdV s.size (qdS s.data.toList p)) ∧ Below w.heap.size w w' := by
  have HL : Hid (s.data.toList.length = s.size) := Lib.hid (by simp)
  obtain ⟨R, hR⟩ : ∃ R, qdV s.size (qdS s.data.toList p) = R := ⟨_, rfl⟩
  have HR := Lib.hid hR
  rw [hR]
  clear hR
  by_cases h2 : p < s.size
  rotate_left
  · have q2 : ¬ (p : Int) < s.size := by omega
    have HN : Hid (R = qdV s.size none) := Lib.hid (by rw [← HR.out]; unfold qdS; rw [HL.out, if_neg (by omega)])
    obtain rfl := HN.out
    go_enter Try.func15, Try.ntmps15
    go_wp2_with fail
    go_ret3
    exact ⟨rfl, Below.refl _ _⟩
  have q2 : (p : Int) < s.size := by omega
  have X0 : Hid (s[p].toNat = nb s.data.toList p) := Lib.hid (nb_get s p h2)
  by_cases a0 : s[p].toNat = 39
  rotate_left
  · have q0 : (((s[p].toNat : Nat) : Int) != 39) = true := by simp; omega
    have HN : Hid (R = qdV s.size none) := Lib.hid (by rw [← HR.out]; unfold qdS; rw [HL.out, if_neg (by have := X0.out; omega)])
    obtain rfl := HN.out
    go_enter Try.func15, Try.ntmps15
    go_wp2_with fail
    go_ret3
    exact ⟨rfl, Below.refl _ _⟩
  have q0 : (((s[p].toNat : Nat) : Int) != 39) = false := by simp; omega
  have HRb : Hid (R = qdV s.size (qd (s.data.toList.drop (p + 1)))) := Lib.hid (by
    rw [← HR.out]
    unfold qdS
    rw [HL.out, if_pos ⟨h2, by rw [← X0.out]; exact a0⟩])
  clear a0
  have q2d : decide (s.size ≤ p) = false := by simp; omega
  go_enter Try.func15, Try.ntmps15
  go_wp2_with fail
  obtain ⟨i0, hi, hz0, hz1, hz2⟩ := info_parts Try.info5
  have I0 := Lib.hid hi
  have I1 := Lib.hid hz0
  have I2 := Lib.hid hz1
  have I3 := Lib.hid hz2
  clear hi hz0 hz1 hz2 q0
  go_loopw [7, 8] (fun v k wr => ∃ (i : Nat) (d : List UInt8), k = .int .i64 i ∧ wr.ownsRow w.heap.size 5 1 v d.length (Lib.byteCells d) ∧ Below w.heap.size w wr ∧ Hid (DoneD s.data.toList (p + 1) i d)) (fun _ k _ => s.size - (intOf k).toNat)
  case atStart => exact ⟨p + 1, [], by go_num, World.ownsRow_nil _ _ _ _, Below.refl _ _, Lib.hid (doneD_zero _ _ (by rw [HL.out]; omega))⟩
  case round =>
    obtain ⟨i, d, rfl, hown, hbw, hd⟩ := hrel
    have hszr := hbw.size
    have HBW := Lib.hid hbw
    have HO := Lib.hid hown
    clear hbw hown
    have hil : i ≤ s.size := by have := hd.out.2.1; rw [HL.out] at this; exact this
    have hdl : d.length ≤ i := hd.out.2.2.1
    have HR1 := Lib.hid (fun k hk => (HO.out.lt k hk).1)
    by_cases hp : i < s.size
    · have hp' : (i : Int) < s.size := by omega
      have HLD : Hid ((s.data.toList.drop i).length = s.size - i) := Lib.hid (by rw [List.length_drop, HL.out])
      have HX0 : Hid (s[i].toNat = nb (s.data.toList.drop i) 0) := Lib.hid (by rw [nb_drop, Nat.add_zero]; exact nb_get s i hp)
      have hc : s[i].toNat < 256 := by have := s[i].toNat_lt; omega
      have UQ := Lib.hid (doneD_quote hd.out (by rw [HL.out]; exact hp))
      have UB := Lib.hid (doneD_bad hd.out (by rw [HL.out]; exact hp))
      have US := Lib.hid (doneD_sign hd.out (by rw [HL.out]; exact hp))
      have UN := Lib.hid (doneD_escN hd.out (by rw [HL.out]; exact hp))
      have UE := Lib.hid (@doneD_escS _ _ _ _ hd.out (by rw [HL.out]; exact hp))
      have HS := Lib.hid (sign_any s i wr (by omega) (by omega))
      have hsl := sg_le (l := s.data.toList.drop i)
      rw [HLD.out] at hsl
      have HSX := Lib.hid (extract_strOf s i (sg (s.data.toList.drop i)) (by omega))
      have HBD : Hid (bad (s.data.toList.drop i) ↔ (sg (s.data.toList.drop i) = 0 ∨ s[i].toNat < 32 ∨ s[i].toNat = 127)) := Lib.hid (by rw [HX0.out]; exact Iff.rfl)
      by_cases a39 : s[i].toNat = 39
      · have q39 : (((s[i].toNat : Nat) : Int) == 39) = true := by simp; omega
        have HU := Lib.hid (UQ.out (by rw [← HX0.out]; exact a39))
        have hcv := conv_own HO.out
        have hrl : ((s.size - (s.data.toList.drop (i + 1)).length : Nat) : Int) = i + 1 := by rw [List.length_drop, HL.out]; omega
        have HRL := Lib.hid hrl
        clear a39 hrl
        go_wp2_with fail
        refine HS.out.mono ?_
        rintro e w8 ⟨rfl, rfl⟩
        go_wp2_with fail
        go_ret3
        exact ⟨by rw [HRb.out, HU.out]; unfold qdV; dsimp only; rw [HRL.out]; rfl, HBW.out⟩
      have q39 : (((s[i].toNat : Nat) : Int) == 39) = false := by simp; omega
      have n39 : nb (s.data.toList.drop i) 0 ≠ 39 := by rw [← HX0.out]; exact a39
      have N39 := Lib.hid n39
      clear n39
      by_cases a1 : sg (s.data.toList.drop i) = 0
      · have q1 : ((sg (s.data.toList.drop i) : Int) == 0) = true := by simp; omega
        have HU := Lib.hid (UB.out N39.out (HBD.out.2 (.inl a1)))
        clear a1 hsl HSX
        go_wp2_with fail
        refine HS.out.mono ?_
        rintro e w8 ⟨rfl, rfl⟩
        go_wp2_with fail
        go_ret3
        exact ⟨by rw [HRb.out, HU.out]; rfl, HBW.out⟩
      have q1 : ((sg (s.data.toList.drop i) : Int) == 0) = false := by simp; omega
      by_cases a2 : s[i].toNat < 32
      · have q3 : (s[i].toNat : Int) < 32 := by omega
        have HU := Lib.hid (UB.out N39.out (HBD.out.2 (.inr (.inl a2))))
        go_wp2_with fail
        refine HS.out.mono ?_
        rintro e w8 ⟨rfl, rfl⟩
        go_wp2_with fail
        go_ret3
        exact ⟨by rw [HRb.out, HU.out]; rfl, HBW.out⟩
      have q3 : ¬ (s[i].toNat : Int) < 32 := by omega
      have q3d : decide ((s[i].toNat : Int) < 32) = false := by simp; omega
      by_cases a3 : s[i].toNat = 127
      · have q4 : (((s[i].toNat : Nat) : Int) == 127) = true := by simp; omega
        have HU := Lib.hid (UB.out N39.out (HBD.out.2 (.inr (.inr a3))))
        clear a3
        go_wp2_with fail
        refine HS.out.mono ?_
        rintro e w8 ⟨rfl, rfl⟩
        go_wp2_with fail
        go_ret3
        exact ⟨by rw [HRb.out, HU.out]; rfl, HBW.out⟩
      have q4 : (((s[i].toNat : Nat) : Int) == 127) = false := by simp; omega
      have NB := Lib.hid (show ¬ bad (s.data.toList.drop i) from fun h => by have := HBD.out.1 h; omega)
      by_cases a92 : s[i].toNat = 92
      rotate_left
      · have q5 : (((s[i].toNat : Nat) : Int) != 92) = true := by simp; omega
        have HU := Lib.hid (US.out N39.out NB.out (by rw [← HX0.out]; exact a92))
        have hsz3 : (s.extract i (i + sg (s.data.toList.drop i))).size ≤ 4 := by rw [HSX.out, strOf_size, List.length_take]; omega
        have HCC : Hid (Lib.strCells (s.extract i (i + sg (s.data.toList.drop i))) = Lib.byteCells ((s.data.toList.drop i).take (sg (s.data.toList.drop i)))) := Lib.hid (by rw [HSX.out]; rfl)
        have HCL : Hid ((s.extract i (i + sg (s.data.toList.drop i))).size = ((s.data.toList.drop i).take (sg (s.data.toList.drop i))).length) := Lib.hid (by rw [HSX.out, strOf_size])
        have HML : Hid (min (i + sg (s.data.toList.drop i)) s.size - i = ((s.data.toList.drop i).take (sg (s.data.toList.drop i))).length) := Lib.hid (by rw [List.length_take, HLD.out]; omega)
        generalize (s.data.toList.drop i).take (sg (s.data.toList.drop i)) = S at *
        generalize sg (s.data.toList.drop i) = m at *
        have p1 : (0 : Int) ≤ i := by omega
        have p2 : (i : Int) + m ≤ s.size := by omega
        go_wp2_with fail
        refine HS.out.mono ?_
        rintro e w8 ⟨rfl, rfl⟩
        go_wp2_with (at_builtin; refine Lib.wpList_append_own_string _ rfl _ _ 37 9 rfl w.heap.size 5 i0 Try.underlying37 Try.underlying9 I0.out I1.out I2.out I3.out u7 d.length (Lib.byteCells d) rfl HO.out _ rfl (by unfold maxLen; omega) (by omega) (by omega) ?_)
        intro v1 w1 hown1 hgrow _
        rw [HCC.out, HML.out] at hown1
        have HO1 : Hid (w1.ownsRow w.heap.size 5 1 v1 (d ++ S).length (Lib.byteCells (d ++ S))) := Lib.hid (by rw [List.length_append]; simpa [Lib.byteCells] using hown1)
        have HB1 : Hid (Below w.heap.size w w1) := Lib.hid (Below.grown HBW.out hgrow (by omega) (fun k hk => HR1.out _ hk))
        clear hown1 hgrow
        go_wp2_with fail
        go_roundw
        case rel => exact ⟨i + m, d ++ S, by go_num, HO1.out, HB1.out, HU⟩
        case measure => simp [intOf]; omega
      have q5 : (((s[i].toNat : Nat) : Int) != 92) = false := by simp; omega
      have A92 : Hid (nb (s.data.toList.drop i) 0 = 92) := Lib.hid (by rw [← HX0.out]; exact a92)
      clear a92
      by_cases b1 : i + 1 < s.size
      rotate_left
      · have q6 : ¬ (i : Int) + 1 < s.size := by omega
        have HU := Lib.hid (UN.out N39.out NB.out A92.out (escV_short (by rw [HLD.out]; omega)))
        go_wp2_with fail
        refine HS.out.mono ?_
        rintro e w8 ⟨rfl, rfl⟩
        go_wp2_with fail
        go_ret3
        exact ⟨by rw [HRb.out, HU.out]; rfl, HBW.out⟩
      have q6 : (i : Int) + 1 < s.size := by omega
      have HX1 : Hid (s[i + 1].toNat = nb (s.data.toList.drop i) 1) := Lib.hid (by rw [nb_drop]; exact nb_get s (i + 1) b1)
      have hc1 : s[i + 1].toNat < 256 := by have := s[i + 1].toNat_lt; omega
      have NL := Lib.hid (show ¬ (s.data.toList.drop i).length < 2 from by rw [HLD.out]; omega)
      by_cases c92 : s[i + 1].toNat = 92
      · have r92 : (((s[i + 1].toNat : Nat) : Int) == 92) = true := by simp; omega
        have HU := Lib.hid (UE.out N39.out NB.out A92.out (escV_q NL.out (by rw [← HX1.out]; omega)))
        have HXV : Hid (((UInt8.ofNat (nb (s.data.toList.drop i) 1)).toNat : Int) = s[i + 1].toNat) := Lib.hid (by rw [← HX1.out]; simp)
        generalize UInt8.ofNat (nb (s.data.toList.drop i) 1) = x at *
        clear c92
        go_wp2_with fail
        refine HS.out.mono ?_
        rintro e w8 ⟨rfl, rfl⟩
        go_wp2_with (at_builtin; refine wpList_append_own _ rfl _ _ 37 rfl w.heap.size 5 i0 (.int .u8 0) 1 1 Try.underlying37 I0.out I1.out I2.out I3.out rfl (by omega) u7 d.length (Lib.byteCells d) rfl (HO.out.alloc _) ⟨wr.heap.size, 0, none⟩ 1 1 [.int .u8 s[i + 1].toNat] rfl rfl (World.news_of_block (cs := #[.int .u8 s[i + 1].toNat]) (t := 5) (fr := (0, 0)) (heap_alloc_new _ _)) (by simp [Value.oneCell']) (by unfold maxLen; omega) (by omega) (by simp; omega) ?_)
        intro v1 w1 hown1 hgrow _
        have HO1 : Hid (w1.ownsRow w.heap.size 5 1 v1 (d ++ [x]).length (Lib.byteCells (d ++ [x]))) := Lib.hid (by rw [byteCells_snoc, HXV.out]; simpa using hown1)
        have HB1 : Hid (Below w.heap.size w w1) := Lib.hid (Below.grown (HBW.out.alloc (by omega) _) hgrow (by simp; omega) (fun k hk => HR1.out _ hk))
        clear hown1 hgrow
        go_wp2_with fail
        go_roundw
        case rel => exact ⟨i + 2, d ++ [x], by go_num, HO1.out, HB1.out, HU⟩
        case measure => simp [intOf]; omega
      have r92 : (((s[i + 1].toNat : Nat) : Int) == 92) = false := by simp; omega
      by_cases c39 : s[i + 1].toNat = 39
      · have r39 : (((s[i + 1].toNat : Nat) : Int) == 39) = true := by simp; omega
        have HU := Lib.hid (UE.out N39.out NB.out A92.out (escV_q NL.out (by rw [← HX1.out]; omega)))
        have HXV : Hid (((UInt8.ofNat (nb (s.data.toList.drop i) 1)).toNat : Int) = s[i + 1].toNat) := Lib.hid (by rw [← HX1.out]; simp)
        generalize UInt8.ofNat (nb (s.data.toList.drop i) 1) = x at *
        clear c39
        go_wp2_with fail
        refine HS.out.mono ?_
        rintro e w8 ⟨rfl, rfl⟩
        go_wp2_with (at_builtin; refine wpList_append_own _ rfl _ _ 37 rfl w.heap.size 5 i0 (.int .u8 0) 1 1 Try.underlying37 I0.out I1.out I2.out I3.out rfl (by omega) u7 d.length (Lib.byteCells d) rfl (HO.out.alloc _) ⟨wr.heap.size, 0, none⟩ 1 1 [.int .u8 s[i + 1].toNat] rfl rfl (World.news_of_block (cs := #[.int .u8 s[i + 1].toNat]) (t := 5) (fr := (0, 0)) (heap_alloc_new _ _)) (by simp [Value.oneCell']) (by unfold maxLen; omega) (by omega) (by simp; omega) ?_)
        intro v1 w1 hown1 hgrow _
        have HO1 : Hid (w1.ownsRow w.heap.size 5 1 v1 (d ++ [x]).length (Lib.byteCells (d ++ [x]))) := Lib.hid (by rw [byteCells_snoc, HXV.out]; simpa using hown1)
        have HB1 : Hid (Below w.heap.size w w1) := Lib.hid (Below.grown (HBW.out.alloc (by omega) _) hgrow (by simp; omega) (fun k hk => HR1.out _ hk))
        clear hown1 hgrow
        go_wp2_with fail
        go_roundw
        case rel => exact ⟨i + 2, d ++ [x], by go_num, HO1.out, HB1.out, HU⟩
        case measure => simp [intOf]; omega
      have r39 : (((s[i + 1].toNat : Nat) : Int) == 39) = false := by simp; omega
      by_cases c110 : s[i + 1].toNat = 110
      · have r110 : (((s[i + 1].toNat : Nat) : Int) == 110) = true := by simp; omega
        have HU := Lib.hid (UE.out N39.out NB.out A92.out (escV_n NL.out (by rw [← HX1.out]; omega)))
        have HXV : Hid ((((10 : UInt8)).toNat : Int) = 10) := Lib.hid rfl
        generalize (10 : UInt8) = x at HU HXV
        clear c110
        go_wp2_with fail
        refine HS.out.mono ?_
        rintro e w8 ⟨rfl, rfl⟩
        go_wp2_with (at_builtin; refine wpList_append_own _ rfl _ _ 37 rfl w.heap.size 5 i0 (.int .u8 0) 1 1 Try.underlying37 I0.out I1.out I2.out I3.out rfl (by omega) u7 d.length (Lib.byteCells d) rfl (HO.out.alloc _) ⟨wr.heap.size, 0, none⟩ 1 1 [.int .u8 10] rfl rfl (World.news_of_block (cs := #[.int .u8 10]) (t := 5) (fr := (0, 0)) (heap_alloc_new _ _)) (by simp [Value.oneCell']) (by unfold maxLen; omega) (by omega) (by simp; omega) ?_)
        intro v1 w1 hown1 hgrow _
        have HO1 : Hid (w1.ownsRow w.heap.size 5 1 v1 (d ++ [x]).length (Lib.byteCells (d ++ [x]))) := Lib.hid (by rw [byteCells_snoc, HXV.out]; simpa using hown1)
        have HB1 : Hid (Below w.heap.size w w1) := Lib.hid (Below.grown (HBW.out.alloc (by omega) _) hgrow (by simp; omega) (fun k hk => HR1.out _ hk))
        clear hown1 hgrow
        go_wp2_with fail
        go_roundw
        case rel => exact ⟨i + 2, d ++ [x], by go_num, HO1.out, HB1.out, HU⟩
        case measure => simp [intOf]; omega
      have r110 : (((s[i + 1].toNat : Nat) : Int) == 110) = false := by simp; omega
      by_cases c116 : s[i + 1].toNat = 116
      · have r116 : (((s[i + 1].toNat : Nat) : Int) == 116) = true := by simp; omega
        have HU := Lib.hid (UE.out N39.out NB.out A92.out (escV_t NL.out (by rw [← HX1.out]; omega)))
        have HXV : Hid ((((9 : UInt8)).toNat : Int) = 9) := Lib.hid rfl
        generalize (9 : UInt8) = x at HU HXV
        clear c116
        go_wp2_with fail
        refine HS.out.mono ?_
        rintro e w8 ⟨rfl, rfl⟩
        go_wp2_with (at_builtin; refine wpList_append_own _ rfl _ _ 37 rfl w.heap.size 5 i0 (.int .u8 0) 1 1 Try.underlying37 I0.out I1.out I2.out I3.out rfl (by omega) u7 d.length (Lib.byteCells d) rfl (HO.out.alloc _) ⟨wr.heap.size, 0, none⟩ 1 1 [.int .u8 9] rfl rfl (World.news_of_block (cs := #[.int .u8 9]) (t := 5) (fr := (0, 0)) (heap_alloc_new _ _)) (by simp [Value.oneCell']) (by unfold maxLen; omega) (by omega) (by simp; omega) ?_)
        intro v1 w1 hown1 hgrow _
        have HO1 : Hid (w1.ownsRow w.heap.size 5 1 v1 (d ++ [x]).length (Lib.byteCells (d ++ [x]))) := Lib.hid (by rw [byteCells_snoc, HXV.out]; simpa using hown1)
        have HB1 : Hid (Below w.heap.size w w1) := Lib.hid (Below.grown (HBW.out.alloc (by omega) _) hgrow (by simp; omega) (fun k hk => HR1.out _ hk))
        clear hown1 hgrow
        go_wp2_with fail
        go_roundw
        case rel => exact ⟨i + 2, d ++ [x], by go_num, HO1.out, HB1.out, HU⟩
        case measure => simp [intOf]; omega
      have r116 : (((s[i + 1].toNat : Nat) : Int) == 116) = false := by simp; omega
      by_cases c114 : s[i + 1].toNat = 114
      · have r114 : (((s[i + 1].toNat : Nat) : Int) == 114) = true := by simp; omega
        have HU := Lib.hid (UE.out N39.out NB.out A92.out (escV_r NL.out (by rw [← HX1.out]; omega)))
        have HXV : Hid ((((13 : UInt8)).toNat : Int) = 13) := Lib.hid rfl
        generalize (13 : UInt8) = x at HU HXV
        clear c114
        go_wp2_with fail
        refine HS.out.mono ?_
        rintro e w8 ⟨rfl, rfl⟩
        go_wp2_with (at_builtin; refine wpList_append_own _ rfl _ _ 37 rfl w.heap.size 5 i0 (.int .u8 0) 1 1 Try.underlying37 I0.out I1.out I2.out I3.out rfl (by omega) u7 d.length (Lib.byteCells d) rfl (HO.out.alloc _) ⟨wr.heap.size, 0, none⟩ 1 1 [.int .u8 13] rfl rfl (World.news_of_block (cs := #[.int .u8 13]) (t := 5) (fr := (0, 0)) (heap_alloc_new _ _)) (by simp [Value.oneCell']) (by unfold maxLen; omega) (by omega) (by simp; omega) ?_)
        intro v1 w1 hown1 hgrow _
        have HO1 : Hid (w1.ownsRow w.heap.size 5 1 v1 (d ++ [x]).length (Lib.byteCells (d ++ [x]))) := Lib.hid (by rw [byteCells_snoc, HXV.out]; simpa using hown1)
        have HB1 : Hid (Below w.heap.size w w1) := Lib.hid (Below.grown (HBW.out.alloc (by omega) _) hgrow (by simp; omega) (fun k hk => HR1.out _ hk))
        clear hown1 hgrow
        go_wp2_with fail
        go_roundw
        case rel => exact ⟨i + 2, d ++ [x], by go_num, HO1.out, HB1.out, HU⟩
        case measure => simp [intOf]; omega
      have r114 : (((s[i + 1].toNat : Nat) : Int) == 114) = false := by simp; omega
      have ENO := Lib.hid (fun h6 => UN.out N39.out NB.out A92.out (escV_no NL.out (by rw [← HX1.out]; exact c92) (by rw [← HX1.out]; exact c39) (by rw [← HX1.out]; exact c110) (by rw [← HX1.out]; exact c116) (by rw [← HX1.out]; exact c114) h6))
      by_cases c120 : s[i + 1].toNat = 120
      rotate_left
      · have r120 : (((s[i + 1].toNat : Nat) : Int) == 120) = false := by simp; omega
        have HU := Lib.hid (ENO.out (.inr (.inl (by rw [← HX1.out]; exact c120))))
        go_wp2_with fail
        refine HS.out.mono ?_
        rintro e w8 ⟨rfl, rfl⟩
        go_wp2_with fail
        go_ret3
        exact ⟨by rw [HRb.out, HU.out]; rfl, HBW.out⟩
      have r120 : (((s[i + 1].toNat : Nat) : Int) == 120) = true := by simp; omega
      have C120 : Hid (nb (s.data.toList.drop i) 1 = 120) := Lib.hid (by rw [← HX1.out]; exact c120)
      clear c120
      by_cases b3 : i + 3 < s.size
      rotate_left
      · have q7 : ¬ (i : Int) + 3 < s.size := by omega
        have HU := Lib.hid (ENO.out (.inl (by rw [HLD.out]; omega)))
        go_wp2_with fail
        refine HS.out.mono ?_
        rintro e w8 ⟨rfl, rfl⟩
        go_wp2_with fail
        go_ret3
        exact ⟨by rw [HRb.out, HU.out]; rfl, HBW.out⟩
      have q7 : (i : Int) + 3 < s.size := by omega
      have b2 : i + 2 < s.size := by omega
      have q7d : decide ((s.size : Int) ≤ i + 3) = false := by simp; omega
      have HX2 : Hid (s[i + 2].toNat = nb (s.data.toList.drop i) 2) := Lib.hid (by rw [nb_drop]; exact nb_get s (i + 2) b2)
      have HX3 : Hid (s[i + 3].toNat = nb (s.data.toList.drop i) 3) := Lib.hid (by rw [nb_drop]; exact nb_get s (i + 3) b3)
      have hc2 : s[i + 2].toNat < 256 := by have := s[i + 2].toNat_lt; omega
      have hc3 : s[i + 3].toNat < 256 := by have := s[i + 3].toNat_lt; omega
      have l2 := hexv_lt s[i + 2].toNat
      have l3 := hexv_lt s[i + 3].toNat
      by_cases n2 : hexv s[i + 2].toNat < 0
      · have HU := Lib.hid (ENO.out (.inr (.inr (.inl (by rw [← HX2.out]; exact n2)))))
        go_wp2_with fail
        refine HS.out.mono ?_
        rintro e w8 ⟨rfl, rfl⟩
        go_wp2_with fail
        refine (hexv_any _ (by assumption) _).mono ?_
        rintro e w8 ⟨rfl, rfl⟩
        go_wp2_with fail
        go_ret3
        exact ⟨by rw [HRb.out, HU.out]; rfl, HBW.out⟩
      have n2' : 0 ≤ hexv s[i + 2].toNat := by omega
      have n2d : decide (hexv s[i + 2].toNat < 0) = false := by simp; omega
      by_cases n3 : hexv s[i + 3].toNat < 0
      · have HU := Lib.hid (ENO.out (.inr (.inr (.inr (by rw [← HX3.out]; exact n3)))))
        go_wp2_with fail
        refine HS.out.mono ?_
        rintro e w8 ⟨rfl, rfl⟩
        go_wp2_with fail
        refine (hexv_any _ (by assumption) _).mono ?_
        rintro e w8 ⟨rfl, rfl⟩
        go_wp2_with fail
        refine (hexv_any _ (by assumption) _).mono ?_
        rintro e w8 ⟨rfl, rfl⟩
        go_wp2_with fail
        go_ret3
        exact ⟨by rw [HRb.out, HU.out]; rfl, HBW.out⟩
      have n3' : 0 ≤ hexv s[i + 3].toNat := by omega
      have n3d : decide (hexv s[i + 3].toNat < 0) = false := by simp; omega
      have HU := Lib.hid (UE.out N39.out NB.out A92.out (escV_x (by rw [HLD.out]; omega) C120.out (by rw [← HX2.out]; exact n2) (by rw [← HX3.out]; exact n3)))
      rw [← HX2.out, ← HX3.out] at HU
      have HXV : Hid (((UInt8.ofNat (hexv s[i + 2].toNat * (16 : Int) + hexv s[i + 3].toNat).toNat).toNat : Int) = hexv s[i + 2].toNat * 16 + hexv s[i + 3].toNat) := Lib.hid (by simp; omega)
      generalize UInt8.ofNat (hexv s[i + 2].toNat * (16 : Int) + hexv s[i + 3].toNat).toNat = x at *
      go_wp2_with fail
      refine HS.out.mono ?_
      rintro e w8 ⟨rfl, rfl⟩
      go_wp2_with fail
      refine (hexv_any _ (by assumption) _).mono ?_
      rintro e w8 ⟨rfl, rfl⟩
      go_wp2_with fail
      refine (hexv_any _ (by assumption) _).mono ?_
      rintro e w8 ⟨rfl, rfl⟩
      go_wp2_with fail
      have y1 : (0 : Int) ≤ (i : Int) + 2 := by omega
      have y2 : (i : Int) + 2 < s.size := by omega
      have y3 : (0 : Int) ≤ (i : Int) + 3 := by omega
      have y4 : ((i : Int) + 2).toNat = i + 2 := by omega
      have y5 : ((i : Int) + 3).toNat = i + 3 := by omega
      have z1 : IntKind.i64.wrap ((i : Int) + 2 + 1) = (i : Int) + 3 := by rw [IntWalk.i64_in _ (by omega)]; omega
      have z2 : IntKind.i64.wrap (hexv s[i + 2].toNat * 16) = hexv s[i + 2].toNat * 16 := IntWalk.i64_in _ (by omega)
      have z3 : IntKind.i64.wrap (hexv s[i + 2].toNat * 16 + hexv s[i + 3].toNat) = hexv s[i + 2].toNat * 16 + hexv s[i + 3].toNat := IntWalk.i64_in _ (by omega)
      have z4 : IntKind.u8.wrap (hexv s[i + 2].toNat * 16 + hexv s[i + 3].toNat) = hexv s[i + 2].toNat * 16 + hexv s[i + 3].toNat := IntWalk.u8_in _ (by omega)
      have b1' : i + 1 < s.size := b1
      go_region_law (first | (refine step_append_lies _ (by rfl) _ _ _ (by rfl) w.heap.size 5 i0 (.int .u8 0) 1 1 Try.underlying37 I0.out I1.out I2.out I3.out rfl (by omega) u7 d.length (Lib.byteCells d) (by rfl) ((HO.out.alloc _)) ⟨wr.heap.size, 0, none⟩ 1 1 [_] (by rfl) (by rfl) (World.news_of_block (cs := #[_]) (t := 5) (fr := (0, 0)) (heap_alloc_new wr _)) (by simp [Value.oneCell']) (by omega) (by unfold maxLen; omega) (by omega) (by simp; omega) (wr.heap.size + 1) (by simp) ?_; intro gg cap2 w1 hown1 hgrow hat hlt1) | (go_simp; refine (hexv_any _ (by assumption) _).mono ?_; rintro e w8 ⟨rfl, rfl⟩))
      all_goals
        have HO1 : Hid (w1.ownsRow w.heap.size 5 1 (.slice (some ⟨gg, 0, none⟩) (d.length + 1) cap2) (d ++ [x]).length (Lib.byteCells (d ++ [x]))) := Lib.hid (by rw [byteCells_snoc, HXV.out]; simpa using hown1)
        have HB1 : Hid (Below w.heap.size w w1) := Lib.hid (Below.grown (((HBW.out.alloc (by omega) _)).drew) hgrow (by simp; omega) (fun k hk => HR1.out _ hk))
        clear hown1 hgrow hat hlt1
        go_wp2_with fail
        go_roundw
        case rel => exact ⟨i + 4, d ++ [x], by go_num, HO1.out, HB1.out, HU⟩
        case measure => simp [intOf]; omega
    · have hp' : ¬ (i : Int) < s.size := by omega
      have HU := Lib.hid (doneD_end hd.out (by rw [HL.out]; omega))
      go_wp2_with fail
      go_ret3
      exact ⟨by rw [HRb.out, HU.out]; rfl, HBW.out⟩
end Go.Proofs.Ytphfnmjccdejkaa

/- Layer 10: the contract of the reference's one. Written by genL14.py. Conditions: the place lies in the text; the text is no longer than 2^40. -/
namespace Go.Proofs.Ytphfnmjccdejkaa
open Go.RowKit Go.Shelf
set_option linter.unusedSimpArgs false
set_option linter.unusedVariables false

theorem oneL_num {r : List UInt8} (h : letter (nb r 0) = false) (h2 : digt (nb r 0) = true) (h3 : (parseOf (r.take (spanB digt r))).2 = 0) : oneL r = .tok ⟨3, [], (parseOf (r.take (spanB digt r))).1⟩ (spanB digt r) := by
  unfold oneL; rw [h, if_neg (by decide), h2, if_pos rfl, if_pos h3]
theorem oneL_numbad {r : List UInt8} (h : letter (nb r 0) = false) (h2 : digt (nb r 0) = true) (h3 : ¬ (parseOf (r.take (spanB digt r))).2 = 0) : oneL r = .bad (parseOf (r.take (spanB digt r))).2 := by
  unfold oneL; rw [h, if_neg (by decide), h2, if_pos rfl, if_neg h3]
theorem oneL_q {r : List UInt8} (h : nb r 0 = 39) : oneL r = match qd (r.drop 1) with | none => .bad 1 | some (x, rest) => .tok ⟨4, x, 0⟩ (r.length - rest.length) := by
  unfold oneL; rw [h, if_neg (by decide), if_neg (by decide), if_pos rfl]
  all_goals (generalize qd (r.drop 1) = o; cases o <;> rfl)
theorem oneL_sign {r : List UInt8} (h : letter (nb r 0) = false) (h2 : digt (nb r 0) = false) (h3 : ¬ nb r 0 = 39) : oneL r = if signL r = [] then .bad 1 else .tok ⟨5, signL r, 0⟩ (signL r).length := by
  unfold oneL; rw [h, if_neg (by decide), h2, if_neg (by decide), if_neg h3]
set_option maxRecDepth 1000000 in
set_option maxHeartbeats 4000000 in
theorem rone_digit (s : ByteArray) (p : Nat) (w : World) (hs : s.size ≤ 1099511627776) (hp : p < s.size) (h : letter s[p].toNat = false) (h2 : digt s[p].toNat = true) :
    Calls Try.prog 28 #[.string s, .int .i64 p] w (OneP (oneL (s.data.toList.drop p)) p w) := by
  have HLN : Hid (s.data.toList.length = s.size) := Lib.hid (by simp)
  obtain ⟨R, hR⟩ : ∃ R, oneL (s.data.toList.drop p) = R := ⟨_, rfl⟩
  have HR := Lib.hid hR
  rw [hR]
  clear hR
  have hpp : (p : Int) < s.size := by omega
  have p0 : (0 : Int) ≤ (p : Int) := by omega
  have hc0 : s[p].toNat < 256 := by have := s[p].toNat_lt; omega
  have HN0 : Hid (nb (s.data.toList.drop p) 0 = s[p].toNat) := Lib.hid (by rw [nb_drop, nb_get s p hp]; rfl)
  have L0 := Lib.hid (fun w => letter_any s[p].toNat hc0 w)
  have D0 := Lib.hid (fun w => digit_any s[p].toNat hc0 w)
  rw [h] at L0
  rw [h2] at D0
  have HLB : Hid (letter (nb (s.data.toList.drop p) 0) = false) := Lib.hid (by rw [HN0.out]; exact h)
  have HDB : Hid (digt (nb (s.data.toList.drop p) 0) = true) := Lib.hid (by rw [HN0.out]; exact h2)
  clear h h2
  go_enter Try.func28, Try.ntmps28
  go_wp2_with fail
  refine (L0.out _).mono ?_
  rintro e w8 ⟨rfl, rfl⟩
  go_wp2_with fail
  refine (D0.out _).mono ?_
  rintro e w8 ⟨rfl, rfl⟩
  go_wp2_with fail
  go_loop [9] (fun k => ∃ j : Nat, k = .int .i64 j ∧ Hid (SpanTo digt s.data.toList p j) ∧ p < j) (fun k => s.size - (intOf k).toNat)
  case atStart => exact ⟨p + 1, by go_num, Lib.hid (spanTo_one (by rw [HLN.out]; exact hp) (by have := HDB.out; rw [nb_drop] at this; exact this)), by omega⟩
  case round =>
    obtain ⟨j, rfl, hd, hpj⟩ := hrel
    have hjl : j ≤ s.size := by have := hd.out.2.1; rw [HLN.out] at this; exact this
    by_cases hq : j < s.size
    · have hq' : (j : Int) < s.size := by omega
      have hc : s[j].toNat < 256 := by have := s[j].toNat_lt; omega
      have X : Hid (s[j].toNat = nb s.data.toList j) := Lib.hid (nb_get s j hq)
      have HDi := Lib.hid (fun w => digit_any s[j].toNat hc w)
      cases hdg : digt s[j].toNat with
      | true =>
        rw [hdg] at HDi
        have HU := Lib.hid (spanTo_step hd.out (by rw [HLN.out]; exact hq) (by rw [← X.out]; exact hdg))
        clear hdg
        go_wp2_with fail
        refine (HDi.out _).mono ?_
        rintro e w9 ⟨rfl, rfl⟩
        go_wp2_with fail
        go_round
        case rel => exact ⟨j + 1, by go_num, HU, by omega⟩
        case measure => simp [intOf]; omega
      | false =>
        rw [hdg] at HDi
        have HSP := Lib.hid (spanTo_end hd.out (fun _ => by rw [← X.out]; exact hdg))
        clear hdg
        have HX : Hid ((s.extract p j).data.toList = (s.data.toList.drop p).take (spanB digt (s.data.toList.drop p))) := Lib.hid (by rw [HSP.out]; exact extract_drop s p j)
        have hxz : (s.extract p j).size ≤ 9223372036854775807 := by simp; omega
        have hpj' : (p : Int) ≤ j := by omega
        have HW := Lib.hid (fun w => rparse_any (s.extract p j) w hxz)
        rw [HX.out] at HW
        obtain ⟨n, f, hnf⟩ : ∃ n f, parseOf ((s.data.toList.drop p).take (spanB digt (s.data.toList.drop p))) = (n, f) := ⟨_, _, rfl⟩
        rw [hnf] at HW
        have HNF := Lib.hid hnf
        clear hnf hxz
        have HWW : Hid (∀ w, Calls Try.prog 43 #[.string (s.extract p j)] w fun e w' => e = .returned (.tuple #[.int .i64 n, .int .i64 f]) ∧ w = w') := Lib.hid (fun w => HW.out w)
        clear HW
        by_cases hf : f = 0
        · subst hf
          have HRR : Hid (R = .tok ⟨3, [], n⟩ (j - p)) := Lib.hid (by rw [← HR.out, oneL_num HLB.out HDB.out (by rw [HNF.out]), HNF.out, HSP.out])
          go_wp2_with fail
          refine (HDi.out _).mono ?_
          rintro e w9 ⟨rfl, rfl⟩
          go_wp2_with fail
          refine (HWW.out _).mono ?_
          rintro e w10 ⟨rfl, rfl⟩
          go_wp2_with fail
          refine bodyPost_ret (v := .tuple #[.agg #[.int .i64 3, .string ⟨#[]⟩, .int .i64 n, .int .i64 p], .int .i64 j, .int .i64 0]) (by simp [results, Try.results28, go_sem]) rfl ⟨?_, ?_⟩
          · rw [HRR.out]
            show _ = Ending.returned (.tuple #[tokV _ p, .int .i64 ((p + (j - p) : Nat) : Int), .int .i64 0])
            rw [show p + (j - p) = j from by omega]
            rfl
          · exact ((Below.refl _ _).alloc (Nat.le_refl _) _).alloc (by simp) _
        · have hfb : (f == 0) = false := beq_eq_false_iff_ne.2 hf
          have hfn : (f != 0) = true := by simp [bne, hfb]
          have HRR : Hid (R = .bad f) := Lib.hid (by rw [← HR.out, oneL_numbad HLB.out HDB.out (by rw [HNF.out]; exact hf), HNF.out])
          clear hf
          go_wp2_with fail
          refine (HDi.out _).mono ?_
          rintro e w9 ⟨rfl, rfl⟩
          go_wp2_with fail
          refine (HWW.out _).mono ?_
          rintro e w10 ⟨rfl, rfl⟩
          go_wp2_with fail
          refine bodyPost_ret (v := .tuple #[.agg #[.int .i64 0, .string ⟨#[]⟩, .int .i64 0, .int .i64 p], .int .i64 0, .int .i64 f]) (by simp [results, Try.results28, go_sem]) rfl ⟨?_, ?_⟩
          · rw [HRR.out]; exact ⟨_, _, _, rfl⟩
          · exact ((Below.refl _ _).alloc (Nat.le_refl _) _).alloc (by simp) _
    · have hq' : ¬ (j : Int) < s.size := by omega
      have HSP := Lib.hid (spanTo_end hd.out (fun h => by rw [HLN.out] at h; omega))
      have HX : Hid ((s.extract p j).data.toList = (s.data.toList.drop p).take (spanB digt (s.data.toList.drop p))) := Lib.hid (by rw [HSP.out]; exact extract_drop s p j)
      have hxz : (s.extract p j).size ≤ 9223372036854775807 := by simp; omega
      have hpj' : (p : Int) ≤ j := by omega
      have HW := Lib.hid (fun w => rparse_any (s.extract p j) w hxz)
      rw [HX.out] at HW
      obtain ⟨n, f, hnf⟩ : ∃ n f, parseOf ((s.data.toList.drop p).take (spanB digt (s.data.toList.drop p))) = (n, f) := ⟨_, _, rfl⟩
      rw [hnf] at HW
      have HNF := Lib.hid hnf
      clear hnf hxz
      have HWW : Hid (∀ w, Calls Try.prog 43 #[.string (s.extract p j)] w fun e w' => e = .returned (.tuple #[.int .i64 n, .int .i64 f]) ∧ w = w') := Lib.hid (fun w => HW.out w)
      clear HW
      by_cases hf : f = 0
      · subst hf
        have HRR : Hid (R = .tok ⟨3, [], n⟩ (j - p)) := Lib.hid (by rw [← HR.out, oneL_num HLB.out HDB.out (by rw [HNF.out]), HNF.out, HSP.out])

        go_wp2_with fail
        refine (HWW.out _).mono ?_
        rintro e w10 ⟨rfl, rfl⟩
        go_wp2_with fail
        refine bodyPost_ret (v := .tuple #[.agg #[.int .i64 3, .string ⟨#[]⟩, .int .i64 n, .int .i64 p], .int .i64 j, .int .i64 0]) (by simp [results, Try.results28, go_sem]) rfl ⟨?_, ?_⟩
        · rw [HRR.out]
          show _ = Ending.returned (.tuple #[tokV _ p, .int .i64 ((p + (j - p) : Nat) : Int), .int .i64 0])
          rw [show p + (j - p) = j from by omega]
          rfl
        · exact ((Below.refl _ _).alloc (Nat.le_refl _) _).alloc (by simp) _
      · have hfb : (f == 0) = false := beq_eq_false_iff_ne.2 hf
        have hfn : (f != 0) = true := by simp [bne, hfb]
        have HRR : Hid (R = .bad f) := Lib.hid (by rw [← HR.out, oneL_numbad HLB.out HDB.out (by rw [HNF.out]; exact hf), HNF.out])
        clear hf

        go_wp2_with fail
        refine (HWW.out _).mono ?_
        rintro e w10 ⟨rfl, rfl⟩
        go_wp2_with fail
        refine bodyPost_ret (v := .tuple #[.agg #[.int .i64 0, .string ⟨#[]⟩, .int .i64 0, .int .i64 p], .int .i64 0, .int .i64 f]) (by simp [results, Try.results28, go_sem]) rfl ⟨?_, ?_⟩
        · rw [HRR.out]; exact ⟨_, _, _, rfl⟩
        · exact ((Below.refl _ _).alloc (Nat.le_refl _) _).alloc (by simp) _
set_option maxRecDepth 1000000 in
set_option maxHeartbeats 4000000 in
theorem rone_quote (s : ByteArray) (p : Nat) (w : World) (hs : s.size ≤ 1099511627776) (hp : p < s.size) (h : s[p].toNat = 39) :
    Calls Try.prog 28 #[.string s, .int .i64 p] w (OneP (oneL (s.data.toList.drop p)) p w) := by
  have HLN : Hid (s.data.toList.length = s.size) := Lib.hid (by simp)
  obtain ⟨R, hR⟩ : ∃ R, oneL (s.data.toList.drop p) = R := ⟨_, rfl⟩
  have HR := Lib.hid hR
  rw [hR]
  clear hR
  have hpp : (p : Int) < s.size := by omega
  have p0 : (0 : Int) ≤ (p : Int) := by omega
  have hc0 : s[p].toNat < 256 := by have := s[p].toNat_lt; omega
  have HN0 : Hid (nb (s.data.toList.drop p) 0 = s[p].toNat) := Lib.hid (by rw [nb_drop, nb_get s p hp]; rfl)
  have L0 := Lib.hid (fun w => letter_any s[p].toNat hc0 w)
  have D0 := Lib.hid (fun w => digit_any s[p].toNat hc0 w)
  rw [show letter s[p].toNat = false from by rw [h]; decide] at L0
  rw [show digt s[p].toNat = false from by rw [h]; decide] at D0
  have h39 : ((s[p].toNat : Int) == 39) = true := by simp [h]
  have HNP : Hid (nb s.data.toList p = 39) := Lib.hid (by have := HN0.out; rw [nb_drop, h] at this; exact this)
  have HD : Hid (qdS s.data.toList p = qd ((s.data.toList.drop p).drop 1)) := Lib.hid (by unfold qdS; rw [if_pos ⟨by rw [HLN.out]; exact hp, HNP.out⟩, List.drop_drop])
  have HRQ := Lib.hid (oneL_q (r := s.data.toList.drop p) (by rw [HN0.out]; exact h))
  have HQ := Lib.hid (fun w => quoted_any s p w hs (by omega))
  rw [HD.out] at HQ
  clear h
  cases hqd : qd ((s.data.toList.drop p).drop 1) with
  | none =>
    rw [hqd] at HQ
    have HRR : Hid (R = .bad 1) := Lib.hid (by rw [← HR.out, HRQ.out, hqd])
    have HQQ : Hid (∀ w, Calls Try.prog 15 #[.string s, .int .i64 p] w fun e w' => e = .returned (.tuple #[.string ⟨#[]⟩, .int .i64 0, .bool false]) ∧ Below w.heap.size w w') := Lib.hid (fun w => HQ.out w)
    clear HQ hqd
    go_enter Try.func28, Try.ntmps28
    go_wp2_with fail
    refine (L0.out _).mono ?_
    rintro e w8 ⟨rfl, rfl⟩
    go_wp2_with fail
    refine (D0.out _).mono ?_
    rintro e w8 ⟨rfl, rfl⟩
    go_wp2_with fail
    refine (HQQ.out _).mono ?_
    rintro e w10 ⟨rfl, hb10⟩
    obtain ⟨hbx, hsz, ⟨a0, a1, a2, a3⟩, ⟨b0, b1, b2, b3⟩, fa, fb⟩ := two0_call (w := w) (p := p) hb10
    have HB10 := Lib.hid hbx
    clear hb10 hbx
    go_wp2_with fail
    refine bodyPost_ret (v := .tuple #[.agg #[.int .i64 0, .string ⟨#[]⟩, .int .i64 0, .int .i64 p], .int .i64 0, .int .i64 1]) (by simp [results, Try.results28, go_sem, a0, a1, a2, a3]) rfl ⟨?_, ?_⟩
    · rw [HRR.out]; exact ⟨_, _, _, rfl⟩
    · exact ((((HB10.out.setCell (by simp) _).setCell (by simp) _).setCell (by simp) _).setCell (by simp) _)
  | some pr =>
    obtain ⟨x, rest⟩ := pr
    rw [hqd] at HQ
    have HRR : Hid (R = .tok ⟨4, x, 0⟩ ((s.data.toList.drop p).length - rest.length)) := Lib.hid (by rw [← HR.out, HRQ.out, hqd])
    have HLE : Hid (rest.length ≤ s.size - p) := Lib.hid (by
      obtain ⟨j, hj, _, hr⟩ := qd_last _ _ rfl _ _ hqd
      rw [hr, List.length_drop, List.length_drop, List.length_drop, HLN.out]; omega)
    obtain ⟨to, hto⟩ : ∃ to : Nat, s.size - rest.length = to := ⟨_, rfl⟩
    have HTO := Lib.hid hto
    have HQQ : Hid (∀ w, Calls Try.prog 15 #[.string s, .int .i64 p] w fun e w' => e = .returned (.tuple #[.string (strOf x), .int .i64 to, .bool true]) ∧ Below w.heap.size w w') := Lib.hid (fun w => by rw [← hto]; exact HQ.out w)
    clear HQ hqd hto
    go_enter Try.func28, Try.ntmps28
    go_wp2_with fail
    refine (L0.out _).mono ?_
    rintro e w8 ⟨rfl, rfl⟩
    go_wp2_with fail
    refine (D0.out _).mono ?_
    rintro e w8 ⟨rfl, rfl⟩
    go_wp2_with fail
    refine (HQQ.out _).mono ?_
    rintro e w10 ⟨rfl, hb10⟩
    obtain ⟨hbx, hsz, ⟨a0, a1, a2, a3⟩, ⟨b0, b1, b2, b3⟩, fa, fb⟩ := two0_call (w := w) (p := p) hb10
    have HB10 := Lib.hid hbx
    clear hb10 hbx
    go_wp2_with fail
    refine bodyPost_ret (v := .tuple #[.agg #[.int .i64 4, .string (strOf x), .int .i64 0, .int .i64 p], .int .i64 to, .int .i64 0]) (by simp [results, Try.results28, go_sem, a0, a1, a2, a3]) rfl ⟨?_, ?_⟩
    · rw [HRR.out]
      show _ = Ending.returned (.tuple #[tokV _ p, .int .i64 ((p + ((s.data.toList.drop p).length - rest.length) : Nat) : Int), .int .i64 0])
      rw [show p + ((s.data.toList.drop p).length - rest.length) = to from by have := HTO.out; have := HLE.out; rw [List.length_drop, HLN.out]; omega]
      rfl
    · exact ((((((HB10.out.setCell (by simp) _).setCell (by simp) _).setCell (by simp) _).setCell (by simp) _).setCell (by simp) _).setCell (by simp) _)
set_option maxRecDepth 1000000 in
set_option maxHeartbeats 4000000 in
theorem rone_sign (s : ByteArray) (p : Nat) (w : World) (hs : s.size ≤ 1099511627776) (hp : p < s.size) (h : letter s[p].toNat = false) (h2 : digt s[p].toNat = false) (h3 : ¬ s[p].toNat = 39) :
    Calls Try.prog 28 #[.string s, .int .i64 p] w (OneP (oneL (s.data.toList.drop p)) p w) := by
  have HLN : Hid (s.data.toList.length = s.size) := Lib.hid (by simp)
  obtain ⟨R, hR⟩ : ∃ R, oneL (s.data.toList.drop p) = R := ⟨_, rfl⟩
  have HR := Lib.hid hR
  rw [hR]
  clear hR
  have hpp : (p : Int) < s.size := by omega
  have p0 : (0 : Int) ≤ (p : Int) := by omega
  have hc0 : s[p].toNat < 256 := by have := s[p].toNat_lt; omega
  have HN0 : Hid (nb (s.data.toList.drop p) 0 = s[p].toNat) := Lib.hid (by rw [nb_drop, nb_get s p hp]; rfl)
  have L0 := Lib.hid (fun w => letter_any s[p].toNat hc0 w)
  have D0 := Lib.hid (fun w => digit_any s[p].toNat hc0 w)
  rw [h] at L0
  rw [h2] at D0
  have h39 : ((s[p].toNat : Int) == 39) = false := beq_eq_false_iff_ne.2 (by omega)
  have HRS := Lib.hid (oneL_sign (r := s.data.toList.drop p) (by rw [HN0.out]; exact h) (by rw [HN0.out]; exact h2) (by rw [HN0.out]; exact h3))
  have HS := Lib.hid (fun w => rsign_any s p w hs hp)
  have HSL := Lib.hid (strOf_size (signL (s.data.toList.drop p)))
  have HTL := Lib.hid (strOf_list (signL (s.data.toList.drop p)))
  have hl2 : (signL (s.data.toList.drop p)).length ≤ 2 := by
    unfold signL
    split
    · simp; omega
    · split
      · simp; omega
      · simp
  clear h h2 h3
  cases hsg : signL (s.data.toList.drop p) with
  | nil =>
    have HRR : Hid (R = .bad 1) := Lib.hid (by rw [← HR.out, HRS.out, if_pos hsg])
    rw [hsg] at HS
    have HSS : Hid (∀ w, Calls Try.prog 44 #[.string s, .int .i64 p] w fun e w' => e = .returned (.string ⟨#[]⟩) ∧ w' = w) := Lib.hid (fun w => HS.out w)
    clear HS hsg HSL HTL hl2
    go_enter Try.func28, Try.ntmps28
    go_wp2_with fail
    refine (L0.out _).mono ?_
    rintro e w8 ⟨rfl, rfl⟩
    go_wp2_with fail
    refine (D0.out _).mono ?_
    rintro e w8 ⟨rfl, rfl⟩
    go_wp2_with fail
    refine (HSS.out _).mono ?_
    rintro e w10 ⟨rfl, rfl⟩
    go_wp2_with fail
    refine bodyPost_ret (v := .tuple #[.agg #[.int .i64 5, .string ⟨#[]⟩, .int .i64 0, .int .i64 p], .int .i64 0, .int .i64 1]) (by simp [results, Try.results28, go_sem]) rfl ⟨?_, ?_⟩
    · rw [HRR.out]; exact ⟨_, _, _, rfl⟩
    · exact ((Below.refl _ _).alloc (Nat.le_refl _) _).alloc (by simp) _
  | cons c l =>
    have HRR : Hid (R = .tok ⟨5, c :: l, 0⟩ (c :: l).length) := Lib.hid (by rw [← HR.out, HRS.out, if_neg (by rw [hsg]; simp), hsg])
    rw [hsg] at HS HSL HTL hl2
    have HSZ : Hid ((c :: l).length = (strOf (c :: l)).size) := Lib.hid HSL.out.symm
    have hz2 : (strOf (c :: l)).size ≤ 2 := by rw [HSL.out]; exact hl2
    have he1 : (strOf (c :: l)).toList.isEmpty = false := by rw [HTL.out]; rfl
    have he2 : ¬ (strOf (c :: l)).toList = [] := by rw [HTL.out]; simp
    clear hsg HSL HTL hl2
    have HXX : Hid (strOf (c :: l) = strOf (c :: l)) := Lib.hid rfl
    obtain ⟨X, hX⟩ : ∃ X, strOf (c :: l) = X := ⟨_, rfl⟩
    have HX := Lib.hid hX
    rw [hX] at HS HSZ hz2 he1 he2
    clear hX
    go_enter Try.func28, Try.ntmps28
    go_wp2_with fail
    refine (L0.out _).mono ?_
    rintro e w8 ⟨rfl, rfl⟩
    go_wp2_with fail
    refine (D0.out _).mono ?_
    rintro e w8 ⟨rfl, rfl⟩
    go_wp2_with fail
    refine (HS.out _).mono ?_
    rintro e w10 ⟨rfl, rfl⟩
    go_wp2_with fail
    refine bodyPost_ret (v := .tuple #[.agg #[.int .i64 5, .string X, .int .i64 0, .int .i64 p], .int .i64 (p + X.size), .int .i64 0]) (by simp [results, Try.results28, go_sem]) rfl ⟨?_, ?_⟩
    · rw [HRR.out]
      show _ = Ending.returned (.tuple #[tokV _ p, .int .i64 ((p + (c :: l).length : Nat) : Int), .int .i64 0])
      rw [HSZ.out]
      unfold tokV
      rw [HX.out, Int.natCast_add]
      rfl
    · exact ((Below.refl _ _).alloc (Nat.le_refl _) _).alloc (by simp) _
/-- The reference's one: the token at a place. -/
theorem rone_any (s : ByteArray) (p : Nat) (w : World) (hs : s.size ≤ 1099511627776) (hp : p < s.size) :
    Calls Try.prog 28 #[.string s, .int .i64 p] w (OneP (oneL (s.data.toList.drop p)) p w) := by
  cases h : letter s[p].toNat with
  | true => exact rone_letter s p w hs hp h
  | false =>
    cases h2 : digt s[p].toNat with
    | true => exact rone_digit s p w hs hp h h2
    | false =>
      by_cases h3 : s[p].toNat = 39
      · exact rone_quote s p w hs hp h3
      · exact rone_sign s p w hs hp h h2 h3
end Go.Proofs.Ytphfnmjccdejkaa

/- Layer 10: the contract of the reference's Scan. Written by genL15.py. Conditions: the text is no longer than 2^40. -/
namespace Go.Proofs.Ytphfnmjccdejkaa
open Go.RowKit Go.Shelf
set_option linter.unusedSimpArgs false
set_option linter.unusedVariables false

theorem own_heap {w w' : World} {B : Nat} {e : TypeId} {size : Nat} {v : Value} {n : Nat} {xs : List Value} (h : w.ownsRow B e size v n xs) (hk : ∀ k, v.ownBlock = some k → w'.heap[k]? = w.heap[k]?) : w'.ownsRow B e size v n xs := by
  refine ⟨h.1, ?_⟩
  rcases h.2 with h2 | ⟨g, cap, cur, rfl, hb, hg, rest⟩
  · exact .inl h2
  · exact .inr ⟨g, cap, cur, rfl, hb, (hk g rfl).trans hg, rest⟩
theorem own_set {w : World} {B : Nat} {e : TypeId} {size : Nat} {v : Value} {n : Nat} {xs : List Value} (h : w.ownsRow B e size v n xs) {a : Addr} (ha : ∀ k, v.ownBlock = some k → k ≠ a.block) (x : Value) : (w.setCell a x).ownsRow B e size v n xs :=
  own_heap h (fun k hk => Below.heap_setCell _ _ _ _ (ha k hk))
theorem own_below {w w' : World} {B : Nat} {e : TypeId} {size : Nat} {v : Value} {n : Nat} {xs : List Value} (h : w.ownsRow B e size v n xs) (hb : Below w.heap.size w w') : w'.ownsRow B e size v n xs :=
  own_heap h (fun k hk => hb.block k (h.lt k hk).2)
theorem own_form {w : World} {B : Nat} {e : TypeId} {size : Nat} {v : Value} {n : Nat} {xs : List Value} (h : w.ownsRow B e size v n xs) : ∃ a cap, v = .slice a n cap := by
  rcases h.2 with ⟨rfl, rfl⟩ | ⟨g, cap, cur, rfl, _⟩
  · exact ⟨none, 0, rfl⟩
  · exact ⟨_, _, rfl⟩
theorem own_ge {w : World} {B : Nat} {e : TypeId} {size : Nat} {v : Value} {n : Nat} {xs : List Value} (h : w.ownsRow B e size v n xs) : ∀ k, v.ownBlock = some k → B ≤ k := fun k hk => (h.lt k hk).1

theorem heap_newN (w : World) (n : Nat) (o : Obj) (h : w.heap.size = n) : (w.alloc o).heap[n]? = some o := by subst h; exact heap_alloc_new w o
theorem Try.infoTok : (Try.prog.info? 33).map (fun i => (i.zero, i.size, i.bytes)) = some (some (.agg #[.int .i64 0, .string ⟨#[]⟩, .int .i64 0, .int .i64 0]), 4, 40) := by kernel_rfl
def tokC (x : Tok × Nat) : List Value := [.int .i64 x.1.k, .string (strOf x.1.t), .int .i64 x.1.n, .int .i64 x.2]
def tokCells (l : List (Tok × Nat)) : List Value := l.flatMap tokC
theorem tokCells_snoc (l : List (Tok × Nat)) (x : Tok × Nat) : tokCells (l ++ [x]) = tokCells l ++ tokC x := by simp [tokCells]
def ScanE (r : ScanR) (B : Nat) (e : Ending) (w' : World) : Prop :=
  match r with
  | .bad p x => e = .returned (.tuple #[.slice none 0 0, .int .i64 p, .int .i64 x])
  | .ok l => ∃ v, e = .returned (.tuple #[v, .int .i64 0, .int .i64 0]) ∧ w'.ownsRow B 33 4 v l.length (tokCells l)
def ScanP (r : ScanR) (w : World) (e : Ending) (w' : World) : Prop := ScanE r w.heap.size e w' ∧ Below w.heap.size w w'
theorem scanN_at (f : Nat) (L : List UInt8) (p j : Nat) (acc : List (Tok × Nat)) (hj : p ≤ j) (h : spanB blankB (L.drop p) = j - p) :
    scanN (f + 1) (L.drop p) p acc = if L.drop j = [] then (if 4096 ≤ acc.length then .bad j 8 else .ok (acc ++ [(⟨6, [], 0⟩, j)]))
      else match oneL (L.drop j) with
        | .bad e => .bad j e
        | .tok t n => if 4096 ≤ acc.length then .bad j 8 else scanN f (L.drop (j + n)) (j + n) (acc ++ [(t, j)]) := by
  rw [scanN, h, List.drop_drop, show p + (j - p) = j from by omega]
  by_cases hd : L.drop j = []
  · rw [if_pos hd, if_pos hd]
  · rw [if_neg hd, if_neg hd]
    cases oneL (L.drop j) with
    | bad e => rfl
    | tok t n => simp only [List.drop_drop]
theorem oneL_kind {r : List UInt8} {t : Tok} {n : Nat} (h : oneL r = .tok t n) : 1 ≤ t.k ∧ t.k ≤ 5 := by
  unfold oneL at h
  split at h
  · split at h
    · cases h
    · split at h <;> (cases h; exact ⟨by simp, by simp⟩)
  · split at h
    · split at h
      · cases h; exact ⟨by simp, by simp⟩
      · cases h
    · split at h
      · split at h
        · cases h
        · cases h; exact ⟨by simp, by simp⟩
      · split at h
        · cases h
        · cases h; exact ⟨by simp, by simp⟩
theorem oneL_size {r : List UInt8} {t : Tok} {n : Nat} (hr : r ≠ []) (h : oneL r = .tok t n) : 1 ≤ n ∧ n ≤ r.length :=
  oneL_len hr h (fun x rest hq => by
    obtain ⟨j, hj, _, hr2⟩ := qd_last _ _ rfl _ _ hq
    have : 0 < r.length := List.length_pos_iff.2 hr
    rw [hr2, List.length_drop, List.length_drop]; omega)
theorem oneL_ne {r : List UInt8} {e : Int} (h : oneL r = .bad e) : e ≠ 0 := by
  unfold oneL at h
  split at h
  · split at h
    · cases h; decide
    · split at h <;> cases h
  · split at h
    · split at h
      · cases h
      · rename_i hp
        cases h; exact hp
    · split at h
      · split at h
        · cases h; decide
        · cases h
      · split at h
        · cases h; decide
        · cases h
theorem blankB_yes {c : Nat} (h : blankB c = true) : c = 32 ∨ c = 9 ∨ c = 10 ∨ c = 13 := of_decide_eq_true h
theorem blankB_not {c : Nat} (h : blankB c = false) : ((c : Int) == 32) = false ∧ ((c : Int) == 9) = false ∧ ((c : Int) == 10) = false ∧ ((c : Int) == 13) = false := by
  have := of_decide_eq_false h
  exact ⟨beq_eq_false_iff_ne.2 (by omega), beq_eq_false_iff_ne.2 (by omega), beq_eq_false_iff_ne.2 (by omega), beq_eq_false_iff_ne.2 (by omega)⟩
set_option maxRecDepth 1000000 in
set_option maxHeartbeats 8000000 in
theorem rscan_any (s : ByteArray) (w : World) (hs : s.size ≤ 1099511627776) :
    Calls Try.prog 9 #[.string s] w (ScanP (scanL s.data.toList) w) := by
  have HLN : Hid (s.data.toList.length = s.size) := Lib.hid (by simp)
  obtain ⟨R, hR⟩ : ∃ R, scanL s.data.toList = R := ⟨_, rfl⟩
  have HR := Lib.hid hR
  rw [hR]
  clear hR
  by_cases hbig : 16384 < s.size
  · have hbig' : (16384 : Int) < s.size := by omega
    have HRR : Hid (R = .bad 0 8) := Lib.hid (by rw [← HR.out]; unfold scanL; rw [if_pos (by rw [HLN.out]; exact hbig)])
    go_enter Try.func9, Try.ntmps9
    go_wp2_with fail
    refine bodyPost_ret (v := .tuple #[.slice none 0 0, .int .i64 0, .int .i64 8]) (by simp [results, Try.results9, go_sem]) rfl ⟨?_, Below.refl _ _⟩
    rw [HRR.out]; rfl
  have hbig' : ¬ (16384 : Int) < s.size := by omega
  have HR0 : Hid (scanN (s.size + 1) (s.data.toList.drop 0) 0 [] = R) := Lib.hid (by rw [← HR.out]; unfold scanL; rw [if_neg (by rw [HLN.out]; exact hbig), HLN.out]; rfl)
  obtain ⟨i0, hi0, hz0, hz1, hz2⟩ := info_parts Try.infoTok
  have I0 := Lib.hid hi0
  have I1 := Lib.hid hz0
  have I2 := Lib.hid hz1
  have I3 := Lib.hid hz2
  clear hi0 hz0 hz1 hz2
  go_enter Try.func9, Try.ntmps9
  go_wp2_with fail
  go_loopw [5, 6] (fun v k wr => ∃ (acc : List (Tok × Nat)) (p f n cap : Nat) (a : Option Addr), v = .slice a n cap ∧ k = .int .i64 p ∧ p ≤ s.size ∧ n ≤ 4096 ∧ Hid (n = acc.length) ∧ Hid (wr.ownsRow w.heap.size 33 4 (.slice a n cap) n (tokCells acc)) ∧ Hid (Below w.heap.size w wr) ∧ Hid (s.size - p < f ∧ scanN f (s.data.toList.drop p) p acc = R)) (fun _ k _ => s.size - (intOf k).toNat)
  case atStart => exact ⟨[], 0, s.size + 1, 0, 0, none, rfl, rfl, Nat.zero_le _, Nat.zero_le _, Lib.hid rfl, Lib.hid (World.ownsRow_nil _ _ _ _), Lib.hid (Below.refl _ _), Lib.hid ⟨by omega, HR0.out⟩⟩
  case round =>
    obtain ⟨acc, p, f, n, cap, a, rfl, rfl, hps, hn4, HN, HO, HB, HF⟩ := hrel
    obtain ⟨wo, hwo⟩ : ∃ wo : World, wo = wr := ⟨_, rfl⟩
    subst hwo
    obtain ⟨g, hfg⟩ : ∃ g, f = g + 1 := ⟨f - 1, by have := HF.out.1; omega⟩
    have HFG := Lib.hid hfg
    clear hfg
    have hzb := HB.out.size
    go_wp2_with fail
    go_loop [6] (fun k => ∃ j : Nat, k = .int .i64 j ∧ Hid (SpanTo blankB s.data.toList p j)) (fun k => s.size - (intOf k).toNat)
    case atStart => exact ⟨p, rfl, Lib.hid (spanTo_zero (by rw [HLN.out]; exact hps))⟩
    case round =>
      obtain ⟨j, rfl, hd⟩ := hrel
      have hjl : j ≤ s.size := by have := hd.out.2.1; rw [HLN.out] at this; exact this
      have hpj : p ≤ j := hd.out.1
      by_cases hq : j < s.size
      · have hq' : (j : Int) < s.size := by omega
        have hc : s[j].toNat < 256 := by have := s[j].toNat_lt; omega
        have X : Hid (s[j].toNat = nb s.data.toList j) := Lib.hid (nb_get s j hq)
        cases hbl : blankB s[j].toNat with
        | true =>
          have HU := Lib.hid (spanTo_step hd.out (by rw [HLN.out]; exact hq) (by rw [← X.out]; exact hbl))
          rcases blankB_yes hbl with e | e | e | e
          · have b1 : ((s[j].toNat : Int) == 32) = true := by rw [e]; rfl
            clear e hbl
            go_wp2_with fail
            go_round
            case rel => exact ⟨j + 1, by go_num, HU⟩
            case measure => simp [intOf]; omega
          · have b1 : ((s[j].toNat : Int) == 32) = false := beq_eq_false_iff_ne.2 (by omega)
            have b2 : ((s[j].toNat : Int) == 9) = true := by rw [e]; rfl
            clear e hbl
            go_wp2_with fail
            go_round
            case rel => exact ⟨j + 1, by go_num, HU⟩
            case measure => simp [intOf]; omega
          · have b1 : ((s[j].toNat : Int) == 32) = false := beq_eq_false_iff_ne.2 (by omega)
            have b2 : ((s[j].toNat : Int) == 9) = false := beq_eq_false_iff_ne.2 (by omega)
            have b3 : ((s[j].toNat : Int) == 10) = true := by rw [e]; rfl
            clear e hbl
            go_wp2_with fail
            go_round
            case rel => exact ⟨j + 1, by go_num, HU⟩
            case measure => simp [intOf]; omega
          · have b1 : ((s[j].toNat : Int) == 32) = false := beq_eq_false_iff_ne.2 (by omega)
            have b2 : ((s[j].toNat : Int) == 9) = false := beq_eq_false_iff_ne.2 (by omega)
            have b3 : ((s[j].toNat : Int) == 10) = false := beq_eq_false_iff_ne.2 (by omega)
            have b4 : ((s[j].toNat : Int) == 13) = true := by rw [e]; rfl
            clear e hbl
            go_wp2_with fail
            go_round
            case rel => exact ⟨j + 1, by go_num, HU⟩
            case measure => simp [intOf]; omega
        | false =>
          have HSP := Lib.hid (spanTo_end hd.out (fun _ => by rw [← X.out]; exact hbl))
          obtain ⟨b1, b2, b3, b4⟩ := blankB_not hbl
          have HAT := Lib.hid (scanN_at g s.data.toList p j acc hpj HSP.out)
          have HDN : Hid (s.data.toList.drop j ≠ []) := Lib.hid (by intro h; have := congrArg List.length h; rw [List.length_drop, HLN.out] at this; simp at this; omega)
          have HFR : Hid (R = match oneL (s.data.toList.drop j) with
            | .bad e => .bad j e
            | .tok t m => if 4096 ≤ acc.length then .bad j 8 else scanN g (s.data.toList.drop (j + m)) (j + m) (acc ++ [(t, j)])) := Lib.hid (by rw [← HF.out.2, HFG.out, HAT.out, if_neg HDN.out])
          have HONE := Lib.hid (fun w => rone_any s j w hs hq)
          clear hbl HAT
          cases ho : oneL (s.data.toList.drop j) with
          | bad er =>
            rw [ho] at HONE HFR
            have hne := oneL_ne ho
            have herr : (er != 0) = true := by simp [bne, hne]
            clear ho hne
            go_wp2_with fail
            refine (HONE.out _).mono ?_
            rintro e w10 ⟨⟨tk, tt, tn, rfl⟩, hb10⟩
            have HB10 := Lib.hid (below_step (HB.out.alloc (Nat.le_trans hzb (Nat.le_refl _)) _) rfl hb10)
            clear hb10
            go_wp2_with fail
            refine bodyPost_ret (v := .tuple #[.slice none 0 0, .int .i64 j, .int .i64 er]) (by simp [results, Try.results9, go_sem]) rfl ⟨?_, ?_⟩
            · rw [HFR.out]; rfl
            · exact HB10.out.alloc HB10.out.size _
          | tok t m =>
            rw [ho] at HONE HFR
            have HSZ := Lib.hid (oneL_size HDN.out ho)
            have hk6 : ((t.k : Int) == 6) = false := beq_eq_false_iff_ne.2 (by have := (oneL_kind ho).2; omega)
            have hkl : t.k ≤ 5 := (oneL_kind ho).2
            clear ho
            obtain ⟨tk, tt, tn⟩ := t
            have HT := HONE
            have HBW := Lib.hid (Block.new wo [.int .i64 6, .string ⟨#[]⟩, .int .i64 0, .int .i64 j] 33)
            by_cases hfull : 4096 ≤ n
            · have hfull' : (4096 : Int) ≤ n := by omega
              go_wp2_with fail
              refine (HONE.out _).mono ?_
              rintro e w10 ⟨he, hb10⟩
              change e = Ending.returned (.tuple #[.agg #[.int .i64 tk, .string (strOf tt), .int .i64 tn, .int .i64 j], .int .i64 ((j + m : Nat) : Int), .int .i64 0]) at he
              subst he
              have hz10 : wo.heap.size < w10.heap.size := by have := hb10.size; simp at this; omega
              have hbk := HBW.out.below hb10 (by simp)
              have c0 := hbk.cell (i := 0) rfl
              have c1 := hbk.cell (i := 1) rfl
              have c2 := hbk.cell (i := 2) rfl
              have c3 := hbk.cell (i := 3) rfl
              have fz := fun o => hbk.free o
              have HB10 := Lib.hid (below_step (HB.out.alloc hzb _) rfl hb10)
              clear hb10 hbk
              go_wp2_with fail
              refine bodyPost_ret (v := .tuple #[.slice none 0 0, .int .i64 j, .int .i64 8]) (by simp [results, Try.results9, go_sem]) rfl ⟨?_, ?_⟩
              · rw [HFR.out]
                show ScanE (if 4096 ≤ acc.length then _ else _) _ _ _
                rw [if_pos (by rw [← HN.out]; exact hfull)]; rfl
              · exact ((((HB10.out.setCell (p := ⟨wo.heap.size, 0, none⟩) hzb _).setCell (p := ⟨wo.heap.size, 1, none⟩) hzb _).setCell (p := ⟨wo.heap.size, 2, none⟩) hzb _).setCell (p := ⟨wo.heap.size, 3, none⟩) hzb _).alloc (by have := HB10.out.size; simp; omega) _
            · have hfull' : ¬ (4096 : Int) ≤ n := by omega
              go_wp2_with fail
              refine (HONE.out _).mono ?_
              rintro e w10 ⟨he, hb10⟩
              change e = Ending.returned (.tuple #[.agg #[.int .i64 tk, .string (strOf tt), .int .i64 tn, .int .i64 j], .int .i64 ((j + m : Nat) : Int), .int .i64 0]) at he
              subst he
              have hz10 : wo.heap.size < w10.heap.size := by have := hb10.size; simp at this; omega
              have hbk := HBW.out.below hb10 (by simp)
              have c0 := hbk.cell (i := 0) rfl
              have c1 := hbk.cell (i := 1) rfl
              have c2 := hbk.cell (i := 2) rfl
              have c3 := hbk.cell (i := 3) rfl
              have fz := fun o => hbk.free o
              have HB10 := Lib.hid (below_step (HB.out.alloc hzb _) rfl hb10)
              have HO10 := Lib.hid (own_below (HO.out.alloc (.cells #[.int .i64 6, .string ⟨#[]⟩, .int .i64 0, .int .i64 j] 33)) hb10)
              have HNE : Hid (∀ k, (Value.slice a n cap).ownBlock = some k → k ≠ wo.heap.size) := Lib.hid (fun k hk e => by have := (HO.out.lt k hk).2; omega)
              have HOX : Hid (∀ (X Y : Obj) (y0 y1 y2 y3 : Value), ((((((w10.setCell ⟨wo.heap.size, 0, none⟩ y0).setCell ⟨wo.heap.size, 1, none⟩ y1).setCell ⟨wo.heap.size, 2, none⟩ y2).setCell ⟨wo.heap.size, 3, none⟩ y3).alloc X).alloc Y).ownsRow w.heap.size 33 4 (.slice a n cap) n (tokCells acc)) := Lib.hid (fun X Y y0 y1 y2 y3 =>
                ((own_set (a := ⟨wo.heap.size, 3, none⟩) (own_set (a := ⟨wo.heap.size, 2, none⟩) (own_set (a := ⟨wo.heap.size, 1, none⟩) (own_set (a := ⟨wo.heap.size, 0, none⟩) HO10.out HNE.out _) HNE.out _) HNE.out _) HNE.out _).alloc _).alloc _)
              have hsz10 := HB10.out.size
              have HBK := Lib.hid hbk
              clear hb10 hbk
              go_wp2_with (at_builtin; refine wpList_append_own _ rfl _ _ 22 rfl w.heap.size 33 i0 _ 4 40 Try.underlying22 I0.out I1.out I2.out I3.out rfl (by omega) (.slice a n cap) n (tokCells acc) rfl (HOX.out _ _ _ _ _ _) ⟨w10.heap.size + 1, 0, none⟩ 1 1 [.int .i64 tk, .string (strOf tt), .int .i64 tn, .int .i64 j] rfl rfl (World.news_of_block (cs := #[.int .i64 tk, .string (strOf tt), .int .i64 tn, .int .i64 j]) (t := 33) (fr := (0, 0)) (heap_newN _ _ _ (by simp))) (by simp [Value.oneCell']) (by unfold maxLen; omega) (by omega) (by simp; omega) ?_)
              intro v1 w1 hown1 hgrow _
              have HO1 : Hid (w1.ownsRow w.heap.size 33 4 v1 (n + 1) (tokCells (acc ++ [((⟨tk, tt, tn⟩ : Tok), j)]))) := Lib.hid (by rw [tokCells_snoc]; exact hown1)
              have HB1 : Hid (Below w.heap.size w w1) := Lib.hid (Below.grown ((((((HB10.out.setCell (p := ⟨wo.heap.size, 0, none⟩) hzb _).setCell (p := ⟨wo.heap.size, 1, none⟩) hzb _).setCell (p := ⟨wo.heap.size, 2, none⟩) hzb _).setCell (p := ⟨wo.heap.size, 3, none⟩) hzb _).alloc (by have := HB10.out.size; simp; omega) _).alloc (by have := HB10.out.size; simp; omega) _) hgrow (by have := HB10.out.size; simp; omega) (own_ge HO.out))
              have t0 : w1.cell? ⟨wo.heap.size, 0, none⟩ = some (.int .i64 tk) := by
                have hblk := hgrow.block wo.heap.size (by simp; omega) (by have := HO.out.lt; intro e; have := (this _ e.symm).2; omega)
                exact (((((((HBK.out.set 0 _).set 1 _).set 2 _).set 3 _).alloc _).alloc _).of_heap hblk).cell (i := 0) rfl
              have hk6' : ((tk : Int) == 6) = false := hk6
              obtain ⟨a1, cap1, rfl⟩ := own_form hown1
              have HN1 : Hid (n + 1 = (acc ++ [((⟨tk, tt, tn⟩ : Tok), j)]).length) := Lib.hid (by rw [List.length_append, ← HN.out]; rfl)
              have HF1 : Hid (s.size - (j + m) < g ∧ scanN g (s.data.toList.drop (j + m)) (j + m) (acc ++ [(⟨tk, tt, tn⟩, j)]) = R) := Lib.hid ⟨by
                have h1 := HF.out.1
                have h2 := HFG.out
                have h3 := HSZ.out.1
                omega, by rw [HFR.out]; show _ = if 4096 ≤ acc.length then _ else _; rw [if_neg (by rw [← HN.out]; exact hfull)]⟩
              have hjm : j + m ≤ s.size := by have := HSZ.out.2; rw [List.length_drop, HLN.out] at this; omega
              have hm1 : 1 ≤ m := HSZ.out.1
              clear hown1 hgrow
              go_wp2_with fail
              go_roundw
              case rel => exact ⟨acc ++ [(⟨tk, tt, tn⟩, j)], j + m, g, n + 1, cap1, a1, rfl, by go_num, hjm, by omega, HN1, HO1, HB1, HF1⟩
              case measure => simp [intOf]; omega
      · have hq' : ¬ (j : Int) < s.size := by omega
        have hjs : j = s.size := by omega
        have HSP := Lib.hid (spanTo_end hd.out (fun h => by rw [HLN.out] at h; omega))
        have HAT := Lib.hid (scanN_at g s.data.toList p j acc hpj HSP.out)
        have HDN : Hid (s.data.toList.drop j = []) := Lib.hid (List.drop_of_length_le (by rw [HLN.out]; omega))
        have HFR : Hid (R = if 4096 ≤ acc.length then .bad j 8 else .ok (acc ++ [(⟨6, [], 0⟩, j)])) := Lib.hid (by rw [← HF.out.2, HFG.out, HAT.out, if_pos HDN.out])
        have HBW := Lib.hid (Block.new wo [.int .i64 6, .string ⟨#[]⟩, .int .i64 0, .int .i64 j] 33)
        clear hjs HAT
        by_cases hfull : 4096 ≤ n
        · have hfull' : (4096 : Int) ≤ n := by omega
          go_wp2_with fail
          refine bodyPost_ret (v := .tuple #[.slice none 0 0, .int .i64 j, .int .i64 8]) (by simp [results, Try.results9, go_sem]) rfl ⟨?_, ?_⟩
          · rw [HFR.out, if_pos (by rw [← HN.out]; exact hfull)]; rfl
          · exact HB.out.alloc (Nat.le_trans hzb (Nat.le_refl _)) _
        · have hfull' : ¬ (4096 : Int) ≤ n := by omega
          go_wp2_with (at_builtin; refine wpList_append_own _ rfl _ _ 22 rfl w.heap.size 33 i0 _ 4 40 Try.underlying22 I0.out I1.out I2.out I3.out rfl (by omega) (.slice a n cap) n (tokCells acc) rfl ((HO.out.alloc _).alloc _) ⟨wo.heap.size + 1, 0, none⟩ 1 1 [.int .i64 6, .string ⟨#[]⟩, .int .i64 0, .int .i64 j] rfl rfl (World.news_of_block (cs := #[.int .i64 6, .string ⟨#[]⟩, .int .i64 0, .int .i64 j]) (t := 33) (fr := (0, 0)) (heap_newN _ _ _ (by simp))) (by simp [Value.oneCell']) (by unfold maxLen; omega) (by omega) (by simp; omega) ?_)
          intro v1 w1 hown1 hgrow _
          have HO1 : Hid (w1.ownsRow w.heap.size 33 4 v1 (n + 1) (tokCells (acc ++ [(⟨6, [], 0⟩, j)]))) := Lib.hid (by rw [tokCells_snoc]; exact hown1)
          have HB1 : Hid (Below w.heap.size w w1) := Lib.hid (Below.grown ((HB.out.alloc hzb _).alloc (by simp; omega) _) hgrow (by simp; omega) (own_ge HO.out))
          have t0 : w1.cell? ⟨wo.heap.size, 0, none⟩ = some (.int .i64 6) := by
            have hblk := hgrow.block wo.heap.size (by simp; omega) (by have := HO.out.lt; intro e; have := (this _ e.symm).2; omega)
            exact (((HBW.out.alloc _).of_heap hblk).cell (i := 0) rfl)
          clear hown1 hgrow
          go_wp2_with fail
          refine bodyPost_ret (v := .tuple #[v1, .int .i64 0, .int .i64 0]) (by simp [results, Try.results9, go_sem]) rfl ⟨?_, HB1.out⟩
          rw [HFR.out, if_neg (by rw [← HN.out]; exact hfull)]
          refine ⟨v1, rfl, ?_⟩
          rw [List.length_append, ← HN.out]
          exact HO1.out
end Go.Proofs.Ytphfnmjccdejkaa

/- Layer 10: all contracts of the program's tests of a byte. Conditions: it is a byte. -/
namespace Go.Proofs.Ytphfnmjccdejkaa
open Go.RowKit
set_option linter.unusedSimpArgs false
set_option linter.unusedVariables false

theorem blank_any (c : Nat) (hc : c < 256) (w : World) :
    Calls Try.prog 26 #[.int .u8 c] w fun e w' => e = .returned (.bool (blankB c)) ∧ w' = w := by
  unfold blankB
  by_cases a : c = 32
  · subst a
    go_enter Try.func26, Try.ntmps26
    go_wp2_with fail
    go_ret
    exact ⟨rfl, rfl⟩
  · by_cases b : c = 9
    · subst b
      go_enter Try.func26, Try.ntmps26
      go_wp2_with fail
      go_ret
      exact ⟨rfl, rfl⟩
    · by_cases d : c = 10
      · subst d
        go_enter Try.func26, Try.ntmps26
        go_wp2_with fail
        go_ret
        exact ⟨rfl, rfl⟩
      · by_cases e : c = 13
        · subst e
          go_enter Try.func26, Try.ntmps26
          go_wp2_with fail
          go_ret
          exact ⟨rfl, rfl⟩
        · have h1 : ((c : Int) == 32) = false := beq_eq_false_iff_ne.2 (by omega)
          have h2 : ((c : Int) == 9) = false := beq_eq_false_iff_ne.2 (by omega)
          have h3 : ((c : Int) == 10) = false := beq_eq_false_iff_ne.2 (by omega)
          have h4 : ((c : Int) == 13) = false := beq_eq_false_iff_ne.2 (by omega)
          have HR : Hid (decide (c = 32 ∨ c = 9 ∨ c = 10 ∨ c = 13) = false) := Lib.hid (decide_eq_false (by omega))
          go_enter Try.func26, Try.ntmps26
          go_wp2_with fail
          go_ret
          exact ⟨(by rw [HR.out]; rfl), rfl⟩
set_option maxRecDepth 20000 in
theorem pletter_any (c : Nat) (hc : c < 256) (w : World) :
    Calls Try.prog 17 #[.int .u8 c] w fun e w' => e = .returned (.bool (letter c)) ∧ w = w' := by
  by_cases a : 97 ≤ c
  · have a' : (97 : Int) ≤ c := by omega
    by_cases b : c ≤ 122
    · have b' : (c : Int) ≤ 122 := by omega
      have HE : Hid (letter c = true) := Lib.hid (decide_eq_true (by omega))
      rw [HE.out]
      go_enter Try.func17, Try.ntmps17
      go_wp2_with fail
      go_ret
      exact ⟨rfl, rfl⟩
    · have b' : ¬ (c : Int) ≤ 122 := by omega
      have u1 : (65 : Int) ≤ c := by omega
      have u2 : ¬ (c : Int) ≤ 90 := by omega
      have hq : ((c : Int) == 95) = false := by simp; omega
      have HE : Hid (letter c = false) := Lib.hid (decide_eq_false (by omega))
      rw [HE.out]
      go_enter Try.func17, Try.ntmps17
      go_wp2_with fail
      go_ret
      exact ⟨rfl, rfl⟩
  · have a' : ¬ (97 : Int) ≤ c := by omega
    by_cases b : 65 ≤ c
    · have b' : (65 : Int) ≤ c := by omega
      by_cases d : c ≤ 90
      · have d' : (c : Int) ≤ 90 := by omega
        have HE : Hid (letter c = true) := Lib.hid (decide_eq_true (by omega))
        rw [HE.out]
        go_enter Try.func17, Try.ntmps17
        go_wp2_with fail
        go_ret
        exact ⟨rfl, rfl⟩
      · have d' : ¬ (c : Int) ≤ 90 := by omega
        by_cases e : c = 95
        · have e' : ((c : Int) == 95) = true := by simp; omega
          have HE : Hid (letter c = true) := Lib.hid (decide_eq_true (by omega))
          rw [HE.out]
          go_enter Try.func17, Try.ntmps17
          go_wp2_with fail
          go_ret
          exact ⟨rfl, rfl⟩
        · have e' : ((c : Int) == 95) = false := by simp; omega
          have HE : Hid (letter c = false) := Lib.hid (decide_eq_false (by omega))
          rw [HE.out]
          go_enter Try.func17, Try.ntmps17
          go_wp2_with fail
          go_ret
          exact ⟨rfl, rfl⟩
    · have b' : ¬ (65 : Int) ≤ c := by omega
      have hq : ((c : Int) == 95) = false := by simp; omega
      have HE : Hid (letter c = false) := Lib.hid (decide_eq_false (by omega))
      rw [HE.out]
      go_enter Try.func17, Try.ntmps17
      go_wp2_with fail
      go_ret
      exact ⟨rfl, rfl⟩

set_option maxRecDepth 20000 in
theorem pdigit_any (c : Nat) (hc : c < 256) (w : World) :
    Calls Try.prog 19 #[.int .u8 c] w fun e w' => e = .returned (.bool (digt c)) ∧ w = w' := by
  by_cases a : 48 ≤ c
  · have a' : (48 : Int) ≤ c := by omega
    by_cases b : c ≤ 57
    · have b' : (c : Int) ≤ 57 := by omega
      have HE : Hid (digt c = true) := Lib.hid (decide_eq_true (by omega))
      rw [HE.out]
      go_enter Try.func19, Try.ntmps19
      go_wp2_with fail
      go_ret
      exact ⟨rfl, rfl⟩
    · have b' : ¬ (c : Int) ≤ 57 := by omega
      have HE : Hid (digt c = false) := Lib.hid (decide_eq_false (by omega))
      rw [HE.out]
      go_enter Try.func19, Try.ntmps19
      go_wp2_with fail
      go_ret
      exact ⟨rfl, rfl⟩
  · have a' : ¬ (48 : Int) ≤ c := by omega
    have HE : Hid (digt c = false) := Lib.hid (decide_eq_false (by omega))
    rw [HE.out]
    go_enter Try.func19, Try.ntmps19
    go_wp2_with fail
    go_ret
    exact ⟨rfl, rfl⟩

theorem nchar_any (c : Nat) (hc : c < 256) (w : World) :
    Calls Try.prog 40 #[.int .u8 c] w fun e w' => e = .returned (.bool (nchar c)) ∧ w' = w := by
  obtain ⟨R, hR⟩ : ∃ R, nchar c = R := ⟨_, rfl⟩
  have HR := Lib.hid hR
  rw [hR]
  clear hR
  have hl := pletter_any c hc w
  have hd := pdigit_any c hc w
  cases ha : letter c with
  | true =>
    rw [ha] at hl
    have hr : R = true := by rw [← HR.out]; unfold nchar; rw [ha]; rfl
    subst hr
    clear ha
    go_enter Try.func40, Try.ntmps40
    go_wp2_with fail
    refine hl.mono ?_
    rintro e w1 ⟨rfl, rfl⟩
    go_wp2_with fail
    go_ret
    exact ⟨rfl, rfl⟩
  | false =>
    rw [ha] at hl
    have hr : R = digt c := by rw [← HR.out]; unfold nchar; rw [ha]; rfl
    rw [← hr] at hd
    clear ha hr
    go_enter Try.func40, Try.ntmps40
    go_wp2_with fail
    refine hl.mono ?_
    rintro e w1 ⟨rfl, rfl⟩
    go_wp2_with fail
    refine hd.mono ?_
    rintro e w1 ⟨rfl, rfl⟩
    go_wp2_with fail
    go_ret
    exact ⟨rfl, rfl⟩
theorem isq_any (c : Nat) (hc : c < 256) (w : World) :
    Calls Try.prog 21 #[.int .u8 c] w fun e w' => e = .returned (.bool (decide (c = 39))) ∧ w' = w := by
  by_cases a : c = 39
  · subst a
    go_enter Try.func21, Try.ntmps21
    go_wp2_with fail
    go_ret
    exact ⟨rfl, rfl⟩
  · have h1 : ((c : Int) == 39) = false := beq_eq_false_iff_ne.2 (by omega)
    have HR : Hid (decide (c = 39) = false) := Lib.hid (decide_eq_false a)
    go_enter Try.func21, Try.ntmps21
    go_wp2_with fail
    go_ret
    exact ⟨(by rw [HR.out]; rfl), rfl⟩
theorem isany_any (c : Nat) (w : World) :
    Calls Try.prog 23 #[.int .u8 c] w fun e w' => e = .returned (.bool true) ∧ w' = w := by
  go_enter Try.func23, Try.ntmps23
  go_wp2_with fail
  go_ret
  exact ⟨rfl, rfl⟩
end Go.Proofs.Ytphfnmjccdejkaa

/- Layer 10: the contract of the reference's Text of a token. Conditions: the text is no longer than 2^40. -/
namespace Go.Proofs.Ytphfnmjccdejkaa
open Go.RowKit
set_option linter.unusedSimpArgs false
set_option linter.unusedVariables false

/-- A token as it is written. -/
def tokT (k : Int) (s : List UInt8) (n : Int) : List UInt8 := if k = 3 then textOf n else if k = 4 then 39 :: (quoteL s ++ [39]) else s
set_option maxHeartbeats 1000000 in
theorem ttext_any (k : Int) (s : ByteArray) (n a : Int) (w : World) (hn : In64 n) (hs : s.size ≤ 1099511627776) :
    Calls Try.prog 14 #[.agg #[.int .i64 k, .string s, .int .i64 n, .int .i64 a]] w fun e w' => e = .returned (.string (strOf (tokT k s.data.toList n))) ∧ Below w.heap.size w w' := by
  have hb0 : Below w.heap.size w (w.alloc (.cells #[.int .i64 k, .string s, .int .i64 n, .int .i64 a] 33)) := (Below.refl _ _).alloc (Nat.le_refl _) _
  have HB0 := Lib.hid hb0
  clear hb0
  by_cases h3 : k = 3
  · subst h3
    go_enter Try.func14, Try.ntmps14
    go_wp2_with fail
    refine (rtext_any n _ hn).mono ?_
    rintro e w1 ⟨rfl, hb1⟩
    go_wp2_with fail
    go_ret
    exact ⟨rfl, below_step HB0.out rfl hb1⟩
  · have b3 : (k == 3) = false := beq_eq_false_iff_ne.2 h3
    by_cases h4 : k = 4
    · subst h4
      go_enter Try.func14, Try.ntmps14
      go_wp2_with fail
      refine (rquote_any s _ hs).mono ?_
      rintro e w1 ⟨rfl, hb1⟩
      go_wp2_with fail
      go_ret
      exact ⟨rfl, below_step HB0.out rfl hb1⟩
    · have b4 : (k == 4) = false := beq_eq_false_iff_ne.2 h4
      have HR : Hid (strOf (tokT k s.data.toList n) = s) := Lib.hid (by unfold tokT; rw [if_neg h3, if_neg h4]; exact strOf_toList s)
      go_enter Try.func14, Try.ntmps14
      go_wp2_with fail
      go_ret
      exact ⟨(by rw [HR.out]; rfl), HB0.out⟩
end Go.Proofs.Ytphfnmjccdejkaa

/- Layer 10: the contracts of the scanner's while. Written by genL16.py. Conditions: the scanner lies in memory; the text is no longer than 2^40. -/
namespace Go.Proofs.Ytphfnmjccdejkaa
open Go.RowKit Go.Shelf
set_option linter.unusedSimpArgs false
set_option linter.unusedVariables false

/-- A scanner in memory: the text, the place, the tokens so far. -/
def Sc (w : World) (B b : Nat) (s : ByteArray) (p : Nat) (v : Value) (acc : List (Tok × Nat)) : Prop :=
  B ≤ b ∧ Block w b [.string s, .int .i64 p, v] 43 ∧ w.ownsRow B 33 4 v acc.length (tokCells acc) ∧ (∀ k, v.ownBlock = some k → k ≠ b)
theorem Sc.drewN {w : World} {B b : Nat} {s : ByteArray} {p : Nat} {v : Value} {acc : List (Tok × Nat)} (h : Sc w B b s p v acc) (n : Nat) : Sc (w.drewN n) B b s p v acc := h
theorem below_draws {B : Nat} {a w : World} (h : Below B a w) (n : Nat) : Below B a (w.drewN n) := ⟨h.os, h.tape, h.output, h.size, h.block⟩
theorem pdigit_any' (c : Nat) (hc : c < 256) (w : World) : Calls Try.prog 19 #[.int .u8 c] w fun e w' => e = .returned (.bool (digt c)) ∧ w' = w := (pdigit_any c hc w).mono fun _ _ ⟨h, k⟩ => ⟨h, k.symm⟩
theorem pletter_any' (c : Nat) (hc : c < 256) (w : World) : Calls Try.prog 17 #[.int .u8 c] w fun e w' => e = .returned (.bool (letter c)) ∧ w' = w := (pletter_any c hc w).mono fun _ _ ⟨h, k⟩ => ⟨h, k.symm⟩
/-- What while answers. -/
def WhileP (n : Nat) (w : World) (e : Ending) (w' : World) : Prop := e = .returned (.int .i64 n) ∧ ∃ m, w' = w.drewN m
set_option maxRecDepth 1000000 in
set_option maxHeartbeats 4000000 in
theorem while_name (s : ByteArray) (p b : Nat) (w : World) (v : Value) (hs : s.size ≤ 1099511627776) (hp : p ≤ s.size) (hb : Block w b [.string s, .int .i64 p, v] 43) :
    Calls Try.prog 25 #[.pointer (some ⟨b, 0, none⟩), .func (.func 40) #[] #[]] w (WhileP (spanB nchar (s.data.toList.drop p)) w) := by
  have HLN : Hid (s.data.toList.length = s.size) := Lib.hid (by simp)
  have HB := Lib.hid hb
  clear hb
  go_enter Try.func25, Try.ntmps25
  go_wp2_with fail
  go_loopw [5] (fun k wr => ∃ n : Nat, k = .int .i64 n ∧ Hid (SpanTo nchar s.data.toList p (p + n)) ∧ Hid (∃ m, wr = w.drewN m)) (fun k _ => s.size - (intOf k).toNat)
  case atStart => exact ⟨0, rfl, Lib.hid (spanTo_zero (by rw [HLN.out]; exact hp)), Lib.hid ⟨0, rfl⟩⟩
  case round =>
    obtain ⟨n, rfl, hd, HM⟩ := hrel
    have hnl : p + n ≤ s.size := by have := hd.out.2.1; rw [HLN.out] at this; exact this
    have HBR : Hid (Block wr b [.string s, .int .i64 p, v] 43) := Lib.hid (by obtain ⟨m, hm⟩ := HM.out; rw [hm]; exact HB.out)
    have c0 := HBR.out.cell (i := 0) rfl
    have c1 := HBR.out.cell (i := 1) rfl
    have s1 : IntKind.i64.wrap ((p : Int) + n) = (p : Int) + n := IntWalk.i64_in _ (by omega)
    have s2 : (0 : Int) ≤ (p : Int) + n := by omega
    have s3 : ((p : Int) + n).toNat = p + n := by omega
    by_cases hq : p + n < s.size
    · have hq' : (p : Int) + n < s.size := by omega
      have hc : s[p + n].toNat < 256 := by have := s[p + n].toNat_lt; omega
      have X : Hid (s[p + n].toNat = nb s.data.toList (p + n)) := Lib.hid (nb_get s (p + n) hq)
      have HT := Lib.hid (fun w => nchar_any s[p + n].toNat hc w)
      cases ht : nchar s[p + n].toNat with
      | true =>
        rw [ht] at HT
        have HU := Lib.hid (spanTo_step hd.out (by rw [HLN.out]; exact hq) (by rw [← X.out]; exact ht))
        clear ht
        go_wp2_with fail
        go_quiet ((go_at_call 40; exact Calls.quiet_of_same (HT.out _)))
        clear s1
        go_wp2_with fail
        go_roundw
        case rel => exact ⟨n + 1, by go_num, HU, Lib.hid (by obtain ⟨m, hm⟩ := HM.out; exact ⟨_, by rw [hm, World.drewN_drewN]⟩)⟩
        case measure => simp [intOf]; omega
      | false =>
        rw [ht] at HT
        have HSP := Lib.hid (spanTo_end hd.out (fun _ => by rw [← X.out]; exact ht))
        clear ht
        go_wp2_with fail
        go_quiet ((go_at_call 40; exact Calls.quiet_of_same (HT.out _)))
        clear s1
        go_wp2_with fail
        go_ret
        exact ⟨by rw [HSP.out, show p + n - p = n from by omega]; rfl, by obtain ⟨m, hm⟩ := HM.out; exact ⟨_, by rw [hm, World.drewN_drewN]⟩⟩
    · have hqd : decide ((p : Int) + n < s.size) = false := decide_eq_false (by omega)
      have HSP := Lib.hid (spanTo_end hd.out (fun h => by rw [HLN.out] at h; omega))
      go_wp2_with fail
      go_quiet (fail)
      clear s1
      go_wp2_with fail
      go_ret
      exact ⟨by rw [HSP.out, show p + n - p = n from by omega]; rfl, by obtain ⟨m, hm⟩ := HM.out; exact ⟨_, by rw [hm, World.drewN_drewN]⟩⟩
set_option maxRecDepth 1000000 in
set_option maxHeartbeats 4000000 in
theorem while_digit (s : ByteArray) (p b : Nat) (w : World) (v : Value) (hs : s.size ≤ 1099511627776) (hp : p ≤ s.size) (hb : Block w b [.string s, .int .i64 p, v] 43) :
    Calls Try.prog 25 #[.pointer (some ⟨b, 0, none⟩), .func (.func 19) #[] #[]] w (WhileP (spanB digt (s.data.toList.drop p)) w) := by
  have HLN : Hid (s.data.toList.length = s.size) := Lib.hid (by simp)
  have HB := Lib.hid hb
  clear hb
  go_enter Try.func25, Try.ntmps25
  go_wp2_with fail
  go_loopw [5] (fun k wr => ∃ n : Nat, k = .int .i64 n ∧ Hid (SpanTo digt s.data.toList p (p + n)) ∧ Hid (∃ m, wr = w.drewN m)) (fun k _ => s.size - (intOf k).toNat)
  case atStart => exact ⟨0, rfl, Lib.hid (spanTo_zero (by rw [HLN.out]; exact hp)), Lib.hid ⟨0, rfl⟩⟩
  case round =>
    obtain ⟨n, rfl, hd, HM⟩ := hrel
    have hnl : p + n ≤ s.size := by have := hd.out.2.1; rw [HLN.out] at this; exact this
    have HBR : Hid (Block wr b [.string s, .int .i64 p, v] 43) := Lib.hid (by obtain ⟨m, hm⟩ := HM.out; rw [hm]; exact HB.out)
    have c0 := HBR.out.cell (i := 0) rfl
    have c1 := HBR.out.cell (i := 1) rfl
    have s1 : IntKind.i64.wrap ((p : Int) + n) = (p : Int) + n := IntWalk.i64_in _ (by omega)
    have s2 : (0 : Int) ≤ (p : Int) + n := by omega
    have s3 : ((p : Int) + n).toNat = p + n := by omega
    by_cases hq : p + n < s.size
    · have hq' : (p : Int) + n < s.size := by omega
      have hc : s[p + n].toNat < 256 := by have := s[p + n].toNat_lt; omega
      have X : Hid (s[p + n].toNat = nb s.data.toList (p + n)) := Lib.hid (nb_get s (p + n) hq)
      have HT := Lib.hid (fun w => pdigit_any' s[p + n].toNat hc w)
      cases ht : digt s[p + n].toNat with
      | true =>
        rw [ht] at HT
        have HU := Lib.hid (spanTo_step hd.out (by rw [HLN.out]; exact hq) (by rw [← X.out]; exact ht))
        clear ht
        go_wp2_with fail
        go_quiet ((go_at_call 19; exact Calls.quiet_of_same (HT.out _)))
        clear s1
        go_wp2_with fail
        go_roundw
        case rel => exact ⟨n + 1, by go_num, HU, Lib.hid (by obtain ⟨m, hm⟩ := HM.out; exact ⟨_, by rw [hm, World.drewN_drewN]⟩)⟩
        case measure => simp [intOf]; omega
      | false =>
        rw [ht] at HT
        have HSP := Lib.hid (spanTo_end hd.out (fun _ => by rw [← X.out]; exact ht))
        clear ht
        go_wp2_with fail
        go_quiet ((go_at_call 19; exact Calls.quiet_of_same (HT.out _)))
        clear s1
        go_wp2_with fail
        go_ret
        exact ⟨by rw [HSP.out, show p + n - p = n from by omega]; rfl, by obtain ⟨m, hm⟩ := HM.out; exact ⟨_, by rw [hm, World.drewN_drewN]⟩⟩
    · have hqd : decide ((p : Int) + n < s.size) = false := decide_eq_false (by omega)
      have HSP := Lib.hid (spanTo_end hd.out (fun h => by rw [HLN.out] at h; omega))
      go_wp2_with fail
      go_quiet (fail)
      clear s1
      go_wp2_with fail
      go_ret
      exact ⟨by rw [HSP.out, show p + n - p = n from by omega]; rfl, by obtain ⟨m, hm⟩ := HM.out; exact ⟨_, by rw [hm, World.drewN_drewN]⟩⟩
set_option maxRecDepth 1000000 in
set_option maxHeartbeats 4000000 in
theorem while_blank (s : ByteArray) (p b : Nat) (w : World) (v : Value) (hs : s.size ≤ 1099511627776) (hp : p ≤ s.size) (hb : Block w b [.string s, .int .i64 p, v] 43) :
    Calls Try.prog 25 #[.pointer (some ⟨b, 0, none⟩), .func (.func 26) #[] #[]] w (WhileP (spanB blankB (s.data.toList.drop p)) w) := by
  have HLN : Hid (s.data.toList.length = s.size) := Lib.hid (by simp)
  have HB := Lib.hid hb
  clear hb
  go_enter Try.func25, Try.ntmps25
  go_wp2_with fail
  go_loopw [5] (fun k wr => ∃ n : Nat, k = .int .i64 n ∧ Hid (SpanTo blankB s.data.toList p (p + n)) ∧ Hid (∃ m, wr = w.drewN m)) (fun k _ => s.size - (intOf k).toNat)
  case atStart => exact ⟨0, rfl, Lib.hid (spanTo_zero (by rw [HLN.out]; exact hp)), Lib.hid ⟨0, rfl⟩⟩
  case round =>
    obtain ⟨n, rfl, hd, HM⟩ := hrel
    have hnl : p + n ≤ s.size := by have := hd.out.2.1; rw [HLN.out] at this; exact this
    have HBR : Hid (Block wr b [.string s, .int .i64 p, v] 43) := Lib.hid (by obtain ⟨m, hm⟩ := HM.out; rw [hm]; exact HB.out)
    have c0 := HBR.out.cell (i := 0) rfl
    have c1 := HBR.out.cell (i := 1) rfl
    have s1 : IntKind.i64.wrap ((p : Int) + n) = (p : Int) + n := IntWalk.i64_in _ (by omega)
    have s2 : (0 : Int) ≤ (p : Int) + n := by omega
    have s3 : ((p : Int) + n).toNat = p + n := by omega
    by_cases hq : p + n < s.size
    · have hq' : (p : Int) + n < s.size := by omega
      have hc : s[p + n].toNat < 256 := by have := s[p + n].toNat_lt; omega
      have X : Hid (s[p + n].toNat = nb s.data.toList (p + n)) := Lib.hid (nb_get s (p + n) hq)
      have HT := Lib.hid (fun w => blank_any s[p + n].toNat hc w)
      cases ht : blankB s[p + n].toNat with
      | true =>
        rw [ht] at HT
        have HU := Lib.hid (spanTo_step hd.out (by rw [HLN.out]; exact hq) (by rw [← X.out]; exact ht))
        clear ht
        go_wp2_with fail
        go_quiet ((go_at_call 26; exact Calls.quiet_of_same (HT.out _)))
        clear s1
        go_wp2_with fail
        go_roundw
        case rel => exact ⟨n + 1, by go_num, HU, Lib.hid (by obtain ⟨m, hm⟩ := HM.out; exact ⟨_, by rw [hm, World.drewN_drewN]⟩)⟩
        case measure => simp [intOf]; omega
      | false =>
        rw [ht] at HT
        have HSP := Lib.hid (spanTo_end hd.out (fun _ => by rw [← X.out]; exact ht))
        clear ht
        go_wp2_with fail
        go_quiet ((go_at_call 26; exact Calls.quiet_of_same (HT.out _)))
        clear s1
        go_wp2_with fail
        go_ret
        exact ⟨by rw [HSP.out, show p + n - p = n from by omega]; rfl, by obtain ⟨m, hm⟩ := HM.out; exact ⟨_, by rw [hm, World.drewN_drewN]⟩⟩
    · have hqd : decide ((p : Int) + n < s.size) = false := decide_eq_false (by omega)
      have HSP := Lib.hid (spanTo_end hd.out (fun h => by rw [HLN.out] at h; omega))
      go_wp2_with fail
      go_quiet (fail)
      clear s1
      go_wp2_with fail
      go_ret
      exact ⟨by rw [HSP.out, show p + n - p = n from by omega]; rfl, by obtain ⟨m, hm⟩ := HM.out; exact ⟨_, by rw [hm, World.drewN_drewN]⟩⟩
end Go.Proofs.Ytphfnmjccdejkaa

/- Layer 10: the contract of the scanner's put. Conditions: the scanner lies in memory, with at most 4096 tokens. -/
namespace Go.Proofs.Ytphfnmjccdejkaa
open Go.RowKit Go.Shelf
set_option linter.unusedSimpArgs false
set_option linter.unusedVariables false

def ownL (b : Nat) (v : Value) : List Nat := b :: v.ownBlock.toList
theorem ownL_b (b : Nat) (v : Value) : b ∈ ownL b v := by simp [ownL]
theorem ownL_v {b k : Nat} {v : Value} (h : v.ownBlock = some k) : k ∈ ownL b v := by simp [ownL, h]
theorem ownL_cases {b x : Nat} {v : Value} (h : x ∈ ownL b v) : x = b ∨ v.ownBlock = some x := by
  simp only [ownL, List.mem_cons, Option.mem_toList] at h
  exact h
/-- The scanner has gone on; nothing else that was there has turned. -/
def ScMoved (B b : Nat) (s : ByteArray) (v : Value) (p : Nat) (acc : List (Tok × Nat)) (w w' : World) : Prop :=
  ∃ v', Sc w' B b s p v' acc ∧ Kept (ownL b v) w w' ∧ ∀ x ∈ ownL b v', x ∈ ownL b v ∨ w.heap.size ≤ x
theorem Sc.of_heap {w w' : World} {B b : Nat} {s : ByteArray} {p : Nat} {v : Value} {acc : List (Tok × Nat)} (h : Sc w B b s p v acc) (hk : ∀ k ∈ ownL b v, w'.heap[k]? = w.heap[k]?) : Sc w' B b s p v acc :=
  ⟨h.1, h.2.1.of_heap (hk b (ownL_b b v)), own_heap h.2.2.1 (fun k e => hk k (ownL_v e)), h.2.2.2⟩
theorem Sc.lt {w : World} {B b : Nat} {s : ByteArray} {p : Nat} {v : Value} {acc : List (Tok × Nat)} (h : Sc w B b s p v acc) : ∀ k ∈ ownL b v, B ≤ k ∧ k < w.heap.size := fun k hk => by
  rcases ownL_cases hk with rfl | e
  · exact ⟨h.1, h.2.1.lt⟩
  · exact h.2.2.1.lt k e
theorem Sc.below {w w' : World} {B b : Nat} {s : ByteArray} {p : Nat} {v : Value} {acc : List (Tok × Nat)} (h : Sc w B b s p v acc) (hb : Below w.heap.size w w') : Sc w' B b s p v acc := h.of_heap (fun k hk => hb.block k (h.lt k hk).2)
theorem ScMoved.same {w w' : World} {B b : Nat} {s : ByteArray} {p : Nat} {v : Value} {acc : List (Tok × Nat)} (h : Sc w B b s p v acc) (hb : Below w.heap.size w w') : ScMoved B b s v p acc w w' :=
  ⟨v, h.below hb, Kept.of_below hb, fun x hx => .inl hx⟩
theorem ScMoved.trans {a w w' : World} {B b : Nat} {s : ByteArray} {p : Nat} {v v1 : Value} {acc acc' : List (Tok × Nat)} (hk : Kept (ownL b v) a w) (hv : ∀ x ∈ ownL b v1, x ∈ ownL b v ∨ a.heap.size ≤ x)
    (h : ScMoved B b s v1 p acc' w w') : ScMoved B b s v p acc' a w' := by
  obtain ⟨v', h1, h2, h3⟩ := h
  refine ⟨v', h1, hk.trans h2 hv, fun x hx => ?_⟩
  rcases h3 x hx with h | h
  · exact hv x h
  · exact .inr (Nat.le_trans hk.size h)
theorem grown_block {w w0 w1 : World} {row : Option Nat} {b : Nat} {cur : List Value} {t : TypeId} (hb : Block w b cur t) (h0 : w0.heap[b]? = w.heap[b]?) (hg : w0.grownBy w1 row) (hr : row ≠ some b) : Block w1 b cur t := by
  have h1 : Block w0 b cur t := hb.of_heap h0
  exact h1.of_heap (hg.block b h1.lt (Ne.symm hr))
theorem two_new (w : World) (X Y : Obj) : ((w.alloc X).alloc Y).drew.heap[w.heap.size + 1]? = some Y := by
  show ((w.alloc X).alloc Y).heap[w.heap.size + 1]? = _
  exact heap_newN _ _ _ (by simp)
/-- What put answers. -/
def PutP (B b : Nat) (s : ByteArray) (v : Value) (p : Nat) (acc : List (Tok × Nat)) (t : Tok) (m : Nat) (w : World) (e : Ending) (w' : World) : Prop :=
  if 4096 ≤ acc.length then e = .returned (.int .i64 8) ∧ ScMoved B b s v p acc w w'
  else e = .returned (.int .i64 0) ∧ ScMoved B b s v (p + m) (acc ++ [(t, p)]) w w'
/-- What an append leaves, and the place turned behind it. -/
theorem put_moved {w w1 : World} {B b : Nat} {s : ByteArray} {p m n cap gg cap2 : Nat} {a : Option Addr} {acc : List (Tok × Nat)} {X Y : Obj} {t : Tok} (hn : n = acc.length) (hB : B ≤ b) (hlt : b < w.heap.size)
    (hne : ∀ k, (Value.slice a n cap).ownBlock = some k → k ≠ b)
    (hb1 : Block w1 b [.string s, .int .i64 p, .slice a n cap] 43)
    (hown1 : w1.ownsRow B 33 4 (.slice (some ⟨gg, 0, none⟩) (n + 1) cap2) (n + 1) (tokCells acc ++ tokC (t, p)))
    (hgrow : (((w.alloc X).alloc Y).drew).grownBy w1 (Value.slice a n cap).ownBlock) (hat : (Value.slice a n cap).ownBlock = some gg ∨ gg = w.heap.size + 2) :
    ScMoved B b s (.slice a n cap) (p + m) (acc ++ [(t, p)]) w ((w1.setCell ⟨b, 2, none⟩ (.slice (some ⟨gg, 0, none⟩) (n + 1) cap2)).setCell ⟨b, 1, none⟩ (.int .i64 ((p : Int) + m))) := by
  have hgb : gg ≠ b := by
    rcases hat with h | h
    · exact hne _ h
    · omega
  have hk : Kept (ownL b (.slice a n cap)) w w1 := (((((Kept.refl _ w).alloc X).alloc Y).drew).grown hgrow (fun k hk => .inl (ownL_v hk)))
  have hs2 : ∀ k, (Value.slice (some ⟨gg, 0, none⟩) (n + 1) cap2).ownBlock = some k → k ≠ b := fun k e => by
    have : gg = k := by injection e
    omega
  refine ⟨.slice (some ⟨gg, 0, none⟩) (n + 1) cap2, ⟨hB, ?_, ?_, hs2⟩, (hk.setCell (.inl (ownL_b b _)) _).setCell (.inl (ownL_b b _)) _, fun x hx => ?_⟩
  · have := (hb1.set 2 (.slice (some ⟨gg, 0, none⟩) (n + 1) cap2)).set 1 (.int .i64 ((p : Int) + m))
    rw [show (((p + m : Nat)) : Int) = (p : Int) + m from by omega]
    exact this
  · rw [List.length_append, ← hn, tokCells_snoc]
    exact own_set (a := ⟨b, 1, none⟩) (own_set (a := ⟨b, 2, none⟩) hown1 hs2 _) hs2 _
  · rcases ownL_cases hx with rfl | e
    · exact .inl (ownL_b _ _)
    · have he : gg = x := by injection e
      subst he
      rcases hat with h | h
      · exact .inl (ownL_v h)
      · exact .inr (by omega)

set_option maxRecDepth 100000 in
set_option maxHeartbeats 3200000 in
theorem put_any (B b : Nat) (s : ByteArray) (v : Value) (p : Nat) (acc : List (Tok × Nat)) (t : Tok) (x : Int) (m : Nat) (w : World) (h : Sc w B b s p v acc) (hacc : acc.length ≤ 4096) (hpm : p + m ≤ 1099511627776) :
    Calls Try.prog 27 #[.pointer (some ⟨b, 0, none⟩), .agg #[.int .i64 t.k, .string (strOf t.t), .int .i64 t.n, .int .i64 x], .int .i64 m] w (PutP B b s v p acc t m w) := by
  obtain ⟨i0, hi0, hz0, hz1, hz2⟩ := info_parts Try.infoTok
  have hH := h
  obtain ⟨hBb, hb, ho, hne⟩ := h
  obtain ⟨a, cap, rfl⟩ := own_form ho
  obtain ⟨n, hn⟩ : ∃ n, acc.length = n := ⟨_, rfl⟩
  have HH := Lib.hid hH
  clear hH
  rw [hn] at ho hb hne hacc
  have HN := Lib.hid hn.symm
  have hlt := hb.lt
  have c1 := hb.cell (i := 1) rfl
  have c2 := hb.cell (i := 2) rfl
  have f1 := hb.free 1
  have f2 := hb.free 2
  have ag : (Value.slice a n cap).ownBlock ≠ some b := fun e => hne b e rfl
  have hfa : ∀ o o', ((w.alloc o).alloc o').drew.frozen? ⟨b, 2, none⟩ = false := fun o o' => ((hb.alloc o).alloc o').free 2
  have HO := Lib.hid ho
  have HB := Lib.hid hb
  have HNE := Lib.hid hne
  clear hb ho hne
  obtain ⟨tk, tt, tn⟩ := t
  by_cases hfull : 4096 ≤ n
  · have hfull' : (4096 : Int) ≤ n := by omega
    clear hn
    go_enter Try.func27, Try.ntmps27
    go_wp2_with fail
    go_ret
    unfold PutP
    rw [if_pos (by rw [← HN.out]; exact hfull)]
    exact ⟨rfl, by rw [HN.out] at *; exact ScMoved.same HH.out ((Below.refl _ _).alloc (Nat.le_refl _) _)⟩
  · have hfull' : ¬ (4096 : Int) ≤ n := by omega
    have hge : decide ((4096 : Int) ≤ n) = false := decide_eq_false hfull'
    clear hn
    go_enter Try.func27, Try.ntmps27
    go_wp2_with fail
    go_region_law (first | (refine step_append_lies _ (by rfl) _ _ _ (by rfl) B 33 i0 _ 4 40 Try.underlying22 hi0 hz0 hz1 hz2 rfl (by omega) (.slice a n cap) n (tokCells acc) (by rfl) (((HO.out.alloc _).alloc _).drew) ⟨w.heap.size + 1, 0, none⟩ 1 1 [.int .i64 tk, .string (strOf tt), .int .i64 tn, .int .i64 p] (by rfl) (by rfl) (World.news_of_block (cs := #[.int .i64 tk, .string (strOf tt), .int .i64 tn, .int .i64 p]) (t := 33) (fr := (0, 0)) (two_new w _ _)) (by simp [Value.oneCell']) (by omega) (by unfold maxLen; omega) (by omega) (by simp; omega) (w.heap.size + 2) (by simp) ?_; intro gg cap2 w1 hown1 hgrow hat hlt1; have hb1 := grown_block HB.out (w0 := ((w.alloc _).alloc _).drew) ((Below.heap_alloc _ _ _ (by simp; omega)).trans (Below.heap_alloc _ _ _ hlt)) hgrow ag; have k1 := hb1.cell (i := 1) rfl; have k2 := hb1.cell (i := 2) rfl; have g1 := hb1.free 1; have g2 := hb1.free 2; have HB1 := Lib.hid hb1; clear hb1))
    all_goals go_wp2_with fail
    all_goals go_ret
    all_goals (unfold PutP; rw [if_neg (by rw [← HN.out]; exact hfull), ← HN.out]; exact ⟨rfl, put_moved (t := ⟨tk, tt, tn⟩) HN.out HH.out.1 hlt HNE.out HB1.out hown1 hgrow hat⟩)
end Go.Proofs.Ytphfnmjccdejkaa

/- Layer 10: the contracts of the scanner's name and number. Conditions: the scanner lies in memory, with at most 4096 tokens; the text is no longer than 2^40; the variable of internal/bytealg is an int. -/
namespace Go.Proofs.Ytphfnmjccdejkaa
open Go.RowKit Go.Shelf
set_option linter.unusedSimpArgs false
set_option linter.unusedVariables false

/-- What one of the four ways to read answers. -/
def ReadP (B b : Nat) (s : ByteArray) (v : Value) (p : Nat) (acc : List (Tok × Nat)) (r : One) (w : World) (e : Ending) (w' : World) : Prop :=
  match r with
  | .bad x => e = .returned (.int .i64 x) ∧ ScMoved B b s v p acc w w'
  | .tok t n => PutP B b s v p acc t n w e w'
theorem PutP.trans {a w w' : World} {B b : Nat} {s : ByteArray} {p : Nat} {v : Value} {acc : List (Tok × Nat)} {t : Tok} {m : Nat} {e : Ending} (hk : Kept (ownL b v) a w) (h : PutP B b s v p acc t m w e w') : PutP B b s v p acc t m a e w' := by
  unfold PutP at h ⊢
  split at h
  · rename_i hc; rw [if_pos hc]; exact ⟨h.1, ScMoved.trans (acc := acc) hk (fun x hx => .inl hx) h.2⟩
  · rename_i hc; rw [if_neg hc]; exact ⟨h.1, ScMoved.trans (acc := acc) hk (fun x hx => .inl hx) h.2⟩
theorem parse_any' (s : ByteArray) (w : World) (hs : s.size ≤ 9223372036854775807) : Calls Try.prog 41 #[.string s] w fun e w' => e = .returned (.tuple #[.int .i64 (parseOf s.data.toList).1, .int .i64 (parseOf s.data.toList).2]) ∧ w' = w := (parse_any s w hs).mono fun _ _ ⟨h, k⟩ => ⟨h, k.symm⟩
theorem below_of_draws {w w' : World} (h : ∃ m, w' = w.drewN m) : Below w.heap.size w w' := by
  obtain ⟨m, rfl⟩ := h; exact below_draws (Below.refl _ _) m
set_option maxRecDepth 1000000 in
set_option maxHeartbeats 4000000 in
theorem name_read (B b : Nat) (s : ByteArray) (v : Value) (p : Nat) (acc : List (Tok × Nat)) (mm : Int) (w : World) (hs : s.size ≤ 1099511627776) (h : Sc w B b s p v acc) (hacc : acc.length ≤ 4096) (hp : p < s.size)
    (hm : w.cell? mlA = some (.int .i64 mm)) (hg : 0 < w.heap.size) (hl : letter s[p].toNat = true) :
    Calls Try.prog 18 #[.pointer (some ⟨b, 0, none⟩)] w (ReadP B b s v p acc (oneL (s.data.toList.drop p)) w) := by
  have HLN : Hid (s.data.toList.length = s.size) := Lib.hid (by simp)
  obtain ⟨R, hR⟩ : ∃ R, oneL (s.data.toList.drop p) = R := ⟨_, rfl⟩
  have HR := Lib.hid hR
  rw [hR]
  clear hR
  have HLD : Hid (letter (nb (s.data.toList.drop p) 0) = true) := Lib.hid (by rw [nb_drop, Nat.add_zero, ← nb_get s p hp]; exact hl)
  obtain ⟨n, hn⟩ : ∃ n, spanB nchar (s.data.toList.drop p) = n := ⟨_, rfl⟩
  have hnle : p + n ≤ s.size := by have := spanB_le nchar (s.data.toList.drop p); rw [hn, List.length_drop, HLN.out] at this; omega
  have HW := Lib.hid (while_name s p b w v hs (by omega) h.2.1)
  rw [hn] at HW
  have HSPN := Lib.hid hn
  have HS := Lib.hid h
  have HM := Lib.hid hm
  clear h hm hl hn
  have s1 : IntKind.i64.wrap ((p : Int) + n) = (p : Int) + n := IntWalk.i64_in _ (by omega)
  have S1 := Lib.hid s1
  clear s1
  have q0 : (0 : Int) ≤ (p : Int) + n := by omega
  have q1 : (p : Int) ≤ (p : Int) + n := by omega
  have q2 : (p : Int) + n ≤ s.size := by omega
  have q3 : ((p : Int) + n).toNat = p + n := by omega
  have Q3 := Lib.hid q3
  clear q3
  have hxz : (s.extract p (p + n)).size ≤ 1099511627776 := by simp; omega
  have HX : Hid ((s.extract p (p + n)).data.toList = (s.data.toList.drop p).take (spanB nchar (s.data.toList.drop p))) := Lib.hid (by rw [extract_drop, HSPN.out, show p + n - p = n from by omega])
  go_enter Try.func18, Try.ntmps18
  go_wp2_with fail
  refine HW.out.mono ?_
  rintro e w1 ⟨rfl, hm1⟩
  have HB1 := Lib.hid (below_of_draws hm1)
  have HS1 : Hid (Sc w1 B b s p v acc) := Lib.hid (HS.out.below HB1.out)
  have HM1 : Hid (w1.cell? mlA = some (.int .i64 mm)) := Lib.hid (by rw [HB1.out.cell (by show 0 < w.heap.size; exact hg)]; exact HM.out)
  have hg1 : 0 < w1.heap.size := Nat.lt_of_lt_of_le hg HB1.out.size
  clear hm1
  have c0 := HS1.out.2.1.cell (i := 0) rfl
  have c1 := HS1.out.2.1.cell (i := 1) rfl
  have HWD := Lib.hid (fun k => word_any (s.extract p (p + n)) mm (w1.drewN k) hxz (by exact HM1.out) (by exact hg1))
  have s1 := S1.out
  have q3 := Q3.out
  go_wp2_with fail
  go_quiet (fail)
  clear s1
  by_cases h64 : 64 < n
  · have h64' : (64 : Int) < n := by omega
    have HRR : Hid (R = .bad 1) := Lib.hid (by rw [← HR.out]; exact oneL_bad_name HLD.out (by rw [HSPN.out]; exact h64))
    go_wp2_with fail
    go_ret
    rw [HRR.out]
    exact ⟨rfl, ScMoved.same HS.out (below_draws HB1.out _)⟩
  · have h64' : ¬ (64 : Int) < n := by omega
    have HN64 : Hid (¬ 64 < spanB nchar (s.data.toList.drop p)) := Lib.hid (by rw [HSPN.out]; exact h64)
    unfold wordR at HWD
    rw [HX.out] at HWD
    cases hw : wordB ((s.data.toList.drop p).take (spanB nchar (s.data.toList.drop p))) with
    | true =>
      obtain ⟨lw, hlw⟩ : ∃ lw, largeL ((s.data.toList.drop p).take (spanB nchar (s.data.toList.drop p))) = lw := ⟨_, rfl⟩
      have HRR : Hid (R = .tok ⟨2, lw, 0⟩ n) := Lib.hid (by rw [← HR.out, oneL_word HLD.out HN64.out hw, hlw, HSPN.out])
      rw [hw, hlw] at HWD
      clear hw hlw
      have HWW : Hid (∀ k, Calls Try.prog 10 #[.string (s.extract p (p + n))] (w1.drewN k) fun e w' => e = .returned (.tuple #[.string (strOf lw), .bool true]) ∧ Below (w1.drewN k).heap.size (w1.drewN k) w') := Lib.hid (fun k => HWD.out k)
      clear HWD
      have HPUT : Hid (∀ w2, Sc w2 B b s p v acc → Calls Try.prog 27 #[.pointer (some ⟨b, 0, none⟩), .agg #[.int .i64 2, .string (strOf lw), .int .i64 0, .int .i64 0], .int .i64 n] w2 (PutP B b s v p acc ⟨2, lw, 0⟩ n w2)) := Lib.hid (fun w2 h2 => put_any B b s v p acc ⟨2, lw, 0⟩ 0 n w2 h2 hacc (by omega))
      go_wp2_with fail
      refine (HWW.out _).mono ?_
      rintro e w2 ⟨rfl, hb2⟩
      have HB2 := Lib.hid (below_step (below_draws HB1.out _) rfl hb2)
      clear hb2
      go_wp2_with fail
      refine (HPUT.out _ (HS.out.below HB2.out)).mono ?_
      rintro e w3 hp3
      have HP3 := Lib.hid (PutP.trans (Kept.of_below HB2.out) hp3)
      unfold PutP at hp3
      split at hp3
      · obtain ⟨rfl, _⟩ := hp3
        go_wp2_with fail
        go_ret
        rw [HRR.out]; exact HP3.out
      · obtain ⟨rfl, _⟩ := hp3
        go_wp2_with fail
        go_ret
        rw [HRR.out]; exact HP3.out
    | false =>
      have HRR : Hid (R = .tok ⟨1, (s.data.toList.drop p).take (spanB nchar (s.data.toList.drop p)), 0⟩ n) := Lib.hid (by rw [← HR.out, oneL_name HLD.out HN64.out hw, HSPN.out])
      have HXX : Hid (strOf ((s.data.toList.drop p).take (spanB nchar (s.data.toList.drop p))) = s.extract p (p + n)) := Lib.hid (by rw [← HX.out]; exact strOf_toList _)
      rw [hw] at HWD
      clear hw
      have HWW : Hid (∀ k, Calls Try.prog 10 #[.string (s.extract p (p + n))] (w1.drewN k) fun e w' => e = .returned (.tuple #[.string ⟨#[]⟩, .bool false]) ∧ Below (w1.drewN k).heap.size (w1.drewN k) w') := Lib.hid (fun k => HWD.out k)
      clear HWD
      have HPUT : Hid (∀ w2, Sc w2 B b s p v acc → Calls Try.prog 27 #[.pointer (some ⟨b, 0, none⟩), .agg #[.int .i64 1, .string (s.extract p (p + n)), .int .i64 0, .int .i64 0], .int .i64 n] w2 (PutP B b s v p acc ⟨1, (s.data.toList.drop p).take (spanB nchar (s.data.toList.drop p)), 0⟩ n w2)) := Lib.hid (fun w2 h2 => by
        have := put_any B b s v p acc ⟨1, (s.data.toList.drop p).take (spanB nchar (s.data.toList.drop p)), 0⟩ 0 n w2 h2 hacc (by omega)
        dsimp only at this
        rw [HXX.out] at this
        exact this)
      go_wp2_with fail
      refine (HWW.out _).mono ?_
      rintro e w2 ⟨rfl, hb2⟩
      have HB2 := Lib.hid (below_step (below_draws HB1.out _) rfl hb2)
      clear hb2
      go_wp2_with fail
      refine (HPUT.out _ (HS.out.below HB2.out)).mono ?_
      rintro e w3 hp3
      have HP3 := Lib.hid (PutP.trans (Kept.of_below HB2.out) hp3)
      unfold PutP at hp3
      split at hp3
      · obtain ⟨rfl, _⟩ := hp3
        go_wp2_with fail
        go_ret
        rw [HRR.out]; exact HP3.out
      · obtain ⟨rfl, _⟩ := hp3
        go_wp2_with fail
        go_ret
        rw [HRR.out]; exact HP3.out

set_option maxRecDepth 1000000 in
set_option maxHeartbeats 4000000 in
theorem number_read (B b : Nat) (s : ByteArray) (v : Value) (p : Nat) (acc : List (Tok × Nat)) (w : World) (hs : s.size ≤ 1099511627776) (h : Sc w B b s p v acc) (hacc : acc.length ≤ 4096) (hp : p < s.size)
    (hl : letter s[p].toNat = false) (hdg : digt s[p].toNat = true) :
    Calls Try.prog 20 #[.pointer (some ⟨b, 0, none⟩)] w (ReadP B b s v p acc (oneL (s.data.toList.drop p)) w) := by
  have HLN : Hid (s.data.toList.length = s.size) := Lib.hid (by simp)
  obtain ⟨R, hR⟩ : ∃ R, oneL (s.data.toList.drop p) = R := ⟨_, rfl⟩
  have HR := Lib.hid hR
  rw [hR]
  clear hR
  have HLD : Hid (letter (nb (s.data.toList.drop p) 0) = false) := Lib.hid (by rw [nb_drop, Nat.add_zero, ← nb_get s p hp]; exact hl)
  have HDD : Hid (digt (nb (s.data.toList.drop p) 0) = true) := Lib.hid (by rw [nb_drop, Nat.add_zero, ← nb_get s p hp]; exact hdg)
  obtain ⟨n, hn⟩ : ∃ n, spanB digt (s.data.toList.drop p) = n := ⟨_, rfl⟩
  have hnle : p + n ≤ s.size := by have := spanB_le digt (s.data.toList.drop p); rw [hn, List.length_drop, HLN.out] at this; omega
  have HW := Lib.hid (while_digit s p b w v hs (by omega) h.2.1)
  rw [hn] at HW
  have HSPN := Lib.hid hn
  have HS := Lib.hid h
  clear h hl hdg hn
  have s1 : IntKind.i64.wrap ((p : Int) + n) = (p : Int) + n := IntWalk.i64_in _ (by omega)
  have S1 := Lib.hid s1
  clear s1
  have q0 : (0 : Int) ≤ (p : Int) + n := by omega
  have q1 : (p : Int) ≤ (p : Int) + n := by omega
  have q2 : (p : Int) + n ≤ s.size := by omega
  have q3 : ((p : Int) + n).toNat = p + n := by omega
  have Q3 := Lib.hid q3
  clear q3
  have hxz : (s.extract p (p + n)).size ≤ 9223372036854775807 := by simp; omega
  have HX : Hid ((s.extract p (p + n)).data.toList = (s.data.toList.drop p).take (spanB digt (s.data.toList.drop p))) := Lib.hid (by rw [extract_drop, HSPN.out, show p + n - p = n from by omega])
  have HPA := Lib.hid (fun w => parse_any' (s.extract p (p + n)) w hxz)
  rw [HX.out] at HPA
  obtain ⟨x, f, hxf⟩ : ∃ x f, parseOf ((s.data.toList.drop p).take (spanB digt (s.data.toList.drop p))) = (x, f) := ⟨_, _, rfl⟩
  rw [hxf] at HPA
  have HXF := Lib.hid hxf
  clear hxf
  have HPP : Hid (∀ w, Calls Try.prog 41 #[.string (s.extract p (p + n))] w fun e w' => e = .returned (.tuple #[.int .i64 x, .int .i64 f]) ∧ w' = w) := Lib.hid (fun w => HPA.out w)
  clear HPA hxz
  go_enter Try.func20, Try.ntmps20
  go_wp2_with fail
  refine HW.out.mono ?_
  rintro e w1 ⟨rfl, hm1⟩
  have HB1 := Lib.hid (below_of_draws hm1)
  have HS1 : Hid (Sc w1 B b s p v acc) := Lib.hid (HS.out.below HB1.out)
  clear hm1
  have c0 := HS1.out.2.1.cell (i := 0) rfl
  have c1 := HS1.out.2.1.cell (i := 1) rfl
  have s1 := S1.out
  have q3 := Q3.out
  go_wp2_with fail
  go_quiet ((go_at_call 41; exact Calls.quiet_of_same (HPP.out _)))
  clear s1
  by_cases hf : f = 0
  · subst hf
    have HRR : Hid (R = .tok ⟨3, [], x⟩ n) := Lib.hid (by rw [← HR.out, oneL_num HLD.out HDD.out (by rw [HXF.out]), HXF.out, HSPN.out])
    have HPUT : Hid (∀ w2, Sc w2 B b s p v acc → Calls Try.prog 27 #[.pointer (some ⟨b, 0, none⟩), .agg #[.int .i64 3, .string ⟨#[]⟩, .int .i64 x, .int .i64 0], .int .i64 n] w2 (PutP B b s v p acc ⟨3, [], x⟩ n w2)) := Lib.hid (fun w2 h2 => put_any B b s v p acc ⟨3, [], x⟩ 0 n w2 h2 hacc (by omega))
    go_wp2_with fail
    refine (HPUT.out _ (HS.out.below (below_draws HB1.out _))).mono ?_
    rintro e w3 hp3
    have HP3 := Lib.hid (PutP.trans (Kept.of_below (below_draws HB1.out _)) hp3)
    unfold PutP at hp3
    split at hp3
    · obtain ⟨rfl, _⟩ := hp3
      go_wp2_with fail
      go_ret
      rw [HRR.out]; exact HP3.out
    · obtain ⟨rfl, _⟩ := hp3
      go_wp2_with fail
      go_ret
      rw [HRR.out]; exact HP3.out
  · have hfb : (f == 0) = false := beq_eq_false_iff_ne.2 hf
    have hfn : (f != 0) = true := by simp [bne, hfb]
    have HRR : Hid (R = .bad f) := Lib.hid (by rw [← HR.out, oneL_numbad HLD.out HDD.out (by rw [HXF.out]; exact hf), HXF.out])
    clear hf
    go_wp2_with fail
    go_ret
    rw [HRR.out]
    exact ⟨rfl, ScMoved.same HS.out (below_draws HB1.out _)⟩
end Go.Proofs.Ytphfnmjccdejkaa

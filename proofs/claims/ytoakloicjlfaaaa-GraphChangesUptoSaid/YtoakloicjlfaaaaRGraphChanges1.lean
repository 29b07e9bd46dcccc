/- The texts S2, S3, S4, S5, S6, S7, Shelf, S8, S9, S10, S11, S13, S19, S23, S24, S25, G30, G31, G32, G18, G19, G33, G34, G40 of this seat, one behind the other. Conditions: each says its own. -/
import Derived.Lib.Strings
import Derived.Outline
import Derived.Laws.BytesArg
import Derived.Laws.IdiomStrings
import Derived.Deep.RegionLaw
import Derived.Laws.Concat
import Derived.Shelf.Strings.BuilderK
import Derived.Shelf.Strings.BuilderRune
import Derived.Shelf.Strings.Prefix
import Derived.Shelf.Strings.Search1
import Derived.Shelf.Strings.OnBuilder
import Derived.Shelf.Small.Strs
import Derived.WalkKit
import Derived.BigCall
import Derived.BigQuiet
import Derived.Laws.Runes
import Derived.Lib.Join
import Derived.Deep.AppendLies
import Derived.Test.YtoakloicjlfaaaaM4

/- Layer 5: what quotes make of a text, in plain lists of bytes; the same by runes. Conditions: none. -/
namespace Go.Proofs.Ytoakloicjlfaaaa
open Go.RowKit

theorem sg_one {l : List UInt8} : sg l = 1 ↔ (l.length ≠ 0 ∧ nb l 0 < 128) := by
 unfold sg
 constructor
 ·intro h
  split at h
  ·cases h
  ·split at h
   ·exact ⟨by assumption, by assumption⟩
   ·split at h
    ·cases h
    ·split at h
     ·cases h
     ·split at h
      ·cases h
      ·split at h
       ·cases h
       ·split at h <;> cases h
 ·rintro ⟨h1, h2⟩
  rw [if_neg h1, if_pos h2]
theorem sg_le {l : List UInt8} : sg l ≤ 4 ∧ sg l ≤ l.length := by
 unfold sg
 simp only [tl_false]
 generalize nb l 0 = b0
 generalize nb l 1 = b1
 generalize nb l 2 = b2
 generalize nb l 3 = b3
 generalize l.length = n
 split
 ·omega
 split
 ·omega
 rename_i h0 h1
 by_cases g1 : b0 < 194 ∨ 244 < b0 ∨ ¬ (1 < n ∧ 128 ≤ b1 ∧ b1 < 192)
 ·rw [if_pos g1]; omega
 rw [if_neg g1]
 have k1 : 1 < n := Classical.byContradiction fun h => g1 (.inr (.inr (fun x => h x.1)))
 split
 ·omega
 by_cases g3 : ¬ (2 < n ∧ 128 ≤ b2 ∧ b2 < 192) ∨ (b0 = 224 ∧ b1 < 160) ∨ (b0 = 237 ∧ 160 ≤ b1)
 ·rw [if_pos g3]; omega
 rw [if_neg g3]
 have k3 : 2 < n := Classical.byContradiction fun h => g3 (.inl (fun x => h x.1))
 split
 ·omega
 by_cases g5 : ¬ (3 < n ∧ 128 ≤ b3 ∧ b3 < 192) ∨ (b0 = 240 ∧ b1 < 144) ∨ (b0 = 244 ∧ 144 ≤ b1)
 ·rw [if_pos g5]; omega
 rw [if_neg g5]
 have k5 : 3 < n := Classical.byContradiction fun h => g5 (.inl (fun x => h x.1))
 omega

/-- The facts of a sign of two, three, four bytes. -/
theorem sg_facts {l : List UInt8} : (sg l = 2 → 194 ≤ nb l 0 ∧ nb l 0 < 224 ∧ (128 ≤ nb l 1 ∧ nb l 1 < 192)) ∧
    (sg l = 3 → 224 ≤ nb l 0 ∧ nb l 0 < 240 ∧ (128 ≤ nb l 1 ∧ nb l 1 < 192) ∧ (128 ≤ nb l 2 ∧ nb l 2 < 192) ∧ ¬ (nb l 0 = 224 ∧ nb l 1 < 160) ∧ ¬ (nb l 0 = 237 ∧ 160 ≤ nb l 1)) ∧
    (sg l = 4 → 240 ≤ nb l 0 ∧ nb l 0 ≤ 244 ∧ (128 ≤ nb l 1 ∧ nb l 1 < 192) ∧ (128 ≤ nb l 2 ∧ nb l 2 < 192) ∧ (128 ≤ nb l 3 ∧ nb l 3 < 192) ∧ ¬ (nb l 0 = 240 ∧ nb l 1 < 144) ∧ ¬ (nb l 0 = 244 ∧ 144 ≤ nb l 1)) := by
  unfold sg
  simp only [tl_false]
  generalize nb l 0 = b0
  generalize nb l 1 = b1
  generalize nb l 2 = b2
  generalize nb l 3 = b3
  generalize l.length = n
  by_cases h0 : n = 0
  · rw [if_pos h0]; simp
  rw [if_neg h0]
  by_cases h1 : b0 < 128
  · rw [if_pos h1]; simp
  rw [if_neg h1]
  by_cases g1 : b0 < 194 ∨ 244 < b0 ∨ ¬ (1 < n ∧ 128 ≤ b1 ∧ b1 < 192)
  · rw [if_pos g1]; simp
  rw [if_neg g1]
  have k1 : (1 < n ∧ 128 ≤ b1 ∧ b1 < 192) := Classical.byContradiction fun h => g1 (.inr (.inr h))
  have k2 : 194 ≤ b0 ∧ b0 ≤ 244 := ⟨by omega, by omega⟩
  by_cases g2 : b0 < 224
  · rw [if_pos g2]; exact ⟨fun _ => ⟨k2.1, g2, k1.2⟩, fun h => (by cases h), fun h => (by cases h)⟩
  rw [if_neg g2]
  by_cases g3 : ¬ (2 < n ∧ 128 ≤ b2 ∧ b2 < 192) ∨ (b0 = 224 ∧ b1 < 160) ∨ (b0 = 237 ∧ 160 ≤ b1)
  · rw [if_pos g3]; simp
  rw [if_neg g3]
  have k3 : (2 < n ∧ 128 ≤ b2 ∧ b2 < 192) := Classical.byContradiction fun h => g3 (.inl h)
  by_cases g4 : b0 < 240
  · rw [if_pos g4]
    exact ⟨fun h => (by cases h), fun _ => ⟨by omega, g4, k1.2, k3.2, fun h => g3 (.inr (.inl h)), fun h => g3 (.inr (.inr h))⟩, fun h => (by cases h)⟩
  rw [if_neg g4]
  by_cases g5 : ¬ (3 < n ∧ 128 ≤ b3 ∧ b3 < 192) ∨ (b0 = 240 ∧ b1 < 144) ∨ (b0 = 244 ∧ 144 ≤ b1)
  · rw [if_pos g5]; simp
  rw [if_neg g5]
  exact ⟨fun h => (by cases h), fun h => (by cases h), fun _ => ⟨by omega, k2.2, k1.2, k3.2, (Classical.byContradiction fun h => g5 (.inl h) : 3 < n ∧ 128 ≤ b3 ∧ b3 < 192).2, fun h => g5 (.inr (.inl h)), fun h => g5 (.inr (.inr h))⟩⟩

theorem take_nb (l : List UInt8) (n : Nat) (h : n ≤ l.length) : l.take n = (List.range n).map fun k => UInt8.ofNat (nb l k) := by
 apply List.ext_getElem?
 intro i
 rw [List.getElem?_take]
 by_cases hi : i < n
 ·rw [if_pos hi, List.getElem?_map, List.getElem?_range hi]
  have hl : l[i]? = some l[i] := List.getElem?_eq_getElem (by omega)
  unfold nb
  rw [hl]
  simp [hl]
 ·rw [if_neg hi, List.getElem?_eq_none (by simpa using hi)]

/-- The rune, written as bytes, is the sign. -/
theorem encode_sign {l : List UInt8} (h : sg l ≠ 0) : Lib.encodeRune (rv l : Int) = l.take (sg l) := by
 have h0 := nb_lt l 0
 have h1 := nb_lt l 1
 have h2 := nb_lt l 2
 have h3 := nb_lt l 3
 obtain ⟨f2, f3, f4⟩ := sg_facts (l := l)
 have hle := (sg_le (l := l)).2
 rw [take_nb l _ hle]
 have hc : sg l = 1 ∨ sg l = 2 ∨ sg l = 3 ∨ sg l = 4 := by have := (sg_le (l := l)).1; omega
 rcases hc with e | e | e | e
 ·have hn := (sg_one.1 e).2
  have hr : rv l = nb l 0 := by unfold rv; rw [if_pos e]
  rw [hr, e]
  unfold Lib.encodeRune
  rw [Lib.encodeRuneZ_one (by omega) (by omega)]
  simp only [List.range, List.range.loop, List.map_cons, List.map_nil, Int.toNat_natCast]
 ·obtain ⟨a, b, c, d⟩ := f2 e
  have hr : rv l = (nb l 0 - 192) * 64 + (nb l 1 - 128) := by unfold rv; rw [if_neg (by omega), if_pos e]
  rw [e]
  unfold Lib.encodeRune
  generalize rv l = r at *
  rw [Lib.encodeRuneZ_two (by omega) (by omega)]
  have e0 : (192 + (r : Int) / 64).toNat = nb l 0 := by omega
  have e1 : (128 + (r : Int) % 64).toNat = nb l 1 := by omega
  simp only [List.range, List.range.loop, List.map_cons, List.map_nil, e0, e1]
 ·obtain ⟨a, b, ⟨c, d⟩, ⟨p, q⟩, u, v⟩ := f3 e
  have hr : rv l = (nb l 0 - 224) * 4096 + (nb l 1 - 128) * 64 + (nb l 2 - 128) := by unfold rv; rw [if_neg (by omega), if_neg (by omega), if_pos e]
  rw [e]
  unfold Lib.encodeRune
  generalize rv l = r at *
  rw [Lib.encodeRuneZ_three (by omega)]
  have e0 : (224 + (r : Int) / 4096).toNat = nb l 0 := by omega
  have e1 : (128 + (r : Int) / 64 % 64).toNat = nb l 1 := by omega
  have e2 : (128 + (r : Int) % 64).toNat = nb l 2 := by omega
  simp only [List.range, List.range.loop, List.map_cons, List.map_nil, e0, e1, e2]
 ·obtain ⟨a, b, ⟨c, d⟩, ⟨p, q⟩, ⟨x, y⟩, u, v⟩ := f4 e
  have hr : rv l = (nb l 0 - 240) * 262144 + (nb l 1 - 128) * 4096 + (nb l 2 - 128) * 64 + (nb l 3 - 128) := by unfold rv; rw [if_neg (by omega), if_neg (by omega), if_neg (by omega), if_pos e]
  rw [e]
  unfold Lib.encodeRune
  generalize rv l = r at *
  rw [Lib.encodeRuneZ_four (by omega) (by omega)]
  have e0 : (240 + (r : Int) / 262144).toNat = nb l 0 := by omega
  have e1 : (128 + (r : Int) / 4096 % 64).toNat = nb l 1 := by omega
  have e2 : (128 + (r : Int) / 64 % 64).toNat = nb l 2 := by omega
  have e3 : (128 + (r : Int) % 64).toNat = nb l 3 := by omega
  simp only [List.range, List.range.loop, List.map_cons, List.map_nil, e0, e1, e2, e3]

/-- A rune beyond ASCII. -/
theorem rv_big {l : List UInt8} (h : ¬ nb l 0 < 128) : 128 ≤ rv l := by
 obtain ⟨f2, f3, f4⟩ := sg_facts (l := l)
 have hc : sg l = 0 ∨ sg l = 2 ∨ sg l = 3 ∨ sg l = 4 := by
  have := (sg_le (l := l)).1
  have h1 : sg l ≠ 1 := fun e => h (sg_one.1 e).2
  omega
 unfold rv
 rcases hc with e | e | e | e
 ·rw [e]; simp
 ·have := f2 e; rw [if_neg (by omega), if_pos e]; omega
 ·have := f3 e; rw [if_neg (by omega), if_neg (by omega), if_pos e]; omega
 ·have := f4 e; rw [if_neg (by omega), if_neg (by omega), if_neg (by omega), if_pos e]; omega
theorem prefix_iff {l : List UInt8} : Lib.hasPrefix l [239, 191, 189] = true ↔ (3 ≤ l.length ∧ nb l 0 = 239 ∧ nb l 1 = 191 ∧ nb l 2 = 189) := by
 unfold Lib.hasPrefix nb
 match l with
 | [] => simp
 | [a] => simp
 | [a, b] => simp
 | a :: b :: c :: r =>
  simp [← UInt8.toNat_inj]
  exact ⟨fun ⟨h1, h2, h3⟩ => ⟨h1.symm, h2.symm, h3.symm⟩, fun ⟨h1, h2, h3⟩ => ⟨h1.symm, h2.symm, h3.symm⟩⟩
/-- No sign: the rune 65533 where the text has not that sign's bytes. -/
theorem bad_iff {l : List UInt8} (h0 : l.length ≠ 0) : (rv l = 65533 ∧ Lib.hasPrefix l [239, 191, 189] = false) ↔ sg l = 0 := by
 obtain ⟨f2, f3, f4⟩ := sg_facts (l := l)
 have h1 := nb_lt l 0
 constructor
 ·rintro ⟨hr, hp⟩
  have hp' : ¬ (3 ≤ l.length ∧ nb l 0 = 239 ∧ nb l 1 = 191 ∧ nb l 2 = 189) := fun h => by rw [prefix_iff.2 h] at hp; cases hp
  have hle := sg_le (l := l)
  have hc : sg l = 0 ∨ sg l = 1 ∨ sg l = 2 ∨ sg l = 3 ∨ sg l = 4 := by omega
  unfold rv at hr
  rcases hc with e | e | e | e | e
  ·exact e
  ·rw [if_pos e] at hr; have := (sg_one.1 e).2; omega
  ·have := f2 e; rw [if_neg (by omega), if_pos e] at hr; omega
  ·have := f3 e; rw [if_neg (by omega), if_neg (by omega), if_pos e] at hr; omega
  ·have := f4 e; rw [if_neg (by omega), if_neg (by omega), if_neg (by omega), if_pos e] at hr; omega
 ·intro e
  refine ⟨by unfold rv; rw [e]; simp, ?_⟩
  cases hp : Lib.hasPrefix l [239, 191, 189] with
  | false => rfl
  | true =>
   obtain ⟨h3, a, b, c⟩ := prefix_iff.1 hp
   exfalso
   unfold sg at e
   simp only [tl_false, a, b, c] at e
   rw [if_neg h0] at e
   simp at e
   omega
end Go.Proofs.Ytoakloicjlfaaaa

/- Layer 5: the contracts of the reference's tail, Sign, Letter, Digit. Conditions: none. -/
namespace Go.Proofs.Ytoakloicjlfaaaa
open Go.RowKit
set_option linter.unusedSimpArgs false
set_option linter.unusedVariables false

theorem nb_drop (l : List UInt8) (p k : Nat) : nb (l.drop p) k = nb l (p + k) := by unfold nb; rw [List.getElem?_drop]
theorem nb_get (s : ByteArray) (i : Nat) (h : i < s.size) : s[i].toNat = nb s.data.toList i := by
 unfold nb
 rw [List.getElem?_eq_getElem (by simpa using h)]
 rfl
end Go.Proofs.Ytoakloicjlfaaaa

/- Layer 5: the contracts of Letter, Digit, Hex. Written by genS4.py. Conditions: none. -/
namespace Go.Proofs.Ytoakloicjlfaaaa
open Go.RowKit
set_option linter.unusedSimpArgs false
set_option linter.unusedVariables false

def letter (c : Nat) : Bool := decide ((97 ≤ c ∧ c ≤ 122) ∨ (65 ≤ c ∧ c ≤ 90) ∨ c = 95)
def digt (c : Nat) : Bool := decide (48 ≤ c ∧ c ≤ 57)
end Go.Proofs.Ytoakloicjlfaaaa

/- Layer 5: what quoting makes of a text, in plain lists of bytes. Conditions: none. -/
namespace Go.Proofs.Ytoakloicjlfaaaa
open Go.RowKit
set_option linter.unusedVariables false

/-- The byte of a hexadecimal digit. -/
def hxd (k : Nat) : UInt8 := if k < 10 then UInt8.ofNat (48 + k) else UInt8.ofNat (87 + k)
/-- A byte by its two digits. -/
def hx2 (c : Nat) : List UInt8 := [hxd (c / 16), hxd (c % 16)]
/-- How far a step goes. -/
def stepQ (l : List UInt8) : Nat := if sg l = 0 then 1 else sg l
/-- What a step writes. -/
def pieceQ (l : List UInt8) : List UInt8 :=
 if sg l = 0 ∨ nb l 0 = 127 then [92, 120] ++ hx2 (nb l 0)
 else if nb l 0 = 39 ∨ nb l 0 = 92 then [92, UInt8.ofNat (nb l 0)]
 else if nb l 0 = 10 then [92, 110] else if nb l 0 = 9 then [92, 116] else if nb l 0 = 13 then [92, 114]
 else if nb l 0 < 32 then [92, 120] ++ hx2 (nb l 0) else l.take (sg l)
theorem stepQ_pos (l : List UInt8) : 1 ≤ stepQ l := by unfold stepQ; split <;> omega
theorem stepQ_le {l : List UInt8} (h : l.length ≠ 0) : stepQ l ≤ l.length := by
 have := sg_le (l := l)
 unfold stepQ; split <;> omega
theorem pieceQ_le (l : List UInt8) : (pieceQ l).length ≤ 4 := by
 have := sg_le (l := l)
 unfold pieceQ hx2
 repeat' split
 all_goals simp
 omega
/-- What lies between the quotes. -/
def quoteL (l : List UInt8) : List UInt8 := if h : l.length = 0 then [] else pieceQ l ++ quoteL (l.drop (stepQ l))
termination_by l.length
decreasing_by
 have := stepQ_pos l
 simp only [List.length_drop]
 omega
theorem quoteL_nil {l : List UInt8} (h : l.length = 0) : quoteL l = [] := by unfold quoteL; rw [dif_pos h]
theorem quoteL_step {l : List UInt8} (h : l.length ≠ 0) : quoteL l = pieceQ l ++ quoteL (l.drop (stepQ l)) := by rw [quoteL, dif_neg h]
theorem quoteL_len (l : List UInt8) : (quoteL l).length ≤ 4 * l.length := by
 induction hn : l.length using Nat.strongRecOn generalizing l with
 | _ n ih =>
  by_cases h : l.length = 0
  ·rw [quoteL_nil h]; simp
  rw [quoteL_step h, List.length_append]
  have h1 := stepQ_pos l
  have h2 := stepQ_le h
  have h3 := pieceQ_le l
  have h4 := ih (l.drop (stepQ l)).length (by simp only [List.length_drop]; omega) (l.drop (stepQ l)) rfl
  simp only [List.length_drop] at h4
  omega
/-- What is written ahead of place i, and that a step goes on with it. -/
def DoneQ (l : List UInt8) (i : Nat) (d : List UInt8) : Prop := i ≤ l.length ∧ d.length ≤ 4 * i ∧ d ++ quoteL (l.drop i) = quoteL l
theorem doneQ_zero (l : List UInt8) : DoneQ l 0 [] := ⟨by omega, by simp, by simp⟩
theorem doneQ_step {l d : List UInt8} {i : Nat} (h : DoneQ l i d) (hi : i < l.length) : DoneQ l (i + stepQ (l.drop i)) (d ++ pieceQ (l.drop i)) := by
 obtain ⟨h1, h2, h3⟩ := h
 have hl : (l.drop i).length ≠ 0 := by simp; omega
 have a := stepQ_le hl
 have b := stepQ_pos (l.drop i)
 have c := pieceQ_le (l.drop i)
 rw [List.length_drop] at a
 refine ⟨by omega, by rw [List.length_append]; omega, ?_⟩
 rw [quoteL_step hl, List.drop_drop] at h3
 rw [← h3, List.append_assoc]
theorem doneQ_end {l d : List UInt8} {i : Nat} (h : DoneQ l i d) (hi : l.length ≤ i) : d = quoteL l := by
 obtain ⟨h1, h2, h3⟩ := h
 rw [quoteL_nil (by simp; omega), List.append_nil] at h3
 exact h3
end Go.Proofs.Ytoakloicjlfaaaa

/- Layer 5: the contract of the reference's hex. Conditions: none. -/
namespace Go.Proofs.Ytoakloicjlfaaaa
open Go.RowKit
set_option linter.unusedSimpArgs false
set_option linter.unusedVariables false

def strOf (l : List UInt8) : ByteArray := ⟨l.toArray⟩
theorem strOf_list (l : List UInt8) : (strOf l).toList = l := by simp [strOf]
theorem strOf_size (l : List UInt8) : (strOf l).size = l.length := by simp [strOf, ByteArray.size]
theorem lit_at (k : Nat) (h : k < 16) : ∀ h' : k < (ByteArray.mk #[48, 49, 50, 51, 52, 53, 54, 55, 56, 57, 97, 98, 99, 100, 101, 102]).size, (ByteArray.mk #[48, 49, 50, 51, 52, 53, 54, 55, 56, 57, 97, 98, 99, 100, 101, 102])[k].toNat = (hxd k).toNat := by
 have : k = 0 ∨ k = 1 ∨ k = 2 ∨ k = 3 ∨ k = 4 ∨ k = 5 ∨ k = 6 ∨ k = 7 ∨ k = 8 ∨ k = 9 ∨ k = 10 ∨ k = 11 ∨ k = 12 ∨ k = 13 ∨ k = 14 ∨ k = 15 := by omega
 rcases this with h | h | h | h | h | h | h | h | h | h | h | h | h | h | h | h <;> subst h <;> intro _ <;> rfl

end Go.Proofs.Ytoakloicjlfaaaa

/- Layer 5: the contract of the reference's Quote. Written by genS7.py. Conditions: the text is no longer than 2^40. -/
namespace Go.Proofs.Ytoakloicjlfaaaa
open Go.RowKit
set_option linter.unusedSimpArgs false
set_option linter.unusedVariables false

theorem strOf_append (p q : List UInt8) : strOf p ++ strOf q = strOf (p ++ q) := by
 apply ByteArray.ext; simp [strOf]
theorem extract_strOf (s : ByteArray) (k n : Nat) (h : k + n ≤ s.size) : s.extract k (k + n) = strOf ((s.data.toList.drop k).take n) := by
 apply ByteArray.ext
 apply Array.ext'
 simp [strOf]
/-- Adding a text to a text of bytes. -/
theorem add_of (p q : List UInt8) (B : ByteArray) (hB : strOf q = B) (u : World) (h : p.length + q.length ≤ 9223372036854775807) {r : List UInt8} (hr : p ++ q = r) : (Op.stringOp .add (strOf p) B).run Try.prog u = .ok (.string (strOf r)) u := by
 subst hr
 subst hB
 rw [← strOf_append]
 exact run_string_add_sum (P := Try.prog) (w := u) (strOf p) (strOf q) (by rw [strOf_size, strOf_size]; exact h)
end Go.Proofs.Ytoakloicjlfaaaa

/- The shelf's contracts of strings.Builder and of a few functions of strings at this dump, under one numbering. Conditions: none. -/
namespace Go.Proofs.Ytoakloicjlfaaaa
open Go.Shelf Go.Proofs Go.RowKit
def shRen : Go.Shelf.Ren := ⟨fun | 99 => 83 | 156 => 64 | 165 => 85 | 166 => 33 | 167 => 35 | 168 => 82 | 169 => 38 | 206 => 96 | 240 => 62 | 241 => 97 | 242 => 95 | 276 => 81 | 277 => 103 | 278 => 102 | n => n, fun | 0 => 0 | 3 => 3 | 4 => 4 | 5 => 5 | 9 => 9 | 20 => 20 | 21 => 21 | 31 => 35 | 37 => 62 | 46 => 117 | 51 => 123 | 70 => 61 | 72 => 64 | 75 => 66 | 76 => 67 | 80 => 76 | 127 => 96 | 164 => 108 | n => n, fun | n => n⟩
theorem shLays168 : Go.Proofs.Lays.n168 Try.prog shRen := {
 mixed := by kernel_rfl
 f168 := Try.func82.trans (congrArg some (by kernel_rfl))
 f240 := Try.func62.trans (congrArg some (by kernel_rfl))
 f242 := Try.func95.trans (congrArg some (by kernel_rfl))
 f276 := Try.func81.trans (congrArg some (by kernel_rfl))
 f278 := Try.func102.trans (congrArg some (by kernel_rfl))
 t0 := Try.underlying0
 a0 := Try.isAgg0
 z0 := Try.sizeOf0
 v0 := Try.zeroValue0
 t3 := Try.underlying3
 a3 := Try.isAgg3
 z3 := Try.sizeOf3
 v3 := Try.zeroValue3
 t4 := Try.underlying4
 a4 := Try.isAgg4
 z4 := Try.sizeOf4
 v4 := Try.zeroValue4
 t5 := Try.underlying5
 a5 := Try.isAgg5
 z5 := Try.sizeOf5
 v5 := Try.zeroValue5
 t9 := Try.underlying9
 a9 := Try.isAgg9
 z9 := Try.sizeOf9
 v9 := Try.zeroValue9
 t20 := Try.underlying20
 a20 := Try.isAgg20
 z20 := Try.sizeOf20
 v20 := Try.zeroValue20
 t21 := Try.underlying21
 a21 := Try.isAgg21
 z21 := Try.sizeOf21
 v21 := Try.zeroValue21
 t37 := Try.underlying62
 a37 := Try.isAgg62
 z37 := Try.sizeOf62
 v37 := Try.zeroValue62
 t46 := Try.underlying117
 a46 := Try.isAgg117
 z46 := Try.sizeOf117
 v46 := Try.zeroValue117
 t51 := Try.underlying123
 a51 := Try.isAgg123
 z51 := Try.sizeOf123
 v51 := Try.zeroValue123
 t70 := Try.underlying61
 a70 := Try.isAgg61
 z70 := Try.sizeOf61
 v70 := Try.zeroValue61
 t72 := Try.underlying64
 a72 := Try.isAgg64
 z72 := Try.sizeOf64
 v72 := Try.zeroValue64
 t75 := Try.underlying66
 a75 := Try.isAgg66
 z75 := Try.sizeOf66
 v75 := Try.zeroValue66
 t164 := Try.underlying108
 a164 := Try.isAgg108
 z164 := Try.sizeOf108
 v164 := Try.zeroValue108
}
theorem shLays167 : Go.Proofs.Lays.n167 Try.prog shRen := {
 mixed := by kernel_rfl
 f167 := Try.func35.trans (congrArg some (by kernel_rfl))
 f240 := Try.func62.trans (congrArg some (by kernel_rfl))
 f276 := Try.func81.trans (congrArg some (by kernel_rfl))
 t0 := Try.underlying0
 a0 := Try.isAgg0
 z0 := Try.sizeOf0
 v0 := Try.zeroValue0
 t4 := Try.underlying4
 a4 := Try.isAgg4
 z4 := Try.sizeOf4
 v4 := Try.zeroValue4
 t5 := Try.underlying5
 a5 := Try.isAgg5
 z5 := Try.sizeOf5
 v5 := Try.zeroValue5
 t9 := Try.underlying9
 a9 := Try.isAgg9
 z9 := Try.sizeOf9
 v9 := Try.zeroValue9
 t20 := Try.underlying20
 a20 := Try.isAgg20
 z20 := Try.sizeOf20
 v20 := Try.zeroValue20
 t37 := Try.underlying62
 a37 := Try.isAgg62
 z37 := Try.sizeOf62
 v37 := Try.zeroValue62
 t70 := Try.underlying61
 a70 := Try.isAgg61
 z70 := Try.sizeOf61
 v70 := Try.zeroValue61
 t72 := Try.underlying64
 a72 := Try.isAgg64
 z72 := Try.sizeOf64
 v72 := Try.zeroValue64
 t75 := Try.underlying66
 a75 := Try.isAgg66
 z75 := Try.sizeOf66
 v75 := Try.zeroValue66
 t164 := Try.underlying108
 a164 := Try.isAgg108
 z164 := Try.sizeOf108
 v164 := Try.zeroValue108
}
theorem shLays166 : Go.Proofs.Lays.n166 Try.prog shRen := {
 mixed := by kernel_rfl
 f166 := Try.func33.trans (congrArg some (by kernel_rfl))
 f240 := Try.func62.trans (congrArg some (by kernel_rfl))
 f276 := Try.func81.trans (congrArg some (by kernel_rfl))
 t0 := Try.underlying0
 a0 := Try.isAgg0
 z0 := Try.sizeOf0
 v0 := Try.zeroValue0
 t3 := Try.underlying3
 a3 := Try.isAgg3
 z3 := Try.sizeOf3
 v3 := Try.zeroValue3
 t4 := Try.underlying4
 a4 := Try.isAgg4
 z4 := Try.sizeOf4
 v4 := Try.zeroValue4
 t9 := Try.underlying9
 a9 := Try.isAgg9
 z9 := Try.sizeOf9
 v9 := Try.zeroValue9
 t20 := Try.underlying20
 a20 := Try.isAgg20
 z20 := Try.sizeOf20
 v20 := Try.zeroValue20
 t37 := Try.underlying62
 a37 := Try.isAgg62
 z37 := Try.sizeOf62
 v37 := Try.zeroValue62
 t70 := Try.underlying61
 a70 := Try.isAgg61
 z70 := Try.sizeOf61
 v70 := Try.zeroValue61
 t72 := Try.underlying64
 a72 := Try.isAgg64
 z72 := Try.sizeOf64
 v72 := Try.zeroValue64
 t75 := Try.underlying66
 a75 := Try.isAgg66
 z75 := Try.sizeOf66
 v75 := Try.zeroValue66
 t164 := Try.underlying108
 a164 := Try.isAgg108
 z164 := Try.sizeOf108
 v164 := Try.zeroValue108
}
theorem shLays169 : Go.Proofs.Lays.n169 Try.prog shRen := {
 mixed := by kernel_rfl
 f169 := Try.func38.trans (congrArg some (by kernel_rfl))
 t0 := Try.underlying0
 a0 := Try.isAgg0
 z0 := Try.sizeOf0
 v0 := Try.zeroValue0
 t3 := Try.underlying3
 a3 := Try.isAgg3
 z3 := Try.sizeOf3
 v3 := Try.zeroValue3
 t9 := Try.underlying9
 a9 := Try.isAgg9
 z9 := Try.sizeOf9
 v9 := Try.zeroValue9
 t37 := Try.underlying62
 a37 := Try.isAgg62
 z37 := Try.sizeOf62
 v37 := Try.zeroValue62
 t70 := Try.underlying61
 a70 := Try.isAgg61
 z70 := Try.sizeOf61
 v70 := Try.zeroValue61
 t72 := Try.underlying64
 a72 := Try.isAgg64
 z72 := Try.sizeOf64
 v72 := Try.zeroValue64
 t127 := Try.underlying96
 a127 := Try.isAgg96
 z127 := Try.sizeOf96
 v127 := Try.zeroValue96
}
theorem shLays99 : Go.Proofs.Lays.n99 Try.prog shRen := {
 mixed := by kernel_rfl
 f99 := Try.func83.trans (congrArg some (by kernel_rfl))
 f206 := Try.func96.trans (congrArg some (by kernel_rfl))
 t3 := Try.underlying3
 a3 := Try.isAgg3
 z3 := Try.sizeOf3
 v3 := Try.zeroValue3
 t4 := Try.underlying4
 a4 := Try.isAgg4
 z4 := Try.sizeOf4
 v4 := Try.zeroValue4
 t9 := Try.underlying9
 a9 := Try.isAgg9
 z9 := Try.sizeOf9
 v9 := Try.zeroValue9
}
theorem shLays156 : Go.Proofs.Lays.n156 Try.prog shRen := {
 mixed := by kernel_rfl
 f156 := Try.func64.trans (congrArg some (by kernel_rfl))
 f165 := Try.func85.trans (congrArg some (by kernel_rfl))
 f166 := Try.func33.trans (congrArg some (by kernel_rfl))
 f169 := Try.func38.trans (congrArg some (by kernel_rfl))
 f240 := Try.func62.trans (congrArg some (by kernel_rfl))
 f241 := Try.func97.trans (congrArg some (by kernel_rfl))
 f276 := Try.func81.trans (congrArg some (by kernel_rfl))
 f277 := Try.func103.trans (congrArg some (by kernel_rfl))
 t0 := Try.underlying0
 a0 := Try.isAgg0
 z0 := Try.sizeOf0
 v0 := Try.zeroValue0
 t3 := Try.underlying3
 a3 := Try.isAgg3
 z3 := Try.sizeOf3
 v3 := Try.zeroValue3
 t4 := Try.underlying4
 a4 := Try.isAgg4
 z4 := Try.sizeOf4
 v4 := Try.zeroValue4
 t9 := Try.underlying9
 a9 := Try.isAgg9
 z9 := Try.sizeOf9
 v9 := Try.zeroValue9
 t20 := Try.underlying20
 a20 := Try.isAgg20
 z20 := Try.sizeOf20
 v20 := Try.zeroValue20
 t31 := Try.underlying35
 a31 := Try.isAgg35
 z31 := Try.sizeOf35
 v31 := Try.zeroValue35
 t37 := Try.underlying62
 a37 := Try.isAgg62
 z37 := Try.sizeOf62
 v37 := Try.zeroValue62
 t70 := Try.underlying61
 a70 := Try.isAgg61
 z70 := Try.sizeOf61
 v70 := Try.zeroValue61
 t72 := Try.underlying64
 a72 := Try.isAgg64
 z72 := Try.sizeOf64
 v72 := Try.zeroValue64
 t75 := Try.underlying66
 a75 := Try.isAgg66
 z75 := Try.sizeOf66
 v75 := Try.zeroValue66
 t76 := Try.underlying67
 a76 := Try.isAgg67
 z76 := Try.sizeOf67
 v76 := Try.zeroValue67
 t127 := Try.underlying96
 a127 := Try.isAgg96
 z127 := Try.sizeOf96
 v127 := Try.zeroValue96
 t164 := Try.underlying108
 a164 := Try.isAgg108
 z164 := Try.sizeOf108
 v164 := Try.zeroValue108
}
theorem shExtra : Builder.Extra Try.prog shRen := {
 sizeBuilder := by kernel_rfl
 liesBuilder := by kernel_rfl
 t5 := Try.underlying5
 a5 := Try.isAgg5
 z5 := Try.sizeOf5
 v5 := Try.zeroValue5
 infoByte := by kernel_rfl
 cellsByte := by kernel_rfl
 sizeByte := by kernel_rfl
 neB5 := by decide }
end Go.Proofs.Ytoakloicjlfaaaa

/- Layer 5: the builder's writers over lists of bytes; the contract of coded. Conditions: none. -/
namespace Go.Proofs.Ytoakloicjlfaaaa
open Go.RowKit Go.Shelf
set_option linter.unusedSimpArgs false
set_option linter.unusedVariables false

/-- The call's own builder, in block b, holds these bytes. -/
def Bld (B b : Nat) (l : List UInt8) (w : World) : Prop := Lib.IsBuilderF 64 5 B b (Lib.byteCells l) w
/-- What a writer leaves: the builder with more bytes, all else as it was. -/
def Wrote (B b : Nat) (l : List UInt8) (w w' : World) : Prop := Bld B b l w' ∧ Below B w w' ∧ Lib.OthersKept 5 (some b) w w'

theorem bld_byte (B b : Nat) (l : List UInt8) (c : Nat) (w : World) (h : Bld B b l w) (hl : l.length + 1 ≤ 140737488355328) (hB : B ≤ w.heap.size) (hc : c < 256) :
    Calls Try.prog 35 #[.pointer (some ⟨b, 0, none⟩), .int .u8 c] w fun e w' => e = .returned .nilIface ∧ Wrote B b (l ++ [UInt8.ofNat c]) w w' := by
  refine (Any.Builder_WriteByte_k { shLays167 with } shExtra B b (Lib.byteCells l) c w h (by rw [Lib.byteCells_length]; exact hl) hB).mono ?_
  rintro e w' ⟨rfl, h1, b1, k1⟩
  refine ⟨rfl, Or.inr ?_, b1, k1⟩
  rw [Lib.byteCells_append, show Lib.byteCells [UInt8.ofNat c] = [.int .u8 c] from by simp [Lib.byteCells]; omega]
  exact h1
theorem bld_string (B b : Nat) (l : List UInt8) (s : ByteArray) (w : World) (h : Bld B b l w) (hl : l.length + s.size ≤ 140737488355328) (hB : B ≤ w.heap.size) :
    Calls Try.prog 33 #[.pointer (some ⟨b, 0, none⟩), .string s] w fun e w' => e = .returned (.tuple #[.int .i64 s.size, .nilIface]) ∧ Wrote B b (l ++ s.data.toList) w w' := by
  refine (Any.Builder_WriteString_k { shLays166 with } shExtra B b (Lib.byteCells l) s w h (by rw [Lib.byteCells_length]; exact hl) hB).mono ?_
  rintro e w' ⟨rfl, h1, b1, k1⟩
  refine ⟨rfl, Or.inr ?_, b1, k1⟩
  rw [Lib.byteCells_append]
  exact h1
theorem bld_rune (B b : Nat) (l : List UInt8) (r : Nat) (w : World) (h : Bld B b l w) (hl : l.length + 4 ≤ 140737488355328) (hB : B ≤ w.heap.size) (hr : r ≤ 2147483647) :
    Calls Try.prog 82 #[.pointer (some ⟨b, 0, none⟩), .int .i32 r] w fun e w' => e = .returned (.tuple #[.int .i64 (Lib.runeCells r).length, .nilIface]) ∧ Wrote B b (l ++ Lib.encodeRune r) w w' := by
  refine (Any.Builder_WriteRune_k { shLays168 with } shExtra B b (Lib.byteCells l) r (by omega) (by omega) w h (by rw [Lib.byteCells_length]; exact hl) hB).mono ?_
  rintro e w' ⟨rfl, h1, b1, k1⟩
  refine ⟨rfl, Or.inr ?_, b1, k1⟩
  rw [Lib.byteCells_append, Lib.byteCells_encodeRune]
  exact h1
theorem bld_str (B b : Nat) (l : List UInt8) (w : World) (h : Bld B b l w) (hB : B ≤ w.heap.size) :
    Calls Try.prog 38 #[.pointer (some ⟨b, 0, none⟩)] w fun e w' => e = .returned (.string (strOf l)) ∧ Wrote B b l w w' := by
  refine (Any.Builder_String_any_k { shLays169 with } shExtra B b l w h hB).mono ?_
  rintro e w' ⟨rfl, h1, b1, k1⟩
  exact ⟨rfl, h1, b1, k1⟩
theorem Wrote.trans {B b : Nat} {l l' : List UInt8} {w w' w'' : World} (h : Wrote B b l w w') (k : Wrote B b l' w' w'') : Wrote B b l' w w'' := ⟨k.1, h.2.1.trans k.2.1, h.2.2.trans k.2.2⟩
theorem Wrote.size {B b : Nat} {l : List UInt8} {w w' : World} (h : Wrote B b l w w') : B ≤ w.heap.size → B ≤ w'.heap.size := fun k => Nat.le_trans k h.2.1.size

set_option maxRecDepth 20000 in
theorem coded_any (B b : Nat) (l : List UInt8) (c : Nat) (w : World) (h : Bld B b l w) (hl : l.length + 4 ≤ 140737488355328) (hB : B ≤ w.heap.size) (hc : c < 256) :
    Calls Try.prog 84 #[.pointer (some ⟨b, 0, none⟩), .int .u8 c] w fun e w' => e = .returned (.tuple #[]) ∧ Wrote B b (l ++ ([92, 120] ++ hx2 c)) w w' := by
  have h1 : c / 16 < 16 := by omega
  have h2 : c % 16 < 16 := by omega
  have L1 := lit_at _ h1 h1
  have L2 := lit_at _ h2 h2
  have H1 := Lib.hid (bld_string B b l ⟨#[92, 120]⟩ w h (by have : (ByteArray.mk #[92, 120]).size = 2 := rfl; omega) hB)
  have hq : (c : Int) / 16 = ((c / 16 : Nat) : Int) := by omega
  have p1 : (0 : Int) ≤ ((c / 16 : Nat) : Int) := by omega
  have p2 : ((c / 16 : Nat) : Int) < 16 := by omega
  rw [show hx2 c = [hxd (c / 16), hxd (c % 16)] from rfl]
  have hr : (c : Int) % 16 = ((c % 16 : Nat) : Int) := by omega
  have p3 : (0 : Int) ≤ ((c % 16 : Nat) : Int) := by omega
  have p4 : ((c % 16 : Nat) : Int) < 16 := by omega
  generalize c / 16 = p at *
  generalize c % 16 = q at *
  go_enter Try.func84, Try.ntmps84
  go_wp2_with fail
  refine H1.out.mono ?_
  rintro e w1 ⟨rfl, k1⟩
  have K1 := Lib.hid k1
  clear k1
  go_wp2_with fail
  refine (bld_byte B b _ _ w1 K1.out.1 (by simp; omega) (K1.out.size hB) (hxd p).toNat_lt).mono ?_
  rintro e w2 ⟨rfl, k2⟩
  have K2 := Lib.hid k2
  clear k2
  go_wp2_with fail
  refine (bld_byte B b _ _ w2 K2.out.1 (by simp; omega) (K2.out.size (K1.out.size hB)) (hxd q).toNat_lt).mono ?_
  rintro e w3 ⟨rfl, k3⟩
  have K3 := Lib.hid k3
  clear k3
  go_wp2_with fail
  go_end0
  refine ⟨rfl, ?_⟩
  have := (K1.out.trans K2.out).trans K3.out
  simpa using this
end Go.Proofs.Ytoakloicjlfaaaa

/- Layer 5: what quoting makes of a sign, by its rune. Conditions: none. -/
namespace Go.Proofs.Ytoakloicjlfaaaa
open Go.RowKit
set_option linter.unusedVariables false

theorem rv_small {l : List UInt8} (h0 : l.length ≠ 0) (h : rv l < 128) : sg l = 1 ∧ nb l 0 = rv l := by
 have h1 : nb l 0 < 128 := Classical.byContradiction fun hh => by have := rv_big hh; omega
 have h2 := sg_one.2 ⟨h0, h1⟩
 exact ⟨h2, by unfold rv; rw [if_pos h2]⟩
theorem encode_one {l : List UInt8} (h : sg l = 1) : Lib.encodeRune (rv l : Int) = [UInt8.ofNat (nb l 0)] := by
 rw [encode_sign (by omega), h, take_nb l 1 (by have := (sg_le (l := l)).2; omega)]; rfl
theorem pieceQ_1 {l : List UInt8} (h0 : l.length ≠ 0) (h : rv l = 92 ∨ rv l = 39) : pieceQ l = [92] ++ Lib.encodeRune (rv l : Int) := by
 obtain ⟨h1, h2⟩ := rv_small h0 (by omega)
 rw [encode_one h1]
 unfold pieceQ
 rw [if_neg (by omega), if_pos (by omega)]
 rfl
theorem pieceQ_10 {l : List UInt8} (h0 : l.length ≠ 0) (h : rv l = 10) : pieceQ l = [92, 110] := by
 obtain ⟨h1, h2⟩ := rv_small h0 (by omega)
 unfold pieceQ
 rw [if_neg (by omega), if_neg (by omega), if_pos (by omega)]
theorem pieceQ_9 {l : List UInt8} (h0 : l.length ≠ 0) (h : rv l = 9) : pieceQ l = [92, 116] := by
 obtain ⟨h1, h2⟩ := rv_small h0 (by omega)
 unfold pieceQ
 rw [if_neg (by omega), if_neg (by omega), if_neg (by omega), if_pos (by omega)]
theorem pieceQ_13 {l : List UInt8} (h0 : l.length ≠ 0) (h : rv l = 13) : pieceQ l = [92, 114] := by
 obtain ⟨h1, h2⟩ := rv_small h0 (by omega)
 unfold pieceQ
 rw [if_neg (by omega), if_neg (by omega), if_neg (by omega), if_neg (by omega), if_pos (by omega)]
theorem pieceQ_c {l : List UInt8} (h0 : l.length ≠ 0) (h : (rv l < 32 ∧ rv l ≠ 10 ∧ rv l ≠ 9 ∧ rv l ≠ 13) ∨ rv l = 127 ∨ (rv l = 65533 ∧ Lib.hasPrefix l [239, 191, 189] = false)) : pieceQ l = [92, 120] ++ hx2 (nb l 0) := by
 unfold pieceQ
 rcases h with h | h | h
 ·obtain ⟨h1, h2⟩ := rv_small h0 (by omega)
  rw [if_neg (by omega), if_neg (by omega), if_neg (by omega), if_neg (by omega), if_neg (by omega), if_pos (by omega)]
 ·obtain ⟨h1, h2⟩ := rv_small h0 (by omega)
  rw [if_pos (by omega)]
 ·rw [if_pos (.inl ((bad_iff h0).1 h))]
theorem pieceQ_r {l : List UInt8} (h0 : l.length ≠ 0) (h1 : rv l ≠ 92) (h2 : rv l ≠ 39) (h3 : ¬ rv l < 32) (h4 : rv l ≠ 127) (h5 : rv l ≠ 65533 ∨ Lib.hasPrefix l [239, 191, 189] = true) : pieceQ l = Lib.encodeRune (rv l : Int) := by
 have hs : sg l ≠ 0 := fun e => by
  have := (bad_iff h0).2 e
  rcases h5 with h5 | h5
  ·exact h5 this.1
  ·rw [h5] at this; cases this.2
 rw [encode_sign hs]
 unfold pieceQ
 by_cases hb : nb l 0 < 128
 ·have h6 := sg_one.2 ⟨h0, hb⟩
  have h7 : rv l = nb l 0 := by unfold rv; rw [if_pos h6]
  rw [if_neg (by omega), if_neg (by omega), if_neg (by omega), if_neg (by omega), if_neg (by omega), if_neg (by omega)]
 ·rw [if_neg (by omega), if_neg (by omega), if_neg (by omega), if_neg (by omega), if_neg (by omega), if_neg (by omega)]
end Go.Proofs.Ytoakloicjlfaaaa

/- Layer 5: the contract of the program's Quote. Written by genS10.py. Conditions: the text is no longer than 2^40. -/
namespace Go.Proofs.Ytoakloicjlfaaaa
open Go.RowKit Go.Shelf
set_option linter.unusedSimpArgs false
set_option linter.unusedVariables false

theorem Wrote.old {B : Nat} {l : List UInt8} {a w w' : World} (h : Wrote B B l w w') (k : Below B a w) : Below B a w' := k.trans h.2.1

theorem hasPrefix_any (s : ByteArray) (b : Bool) (w : World) (h : Lib.hasPrefix s.data.toList [239, 191, 189] = b) :
    Calls Try.prog 83 #[.string s, .string ⟨#[239, 191, 189]⟩] w fun e w' => e = .returned (.bool b) ∧ w = w' := by
  refine (Any.strings_HasPrefix { shLays99 with } s ⟨#[239, 191, 189]⟩ w).mono ?_
  rintro e w' ⟨rfl, rfl⟩
  exact ⟨by rw [← h], rfl⟩

set_option maxRecDepth 1000000 in
set_option maxHeartbeats 4000000 in
theorem quote_any (s : ByteArray) (w : World) (hs : s.size ≤ 1099511627776) :
    Calls Try.prog 63 #[.string s] w fun e w' => e = .returned (.string (strOf (39 :: (quoteL s.data.toList ++ [39])))) ∧ Below w.heap.size w w' := by
  go_enter Try.func63, Try.ntmps63
  go_wp2_with fail
  have HI0 := Lib.hid (show Bld w.heap.size w.heap.size [] _ from (Lib.IsBuilderF.of (Lib.fresh_isBuilder 64 5 w)))
  refine (bld_byte w.heap.size w.heap.size [] 39 _ HI0.out (by simp) (by simp) (by omega)).mono ?_
  rintro e W1 ⟨rfl, k1⟩
  have hbl := k1.old ((Below.refl _ w).alloc (Nat.le_refl _) _)
  have hsz := k1.2.1.size
  simp at hsz
  have HI1 := Lib.hid k1.1
  clear HI0 k1
  go_wp2_with fail
  go_loopw [] (fun wr => ∃ (pos : Nat) (d : List UInt8), Bld w.heap.size w.heap.size (39 :: d) wr ∧ wr.heap[W1.heap.size]? = some (.stringIter s pos) ∧ Below w.heap.size w wr ∧ Hid (DoneQ s.data.toList pos d)) (fun wr => s.size - wr.iterPos W1.heap.size)
  case atStart =>
    refine ⟨0, [], HI1.out.alloc _, ?_, hbl.alloc (by omega) _, Lib.hid (doneQ_zero _)⟩
    have := World.iter_heap W1 s 0
    simpa using this
  case round =>
    obtain ⟨pos, d, hI, hit, hbw, hd⟩ := hrel
    have hszr : W1.heap.size < wr.heap.size := (Array.getElem?_eq_some_iff.1 hit).1
    have HIT := Lib.hid hit
    clear hit
    have HBW := Lib.hid hbw
    clear hbw HI1 hbl
    have HI := Lib.hid hI
    clear hI
    by_cases hp : pos < s.size
    · have hnx : ∀ ty, (Instr.next (.pointer (some ⟨W1.heap.size, 0, none⟩)) true ty).run Try.prog wr = _ := fun ty => Lib.run_next_any_at wr W1.heap.size s pos ty HIT.out hp
      have hln : (s.data.toList.drop pos).length ≠ 0 := by simp; omega
      have hdec := decode_spec s pos hp
      have NX := Lib.hid (doneQ_step hd.out (by simp; exact hp))
      have hdl := hd.out.2.1
      have hmv : (if sg (s.data.toList.drop pos) = 0 then 1 else sg (s.data.toList.drop pos)) = stepQ (s.data.toList.drop pos) := rfl
      rw [hmv] at hdec
      have hm1 := stepQ_pos (s.data.toList.drop pos)
      have hm2 := stepQ_le hln
      rw [List.length_drop] at hm2
      simp only [Array.length_toList, ByteArray.size_data] at hm2
      have hrl : rv (s.data.toList.drop pos) ≤ 2147483647 := by have := decode_le s pos; rw [hdec] at this; exact this
      rw [hdec] at hnx
      dsimp only at hnx
      have HPC : Hid (∀ c, c = s[pos] → nb (s.data.toList.drop pos) 0 = c.toNat) := Lib.hid (fun c hc => by rw [nb_drop, Nat.add_zero, hc, nb_get s pos hp])
      have hcb : s[pos].toNat < 256 := by have := s[pos].toNat_lt; omega
      have HX := Lib.hid (HPC.out _ rfl)
      have R1 := Lib.hid (pieceQ_1 hln)
      have R10 := Lib.hid (pieceQ_10 hln)
      have R9 := Lib.hid (pieceQ_9 hln)
      have R13 := Lib.hid (pieceQ_13 hln)
      have RC := Lib.hid (pieceQ_c hln)
      have RR := Lib.hid (pieceQ_r hln)
      have hex : s.extract pos s.size = strOf (s.data.toList.drop pos) := by
        have h := extract_strOf s pos (s.size - pos) (by omega)
        rw [show pos + (s.size - pos) = s.size from by omega, List.take_of_length_le (by simp)] at h
        exact h
      have HEX := Lib.hid hex
      clear hex hdec hmv HPC
      rw [HX.out] at RC
      generalize rv (s.data.toList.drop pos) = r at *
      generalize pieceQ (s.data.toList.drop pos) = P at *
      generalize stepQ (s.data.toList.drop pos) = m at *
      have HI2 := Lib.hid (show Bld w.heap.size w.heap.size (39 :: d) (wr.iterAt W1.heap.size s (pos + m)) from (HI.out.iterAt HIT.out (pos + m)))
      have HIT2 := Lib.hid (Lib.iterAt_heap wr W1.heap.size s pos (pos + m) HIT.out)
      have HBW2 := Lib.hid (Lib.below_iterAt HBW.out (k := W1.heap.size) (by omega) s (pos + m))
      have hsz2 : w.heap.size ≤ (wr.iterAt W1.heap.size s (pos + m)).heap.size := by rw [Lib.iterAt_size]; omega
      generalize hWn : wr.iterAt W1.heap.size s (pos + m) = Wn at *
      have HWn := Lib.hid hWn
      clear hWn HX
      by_cases a92 : r = 92
      · have q92 : ((r : Int) == 92) = true := by simp; omega
        have HP := Lib.hid (R1.out (by omega))
        clear a92
        go_wp2_with fail
        refine (bld_byte w.heap.size w.heap.size _ 92 _ HI2.out (by simp; omega) hsz2 (by omega)).mono ?_
        rintro e Wa ⟨rfl, kWa⟩
        have KWa := Lib.hid kWa
        clear kWa
        go_wp2_with fail
        refine (bld_rune w.heap.size w.heap.size _ r _ KWa.out.1 (by simp; omega) (KWa.out.size hsz2) hrl).mono ?_
        rintro e Wb ⟨rfl, kWb⟩
        have KWb := Lib.hid kWb
        clear kWb
        have KW := Lib.hid (KWa.out.trans KWb.out)
        go_wp2_with fail
        go_roundw
        case rel => exact ⟨pos + m, d ++ P, by have := KW.out.1; rw [show P = _ from HP.out]; simpa using this, KW.out.2.2.iter HIT2.out (by simp; omega), HBW2.out.trans KW.out.2.1, NX⟩
        case measure => simp only [World.iterPos, KW.out.2.2.iter HIT2.out (by simp; omega), HIT.out]; omega
      have q92 : ((r : Int) == 92) = false := by simp; omega
      by_cases a39 : r = 39
      · have q39 : ((r : Int) == 39) = true := by simp; omega
        have HP := Lib.hid (R1.out (by omega))
        clear a39
        go_wp2_with fail
        refine (bld_byte w.heap.size w.heap.size _ 92 _ HI2.out (by simp; omega) hsz2 (by omega)).mono ?_
        rintro e Wa ⟨rfl, kWa⟩
        have KWa := Lib.hid kWa
        clear kWa
        go_wp2_with fail
        refine (bld_rune w.heap.size w.heap.size _ r _ KWa.out.1 (by simp; omega) (KWa.out.size hsz2) hrl).mono ?_
        rintro e Wb ⟨rfl, kWb⟩
        have KWb := Lib.hid kWb
        clear kWb
        have KW := Lib.hid (KWa.out.trans KWb.out)
        go_wp2_with fail
        go_roundw
        case rel => exact ⟨pos + m, d ++ P, by have := KW.out.1; rw [show P = _ from HP.out]; simpa using this, KW.out.2.2.iter HIT2.out (by simp; omega), HBW2.out.trans KW.out.2.1, NX⟩
        case measure => simp only [World.iterPos, KW.out.2.2.iter HIT2.out (by simp; omega), HIT.out]; omega
      have q39 : ((r : Int) == 39) = false := by simp; omega
      by_cases a10 : r = 10
      · have q10 : ((r : Int) == 10) = true := by simp; omega
        have HP := Lib.hid (R10.out a10)
        clear a10
        go_wp2_with fail
        refine (bld_string w.heap.size w.heap.size _ ⟨#[92, 110]⟩ _ HI2.out (by have : (ByteArray.mk #[92, 110]).size = 2 := rfl; simp; omega) hsz2).mono ?_
        rintro e KW0 ⟨rfl, kKW0⟩
        have KKW0 := Lib.hid kKW0
        clear kKW0
        have KW := KKW0
        go_wp2_with fail
        go_roundw
        case rel => exact ⟨pos + m, d ++ P, by have := KW.out.1; rw [show P = _ from HP.out]; simpa using this, KW.out.2.2.iter HIT2.out (by simp; omega), HBW2.out.trans KW.out.2.1, NX⟩
        case measure => simp only [World.iterPos, KW.out.2.2.iter HIT2.out (by simp; omega), HIT.out]; omega
      have q10 : ((r : Int) == 10) = false := by simp; omega
      by_cases a9 : r = 9
      · have q9 : ((r : Int) == 9) = true := by simp; omega
        have HP := Lib.hid (R9.out a9)
        clear a9
        go_wp2_with fail
        refine (bld_string w.heap.size w.heap.size _ ⟨#[92, 116]⟩ _ HI2.out (by have : (ByteArray.mk #[92, 116]).size = 2 := rfl; simp; omega) hsz2).mono ?_
        rintro e KW0 ⟨rfl, kKW0⟩
        have KKW0 := Lib.hid kKW0
        clear kKW0
        have KW := KKW0
        go_wp2_with fail
        go_roundw
        case rel => exact ⟨pos + m, d ++ P, by have := KW.out.1; rw [show P = _ from HP.out]; simpa using this, KW.out.2.2.iter HIT2.out (by simp; omega), HBW2.out.trans KW.out.2.1, NX⟩
        case measure => simp only [World.iterPos, KW.out.2.2.iter HIT2.out (by simp; omega), HIT.out]; omega
      have q9 : ((r : Int) == 9) = false := by simp; omega
      by_cases a13 : r = 13
      · have q13 : ((r : Int) == 13) = true := by simp; omega
        have HP := Lib.hid (R13.out a13)
        clear a13
        go_wp2_with fail
        refine (bld_string w.heap.size w.heap.size _ ⟨#[92, 114]⟩ _ HI2.out (by have : (ByteArray.mk #[92, 114]).size = 2 := rfl; simp; omega) hsz2).mono ?_
        rintro e KW0 ⟨rfl, kKW0⟩
        have KKW0 := Lib.hid kKW0
        clear kKW0
        have KW := KKW0
        go_wp2_with fail
        go_roundw
        case rel => exact ⟨pos + m, d ++ P, by have := KW.out.1; rw [show P = _ from HP.out]; simpa using this, KW.out.2.2.iter HIT2.out (by simp; omega), HBW2.out.trans KW.out.2.1, NX⟩
        case measure => simp only [World.iterPos, KW.out.2.2.iter HIT2.out (by simp; omega), HIT.out]; omega
      have q13 : ((r : Int) == 13) = false := by simp; omega
      by_cases b32 : r < 32
      · have q32 : decide ((r : Int) < 32) = true := by simp; omega
        have q33 : (r : Int) < 32 := by omega
        have HP := Lib.hid (RC.out (.inl ⟨by omega, by omega, by omega, by omega⟩))
        go_wp2_with fail
        refine (coded_any w.heap.size w.heap.size _ s[pos].toNat _ HI2.out (by simp; omega) hsz2 hcb).mono ?_
        rintro e KW0 ⟨rfl, kKW0⟩
        have KKW0 := Lib.hid kKW0
        clear kKW0
        have KW := KKW0
        go_wp2_with fail
        go_roundw
        case rel => exact ⟨pos + m, d ++ P, by have := KW.out.1; rw [show P = _ from HP.out]; simpa using this, KW.out.2.2.iter HIT2.out (by simp; omega), HBW2.out.trans KW.out.2.1, NX⟩
        case measure => simp only [World.iterPos, KW.out.2.2.iter HIT2.out (by simp; omega), HIT.out]; omega
      have q32 : decide ((r : Int) < 32) = false := by simp; omega
      have q33 : ¬ (r : Int) < 32 := by omega
      by_cases a127 : r = 127
      · have q127 : ((r : Int) == 127) = true := by simp; omega
        have HP := Lib.hid (RC.out (.inr (.inl (by omega))))
        clear a127
        go_wp2_with fail
        refine (coded_any w.heap.size w.heap.size _ s[pos].toNat _ HI2.out (by simp; omega) hsz2 hcb).mono ?_
        rintro e KW0 ⟨rfl, kKW0⟩
        have KKW0 := Lib.hid kKW0
        clear kKW0
        have KW := KKW0
        go_wp2_with fail
        go_roundw
        case rel => exact ⟨pos + m, d ++ P, by have := KW.out.1; rw [show P = _ from HP.out]; simpa using this, KW.out.2.2.iter HIT2.out (by simp; omega), HBW2.out.trans KW.out.2.1, NX⟩
        case measure => simp only [World.iterPos, KW.out.2.2.iter HIT2.out (by simp; omega), HIT.out]; omega
      have q127 : ((r : Int) == 127) = false := by simp; omega
      by_cases a6 : r = 65533
      · have q6 : ((r : Int) == 65533) = true := by simp; omega
        by_cases hpf : Lib.hasPrefix (s.data.toList.drop pos) [239, 191, 189] = false
        · have hpx : Lib.hasPrefix (s.extract pos s.size).data.toList [239, 191, 189] = false := by rw [HEX.out, ← hpf]; rfl
          have HPF := Lib.hid (hasPrefix_any (s.extract pos s.size) false Wn hpx)
          clear hpx
          have HP := Lib.hid (RC.out (.inr (.inr ⟨a6, hpf⟩)))
          have HPF2 := Lib.hid hpf
          clear a6 hpf
          go_wp2_with fail
          refine HPF.out.mono ?_
          rintro e w8 ⟨rfl, rfl⟩
          go_wp2_with fail
          refine (coded_any w.heap.size w.heap.size _ s[pos].toNat _ HI2.out (by simp; omega) hsz2 hcb).mono ?_
          rintro e KW0 ⟨rfl, kKW0⟩
          have KKW0 := Lib.hid kKW0
          clear kKW0
          have KW := KKW0
          go_wp2_with fail
          go_roundw
          case rel => exact ⟨pos + m, d ++ P, by have := KW.out.1; rw [show P = _ from HP.out]; simpa using this, KW.out.2.2.iter HIT2.out (by simp; omega), HBW2.out.trans KW.out.2.1, NX⟩
          case measure => simp only [World.iterPos, KW.out.2.2.iter HIT2.out (by simp; omega), HIT.out]; omega
        have hpf : Lib.hasPrefix (s.data.toList.drop pos) [239, 191, 189] = true := by simpa using hpf
        have hpx : Lib.hasPrefix (s.extract pos s.size).data.toList [239, 191, 189] = true := by rw [HEX.out, ← hpf]; rfl
        have HPF := Lib.hid (hasPrefix_any (s.extract pos s.size) true Wn hpx)
        clear hpx
        have HP := Lib.hid (RR.out (by omega) (by omega) b32 (by omega) (.inr hpf))
        have HPF2 := Lib.hid hpf
        clear a6 hpf
        go_wp2_with fail
        refine HPF.out.mono ?_
        rintro e w8 ⟨rfl, rfl⟩
        go_wp2_with fail
        refine (bld_rune w.heap.size w.heap.size _ r _ HI2.out (by simp; omega) hsz2 hrl).mono ?_
        rintro e KW0 ⟨rfl, kKW0⟩
        have KKW0 := Lib.hid kKW0
        clear kKW0
        have KW := KKW0
        go_wp2_with fail
        go_roundw
        case rel => exact ⟨pos + m, d ++ P, by have := KW.out.1; rw [show P = _ from HP.out]; simpa using this, KW.out.2.2.iter HIT2.out (by simp; omega), HBW2.out.trans KW.out.2.1, NX⟩
        case measure => simp only [World.iterPos, KW.out.2.2.iter HIT2.out (by simp; omega), HIT.out]; omega
      have q6 : ((r : Int) == 65533) = false := by simp; omega
      have HP := Lib.hid (RR.out (by omega) (by omega) b32 (by omega) (.inl a6))
      go_wp2_with fail
      refine (bld_rune w.heap.size w.heap.size _ r _ HI2.out (by simp; omega) hsz2 hrl).mono ?_
      rintro e KW0 ⟨rfl, kKW0⟩
      have KKW0 := Lib.hid kKW0
      clear kKW0
      have KW := KKW0
      go_wp2_with fail
      go_roundw
      case rel => exact ⟨pos + m, d ++ P, by have := KW.out.1; rw [show P = _ from HP.out]; simpa using this, KW.out.2.2.iter HIT2.out (by simp; omega), HBW2.out.trans KW.out.2.1, NX⟩
      case measure => simp only [World.iterPos, KW.out.2.2.iter HIT2.out (by simp; omega), HIT.out]; omega
    · have hnx : ∀ ty, (Instr.next (.pointer (some ⟨W1.heap.size, 0, none⟩)) true ty).run Try.prog wr = _ := fun ty => Lib.run_next_end_at wr W1.heap.size s pos ty HIT.out hp
      have HE := Lib.hid (doneQ_end hd.out (by simp; omega))
      have hdl := hd.out.2.1
      have hpl := hd.out.1
      simp only [Array.length_toList, ByteArray.size_data] at hpl
      go_wp2_with fail
      refine (bld_byte w.heap.size w.heap.size _ 39 _ HI.out (by simp; omega) (by omega) (by omega)).mono ?_
      rintro e Wa ⟨rfl, kWa⟩
      have KWa := Lib.hid kWa
      clear kWa
      go_wp2_with fail
      refine (bld_str w.heap.size w.heap.size _ _ KWa.out.1 (KWa.out.size (by omega))).mono ?_
      rintro e Wb ⟨rfl, kWb⟩
      have KWb := Lib.hid kWb
      clear kWb
      go_wp2_with fail
      go_ret
      exact ⟨by rw [HE.out]; rfl, (HBW.out.trans KWa.out.2.1).trans KWb.out.2.1⟩
end Go.Proofs.Ytoakloicjlfaaaa

/- Layer 5: what a text in quotes stands for, in plain lists of bytes. Conditions: none. -/
namespace Go.Proofs.Ytoakloicjlfaaaa
open Go.RowKit
set_option linter.unusedVariables false

/-- No sign, a control byte, a quote or a backslash. -/
def bad (l : List UInt8) : Prop := sg l = 0 ∨ nb l 0 < 32 ∨ nb l 0 = 127
instance (l : List UInt8) : Decidable (bad l) := by unfold bad; infer_instance

end Go.Proofs.Ytoakloicjlfaaaa

/- Layer 5: what the program's Unquote has done ahead of a place, in plain lists; a sign as the model writes it. Conditions: none. -/
namespace Go.Proofs.Ytoakloicjlfaaaa
open Go.RowKit
set_option linter.unusedVariables false

theorem strOf_toList (B : ByteArray) : strOf B.data.toList = B := by apply ByteArray.ext; simp [strOf]


theorem ownsRow_below {w w' : World} {base : Nat} {e : TypeId} {size : Nat} {v : Value} {n : Nat} {xs : List Value} (h : w.ownsRow base e size v n xs) (hb : Below w.heap.size w w') : w'.ownsRow base e size v n xs := by
 refine ⟨h.1, ?_⟩
 rcases h.2 with hn | ⟨g, cap, cur, rfl, hbb, hg, rest⟩
 ·exact .inl hn
 ·exact .inr ⟨g, cap, cur, rfl, hbb, (hb.block g (Array.getElem?_eq_some_iff.1 hg).1).trans hg, rest⟩
end Go.Proofs.Ytoakloicjlfaaaa

/- Layer 5: the contracts of Name and Key, the program's and the reference's. Written by genS19.py. Conditions: the text is no longer than 2^40. -/
namespace Go.Proofs.Ytoakloicjlfaaaa
open Go.RowKit Go.Shelf
set_option linter.unusedSimpArgs false
set_option linter.unusedVariables false

theorem toList_data (s : ByteArray) : s.toList = s.data.toList := by
 have h := strOf_list s.data.toList
 rwa [strOf_toList] at h
def nchar (c : Nat) : Bool := letter c || digt c
def nameB (l : List UInt8) : Bool := decide (1 ≤ l.length ∧ l.length ≤ 64 ∧ letter (nb l 0) = true ∧ ∀ k, k < l.length → nchar (nb l k) = true)
/-- What is seen ahead of place i. -/
def DoneN (l : List UInt8) (i : Nat) : Prop := i ≤ l.length ∧ (0 < i → letter (nb l 0) = true) ∧ ∀ k, k < i → nchar (nb l k) = true
theorem doneN_zero (l : List UInt8) : DoneN l 0 := ⟨by omega, fun h => by omega, fun k h => by omega⟩
theorem doneN_step {l : List UInt8} {i : Nat} (h : DoneN l i) (hi : i < l.length) (h0 : i = 0 → letter (nb l i) = true) (hc : nchar (nb l i) = true) : DoneN l (i + 1) := by
 obtain ⟨h1, h2, h3⟩ := h
 refine ⟨by omega, fun _ => ?_, fun k hk => ?_⟩
 ·by_cases hz : i = 0
  ·subst hz; exact h0 rfl
  ·exact h2 (by omega)
 ·by_cases hk2 : k = i
  ·subst hk2; exact hc
  ·exact h3 k (by omega)
theorem doneN_end {l : List UInt8} {i : Nat} (h : DoneN l i) (hi : l.length ≤ i) : nameB l = decide (1 ≤ l.length ∧ l.length ≤ 64) := by
 obtain ⟨h1, h2, h3⟩ := h
 unfold nameB
 apply decide_eq_decide.2
 constructor
 ·rintro ⟨a, b, _⟩; exact ⟨a, b⟩
 ·rintro ⟨a, b⟩; exact ⟨a, b, h2 (by omega), fun k hk => h3 k (by omega)⟩
theorem nameB_no {l : List UInt8} {i : Nat} (hi : i < l.length) (h : nchar (nb l i) = false ∨ (i = 0 ∧ letter (nb l i) = false)) : nameB l = false := by
 apply decide_eq_false
 rintro ⟨_, _, h3, h4⟩
 rcases h with h | ⟨rfl, h⟩
 ·rw [h4 i hi] at h; cases h
 ·rw [h3] at h; cases h
theorem letter_nchar {c : Nat} (h : letter c = true) : nchar c = true := by unfold nchar; rw [h]; rfl
theorem digt_nchar {c : Nat} (h : digt c = true) : nchar c = true := by unfold nchar; rw [h, Bool.or_true]
theorem nchar_no {c : Nat} (h : letter c = false) (k : digt c = false) : nchar c = false := by unfold nchar; rw [h, k]; rfl

theorem big_no {r m c : Nat} (SM : r < 128 → m = 1 ∧ c = r) (BG : ¬ r < 128 → ¬ c < 128) (h1 : ¬ (97 ≤ r ∧ r ≤ 122)) (h2 : ¬ (65 ≤ r ∧ r ≤ 90) ∧ r ≠ 95 ∧ ¬ (48 ≤ r ∧ r ≤ 57)) : nchar c = false := by
 by_cases hb : r < 128
 ·have hsm := SM hb
  rw [hsm.2]
  exact nchar_no (decide_eq_false (by omega)) (decide_eq_false (by omega))
 ·have := BG hb
  exact nchar_no (decide_eq_false (by omega)) (decide_eq_false (by omega))

set_option maxRecDepth 1000000 in
set_option maxHeartbeats 4000000 in
theorem sname_any (s : ByteArray) (w : World) (hs : s.size ≤ 1099511627776) :
    Calls Try.prog 66 #[.string s] w fun e w' => e = .returned (.bool (nameB s.data.toList)) ∧ Below w.heap.size w w' := by
  have HL : Hid (s.data.toList.length = s.size) := Lib.hid (by simp)
  obtain ⟨R, hR⟩ : ∃ R, nameB s.data.toList = R := ⟨_, rfl⟩
  have HR := Lib.hid hR
  rw [hR]
  clear hR
  go_enter Try.func66, Try.ntmps66
  go_wp2_with fail
  go_loopw [] (fun wr => ∃ i : Nat, wr.heap[w.heap.size]? = some (.stringIter s i) ∧ Below w.heap.size w wr ∧ Hid (DoneN s.data.toList i)) (fun wr => s.size - wr.iterPos w.heap.size)
  case atStart =>
    refine ⟨0, ?_, (Below.refl _ w).alloc (Nat.le_refl _) _, Lib.hid (doneN_zero _)⟩
    have := World.iter_heap w s 0
    simpa using this
  case round =>
    obtain ⟨i, hit, hbw, hd⟩ := hrel
    have hszr : w.heap.size < wr.heap.size := (Array.getElem?_eq_some_iff.1 hit).1
    have HIT := Lib.hid hit
    have HBW := Lib.hid hbw
    clear hit hbw
    have hil : i ≤ s.size := by have := hd.out.1; rw [HL.out] at this; exact this
    by_cases hp : i < s.size
    · have hnx : ∀ ty, (Instr.next (.pointer (some ⟨w.heap.size, 0, none⟩)) true ty).run Try.prog wr = _ := fun ty => Lib.run_next_any_at wr w.heap.size s i ty HIT.out hp
      have hln : (s.data.toList.drop i).length ≠ 0 := by simp; omega
      have hdec := decode_spec s i hp
      have hmv : (if sg (s.data.toList.drop i) = 0 then 1 else sg (s.data.toList.drop i)) = stepQ (s.data.toList.drop i) := rfl
      rw [hmv] at hdec
      rw [hdec] at hnx
      dsimp only at hnx
      have hm1 := stepQ_pos (s.data.toList.drop i)
      have hm2 := stepQ_le hln
      rw [List.length_drop] at hm2
      simp only [Array.length_toList, ByteArray.size_data] at hm2
      have X : Hid (nb (s.data.toList.drop i) 0 = nb s.data.toList i) := Lib.hid (by rw [nb_drop, Nat.add_zero])
      have SM : Hid (rv (s.data.toList.drop i) < 128 → stepQ (s.data.toList.drop i) = 1 ∧ nb s.data.toList i = rv (s.data.toList.drop i)) := Lib.hid (fun h => by
        have := rv_small hln h
        exact ⟨by unfold stepQ; rw [if_neg (by omega)]; exact this.1, by rw [← X.out]; exact this.2⟩)
      have BG : Hid (¬ rv (s.data.toList.drop i) < 128 → ¬ nb s.data.toList i < 128) := Lib.hid (fun h h2 => h (by
        have h3 := sg_one.2 ⟨hln, by rw [X.out]; exact h2⟩
        have h4 : rv (s.data.toList.drop i) = nb (s.data.toList.drop i) 0 := by unfold rv; rw [if_pos h3]
        rw [h4, X.out]; exact h2))
      have hrl : rv (s.data.toList.drop i) ≤ 2147483647 := by have := decode_le s i; rw [hdec] at this; exact this
      have NX := Lib.hid (doneN_step hd.out (by rw [HL.out]; exact hp))
      have NO := Lib.hid (@nameB_no s.data.toList i (by rw [HL.out]; exact hp))
      clear hln hdec hmv
      generalize rv (s.data.toList.drop i) = r at *
      generalize stepQ (s.data.toList.drop i) = m at *
      have HIT2 := Lib.hid (Lib.iterAt_heap wr w.heap.size s i (i + m) HIT.out)
      have HBW2 := Lib.hid (Lib.below_iterAt HBW.out (k := w.heap.size) (by omega) s (i + m))
      generalize hWn : wr.iterAt w.heap.size s (i + m) = Wn at *
      have HWn := Lib.hid hWn
      clear hWn
      by_cases c1 : 97 ≤ r
      · have d1 : (97 : Int) ≤ r := by omega
        by_cases c2 : r ≤ 122
        · have d2 : (r : Int) ≤ 122 := by omega
          have t : True := trivial
          have hsm := SM.out (by omega)
          have HM := Lib.hid hsm.1
          have hlt : letter (nb s.data.toList i) = true := by rw [hsm.2]; exact decide_eq_true (by omega)
          have HU := Lib.hid (NX.out (fun _ => hlt) (letter_nchar hlt))
          clear hsm hlt
          go_wp2_with fail
          go_roundw
          case rel => exact ⟨i + m, HIT2.out, HBW2.out, by rw [HM.out]; exact HU⟩
          case measure => simp only [World.iterPos, HIT2.out, HIT.out]; omega
        have d2 : ¬ (r : Int) ≤ 122 := by omega
        have d3 : (65 : Int) ≤ r := by omega
        have d4 : ¬ (r : Int) ≤ 90 := by omega
        have d5 : ((r : Int) == 95) = false := by simp; omega
        have d6 : ¬ (r : Int) < 48 := by omega
        have d7 : (57 : Int) < r := by omega
        have t : True := trivial
        have HU := Lib.hid (NO.out (.inl (big_no SM.out BG.out (by omega) (by omega))))
        by_cases hz : i = 0
        · have hzb : ((i : Int) == 0) = true := by simp; omega
          clear hz
          go_wp2_with fail
          go_ret
          exact ⟨by rw [← HR.out, HU.out]; rfl, HBW2.out⟩
        · have hzb : ((i : Int) == 0) = false := by simp; omega
          go_wp2_with fail
          go_ret
          exact ⟨by rw [← HR.out, HU.out]; rfl, HBW2.out⟩
      have d1 : ¬ (97 : Int) ≤ r := by omega
      by_cases c3 : 65 ≤ r
      · have d3 : (65 : Int) ≤ r := by omega
        by_cases c4 : r ≤ 90
        · have d4 : (r : Int) ≤ 90 := by omega
          have t : True := trivial
          have hsm := SM.out (by omega)
          have HM := Lib.hid hsm.1
          have hlt : letter (nb s.data.toList i) = true := by rw [hsm.2]; exact decide_eq_true (by omega)
          have HU := Lib.hid (NX.out (fun _ => hlt) (letter_nchar hlt))
          clear hsm hlt
          go_wp2_with fail
          go_roundw
          case rel => exact ⟨i + m, HIT2.out, HBW2.out, by rw [HM.out]; exact HU⟩
          case measure => simp only [World.iterPos, HIT2.out, HIT.out]; omega
        have d4 : ¬ (r : Int) ≤ 90 := by omega
        by_cases c5 : r = 95
        · have d5 : ((r : Int) == 95) = true := by simp; omega
          have C5 := Lib.hid c5
          have hsm := SM.out (by omega)
          have HM := Lib.hid hsm.1
          have hlt : letter (nb s.data.toList i) = true := by rw [hsm.2]; exact decide_eq_true (by omega)
          have HU := Lib.hid (NX.out (fun _ => hlt) (letter_nchar hlt))
          clear hsm hlt c5
          go_wp2_with fail
          go_roundw
          case rel => exact ⟨i + m, HIT2.out, HBW2.out, by rw [HM.out]; exact HU⟩
          case measure => simp only [World.iterPos, HIT2.out, HIT.out]; omega
        have d5 : ((r : Int) == 95) = false := by simp; omega
        have d6 : ¬ (r : Int) < 48 := by omega
        have d7 : (57 : Int) < r := by omega
        have t : True := trivial
        have HU := Lib.hid (NO.out (.inl (big_no SM.out BG.out (by omega) (by omega))))
        by_cases hz : i = 0
        · have hzb : ((i : Int) == 0) = true := by simp; omega
          clear hz
          go_wp2_with fail
          go_ret
          exact ⟨by rw [← HR.out, HU.out]; rfl, HBW2.out⟩
        · have hzb : ((i : Int) == 0) = false := by simp; omega
          go_wp2_with fail
          go_ret
          exact ⟨by rw [← HR.out, HU.out]; rfl, HBW2.out⟩
      have d3 : ¬ (65 : Int) ≤ r := by omega
      have d5 : ((r : Int) == 95) = false := by simp; omega
      by_cases c6 : r < 48
      · have d6 : (r : Int) < 48 := by omega
        have t : True := trivial
        have HU := Lib.hid (NO.out (.inl (big_no SM.out BG.out (by omega) (by omega))))
        by_cases hz : i = 0
        · have hzb : ((i : Int) == 0) = true := by simp; omega
          clear hz
          go_wp2_with fail
          go_ret
          exact ⟨by rw [← HR.out, HU.out]; rfl, HBW2.out⟩
        · have hzb : ((i : Int) == 0) = false := by simp; omega
          go_wp2_with fail
          go_ret
          exact ⟨by rw [← HR.out, HU.out]; rfl, HBW2.out⟩
      have d6 : ¬ (r : Int) < 48 := by omega
      by_cases c7 : 57 < r
      · have d7 : (57 : Int) < r := by omega
        have t : True := trivial
        have HU := Lib.hid (NO.out (.inl (big_no SM.out BG.out (by omega) (by omega))))
        by_cases hz : i = 0
        · have hzb : ((i : Int) == 0) = true := by simp; omega
          clear hz
          go_wp2_with fail
          go_ret
          exact ⟨by rw [← HR.out, HU.out]; rfl, HBW2.out⟩
        · have hzb : ((i : Int) == 0) = false := by simp; omega
          go_wp2_with fail
          go_ret
          exact ⟨by rw [← HR.out, HU.out]; rfl, HBW2.out⟩
      have d7 : ¬ (57 : Int) < r := by omega
      have hsm := SM.out (by omega)
      have HM := Lib.hid hsm.1
      have hdg : digt (nb s.data.toList i) = true := by rw [hsm.2]; exact decide_eq_true (by omega)
      have hnl : letter (nb s.data.toList i) = false := by rw [hsm.2]; exact decide_eq_false (by omega)
      by_cases hz : i = 0
      · have hzb : ((i : Int) == 0) = true := by simp; omega
        have HU := Lib.hid (NO.out (.inr ⟨hz, hnl⟩))
        clear hz hsm hdg hnl
        go_wp2_with fail
        go_ret
        exact ⟨by rw [← HR.out, HU.out]; rfl, HBW2.out⟩
      · have hzb : ((i : Int) == 0) = false := by simp; omega
        have HU := Lib.hid (NX.out (fun h => absurd h hz) (digt_nchar hdg))
        clear hsm hdg hnl
        go_wp2_with fail
        go_roundw
        case rel => exact ⟨i + m, HIT2.out, HBW2.out, by rw [HM.out]; exact HU⟩
        case measure => simp only [World.iterPos, HIT2.out, HIT.out]; omega
    · have hnx : ∀ ty, (Instr.next (.pointer (some ⟨w.heap.size, 0, none⟩)) true ty).run Try.prog wr = _ := fun ty => Lib.run_next_end_at wr w.heap.size s i ty HIT.out hp
      have HE := Lib.hid (doneN_end hd.out (by rw [HL.out]; omega))
      have hle : s.toList.length = s.size := by rw [← HL.out, toList_data]
      by_cases he : s.size = 0
      · have k1 : s.toList = [] := List.length_eq_zero_iff.1 (by omega)
        have HF : Hid (R = false) := Lib.hid (by rw [← HR.out, HE.out, HL.out]; exact decide_eq_false (by omega))
        have k1b : s.toList.isEmpty = true := by rw [k1]; rfl
        clear hle k1
        go_wp2_with fail
        go_ret
        exact ⟨by rw [HF.out]; rfl, HBW.out⟩
      · have k1 : ¬ s.toList = [] := fun h => by rw [h] at hle; simp at hle; omega
        have k1b : s.toList.isEmpty = false := by rw [List.isEmpty_eq_false_iff]; exact k1
        clear hle
        by_cases h64 : s.size ≤ 64
        · have k2 : (s.size : Int) ≤ 64 := by omega
          have HF : Hid (R = true) := Lib.hid (by rw [← HR.out, HE.out, HL.out]; exact decide_eq_true (by omega))
          go_wp2_with fail
          go_ret
          exact ⟨by rw [HF.out]; rfl, HBW.out⟩
        · have k2 : ¬ (s.size : Int) ≤ 64 := by omega
          have HF : Hid (R = false) := Lib.hid (by rw [← HR.out, HE.out, HL.out]; exact decide_eq_false (by omega))
          go_wp2_with fail
          go_ret
          exact ⟨by rw [HF.out]; rfl, HBW.out⟩

def keyL (l : List UInt8) : List UInt8 := if nameB l = true then l else 39 :: (quoteL l ++ [39])
theorem key_any (s : ByteArray) (w : World) (hs : s.size ≤ 1099511627776) :
    Calls Try.prog 37 #[.string s] w fun e w' => e = .returned (.string (strOf (keyL s.data.toList))) ∧ Below w.heap.size w w' := by
  have HN := Lib.hid (sname_any s w hs)
  cases hb : nameB s.data.toList with
  | true =>
    have HK : Hid (strOf (keyL s.data.toList) = s) := Lib.hid (by unfold keyL; rw [if_pos hb]; exact strOf_toList s)
    rw [hb] at HN
    clear hb
    rw [HK.out]
    go_enter Try.func37, Try.ntmps37
    go_wp2_with fail
    refine HN.out.mono ?_
    rintro e w1 ⟨rfl, hb1⟩
    go_wp2_with fail
    go_ret
    exact ⟨rfl, hb1⟩
  | false =>
    have HK : Hid (keyL s.data.toList = 39 :: (quoteL s.data.toList ++ [39])) := Lib.hid (by unfold keyL; rw [if_neg (by rw [hb]; simp)])
    rw [hb] at HN
    clear hb
    rw [HK.out]
    go_enter Try.func37, Try.ntmps37
    go_wp2_with fail
    refine HN.out.mono ?_
    rintro e w1 ⟨rfl, hb1⟩
    have HB1 := Lib.hid hb1
    clear hb1
    go_wp2_with fail
    refine (quote_any s w1 hs).mono ?_
    rintro e w2 ⟨rfl, hb2⟩
    go_wp2_with fail
    go_ret
    exact ⟨rfl, below_step HB1.out rfl hb2⟩
end Go.Proofs.Ytoakloicjlfaaaa

/- Layer 5: values as texts, in plain trees. Conditions: none. -/
namespace Go.Proofs.Ytoakloicjlfaaaa
open Go.RowKit
set_option linter.unusedVariables false

def jn (xs : List (List UInt8)) : List UInt8 := Lib.join xs [44, 32]
theorem jn_nil : jn [] = [] := rfl
theorem jn_snoc (xs : List (List UInt8)) (x : List UInt8) : jn (xs ++ [x]) = if xs = [] then x else jn xs ++ [44, 32] ++ x := by
 cases xs with
 | nil => rw [if_pos rfl]; exact Lib.join_one x _
 | cons y ys =>
  rw [if_neg (by simp)]
  unfold jn
  rw [List.cons_append, Lib.join_cons, Lib.join_cons]
  unfold Lib.joinTail
  rw [List.map_append, List.flatten_append]
  simp
theorem jn_len' : ∀ (n : Nat) (xs : List (List UInt8)), xs.length = n → (jn xs).length ≤ (xs.map fun x => x.length + 2).sum := by
 intro n
 induction n with
 | zero => intro xs h; rw [List.length_eq_zero_iff.1 h]; simp [jn_nil]
 | succ n ih =>
  intro ys h
  have hne : ys ≠ [] := fun e => by rw [e] at h; simp at h
  obtain ⟨xs, x, rfl⟩ : ∃ xs x, ys = xs ++ [x] := ⟨ys.dropLast, ys.getLast hne, (List.dropLast_concat_getLast hne).symm⟩
  have ih := ih xs (by simpa using h)
  rw [jn_snoc, List.map_append, List.sum_append]
  split
  ·simp; omega
  ·simp only [List.length_append, List.length_cons, List.length_nil, List.map_cons, List.map_nil, List.sum_cons, List.sum_nil]
   omega
theorem jn_len (xs : List (List UInt8)) : (jn xs).length ≤ (xs.map fun x => x.length + 2).sum := jn_len' _ xs rfl
def withKeys (ks : List ByteArray) (es : List (List UInt8)) : List (List UInt8) := List.zipWith (fun k e => keyL k.data.toList ++ [58, 32] ++ e) ks es
mutual
def showV : Vt → List UInt8
 | .mk k b i s l ks =>
  if k = 1 then (if b then [116, 114, 117, 101] else [102, 97, 108, 115, 101]) else if k = 2 then textOf i else if k = 3 then 39 :: (quoteL s.data.toList ++ [39])
  else if k = 6 then [35, 110] ++ textOf i else if k = 7 then [35, 101] ++ textOf i
  else if k = 4 then [91] ++ jn (showVs l) ++ [93] else if k = 5 then [123] ++ jn (withKeys ks (showVs l)) ++ [125] else [110, 117, 108, 108]
def showVs : List Vt → List (List UInt8)
 | [] => []
 | t :: ts => showV t :: showVs ts
end
theorem showVs_map (l : List Vt) : showVs l = l.map showV := by
 induction l with
 | nil => simp [showVs]
 | cons t ts ih => simp [showVs, ih]
theorem textOf_len (n : Int) : (textOf n).length ≤ 20 := by
 have := decN_len n.natAbs
 unfold textOf
 rw [List.length_append]
 split
 ·simp; omega
 ·simp; omega
theorem keyL_len (l : List UInt8) : (keyL l).length ≤ 4 * l.length + 2 := by
 have := quoteL_len l
 unfold keyL
 split
 ·omega
 ·simp; omega
/-- How long a value's text is. -/
theorem showV_len (t : Vt) : (showV t).length + 2 ≤ 32 * wtV t := by
 refine t.down (p := fun t => (showV t).length + 2 ≤ 32 * wtV t) fun k b i s l ks ih => ?_
 have hs : s.data.toList.length = s.size := by simp
 have hq := quoteL_len s.data.toList
 have ht := textOf_len i
 have h1 : ((showVs l).map fun x => x.length + 2).sum ≤ 32 * wtVs l := by
  rw [showVs_map, wtVs_sum]
  clear hs hq ht
  induction l with
  | nil => simp
  | cons u us ih2 =>
   have a := ih 0 u rfl
   have b := ih2 (fun j t h => ih (j + 1) t (by simpa using h))
   simp only [List.map_cons, List.sum_cons] at b ⊢
   omega
 have h2 : ∀ (ks : List ByteArray) (es : List (List UInt8)), ((withKeys ks es).map fun x => x.length + 2).sum ≤ (es.map fun x => x.length + 2).sum + 32 * (ks.map fun k => k.size + 1).sum := by
  intro ks
  induction ks with
  | nil => intro es; simp [withKeys]
  | cons k ks ih2 =>
   intro es
   cases es with
   | nil => simp [withKeys]
   | cons e es =>
    have a := ih2 es
    have b := keyL_len k.data.toList
    have c : k.data.toList.length = k.size := by simp
    unfold withKeys at a ⊢
    simp only [List.zipWith_cons_cons, List.map_cons, List.sum_cons, List.length_append, List.length_cons, List.length_nil]
    omega
 have h3 := h2 ks (showVs l)
 have h4 := jn_len (showVs l)
 have h5 := jn_len (withKeys ks (showVs l))
 simp only [wtV]
 unfold showV
 by_cases k1 : k = 1
 ·rw [if_pos k1]; cases b <;> simp <;> omega
 rw [if_neg k1]
 by_cases k2 : k = 2
 ·rw [if_pos k2]; omega
 rw [if_neg k2]
 by_cases k3 : k = 3
 ·rw [if_pos k3]; simp; omega
 rw [if_neg k3]
 by_cases k6 : k = 6
 ·rw [if_pos k6]; simp; omega
 rw [if_neg k6]
 by_cases k7 : k = 7
 ·rw [if_pos k7]; simp; omega
 rw [if_neg k7]
 by_cases k4 : k = 4
 ·rw [if_pos k4]; simp; omega
 rw [if_neg k4]
 by_cases k5 : k = 5
 ·rw [if_pos k5]; simp; omega
 rw [if_neg k5]
 simp; omega
theorem showVs_take {l : List Vt} {j : Nat} {t : Vt} (h : l[j]? = some t) : (showVs l).take (j + 1) = (showVs l).take j ++ [showV t] := by
 rw [showVs_map]
 exact take_succ_some (by rw [List.getElem?_map, h]; rfl)
theorem withKeys_take {ks : List ByteArray} {l : List Vt} {j : Nat} {t : Vt} {k : ByteArray} (h : l[j]? = some t) (hk : ks[j]? = some k) :
    (withKeys ks (showVs l)).take (j + 1) = (withKeys ks (showVs l)).take j ++ [keyL k.data.toList ++ [58, 32] ++ showV t] := by
  refine take_succ_some ?_
  unfold withKeys
  rw [List.getElem?_zipWith, hk, showVs_map, List.getElem?_map, h]
  rfl
theorem showVs_len (l : List Vt) : (showVs l).length = l.length := by rw [showVs_map, List.length_map]
theorem withKeys_len {ks : List ByteArray} {l : List Vt} (h : ks.length = l.length) : (withKeys ks (showVs l)).length = l.length := by
 unfold withKeys
 rw [List.length_zipWith, showVs_len, h, Nat.min_self]
/-- The parts of a list, of a map. -/
def shPartsV (k : Int) (ks : List ByteArray) (l : List Vt) : List (List UInt8) := if k = 5 then withKeys ks (showVs l) else showVs l
theorem shPartsV_len {k : Int} {ks : List ByteArray} {l : List Vt} (h : k = 5 → ks.length = l.length) : (shPartsV k ks l).length = l.length := by
 unfold shPartsV
 split
 ·rename_i h5; exact withKeys_len (h h5)
 ·exact showVs_len l
theorem jn_parts_len (k : Int) (b : Bool) (i : Int) (s : ByteArray) (l : List Vt) (ks : List ByteArray) : ((shPartsV k ks l).map fun x => x.length + 2).sum ≤ 32 * wtV (.mk k b i s l ks) := by
 have h1 : ((showVs l).map fun x => x.length + 2).sum ≤ 32 * wtVs l := by
  rw [showVs_map, wtVs_sum]
  induction l with
  | nil => simp
  | cons u us ih2 =>
   have a := showV_len u
   simp only [List.map_cons, List.sum_cons] at ih2 ⊢
   omega
 have h2 : ∀ (ks : List ByteArray) (es : List (List UInt8)), ((withKeys ks es).map fun x => x.length + 2).sum ≤ (es.map fun x => x.length + 2).sum + 32 * (ks.map fun k => k.size + 1).sum := by
  intro ks
  induction ks with
  | nil => intro es; simp [withKeys]
  | cons k ks ih2 =>
   intro es
   cases es with
   | nil => simp [withKeys]
   | cons e es =>
    have a := ih2 es
    have b := keyL_len k.data.toList
    have c : k.data.toList.length = k.size := by simp
    unfold withKeys at a ⊢
    simp only [List.zipWith_cons_cons, List.map_cons, List.sum_cons, List.length_append, List.length_cons, List.length_nil]
    omega
 have h3 := h2 ks (showVs l)
 simp only [wtV]
 unfold shPartsV
 split <;> omega
theorem sum_take (xs : List (List UInt8)) (j : Nat) : ((xs.take j).map fun x => x.length + 2).sum ≤ (xs.map fun x => x.length + 2).sum := by
 conv => rhs; rw [← List.take_append_drop j xs]
 rw [List.map_append, List.sum_append]
 omega
end Go.Proofs.Ytoakloicjlfaaaa

/- Layer 5: the contract of the reference's Show over values that may be. Written by genS24.py. Conditions: the value weighs no more than 2^20. -/
namespace Go.Proofs.Ytoakloicjlfaaaa
open Go.RowKit Go.Shelf
set_option linter.unusedSimpArgs false
set_option linter.unusedVariables false

/-- What Show needs of a value. -/
inductive MayE : Vt → Prop
 | mk (k : Int) (b : Bool) (i : Int) (s : ByteArray) (l : List Vt) (ks : List ByteArray) (h1 : 0 ≤ k) (h2 : k ≤ 7) (h3 : k = 5 → ks.length = l.length) (h4 : unusedV k b i s l.length ks.length = true) (h5 : ∀ (j : Nat) u, l[j]? = some u → MayE u) : MayE (.mk k b i s l ks)
theorem MayE.head {k : Int} {b : Bool} {i : Int} {s : ByteArray} {l : List Vt} {ks : List ByteArray} (h : MayE (.mk k b i s l ks)) : 0 ≤ k ∧ k ≤ 7 ∧ (k = 5 → ks.length = l.length) ∧ ∀ (j : Nat) u, l[j]? = some u → MayE u := by
 cases h with
 | mk _ _ _ _ _ _ h1 h2 h3 h4 h5 => exact ⟨h1, h2, h3, h5⟩
theorem MayE.of_may (t : Vt) : ∀ d p, (mayV t d p).2 = true → MayE t := by
 refine t.down (p := fun t => ∀ d p, (mayV t d p).2 = true → MayE t) fun k b i s l ks ih d p h => ?_
 obtain ⟨k', b', i', s', l', ks', he, hh, hp⟩ := mayV_parts h
 injection he with e1 e2 e3 e4 e5 e6
 subst e1 e2 e3 e4 e5 e6
 have h9 := of_decide_eq_true hh
 exact .mk _ _ _ _ _ _ h9.2.2.1 h9.2.2.2.1 (fun h5 => (h9.2.2.2.2.2.2 h5).1) h9.2.2.2.2.1 (fun j u hu => by obtain ⟨q, hq⟩ := hp j u hu; exact ih j u hu _ _ hq)
end Go.Proofs.Ytoakloicjlfaaaa

/- Layer 5: the contract of the program's Show over values that may be. Written by genS25.py. Conditions: the value weighs no more than 2^20. -/
namespace Go.Proofs.Ytoakloicjlfaaaa
open Go.RowKit Go.Shelf
set_option linter.unusedSimpArgs false
set_option linter.unusedVariables false

theorem Try.info9 : (Try.prog.info? 9).map (fun i => (i.zero, i.size, i.bytes)) = some (some (.string ⟨#[]⟩), 1, 16) := by kernel_rfl
def strsV (xs : List (List UInt8)) : List Value := xs.map fun p => .string (strOf p)
theorem strsV_len (xs : List (List UInt8)) : (strsV xs).length = xs.length := by simp [strsV]
theorem strsV_snoc (xs : List (List UInt8)) (x : List UInt8) : strsV (xs ++ [x]) = strsV xs ++ [.string (strOf x)] := by simp [strsV]
theorem join_own {base : Nat} {w : World} {v : Value} {xs : List (List UInt8)} (h : w.ownsRow base 9 1 v xs.length (strsV xs)) (hl : (jn xs).length ≤ 140737488355328) (hn : xs.length ≤ 140737488355328) :
    Calls Try.prog 64 #[v, .string ⟨#[44, 32]⟩] w fun e w' => e = .returned (.string (strOf (jn xs))) ∧ Below w.heap.size w w' := by
  rcases h.2 with ⟨rfl, hx⟩ | ⟨g, cap, cur, rfl, _, hg, hle, _, hcs, _⟩
  · have hx0 : xs = [] := List.length_eq_zero_iff.1 (by omega)
    subst hx0
    refine (Any.strings_Join_none { shLays156 with } shExtra none 0 ⟨#[44, 32]⟩ w).mono ?_
    rintro e w' ⟨rfl, rfl⟩
    exact ⟨rfl, Below.refl _ _⟩
  · have hc := h.cells (g := g) rfl
    have hj : Lib.join ((xs.map strOf).map (·.data.toList)) [44, 32] = jn xs := by
      unfold jn
      congr 1
      rw [List.map_map]
      exact (List.map_congr_left fun p _ => rfl).trans (List.map_id xs)
    have hk := Any.strings_Join { shLays156 with } shExtra g 0 cap (xs.map strOf) ⟨#[44, 32]⟩ w (fun j x hx => by
      rw [List.getElem?_map] at hx
      cases hxj : xs[j]? with
      | none => rw [hxj] at hx; cases hx
      | some p =>
        rw [hxj] at hx
        cases hx
        have := hc j (.string (strOf p)) (by unfold strsV; rw [List.getElem?_map, hxj]; rfl)
        rwa [addr_add] at this) (Array.getElem?_eq_some_iff.1 hg).1 (by rw [List.length_map]; exact hn) (by rw [List.length_map]; exact hle) (by
          show (Lib.join ((xs.map strOf).map (·.data.toList)) [44, 32]).length ≤ _
          rw [hj]; exact hl)
    rw [List.length_map] at hk
    refine hk.mono ?_
    rintro e w' ⟨rfl, hb⟩
    refine ⟨?_, hb⟩
    show Ending.returned (.string ⟨(Lib.join ((xs.map strOf).map (·.data.toList)) [44, 32]).toArray⟩) = _
    rw [hj]
    rfl
def ShowSaid (t : Vt) : Prop := ∀ (cs : List Value) (B : Nat) (w : World), IsV B w cs t → B ≤ w.heap.size → MayE t → wtV t ≤ 1048576 →
    Calls Try.prog 34 #[.agg cs.toArray] w fun e w' => e = .returned (.string (strOf (showV t))) ∧ Below w.heap.size w w'

set_option maxRecDepth 1000000 in
set_option maxHeartbeats 4000000 in
theorem show_any (t : Vt) : ShowSaid t := by
 refine t.down (p := ShowSaid) fun k b i s l ks ih cs B w hV hB hM hw => ?_
 have HV0 := Lib.hid hV
 unfold IsV at hV
 obtain ⟨la, lc, ka, kc, rfl, hk64, hi64, ⟨hlc, hlm⟩, ⟨hkc, hkm⟩, hla, hka, hK, hL⟩ := hV
 have HI64 : Hid (In64 i) := Lib.hid hi64
 obtain ⟨hk0, hk7, hm5, hmM⟩ := hM.head
 have hss : s.size ≤ 1048576 := by have h := hw; simp only [wtV] at h; omega
 have hPL := jn_parts_len k b i s l ks
 have hpl := shPartsV_len (k := k) (ks := ks) (l := l) hm5
 have hwl : ∀ (j : Nat) t, l[j]? = some t → wtV t ≤ 1048576 := fun j t ht => by have h := hw; simp only [wtV] at h; have := wtVs_get ht; omega
 have hkl : ∀ (j : Nat) x, ks[j]? = some x → x.size ≤ 1048576 := fun j x hx => by have h := hw; simp only [wtV] at h; have := sum_get (fun k : ByteArray => k.size + 1) hx; omega
 have HKL := Lib.hid hkl
 have IH := Lib.hid (fun (j : Nat) t (ht : l[j]? = some t) cs B w h1 h2 => ih j t ht cs B w h1 h2 (hmM j t ht) (hwl j t ht))
 have HK := Lib.hid hK
 have HLs := Lib.hid hL
 have HPL := Lib.hid hPL
 have HPN := Lib.hid hpl
 have HW := Lib.hid hw
 have HM5 := Lib.hid hm5
 clear ih hK hL hla hka hwl hmM hM hi64 hk64 hm5 hPL hpl hkl hw
 show Calls Try.prog 34 #[.agg #[.int .i64 k, .bool b, .int .i64 i, .string s, .slice la l.length lc, .slice ka ks.length kc]] w _
 have HB0 := Lib.hid ((Below.refl w.heap.size w).alloc (Nat.le_refl _) (.cells #[.int .i64 k, .bool b, .int .i64 i, .string s, .slice la l.length lc, .slice ka ks.length kc] 71))
 have HBX := Lib.hid (Block.new w [.int .i64 k, .bool b, .int .i64 i, .string s, .slice la l.length lc, .slice ka ks.length kc] 71)
 by_cases k1 : k = 1
 ·subst k1
  cases b with
  | true =>
   have HE := Lib.hid (show showV (.mk 1 true i s l ks) = [116, 114, 117, 101] from by unfold showV; rfl)
   rw [HE.out]
   go_enter Try.func34, Try.ntmps34
   go_wp2_with fail
   go_ret
   exact ⟨rfl, HB0.out⟩
  | false =>
   have HE := Lib.hid (show showV (.mk 1 false i s l ks) = [102, 97, 108, 115, 101] from by unfold showV; rfl)
   rw [HE.out]
   go_enter Try.func34, Try.ntmps34
   go_wp2_with fail
   go_ret
   exact ⟨rfl, HB0.out⟩
 by_cases k2 : k = 2
 ·subst k2
  have HE := Lib.hid (show showV (.mk 2 b i s l ks) = textOf i from by unfold showV; rfl)
  rw [HE.out]
  go_enter Try.func34, Try.ntmps34
  go_wp2_with fail
  refine (text_any i _ HI64.out).mono ?_
  rintro e w1 ⟨rfl, hb1⟩
  go_wp2_with fail
  go_ret
  exact ⟨rfl, below_step HB0.out rfl hb1⟩
 by_cases k3 : k = 3
 ·subst k3
  have HE := Lib.hid (show showV (.mk 3 b i s l ks) = 39 :: (quoteL s.data.toList ++ [39]) from by unfold showV; rfl)
  rw [HE.out]
  go_enter Try.func34, Try.ntmps34
  go_wp2_with fail
  refine (quote_any s _ (by omega)).mono ?_
  rintro e w1 ⟨rfl, hb1⟩
  go_wp2_with fail
  go_ret
  exact ⟨rfl, below_step HB0.out rfl hb1⟩
 by_cases k6 : k = 6
 ·subst k6
  have HE := Lib.hid (show showV (.mk 6 b i s l ks) = [35, 110] ++ textOf i from by unfold showV; rfl)
  have hlt := textOf_len i
  rw [HE.out]
  have ha := fun u => add_of [35, 110] (textOf i) _ rfl u (by simp; omega) (r := [35, 110] ++ textOf i) rfl
  have HT := Lib.hid (fun w => text_any i w HI64.out)
  clear HE
  generalize textOf i = x at *
  go_enter Try.func34, Try.ntmps34
  go_wp2_with fail
  refine (HT.out _).mono ?_
  rintro e w1 ⟨rfl, hb1⟩
  have HB1 := Lib.hid hb1
  clear hb1
  have ha2 : ∀ u, (Op.stringOp .add ⟨#[35, 110]⟩ ⟨x.toArray⟩).run Try.prog u = .ok (.string (strOf ([35, 110] ++ x))) u := ha
  clear ha
  go_wp2_with fail
  go_ret
  exact ⟨rfl, below_step HB0.out rfl HB1.out⟩
 by_cases k7 : k = 7
 ·subst k7
  have HE := Lib.hid (show showV (.mk 7 b i s l ks) = [35, 101] ++ textOf i from by unfold showV; rfl)
  have hlt := textOf_len i
  rw [HE.out]
  have ha := fun u => add_of [35, 101] (textOf i) _ rfl u (by simp; omega) (r := [35, 101] ++ textOf i) rfl
  have HT := Lib.hid (fun w => text_any i w HI64.out)
  clear HE
  generalize textOf i = x at *
  go_enter Try.func34, Try.ntmps34
  go_wp2_with fail
  refine (HT.out _).mono ?_
  rintro e w1 ⟨rfl, hb1⟩
  have HB1 := Lib.hid hb1
  clear hb1
  have ha2 : ∀ u, (Op.stringOp .add ⟨#[35, 101]⟩ ⟨x.toArray⟩).run Try.prog u = .ok (.string (strOf ([35, 101] ++ x))) u := ha
  clear ha
  go_wp2_with fail
  go_ret
  exact ⟨rfl, below_step HB0.out rfl HB1.out⟩
 by_cases k4 : k = 4
 ·subst k4
  have HE := Lib.hid (show showV (.mk 4 b i s l ks) = [91] ++ jn (shPartsV 4 ks l) ++ [93] from by unfold showV; rfl)
  rw [HE.out]
  clear HE
  obtain ⟨i0, hi, hz0, hz1, hz2⟩ := info_parts Try.info9
  have I0 := Lib.hid hi
  have I1 := Lib.hid hz0
  have I2 := Lib.hid hz1
  have I3 := Lib.hid hz2
  clear hi hz0 hz1 hz2
  go_enter Try.func34, Try.ntmps34
  go_wp2_with fail
  go_loopw [3, 41] (fun pv iv wr => ∃ (j : Nat), iv = .int .i64 j ∧ wr.ownsRow (w.heap.size + 1) 9 1 pv j (strsV ((shPartsV 4 ks l).take j)) ∧ j ≤ l.length ∧ Below (w.heap.size + 1) (w.alloc (.cells #[.int .i64 4, .bool b, .int .i64 i, .string s, .slice la l.length lc, .slice ka ks.length kc] 71)) wr) (fun _ iv _ => l.length - (intOf iv).toNat)
  case atStart => exact ⟨0, rfl, World.ownsRow_nil _ _ _ _, Nat.zero_le _, Below.refl _ _⟩
  case round =>
   obtain ⟨j, rfl, hown, hj, hbr⟩ := hrel
   have hBR := HBX.out.below hbr (by simp)
   have y0 := hBR.cell (i := 0) rfl
   have y4 := hBR.cell (i := 4) rfl
   have HBK := Lib.hid hBR
   have HO := Lib.hid hown
   have HBR := Lib.hid hbr
   clear hBR hown hbr
   have hszr : w.heap.size + 1 ≤ wr.heap.size := Nat.le_trans (by simp) HBR.out.size
   have hll : l.length ≤ 1048576 := by have h1 := wtVs_len l; have h2 := HW.out; simp only [wtV] at h2; omega
   have hjl := jn_len ((shPartsV 4 ks l).take j)
   have hjs := sum_take (shPartsV 4 ks l) j
   have hjw : (jn ((shPartsV 4 ks l).take j)).length ≤ 33554432 := by have h1 := HPL.out; have h2 := HW.out; omega
   clear hjl hjs
   have p0 : (0 : Int) ≤ (j : Int) := by omega
   by_cases hlt : j < l.length
   ·have hlt' : (j : Int) < l.length := by omega
    obtain ⟨t, ht⟩ := get_some hlt
    obtain ⟨eb, eo, cs, rfl, heb, hce, hVt⟩ := HLs.out.get j t ht
    have hbw : Below w.heap.size w wr := HB0.out.trans (HBR.out.mono (by omega))
    have HBW := Lib.hid hbw
    have hIt : ∀ w', Below wr.heap.size wr w' → IsV B w' cs t := fun w' hb => IsV.below (hbw.trans (hb.mono (by omega))) hB t cs hVt
    have hszB : B ≤ wr.heap.size := by omega
    have HI := Lib.hid (fun w' (hb : Below wr.heap.size wr w') => IH.out j t ht cs B w' (hIt w' hb) (Nat.le_trans hszB hb.size))
    have hsl := showV_len t
    have hwt : wtV t ≤ 1048576 := by have h1 := wtVs_get ht; have h2 := HW.out; simp only [wtV] at h2; omega
    have g : ∀ (n : Nat) v, cs[n]? = some v → wr.cell? ⟨eb, eo + j * 6 + n, none⟩ = some v := fun n v hv => by
     have h1 := hce n v hv
     rw [Nat.zero_add] at h1
     rw [Nat.add_assoc, hbw.cell (by show eb < w.heap.size; omega)]
     exact h1
    clear hIt hbw
    have hsnoc : (shPartsV 4 ks l).take (j + 1) = (shPartsV 4 ks l).take j ++ [showV t] := showVs_take ht
    obtain ⟨X, hX⟩ : ∃ X, showV t = X := ⟨_, rfl⟩
    rw [hX] at HI hsl hsnoc
    clear hX
    obtain ⟨k2, b2, i2, s2, l2, ks2⟩ := t
    unfold IsV at hVt
    obtain ⟨la2, lc2, ka2, kc2, rfl, -⟩ := hVt
    have g0 := g 0 _ rfl
    have g1 := g 1 _ rfl
    have g2 := g 2 _ rfl
    have g3 := g 3 _ rfl
    have g4 := g 4 _ rfl
    have g5 := g 5 _ rfl
    rw [Nat.add_zero] at g0
    clear g hce
    have HSN := Lib.hid hsnoc
    clear hsnoc
    have HBX2 := Lib.hid (Below.alloc (Below.refl wr.heap.size wr) (Nat.le_refl _) (.cells #[.int .i64 k2, .bool b2, .int .i64 i2, .string s2, .slice la2 l2.length lc2, .slice ka2 ks2.length kc2] 71))
    have HI0 := Lib.hid (HI.out _ HBX2.out)
    go_wp2_with fail
    refine HI0.out.mono ?_
    rintro e w2 ⟨rfl, hb2⟩
    have HB2 := Lib.hid (HBX2.out.trans (hb2.mono (by simp)))
    have HB2a := Lib.hid hb2
    clear hb2
    have hsz2 : wr.heap.size ≤ w2.heap.size := HB2.out.size
    have HO2 : Hid (w2.ownsRow (w.heap.size + 1) 9 1 u3 j (strsV ((shPartsV 4 ks l).take j))) := Lib.hid (ownsRow_below HO.out HB2.out)
    have HBK2 := Lib.hid (HBK.out.below HB2.out HBK.out.lt)
    have z0 := HBK2.out.cell (i := 0) rfl
    have z5 := HBK2.out.cell (i := 5) rfl
    have hlen9 : (strsV ((shPartsV 4 ks l).take j)).length = j := by rw [strsV_len, List.length_take, HPN.out]; omega
    have HBT : Hid (Below (w.heap.size + 1) (w.alloc (.cells #[.int .i64 4, .bool b, .int .i64 i, .string s, .slice (some ⟨eb, eo, none⟩) l.length lc, .slice ka ks.length kc] 71)) w2) := Lib.hid (HBR.out.trans (HB2.out.mono hszr))
    clear z5
    go_wp2_with (at_builtin; refine wpList_append_own _ rfl _ _ 35 rfl (w.heap.size + 1) 9 i0 (.string ⟨#[]⟩) 1 16 Try.underlying35 I0.out I1.out I2.out I3.out rfl (by omega) u3 j (strsV ((shPartsV 4 ks l).take j)) rfl (HO2.out.alloc _) ⟨w2.heap.size, 0, none⟩ 1 1 [.string (strOf X)] rfl rfl (World.news_of_block (cs := #[.string (strOf X)]) (t := 9) (fr := (0, 0)) (heap_alloc_new _ _)) (by simp [Value.oneCell']) (by unfold maxLen; omega) (by omega) (by simp; omega) ?_)
    intro v1 w4 hown1 hgrow _
    have HO1 : Hid (w4.ownsRow (w.heap.size + 1) 9 1 v1 (j + 1) (strsV ((shPartsV 4 ks l).take (j + 1)))) := Lib.hid (by rw [HSN.out, strsV_snoc]; exact hown1)
    have HB4 : Hid (Below (w.heap.size + 1) _ w4) := Lib.hid (Below.grown (HBT.out.alloc (by omega) _) hgrow (by simp; omega) (fun k hk => (HO2.out.lt k hk).1))
    clear hown1 hgrow
    go_wp2_with fail
    go_roundw
    case rel => exact ⟨j + 1, by go_num, HO1.out, by omega, HB4.out⟩
    case measure => simp [intOf]; omega
   ·have hlt' : ¬ (j : Int) < l.length := by omega
    have hjn : j = l.length := by omega
    have HT := Lib.hid (show (shPartsV 4 ks l).take j = shPartsV 4 ks l from List.take_of_length_le (by have := HPN.out; omega))
    rw [HT.out] at hjw HO
    have HO9 : Hid (wr.ownsRow (w.heap.size + 1) 9 1 u3 (shPartsV 4 ks l).length (strsV (shPartsV 4 ks l))) := Lib.hid (by rw [HPN.out, ← hjn]; exact HO.out)
    have hJO := join_own HO9.out (by omega) (by rw [HPN.out]; omega)
    obtain ⟨J, hJ⟩ : ∃ J, jn (shPartsV 4 ks l) = J := ⟨_, rfl⟩
    rw [hJ] at hjw hJO
    have HJ := Lib.hid hJ
    have HJO := Lib.hid hJO
    clear hJ hJO hjn
    obtain ⟨Y1, hY1⟩ : ∃ Y1, [91] ++ J = Y1 := ⟨_, rfl⟩
    have hyl : Y1.length = J.length + 1 := by rw [← hY1]; simp
    have ha1 : ∀ u, (Op.stringOp .add ⟨#[91]⟩ (strOf J)).run Try.prog u = .ok (.string (strOf Y1)) u := fun u => add_of [91] J _ rfl u (by simp; omega) hY1
    have ha2 := fun u => add_of Y1 [93] ⟨#[93]⟩ rfl u (by simp; omega) (r := Y1 ++ [93]) rfl
    have HY1 := Lib.hid hY1
    clear hY1
    go_wp2_with fail
    refine HJO.out.mono ?_
    rintro e w5 ⟨rfl, hb5⟩
    have HB5 := Lib.hid hb5
    clear hb5
    go_wp2_with fail
    go_ret
    exact ⟨str_ret (congrArg strOf (by rw [← HY1.out, ← HJ.out]; simp)), HB0.out.trans ((HBR.out.mono (by omega)).trans (HB5.out.mono (by omega)))⟩
 by_cases k5 : k = 5
 ·subst k5
  have HE := Lib.hid (show showV (.mk 5 b i s l ks) = [123] ++ jn (shPartsV 5 ks l) ++ [125] from by unfold showV; rfl)
  rw [HE.out]
  clear HE
  have HN5 := Lib.hid (HM5.out rfl)
  obtain ⟨i0, hi, hz0, hz1, hz2⟩ := info_parts Try.info9
  have I0 := Lib.hid hi
  have I1 := Lib.hid hz0
  have I2 := Lib.hid hz1
  have I3 := Lib.hid hz2
  clear hi hz0 hz1 hz2
  go_enter Try.func34, Try.ntmps34
  go_wp2_with fail
  go_loopw [3, 41] (fun pv iv wr => ∃ (j : Nat), iv = .int .i64 j ∧ wr.ownsRow (w.heap.size + 1) 9 1 pv j (strsV ((shPartsV 5 ks l).take j)) ∧ j ≤ l.length ∧ Below (w.heap.size + 1) (w.alloc (.cells #[.int .i64 5, .bool b, .int .i64 i, .string s, .slice la l.length lc, .slice ka ks.length kc] 71)) wr) (fun _ iv _ => l.length - (intOf iv).toNat)
  case atStart => exact ⟨0, rfl, World.ownsRow_nil _ _ _ _, Nat.zero_le _, Below.refl _ _⟩
  case round =>
   obtain ⟨j, rfl, hown, hj, hbr⟩ := hrel
   have hBR := HBX.out.below hbr (by simp)
   have y0 := hBR.cell (i := 0) rfl
   have y4 := hBR.cell (i := 4) rfl
   have HBK := Lib.hid hBR
   have HO := Lib.hid hown
   have HBR := Lib.hid hbr
   clear hBR hown hbr
   have hszr : w.heap.size + 1 ≤ wr.heap.size := Nat.le_trans (by simp) HBR.out.size
   have hll : l.length ≤ 1048576 := by have h1 := wtVs_len l; have h2 := HW.out; simp only [wtV] at h2; omega
   have hjl := jn_len ((shPartsV 5 ks l).take j)
   have hjs := sum_take (shPartsV 5 ks l) j
   have hjw : (jn ((shPartsV 5 ks l).take j)).length ≤ 33554432 := by have h1 := HPL.out; have h2 := HW.out; omega
   clear hjl hjs
   have p0 : (0 : Int) ≤ (j : Int) := by omega
   by_cases hlt : j < l.length
   ·have hlt' : (j : Int) < l.length := by omega
    obtain ⟨t, ht⟩ := get_some hlt
    obtain ⟨eb, eo, cs, rfl, heb, hce, hVt⟩ := HLs.out.get j t ht
    have hbw : Below w.heap.size w wr := HB0.out.trans (HBR.out.mono (by omega))
    have HBW := Lib.hid hbw
    have hIt : ∀ w', Below wr.heap.size wr w' → IsV B w' cs t := fun w' hb => IsV.below (hbw.trans (hb.mono (by omega))) hB t cs hVt
    have hszB : B ≤ wr.heap.size := by omega
    have HI := Lib.hid (fun w' (hb : Below wr.heap.size wr w') => IH.out j t ht cs B w' (hIt w' hb) (Nat.le_trans hszB hb.size))
    have hsl := showV_len t
    have hwt : wtV t ≤ 1048576 := by have h1 := wtVs_get ht; have h2 := HW.out; simp only [wtV] at h2; omega
    have g : ∀ (n : Nat) v, cs[n]? = some v → wr.cell? ⟨eb, eo + j * 6 + n, none⟩ = some v := fun n v hv => by
     have h1 := hce n v hv
     rw [Nat.zero_add] at h1
     rw [Nat.add_assoc, hbw.cell (by show eb < w.heap.size; omega)]
     exact h1
    clear hIt hbw
    have hltk : j < ks.length := by have := HN5.out; omega
    have hltk' : (j : Int) < ks.length := by omega
    obtain ⟨x, hx⟩ := get_some hltk
    have hxs := HKL.out j x hx
    have hsnoc : (shPartsV 5 ks l).take (j + 1) = (shPartsV 5 ks l).take j ++ [keyL x.data.toList ++ [58, 32] ++ showV t] := withKeys_take ht hx
    have hkyl := keyL_len x.data.toList
    have hxl : x.data.toList.length = x.size := by simp
    rw [hxl] at hkyl
    have HKY := Lib.hid (fun w => key_any x w (by omega))
    have HX := Lib.hid hx
    clear hx hxl
    obtain ⟨X, hX⟩ : ∃ X, showV t = X := ⟨_, rfl⟩
    rw [hX] at HI hsl hsnoc
    clear hX
    obtain ⟨k2, b2, i2, s2, l2, ks2⟩ := t
    unfold IsV at hVt
    obtain ⟨la2, lc2, ka2, kc2, rfl, -⟩ := hVt
    have g0 := g 0 _ rfl
    have g1 := g 1 _ rfl
    have g2 := g 2 _ rfl
    have g3 := g 3 _ rfl
    have g4 := g 4 _ rfl
    have g5 := g 5 _ rfl
    rw [Nat.add_zero] at g0
    clear g hce
    have HSN := Lib.hid hsnoc
    clear hsnoc
    have HBX2 := Lib.hid (Below.alloc (Below.refl wr.heap.size wr) (Nat.le_refl _) (.cells #[.int .i64 k2, .bool b2, .int .i64 i2, .string s2, .slice la2 l2.length lc2, .slice ka2 ks2.length kc2] 71))
    have HI0 := Lib.hid (HI.out _ HBX2.out)
    go_wp2_with fail
    refine HI0.out.mono ?_
    rintro e w2 ⟨rfl, hb2⟩
    have HB2 := Lib.hid (HBX2.out.trans (hb2.mono (by simp)))
    have HB2a := Lib.hid hb2
    clear hb2
    have hsz2 : wr.heap.size ≤ w2.heap.size := HB2.out.size
    have HO2 : Hid (w2.ownsRow (w.heap.size + 1) 9 1 u3 j (strsV ((shPartsV 5 ks l).take j))) := Lib.hid (ownsRow_below HO.out HB2.out)
    have HBK2 := Lib.hid (HBK.out.below HB2.out HBK.out.lt)
    have z0 := HBK2.out.cell (i := 0) rfl
    have z5 := HBK2.out.cell (i := 5) rfl
    have hlen9 : (strsV ((shPartsV 5 ks l).take j)).length = j := by rw [strsV_len, List.length_take, HPN.out]; omega
    have hKr : StrRow B w2 ka ks := HK.out.below (HBW.out.trans (HB2.out.mono (by omega))) hB
    rcases hKr with h0 | ⟨kb, ko, rfl, hkb, hkc'⟩
    ·exfalso; rw [List.map_eq_nil_iff] at h0; rw [h0] at hltk; simp at hltk
    have gk : w2.cell? ⟨kb, ko + j, none⟩ = some (.string x) := hkc' j _ (by rw [List.getElem?_map, HX.out]; rfl)
    clear hkc'
    generalize keyL x.data.toList = KY at *
    obtain ⟨Z1, hZ1⟩ : ∃ Z1, KY ++ [58, 32] = Z1 := ⟨_, rfl⟩
    obtain ⟨Z2, hZ2⟩ : ∃ Z2, Z1 ++ X = Z2 := ⟨_, rfl⟩
    have hz1l : Z1.length = KY.length + 2 := by rw [← hZ1]; simp
    have ha1 := fun u => add_of KY [58, 32] ⟨#[58, 32]⟩ rfl u (by simp; omega) hZ1
    have ha2 := fun u => add_of Z1 X _ rfl u (by omega) hZ2
    have HSN2 : Hid ((shPartsV 5 ks l).take (j + 1) = (shPartsV 5 ks l).take j ++ [Z2]) := Lib.hid (by rw [HSN.out, ← hZ2, ← hZ1])
    clear hZ1 hZ2
    go_wp2_with fail
    refine (HKY.out _).mono ?_
    rintro e w3 ⟨rfl, hb3⟩
    have HB3 := Lib.hid hb3
    clear hb3 z0 z5 gk
    have hsz3 : w2.heap.size ≤ w3.heap.size := HB3.out.size
    have HO3 : Hid (w3.ownsRow (w.heap.size + 1) 9 1 u3 j (strsV ((shPartsV 5 ks l).take j))) := Lib.hid (ownsRow_below HO2.out HB3.out)
    have HBT : Hid (Below (w.heap.size + 1) (w.alloc (.cells #[.int .i64 5, .bool b, .int .i64 i, .string s, .slice (some ⟨eb, eo, none⟩) l.length lc, .slice (some ⟨kb, ko, none⟩) ks.length kc] 71)) w3) := Lib.hid (HBR.out.trans ((HB2.out.mono hszr).trans (HB3.out.mono (by omega))))
    go_wp2_with (at_builtin; refine wpList_append_own _ rfl _ _ 35 rfl (w.heap.size + 1) 9 i0 (.string ⟨#[]⟩) 1 16 Try.underlying35 I0.out I1.out I2.out I3.out rfl (by omega) u3 j (strsV ((shPartsV 5 ks l).take j)) rfl (HO3.out.alloc _) ⟨w3.heap.size, 0, none⟩ 1 1 [.string (strOf Z2)] rfl rfl (World.news_of_block (cs := #[.string (strOf Z2)]) (t := 9) (fr := (0, 0)) (heap_alloc_new _ _)) (by simp [Value.oneCell']) (by unfold maxLen; omega) (by omega) (by simp; omega) ?_)
    intro v1 w4 hown1 hgrow _
    have HO1 : Hid (w4.ownsRow (w.heap.size + 1) 9 1 v1 (j + 1) (strsV ((shPartsV 5 ks l).take (j + 1)))) := Lib.hid (by rw [HSN2.out, strsV_snoc]; exact hown1)
    have HB4 : Hid (Below (w.heap.size + 1) _ w4) := Lib.hid (Below.grown (HBT.out.alloc (by omega) _) hgrow (by simp; omega) (fun k hk => (HO3.out.lt k hk).1))
    clear hown1 hgrow
    go_wp2_with fail
    go_roundw
    case rel => exact ⟨j + 1, by go_num, HO1.out, by omega, HB4.out⟩
    case measure => simp [intOf]; omega
   ·have hlt' : ¬ (j : Int) < l.length := by omega
    have hjn : j = l.length := by omega
    have HT := Lib.hid (show (shPartsV 5 ks l).take j = shPartsV 5 ks l from List.take_of_length_le (by have := HPN.out; omega))
    rw [HT.out] at hjw HO
    have HO9 : Hid (wr.ownsRow (w.heap.size + 1) 9 1 u3 (shPartsV 5 ks l).length (strsV (shPartsV 5 ks l))) := Lib.hid (by rw [HPN.out, ← hjn]; exact HO.out)
    have hJO := join_own HO9.out (by omega) (by rw [HPN.out]; omega)
    obtain ⟨J, hJ⟩ : ∃ J, jn (shPartsV 5 ks l) = J := ⟨_, rfl⟩
    rw [hJ] at hjw hJO
    have HJ := Lib.hid hJ
    have HJO := Lib.hid hJO
    clear hJ hJO hjn
    obtain ⟨Y1, hY1⟩ : ∃ Y1, [123] ++ J = Y1 := ⟨_, rfl⟩
    have hyl : Y1.length = J.length + 1 := by rw [← hY1]; simp
    have ha1 : ∀ u, (Op.stringOp .add ⟨#[123]⟩ (strOf J)).run Try.prog u = .ok (.string (strOf Y1)) u := fun u => add_of [123] J _ rfl u (by simp; omega) hY1
    have ha2 := fun u => add_of Y1 [125] ⟨#[125]⟩ rfl u (by simp; omega) (r := Y1 ++ [125]) rfl
    have HY1 := Lib.hid hY1
    clear hY1
    go_wp2_with fail
    refine HJO.out.mono ?_
    rintro e w5 ⟨rfl, hb5⟩
    have HB5 := Lib.hid hb5
    clear hb5
    go_wp2_with fail
    go_ret
    exact ⟨str_ret (congrArg strOf (by rw [← HY1.out, ← HJ.out]; simp)), HB0.out.trans ((HBR.out.mono (by omega)).trans (HB5.out.mono (by omega)))⟩
 have k0 : k = 0 := by omega
 subst k0
 have HE := Lib.hid (show showV (.mk 0 b i s l ks) = [110, 117, 108, 108] from by unfold showV; rfl)
 rw [HE.out]
 go_enter Try.func34, Try.ntmps34
 go_wp2_with fail
 go_ret
 exact ⟨rfl, HB0.out⟩
end Go.Proofs.Ytoakloicjlfaaaa

/- Layer 14: a graph's lines, in plain words; the properties' part of a line. Conditions: the properties may be, the builder is the call's own. -/
namespace Go.Proofs.Ytoakloicjlfaaaa
open Go.RowKit Go.Shelf
set_option linter.unusedSimpArgs false
set_option linter.unusedVariables false
set_option maxRecDepth 100000

def propsV (ks : List ByteArray) (vs : List Vt) : Vt := .mk 5 false 0 ⟨#[]⟩ vs ks
def propsL (ks : List ByteArray) (vs : List Vt) : List UInt8 := (if ks = [] then [] else 32 :: showV (propsV ks vs)) ++ [10]
def labelL (l : ByteArray) : List UInt8 := 58 :: keyL l.data.toList
def nodeL (n : Nt) : List UInt8 := ([35, 110] ++ textOf n.id) ++ (n.labels.flatMap labelL ++ propsL n.keys n.vals)
def edgeH (e : Et) : List UInt8 := [35, 101] ++ (textOf e.id ++ ([58] ++ (keyL e.ty.data.toList ++ ([32, 35, 110] ++ (textOf e.src ++ ([32, 35, 110] ++ textOf e.dst))))))
def edgeL (e : Et) : List UInt8 := edgeH e ++ propsL e.keys e.vals
def textG (g : Gt) : List UInt8 := g.nodes.flatMap nodeL ++ g.edges.flatMap edgeL
theorem Bld.below {B b : Nat} {l : List UInt8} {w w' : World} (h : Bld B b l w) (hb : Below w.heap.size w w') : Bld B b l w' := by
 have hk : ∀ (k : Nat) (o : Obj), w.heap[k]? = some o → w'.heap[k]? = some o := fun k o h => (hb.block k (Array.getElem?_eq_some_iff.1 h).1).trans h
 unfold Bld Lib.IsBuilderF at h ⊢
 rcases h with ⟨hB, v, h1, h2, h3⟩ | ⟨hB, v, h1, h2, h3⟩
 ·refine .inl ⟨hB, v, hk _ _ h1, ⟨h2.1, ?_⟩, h3⟩
  rcases h2.2 with hn | ⟨g, cap, cur, fz, hv, hbg, hg, rest⟩
  ·exact .inl hn
  ·exact .inr ⟨g, cap, cur, fz, hv, hbg, hk _ _ hg, rest⟩
 ·refine .inr ⟨hB, v, hk _ _ h1, ⟨h2.1, ?_⟩, h3⟩
  rcases h2.2 with hn | ⟨g, cap, cur, fz, hv, hbg, hg, rest⟩
  ·exact .inl hn
  ·exact .inr ⟨g, cap, cur, fz, hv, hbg, hk _ _ hg, rest⟩
theorem others_below {e : TypeId} {b : Option Nat} {w w' : World} (hb : Below w.heap.size w w') : Lib.OthersKept e b w w' := fun k o h _ _ => (hb.block k (Array.getElem?_eq_some_iff.1 h).1).trans h
theorem Wrote.behind {B b : Nat} {l : List UInt8} {w w1 w2 : World} (h : Wrote B b l w1 w2) (hb : Below w.heap.size w w1) (hB : B ≤ w.heap.size) : Wrote B b l w w2 := ⟨h.1, (hb.mono hB).trans h.2.1, (others_below hb).trans h.2.2⟩
/-- Another block, of another kind than bytes, is as it was. -/
theorem Wrote.blk {B b : Nat} {l : List UInt8} {w w' : World} {k : Nat} {cs : List Value} {t : TypeId} (h : Wrote B b l w w') (hk : Block w k cs t) (hkb : k ≠ b) (ht : t ≠ 5) : Block w' k cs t :=
 h.2.2 k _ hk (fun e => hkb (Option.some.inj e)) (fun c fz e => ht (by injection e))
theorem strOf_data (l : List UInt8) : (strOf l).data.toList = l := by simp [strOf]

set_option maxHeartbeats 4000000 in
theorem textProps_any (keys : List ByteArray) (vals : List Vt) (B b Bm : Nat) (l : List UInt8) (ka va : Option Addr) (kc vc : Nat) (w : World) (h : IsPr Bm w ka va kc vc keys vals) (hBm : Bm ≤ w.heap.size) (hme : keys ≠ [] → MayE (propsV keys vals)) (hwt : wtV (propsV keys vals) ≤ 1048576)
    (hb : Bld B b l w) (hB : B ≤ w.heap.size) (hl : l.length + 40000000 ≤ 140737488355328) :
    Calls Try.prog 32 #[.slice ka keys.length kc, .slice va vals.length vc, .pointer (some ⟨b, 0, none⟩)] w fun e w' => e = .returned (.tuple #[]) ∧ Wrote B b (l ++ propsL keys vals) w w' := by
  have HB := Lib.hid hb
  by_cases hk : keys = []
  · subst hk
    have hp : propsL [] vals = [10] := rfl
    rw [hp]
    have HW := Lib.hid (bld_byte B b l 10 w hb (by omega) hB (by omega))
    clear h hme hwt hb hp
    show Calls Try.prog 32 #[.slice ka 0 kc, .slice va vals.length vc, .pointer (some ⟨b, 0, none⟩)] w _
    go_enter Try.func32, Try.ntmps32
    go_wp2_with fail
    refine HW.out.mono ?_
    rintro e w1 ⟨rfl, h1⟩
    go_wp2_with fail
    go_end0
    exact ⟨rfl, h1⟩
  · have hkl : 0 < keys.length := by cases keys with | nil => exact absurd rfl hk | cons a l => simp
    have hkl' : (0 : Int) < keys.length := by omega
    obtain ⟨h1, h2, h3, h4⟩ := h
    have hV : IsV Bm w [.int .i64 5, .bool false, .int .i64 0, .string ⟨#[]⟩, .slice va vals.length vc, .slice ka keys.length kc] (propsV keys vals) := by
      unfold propsV IsV
      exact ⟨va, vc, ka, kc, rfl, by unfold in64; omega, by unfold in64; omega, h2.1, h1.1, h2.2, h1.2, h3, h4⟩
    have HS := Lib.hid (show_any (propsV keys vals) _ Bm w hV hBm (hme hk) hwt)
    have hsl := showV_len (propsV keys vals)
    obtain ⟨T, hT⟩ : ∃ T, showV (propsV keys vals) = T := ⟨_, rfl⟩
    have hp : propsL keys vals = 32 :: T ++ [10] := by unfold propsL; rw [if_neg hk, hT]
    rw [hT] at HS hsl
    rw [hp]
    have hT2 : T.length ≤ 33554432 := by omega
    have hcat : (⟨#[32]⟩ ++ strOf T : ByteArray) = strOf (32 :: T) := by rw [show (⟨#[32]⟩ : ByteArray) = strOf [32] from rfl, strOf_append]; rfl
    have HCAT := Lib.hid hcat
    have hsz : (⟨#[32]⟩ ++ strOf T : ByteArray).size = 1 + T.length := by rw [hcat, strOf_size]; simp; omega
    have hts : (strOf T).size = T.length := strOf_size T
    have HW1 := Lib.hid (fun (w1 : World) (hb1 : Below w.heap.size w w1) => bld_string B b l (⟨#[32]⟩ ++ strOf T) w1 (hb.below hb1) (by rw [hsz]; omega) (Nat.le_trans hB hb1.size))
    have HKL := Lib.hid hkl
    clear h1 h2 h3 h4 hV hme hwt hb hp hT hcat hsl
    generalize keys.length = nk at *
    generalize vals.length = nv at *
    have hbu : Program.built Try.prog 71 [(0, Value.int .i64 5), (5, Value.slice ka nk kc), (4, Value.slice va nv vc)] = some #[.int .i64 5, .bool false, .int .i64 0, .string ⟨#[]⟩, .slice va nv vc, .slice ka nk kc] := by kernel_rfl
    go_enter Try.func32, Try.ntmps32
    go_wp2_with fail
    refine HS.out.mono ?_
    rintro e w1 ⟨rfl, hb1⟩
    have HB1 := Lib.hid hb1
    clear hb1
    go_wp2_with fail
    refine (HW1.out w1 HB1.out).mono ?_
    rintro e w2 ⟨rfl, hw2⟩
    rw [HCAT.out, strOf_data] at hw2
    have HW2 := Lib.hid hw2
    have HWB := Lib.hid (bld_byte B b (l ++ 32 :: T) 10 w2 hw2.1 (by simp; omega) (Nat.le_trans hB (Nat.le_trans HB1.out.size hw2.2.1.size)) (by omega))
    clear hw2
    go_wp2_with fail
    refine HWB.out.mono ?_
    rintro e w3 ⟨rfl, hw3⟩
    have HW3 := Lib.hid hw3
    clear hw3
    go_wp2_with fail
    go_end0
    exact ⟨rfl, by have := ((HW2.out.trans HW3.out).behind HB1.out hB); simpa using this⟩
end Go.Proofs.Ytoakloicjlfaaaa

/- Layer 14: the program's Text. Conditions: the graph may be, and is small. -/
namespace Go.Proofs.Ytoakloicjlfaaaa
open Go.RowKit Go.Shelf
set_option linter.unusedSimpArgs false
set_option linter.unusedVariables false
set_option maxRecDepth 100000

theorem wtS_mem {l : List ByteArray} {j : Nat} {k : ByteArray} (h : l[j]? = some k) : k.size + 1 ≤ wtS l := by
 unfold wtS
 exact sum_get (fun k : ByteArray => k.size + 1) h
theorem flat_len {α : Type} (f : α → List UInt8) (g : α → Nat) (hf : ∀ x, (f x).length ≤ g x) (l : List α) : (l.flatMap f).length ≤ (l.map g).sum := by
 induction l with
 | nil => simp
 | cons x xs ih => have := hf x; simp only [List.flatMap_cons, List.length_append, List.map_cons, List.sum_cons]; omega
theorem sum_mul (c : Nat) {α : Type} (g : α → Nat) (l : List α) : (l.map fun x => c * g x).sum = c * (l.map g).sum := by
 induction l with
 | nil => simp
 | cons x xs ih => simp only [List.map_cons, List.sum_cons, ih, Nat.mul_add]
theorem labelL_len (l : ByteArray) : (labelL l).length ≤ 4 * (l.size + 1) := by
 have := keyL_len l.data.toList
 have h2 : l.data.toList.length = l.size := by simp
 unfold labelL
 simp only [List.length_cons]
 omega
theorem labels_len (ls : List ByteArray) : (ls.flatMap labelL).length ≤ 4 * wtS ls := by
 have := flat_len labelL (fun k => 4 * (k.size + 1)) labelL_len ls
 rwa [sum_mul 4 (fun k : ByteArray => k.size + 1)] at this
theorem wt_propsV (ks : List ByteArray) (vs : List Vt) : wtV (propsV ks vs) = 1 + wtS ks + wtVs vs := by
 unfold propsV wtV wtS
 simp
 rfl
theorem propsL_len (ks : List ByteArray) (vs : List Vt) : (propsL ks vs).length ≤ 32 * (1 + wtS ks + wtVs vs) + 2 := by
 have := showV_len (propsV ks vs)
 rw [wt_propsV] at this
 unfold propsL
 split
 ·simp
 ·simp; omega
theorem nodeL_len (n : Nt) : (nodeL n).length ≤ 100 * wtN n := by
 have h1 := textOf_len n.id
 have h2 := labels_len n.labels
 have h3 := propsL_len n.keys n.vals
 unfold nodeL wtN
 simp only [List.length_append, List.length_cons, List.length_nil]
 omega
theorem edgeH_len (e : Et) : (edgeH e).length ≤ 80 + 4 * e.ty.size := by
 have h1 := textOf_len e.id
 have h2 := textOf_len e.src
 have h3 := textOf_len e.dst
 have h4 := keyL_len e.ty.data.toList
 have h5 : e.ty.data.toList.length = e.ty.size := by simp
 unfold edgeH
 simp only [List.length_append, List.length_cons, List.length_nil]
 omega
theorem edgeL_len (e : Et) : (edgeL e).length ≤ 200 * wtE e := by
 have h1 := edgeH_len e
 have h3 := propsL_len e.keys e.vals
 unfold edgeL wtE
 simp only [List.length_append]
 omega
theorem nodes_len (l : List Nt) : (l.flatMap nodeL).length ≤ 100 * (l.map wtN).sum := by
 have := flat_len nodeL (fun n => 100 * wtN n) nodeL_len l
 rwa [sum_mul 100 wtN] at this
theorem edges_len (l : List Et) : (l.flatMap edgeL).length ≤ 200 * (l.map wtE).sum := by
 have := flat_len edgeL (fun n => 200 * wtE n) edgeL_len l
 rwa [sum_mul 200 wtE] at this
theorem sum_takeN {α : Type} (g : α → Nat) (l : List α) (j : Nat) : ((l.take j).map g).sum ≤ (l.map g).sum := by
 induction l generalizing j with
 | nil => simp
 | cons x xs ih =>
  cases j with
  | zero => simp
  | succ j => have := ih j; simp only [List.take_succ_cons, List.map_cons, List.sum_cons]; omega
theorem flat_take {α : Type} {l : List α} {j : Nat} {x : α} (f : α → List UInt8) (h : l[j]? = some x) : (l.take (j + 1)).flatMap f = (l.take j).flatMap f ++ f x := by
 rw [take_succ_some h, List.flatMap_append, List.flatMap_cons, List.flatMap_nil, List.append_nil]
/-- What the text asks of properties. -/
def TxP (ks : List ByteArray) (vs : List Vt) : Prop := ks ≠ [] → MayE (propsV ks vs)
theorem TxP.of {ks : List ByteArray} {vs : List Vt} (h : propsB ks vs = true) : TxP ks vs := by
 unfold propsB at h
 simp only [Bool.and_eq_true, decide_eq_true_eq] at h
 obtain ⟨⟨h1, _⟩, h2⟩ := h
 intro _
 refine .mk _ _ _ _ _ _ (by omega) (by omega) (fun _ => h1) (by unfold unusedV; simp; rfl) fun j u hu => ?_
 have h3 := allB_at h2 (i := j) (List.getElem?_eq_some_iff.1 hu).1
 unfold propAt at h3
 rw [hu] at h3
 obtain ⟨k, b, i, s, l, kk⟩ := u
 unfold propB at h3
 simp only [Bool.and_eq_true] at h3
 exact MayE.of_may _ _ _ h3.1.2
structure TxG (g : Gt) : Prop where
 wt : wtG g ≤ 1048576
 nodes : ∀ (j : Nat) n, g.nodes[j]? = some n → TxP n.keys n.vals
 edges : ∀ (j : Nat) n, g.edges[j]? = some n → TxP n.keys n.vals

set_option maxHeartbeats 32000000 in
theorem text_any' (g : Gt) (cs : List Value) (B : Nat) (w : World) (hg : IsG B w cs g) (hB : B ≤ w.heap.size) (ht : TxG g) :
    Calls Try.prog 9 #[.agg cs.toArray] w fun e w' => e = .returned (.string (strOf (textG g))) ∧ Below w.heap.size w w' := by
  obtain ⟨na, nc, ea, ec, rfl, hnz, hez, hN, hE⟩ := hg
  show Calls Try.prog 9 #[.agg #[.slice na g.nodes.length nc, .slice ea g.edges.length ec]] w _
  have hwt := ht.wt
  unfold wtG at hwt
  have hnl : g.nodes.length ≤ 1048576 := by
    have : g.nodes.length ≤ (g.nodes.map wtN).sum := by
      generalize g.nodes = l
      induction l with
      | nil => simp
      | cons x xs ih => have : 1 ≤ wtN x := by unfold wtN; omega
                        simp only [List.length_cons, List.map_cons, List.sum_cons]; omega
    omega
  have hel : g.edges.length ≤ 1048576 := by
    have : g.edges.length ≤ (g.edges.map wtE).sum := by
      generalize g.edges = l
      induction l with
      | nil => simp
      | cons x xs ih => have : 1 ≤ wtE x := by unfold wtE; omega
                        simp only [List.length_cons, List.map_cons, List.sum_cons]; omega
    omega
  have HTN := Lib.hid ht.nodes
  have HTE := Lib.hid ht.edges
  have HWT := Lib.hid hwt
  have HWN : Hid (∀ (j : Nat) n, g.nodes[j]? = some n → wtN n ≤ 1048576) := Lib.hid (fun j n h => by have := sum_get wtN h; omega)
  have HWE : Hid (∀ (j : Nat) n, g.edges[j]? = some n → wtE n ≤ 1048576) := Lib.hid (fun j n h => by have := sum_get wtE h; omega)
  have HLN : Hid (∀ j, ((g.nodes.take j).flatMap nodeL).length ≤ 104857600) := Lib.hid (fun j => by have h1 := nodes_len (g.nodes.take j); have h2 := sum_takeN wtN g.nodes j; omega)
  have HLE : Hid (∀ j, (g.nodes.flatMap nodeL ++ (g.edges.take j).flatMap edgeL).length ≤ 400000000) := Lib.hid (fun j => by have h1 := edges_len (g.edges.take j); have h2 := sum_takeN wtE g.edges j; have h3 := nodes_len g.nodes; rw [List.length_append]; omega)
  obtain ⟨b, hb⟩ : ∃ b, w.heap.size + 1 = b := ⟨_, rfl⟩
  obtain ⟨W1, hW1⟩ : ∃ W1, (w.alloc (.cells #[.slice na g.nodes.length nc, .slice ea g.edges.length ec] 25)).alloc (.cells #[.pointer none, .slice none 0 0] 64) = W1 := ⟨_, rfl⟩
  have hBW : Below w.heap.size w W1 := by rw [← hW1]; exact ((Below.refl _ _).alloc (Nat.le_refl _) _).alloc (by simp) _
  have hX0 : Block W1 w.heap.size [.slice na g.nodes.length nc, .slice ea g.edges.length ec] 25 := by rw [← hW1]; exact (Block.new w _ _).alloc _
  have hbld : Bld b b [] W1 := by
    rw [← hW1, ← hb]
    have := Lib.IsBuilderF.of (Lib.fresh_isBuilder 64 5 (w.alloc (.cells #[.slice na g.nodes.length nc, .slice ea g.edges.length ec] 25)))
    unfold Bld
    rw [show Lib.byteCells [] = [] from rfl]
    simpa using this
  have hz1 : b + 1 = W1.heap.size := by rw [← hW1, ← hb]; simp
  have i0 := hX0.cell (i := 0) rfl
  rw [← hW1] at i0
  have HBD0 : Hid (Bld b b ((g.nodes.take 0).flatMap nodeL) W1) := Lib.hid hbld
  have HX0 := Lib.hid hX0
  have HBW := Lib.hid hBW
  have HZ1 := Lib.hid hz1
  have HBB := Lib.hid hb
  have HW1 := Lib.hid hW1
  have HNS := Lib.hid hN
  have HES := Lib.hid hE
  obtain ⟨Q, hQ⟩ : ∃ Q : Ending → World → Prop, (fun e w' => e = .returned (.string (strOf (textG g))) ∧ Below w.heap.size w w') = Q := ⟨_, rfl⟩
  have HQ : Hid (∀ u, Below b W1 u → Q (.returned (.string (strOf (textG g)))) u) := Lib.hid (fun u h => by rw [← hQ]; exact ⟨rfl, hBW.trans (h.mono (by omega))⟩)
  rw [hQ]
  clear hX0 hBW hz1 hW1 hN hE hbld hnz hez ht hwt hQ
  go_enter Try.func9, Try.ntmps9
  go_wp2_with fail
  (try rw [hb])
  rw [HW1.out]
  clear i0 hb
  go_loopw [15] (fun iv wr => ∃ (j : Nat), iv = .int .i64 j ∧ j ≤ g.nodes.length ∧ Hid (Bld b b ((g.nodes.take j).flatMap nodeL) wr) ∧ Hid (Below b W1 wr)) (fun iv _ => g.nodes.length - (intOf iv).toNat)
  case atStart => exact ⟨0, rfl, Nat.zero_le _, HBD0, Lib.hid (Below.refl _ _)⟩
  case round =>
    obtain ⟨j, rfl, hj, HBD, HBR⟩ := hrel
    have hX0r : Block wr w.heap.size [.slice na g.nodes.length nc, .slice ea g.edges.length ec] 25 := HX0.out.of_heap (HBR.out.block _ (by have := HBB.out; omega))
    by_cases hlt : j < g.nodes.length
    · have hlt' : (j : Int) < g.nodes.length := by omega
      have hj0 : (0 : Int) ≤ (j : Int) := by omega
      have hwi : IntKind.i64.wrap ((j : Int) + 1) = (j : Int) + 1 := IntWalk.i64_in _ (by omega)
      have hbr : Below w.heap.size w wr := HBW.out.trans (HBR.out.mono (by have := HBB.out; omega))
      have hzr : b + 1 ≤ wr.heap.size := by have := HBR.out.size; have := HZ1.out; omega
      obtain ⟨x, hx⟩ := get_some hlt
      have HTX := Lib.hid (HTN.out j x hx)
      have HWX := Lib.hid (HWN.out j x hx)
      obtain ⟨bb, off, cs, e1, hbB, _, hc, hcell0⟩ := HNS.out.at hx
      have hcell : ∀ q v, cs[q]? = some v → wr.cell? ⟨bb, off + j * 4 + q, none⟩ = some v := fun q v hv => by rw [hbr.cell (by show bb < _; omega)]; exact hcell0 q v hv
      clear hcell0
      have hc0 := hc
      obtain ⟨la, lc, ka, kc, va, vc, rfl, hid, hlo, hls, hpr⟩ := hc
      subst e1
      have k0 : wr.cell? ⟨bb, off + j * 4, none⟩ = some (.int .i64 x.id) := hcell 0 _ rfl
      have k1 := hcell 1 _ rfl
      have k2 := hcell 2 _ rfl
      have k3 := hcell 3 _ rfl
      obtain ⟨nb, hnb⟩ : ∃ nb, wr.heap.size = nb := ⟨_, rfl⟩
      obtain ⟨W2, hW2⟩ : ∃ W2, wr.alloc (.cells #[.int .i64 x.id, .slice la x.labels.length lc, .slice ka x.keys.length kc, .slice va x.vals.length vc] 38) = W2 := ⟨_, rfl⟩
      have hb2 : Below wr.heap.size wr W2 := by rw [← hW2]; exact (Below.refl _ _).alloc (Nat.le_refl _) _
      have hblk : Block W2 nb [.int .i64 x.id, .slice la x.labels.length lc, .slice ka x.keys.length kc, .slice va x.vals.length vc] 38 := by rw [← hW2, ← hnb]; exact Block.new _ _ _
      have hz2 : nb + 1 = W2.heap.size := by rw [← hW2, ← hnb]; simp
      have m0 : W2.cell? ⟨nb, 0, none⟩ = some (.int .i64 x.id) := hblk.cell rfl
      rw [← hW2, ← hnb] at m0
      obtain ⟨T0, hT0⟩ : ∃ T, textOf x.id = T := ⟨_, rfl⟩
      have hT0l : T0.length ≤ 20 := by rw [← hT0]; exact textOf_len x.id
      have HT0 : Hid (∀ u : World, Calls Try.prog 36 #[.int .i64 x.id] u fun e w' => e = .returned (.string (strOf T0)) ∧ Below u.heap.size u w') := Lib.hid (fun u => by rw [← hT0]; exact text_any x.id u hid)
      have hcat : (⟨#[35, 110]⟩ ++ strOf T0 : ByteArray) = strOf ([35, 110] ++ T0) := by rw [show (⟨#[35, 110]⟩ : ByteArray) = strOf [35, 110] from rfl, strOf_append]
      have hsz : (⟨#[35, 110]⟩ ++ strOf T0 : ByteArray).size = 2 + T0.length := by rw [hcat, strOf_size]; simp; omega
      have hts : (strOf T0).size = T0.length := strOf_size T0
      have HSZ := Lib.hid hsz
      have HCAT := Lib.hid hcat
      have HXJ := Lib.hid hx
      have HTT := Lib.hid hT0
      have HLS := Lib.hid hls
      have HLO := Lib.hid hlo
      have HPR := Lib.hid hpr
      have HB2 := Lib.hid hb2
      have HBK := Lib.hid hblk
      have HZ2 := Lib.hid hz2
      have HNB := Lib.hid hnb
      have HBRw := Lib.hid hbr
      have HW2 := Lib.hid hW2
      have HLNj := Lib.hid (HLN.out j)
      have HLN1 := Lib.hid (HLN.out (j + 1))
      clear hc0 hcell hx hT0 hls hpr hb2 hblk hz2 hbr hW2 hcat hid hbB hX0r hlo
      go_wp2_with fail
      (try rw [hnb])
      rw [HW2.out]
      refine (HT0.out W2).mono ?_
      rintro e w3 ⟨rfl, hb3⟩
      clear k0 k1 k2 k3 m0 hnb
      have HB3 := Lib.hid ((HB2.out.trans (hb3.mono HB2.out.size)))
      have HBK3 := Lib.hid (HBK.out.below hb3 HBK.out.lt)
      have HWS := Lib.hid (bld_string b b _ (⟨#[35, 110]⟩ ++ strOf T0) w3 (HBD.out.below HB3.out) (by rw [HSZ.out]; have := HLNj.out; omega) (by have := HB3.out.size; omega))
      clear hb3
      go_wp2_with fail
      refine HWS.out.mono ?_
      rintro e w4 ⟨rfl, hw4⟩
      rw [HCAT.out, strOf_data] at hw4
      have HW4 := Lib.hid (hw4.behind HB3.out (by omega))
      have HBK4 := Lib.hid (hw4.blk HBK3.out (by have := HNB.out; omega) (by decide))
      clear hw4 hsz hts
      have ms := HBK4.out.cell (i := 1) rfl
      have HBD2 : Hid (Bld b b ((g.nodes.take j).flatMap nodeL ++ ([35, 110] ++ T0) ++ (x.labels.take 0).flatMap labelL) w4) := Lib.hid (by rw [List.take_zero, List.flatMap_nil, List.append_nil]; exact HW4.out.1)
      have HB4 : Hid (Below b W1 w4) := Lib.hid (HBR.out.trans HW4.out.2.1)
      have HWl : Hid (4 * wtS x.labels ≤ 4194304 ∧ x.labels.length ≤ 9223372036854775807) := Lib.hid ⟨by have := HWX.out; unfold wtN at this; omega, by have := HLO.out.1; omega⟩
      have hll : x.labels.length ≤ 9223372036854775807 := HWl.out.2
      go_wp2_with fail
      go_loopw [27] (fun iv wr => ∃ (q : Nat), iv = .int .i64 q ∧ q ≤ x.labels.length ∧ Hid (Bld b b ((g.nodes.take j).flatMap nodeL ++ ([35, 110] ++ T0) ++ (x.labels.take q).flatMap labelL) wr) ∧ Hid (Below b W1 wr) ∧ Hid (Block wr nb [.int .i64 x.id, .slice la x.labels.length lc, .slice ka x.keys.length kc, .slice va x.vals.length vc] 38)) (fun iv _ => x.labels.length - (intOf iv).toNat)
      case atStart => exact ⟨0, rfl, Nat.zero_le _, HBD2, HB4, HBK4⟩
      case round =>
        clear ms
        obtain ⟨q, rfl, hq, HBDq, HBRq, HBKq⟩ := hrel
        have hzq : nb + 1 ≤ wr.heap.size := HBKq.out.lt
        have hbq : Below w.heap.size w wr := HBW.out.trans (HBRq.out.mono (by have := HBB.out; omega))
        by_cases hltq : q < x.labels.length
        · have hltq' : (q : Int) < x.labels.length := by omega
          have hq0 : (0 : Int) ≤ (q : Int) := by omega
          have hwq : IntKind.i64.wrap ((q : Int) + 1) = (q : Int) + 1 := IntWalk.i64_in _ (by omega)
          obtain ⟨y, hy⟩ := get_some hltq
          obtain ⟨yb, yo, e2, hyB, hyc⟩ := (show StrRow B wr la x.labels from HLS.out.below hbq hB).get hy
          subst e2
          obtain ⟨T1, hT1⟩ : ∃ T, keyL y.data.toList = T := ⟨_, rfl⟩
          have hyw := wtS_mem hy
          have hys : y.size ≤ 1048576 := by have := HWl.out.1; omega
          have hT1l : T1.length ≤ 8388608 := by rw [← hT1]; have := keyL_len y.data.toList; have h2 : y.data.toList.length = y.size := (by simp); omega
          have HK := Lib.hid (key_any y wr (by omega))
          rw [hT1] at HK
          have hcat : (⟨#[58]⟩ ++ strOf T1 : ByteArray) = strOf (58 :: T1) := by rw [show (⟨#[58]⟩ : ByteArray) = strOf [58] from rfl, strOf_append]; rfl
          have hsz : (⟨#[58]⟩ ++ strOf T1 : ByteArray).size = 1 + T1.length := by rw [hcat, strOf_size]; simp; omega
          have hts : (strOf T1).size = T1.length := strOf_size T1
          have hlq : ((x.labels.take q).flatMap labelL).length ≤ 4194304 := by have h1 := labels_len (x.labels.take q); have h2 : wtS (x.labels.take q) ≤ wtS x.labels := sum_takeN (fun k : ByteArray => k.size + 1) x.labels q; have := HWl.out.1; omega
          have HLQ : Hid (((g.nodes.take j).flatMap nodeL ++ ([35, 110] ++ T0) ++ (x.labels.take q).flatMap labelL).length ≤ 120000000) := Lib.hid (by rw [List.length_append, List.length_append]; simp only [List.length_append, List.length_cons, List.length_nil]; have := HLNj.out; omega)
          have HSZ1 := Lib.hid hsz
          have HCAT1 := Lib.hid hcat
          have HYJ := Lib.hid hy
          have HTY := Lib.hid hT1
          clear hy hT1 hcat hyw hlq hbq hyB
          go_wp2_with fail
          refine HK.out.mono ?_
          rintro e w5 ⟨rfl, hb5⟩
          have HB5 := Lib.hid hb5
          have HBK5 := Lib.hid (HBKq.out.below hb5 HBKq.out.lt)
          have HWS1 := Lib.hid (bld_string b b _ (⟨#[58]⟩ ++ strOf T1) w5 (HBDq.out.below hb5) (by rw [HSZ1.out]; have := HLQ.out; omega) (by have := hb5.size; have := HNB.out; omega))
          clear hb5 hyc
          go_wp2_with fail
          refine HWS1.out.mono ?_
          rintro e w6 ⟨rfl, hw6⟩
          rw [HCAT1.out, strOf_data] at hw6
          have HW6 := Lib.hid (hw6.behind HB5.out (by have := HNB.out; omega))
          have HBK6 := Lib.hid (hw6.blk HBK5.out (by have := HNB.out; omega) (by decide))
          clear hw6 hsz hts
          go_wp2_with fail
          go_roundw
          case rel => exact ⟨q + 1, by go_num, by omega, Lib.hid (by have h9 := HW6.out.1; rw [flat_take labelL HYJ.out, ← List.append_assoc, show labelL y = 58 :: keyL y.data.toList from rfl, HTY.out]; exact h9), Lib.hid (HBRq.out.trans HW6.out.2.1), HBK6⟩
          case measure => simp [intOf]; omega
        · have hltq' : ¬ (q : Int) < x.labels.length := by omega
          have HBDe : Hid (Bld b b ((g.nodes.take j).flatMap nodeL ++ ([35, 110] ++ T0) ++ x.labels.flatMap labelL) wr) := Lib.hid (by have := HBDq.out; rwa [List.take_of_length_le (l := x.labels) (by omega)] at this)
          have g2 := HBKq.out.cell (i := 2) rfl
          have g3 := HBKq.out.cell (i := 3) rfl
          have HTP := Lib.hid (textProps_any x.keys x.vals b b B ((g.nodes.take j).flatMap nodeL ++ ([35, 110] ++ T0) ++ x.labels.flatMap labelL) ka va kc vc wr (HPR.out.below hbq hB) (by have := hbq.size; omega) HTX.out (by rw [wt_propsV]; have := HWX.out; unfold wtN at this; omega) HBDe.out (by have := HNB.out; omega) (by have h1 := labels_len x.labels; have := HWl.out.1; have := HLNj.out; simp only [List.length_append, List.length_cons, List.length_nil]; omega))
          clear hbq
          go_wp2_with fail
          refine HTP.out.mono ?_
          rintro e w7 ⟨rfl, hw7⟩
          have HW7 := Lib.hid hw7
          clear hw7 g2 g3
          go_wp2_with fail
          go_roundw
          case rel => exact ⟨j + 1, by go_num, by omega, Lib.hid (by have h9 := HW7.out.1; rw [flat_take nodeL HXJ.out, show nodeL x = ([35, 110] ++ textOf x.id) ++ (x.labels.flatMap labelL ++ propsL x.keys x.vals) from rfl, HTT.out]; simpa using h9), Lib.hid (HBRq.out.trans HW7.out.2.1)⟩
          case measure => simp [intOf]; omega
    · have hlt' : ¬ (j : Int) < g.nodes.length := by omega
      have HBDn : Hid (Bld b b (g.nodes.flatMap nodeL ++ (g.edges.take 0).flatMap edgeL) wr) := Lib.hid (by have := HBD.out; rw [List.take_of_length_le (by omega)] at this; simpa using this)
      have g1 := hX0r.cell (i := 1) rfl
      clear hX0r
      go_wp2_with fail
      clear g1
      rename World => wn
      go_loopw [46] (fun iv wr => ∃ (j : Nat), iv = .int .i64 j ∧ j ≤ g.edges.length ∧ Hid (Bld b b (g.nodes.flatMap nodeL ++ (g.edges.take j).flatMap edgeL) wr) ∧ Hid (Below b W1 wr)) (fun iv _ => g.edges.length - (intOf iv).toNat)
      case atStart => exact ⟨0, rfl, Nat.zero_le _, HBDn, HBR⟩
      case round =>
        clear hlt hlt' hj HBD HBR HBDn
        obtain ⟨j, rfl, hj, HBD, HBR⟩ := hrel
        by_cases hlt : j < g.edges.length
        · have hlt' : (j : Int) < g.edges.length := by omega
          have hj0 : (0 : Int) ≤ (j : Int) := by omega
          have hwi : IntKind.i64.wrap ((j : Int) + 1) = (j : Int) + 1 := IntWalk.i64_in _ (by omega)
          have hbr : Below w.heap.size w wr := HBW.out.trans (HBR.out.mono (by have := HBB.out; omega))
          have hzr : b + 1 ≤ wr.heap.size := by have := HBR.out.size; have := HZ1.out; omega
          obtain ⟨x, hx⟩ := get_some hlt
          have HTX := Lib.hid (HTE.out j x hx)
          have HWX := Lib.hid (HWE.out j x hx)
          obtain ⟨bb, off, cs, e1, hbB, _, hc, hcell0⟩ := HES.out.at hx
          have hcell : ∀ q v, cs[q]? = some v → wr.cell? ⟨bb, off + j * 6 + q, none⟩ = some v := fun q v hv => by rw [hbr.cell (by show bb < _; omega)]; exact hcell0 q v hv
          clear hcell0
          obtain ⟨ka, kc, va, vc, rfl, hid, hpr⟩ := hc
          subst e1
          have k0 : wr.cell? ⟨bb, off + j * 6, none⟩ = some (.int .i64 x.id) := hcell 0 _ rfl
          have k1 := hcell 1 _ rfl
          have k2 := hcell 2 _ rfl
          have k3 := hcell 3 _ rfl
          have k4 := hcell 4 _ rfl
          have k5 := hcell 5 _ rfl
          obtain ⟨nb, hnb⟩ : ∃ nb, wr.heap.size = nb := ⟨_, rfl⟩
          obtain ⟨W2, hW2⟩ : ∃ W2, wr.alloc (.cells #[.int .i64 x.id, .int .i64 x.src, .int .i64 x.dst, .string x.ty, .slice ka x.keys.length kc, .slice va x.vals.length vc] 40) = W2 := ⟨_, rfl⟩
          have hb2 : Below wr.heap.size wr W2 := by rw [← hW2]; exact (Below.refl _ _).alloc (Nat.le_refl _) _
          have hblk : Block W2 nb [.int .i64 x.id, .int .i64 x.src, .int .i64 x.dst, .string x.ty, .slice ka x.keys.length kc, .slice va x.vals.length vc] 40 := by rw [← hW2, ← hnb]; exact Block.new _ _ _
          have hz2 : nb + 1 = W2.heap.size := by rw [← hW2, ← hnb]; simp
          obtain ⟨T0, hT0⟩ : ∃ T, textOf x.id = T := ⟨_, rfl⟩
          obtain ⟨T1, hT1⟩ : ∃ T, textOf x.src = T := ⟨_, rfl⟩
          obtain ⟨T2, hT2⟩ : ∃ T, textOf x.dst = T := ⟨_, rfl⟩
          obtain ⟨T3, hT3⟩ : ∃ T, keyL x.ty.data.toList = T := ⟨_, rfl⟩
          have hT0l : T0.length ≤ 20 := by rw [← hT0]; exact textOf_len x.id
          have hT1l : T1.length ≤ 20 := by rw [← hT1]; exact textOf_len x.src
          have hT2l : T2.length ≤ 20 := by rw [← hT2]; exact textOf_len x.dst
          have hxs : x.ty.size ≤ 1048576 := by have := HWX.out; unfold wtE at this; omega
          have hT3l : T3.length ≤ 8388608 := by rw [← hT3]; have := keyL_len x.ty.data.toList; have h2 : x.ty.data.toList.length = x.ty.size := (by simp); omega
          have HT0 : Hid (∀ u : World, Calls Try.prog 36 #[.int .i64 x.id] u fun e w' => e = .returned (.string (strOf T0)) ∧ Below u.heap.size u w') := Lib.hid (fun u => by rw [← hT0]; exact text_any x.id u hid.1)
          have HT1 : Hid (∀ u : World, Calls Try.prog 36 #[.int .i64 x.src] u fun e w' => e = .returned (.string (strOf T1)) ∧ Below u.heap.size u w') := Lib.hid (fun u => by rw [← hT1]; exact text_any x.src u hid.2.1)
          have HT2 : Hid (∀ u : World, Calls Try.prog 36 #[.int .i64 x.dst] u fun e w' => e = .returned (.string (strOf T2)) ∧ Below u.heap.size u w') := Lib.hid (fun u => by rw [← hT2]; exact text_any x.dst u hid.2.2)
          have HT3 : Hid (∀ u : World, Calls Try.prog 37 #[.string x.ty] u fun e w' => e = .returned (.string (strOf T3)) ∧ Below u.heap.size u w') := Lib.hid (fun u => by rw [← hT3]; exact key_any x.ty u (by omega))
          obtain ⟨t0, a0, l0⟩ : ∃ t, (strOf T0).size = t ∧ t ≤ 20 := ⟨_, rfl, by rw [strOf_size]; exact hT0l⟩
          obtain ⟨t1, a1, l1⟩ : ∃ t, (strOf T1).size = t ∧ t ≤ 20 := ⟨_, rfl, by rw [strOf_size]; exact hT1l⟩
          obtain ⟨t2, a2, l2⟩ : ∃ t, (strOf T2).size = t ∧ t ≤ 20 := ⟨_, rfl, by rw [strOf_size]; exact hT2l⟩
          obtain ⟨t3, a3, l3⟩ : ∃ t, (strOf T3).size = t ∧ t ≤ 8388608 := ⟨_, rfl, by rw [strOf_size]; exact hT3l⟩
          obtain ⟨z1, s1, b1⟩ : ∃ z, (⟨#[35, 101]⟩ ++ strOf T0 : ByteArray).size = z ∧ z ≤ 30 := ⟨_, rfl, by rw [ByteArray.size_append, a0]; (try simp [ByteArray.size]); omega⟩
          have n1 : ¬ (9223372036854775807 < 2 + t0) := by omega
          obtain ⟨z2, s2, b2⟩ : ∃ z, (⟨#[35, 101]⟩ ++ strOf T0 ++ ⟨#[58]⟩ : ByteArray).size = z ∧ z ≤ 31 := ⟨_, rfl, by rw [ByteArray.size_append, s1]; (try simp [ByteArray.size]); omega⟩
          have n2 : ¬ (9223372036854775807 < z1 + 1) := by omega
          obtain ⟨z3, s3, b3⟩ : ∃ z, (⟨#[35, 101]⟩ ++ strOf T0 ++ ⟨#[58]⟩ ++ strOf T3 : ByteArray).size = z ∧ z ≤ 8388640 := ⟨_, rfl, by rw [ByteArray.size_append, s2, a3]; (try simp [ByteArray.size]); omega⟩
          have n3 : ¬ (9223372036854775807 < z2 + t3) := by omega
          obtain ⟨z4, s4, b4⟩ : ∃ z, (⟨#[35, 101]⟩ ++ strOf T0 ++ ⟨#[58]⟩ ++ strOf T3 ++ ⟨#[32, 35, 110]⟩ : ByteArray).size = z ∧ z ≤ 8388643 := ⟨_, rfl, by rw [ByteArray.size_append, s3]; (try simp [ByteArray.size]); omega⟩
          have n4 : ¬ (9223372036854775807 < z3 + 3) := by omega
          obtain ⟨z5, s5, b5⟩ : ∃ z, (⟨#[35, 101]⟩ ++ strOf T0 ++ ⟨#[58]⟩ ++ strOf T3 ++ ⟨#[32, 35, 110]⟩ ++ strOf T1 : ByteArray).size = z ∧ z ≤ 8388663 := ⟨_, rfl, by rw [ByteArray.size_append, s4, a1]; (try simp [ByteArray.size]); omega⟩
          have n5 : ¬ (9223372036854775807 < z4 + t1) := by omega
          obtain ⟨z6, s6, b6⟩ : ∃ z, (⟨#[35, 101]⟩ ++ strOf T0 ++ ⟨#[58]⟩ ++ strOf T3 ++ ⟨#[32, 35, 110]⟩ ++ strOf T1 ++ ⟨#[32, 35, 110]⟩ : ByteArray).size = z ∧ z ≤ 8388666 := ⟨_, rfl, by rw [ByteArray.size_append, s5]; (try simp [ByteArray.size]); omega⟩
          have n6 : ¬ (9223372036854775807 < z5 + 3) := by omega
          obtain ⟨z7, s7, b7⟩ : ∃ z, (⟨#[35, 101]⟩ ++ strOf T0 ++ ⟨#[58]⟩ ++ strOf T3 ++ ⟨#[32, 35, 110]⟩ ++ strOf T1 ++ ⟨#[32, 35, 110]⟩ ++ strOf T2 : ByteArray).size = z ∧ z ≤ 8388686 := ⟨_, rfl, by rw [ByteArray.size_append, s6, a2]; (try simp [ByteArray.size]); omega⟩
          have n7 : ¬ (9223372036854775807 < z6 + t2) := by omega
          have HD : Hid ((⟨#[35, 101]⟩ ++ strOf T0 ++ ⟨#[58]⟩ ++ strOf T3 ++ ⟨#[32, 35, 110]⟩ ++ strOf T1 ++ ⟨#[32, 35, 110]⟩ ++ strOf T2 : ByteArray).data.toList = edgeH x) := Lib.hid (by unfold edgeH; rw [hT0, hT1, hT2, hT3]; simp [strOf])
          have HS7 : Hid ((⟨#[35, 101]⟩ ++ strOf T0 ++ ⟨#[58]⟩ ++ strOf T3 ++ ⟨#[32, 35, 110]⟩ ++ strOf T1 ++ ⟨#[32, 35, 110]⟩ ++ strOf T2 : ByteArray).size ≤ 8388686) := Lib.hid (by rw [s7]; exact b7)
          clear b1 b2 b3 b4 b5 b6 b7 l0 l1 l2 l3
          have HXJ := Lib.hid hx
          have HPR := Lib.hid hpr
          have HB2 := Lib.hid hb2
          have HBK := Lib.hid hblk
          have HZ2 := Lib.hid hz2
          have HNB := Lib.hid hnb
          have HBRw := Lib.hid hbr
          have HW2 := Lib.hid hW2
          have HLEj := Lib.hid (HLE.out j)
          have HLE1 := Lib.hid (HLE.out (j + 1))
          have HTT := Lib.hid (show _ ∧ _ ∧ _ from ⟨hT0l, hT1l, hT2l⟩)
          have hty : x.ty.size ≤ 1048576 := hxs
          clear hcell hx hT0 hT1 hT2 hT3 hpr hb2 hblk hz2 hbr hW2 hid hbB
          go_wp2_with fail
          (try rw [hnb])
          rw [HW2.out]
          clear k0 k1 k2 k3 k4 k5
          have HSS : Hid (∀ u : World, Block u nb [.int .i64 x.id, .int .i64 x.src, .int .i64 x.dst, .string x.ty, .slice ka x.keys.length kc, .slice va x.vals.length vc] 40 → (fun u : World => u.cell? ⟨nb, 0, none⟩ = some (.int .i64 x.id) ∧ u.cell? ⟨nb, 1, none⟩ = some (.int .i64 x.src) ∧ u.cell? ⟨nb, 2, none⟩ = some (.int .i64 x.dst) ∧ u.cell? ⟨nb, 3, none⟩ = some (.string x.ty)) u) := Lib.hid (fun u h => ⟨h.cell rfl, h.cell rfl, h.cell rfl, h.cell rfl⟩)
          refine wp_region_noPanic ?_
          refine wp_region_J (S := fun u : World => u.cell? ⟨nb, 0, none⟩ = some (.int .i64 x.id) ∧ u.cell? ⟨nb, 1, none⟩ = some (.int .i64 x.src) ∧ u.cell? ⟨nb, 2, none⟩ = some (.int .i64 x.dst) ∧ u.cell? ⟨nb, 3, none⟩ = some (.string x.ty)) (fun _ => false) (by kernel_rfl) ?_
          obtain ⟨u0, hu0⟩ : ∃ u, W2.drew = u := ⟨_, rfl⟩
          have Hu0 : Hid (Below W2.heap.size W2 u0) := Lib.hid (by rw [← hu0]; exact (Below.refl _ _).drew)
          have HBu0 : Hid (Block u0 nb [.int .i64 x.id, .int .i64 x.src, .int .i64 x.dst, .string x.ty, .slice ka x.keys.length kc, .slice va x.vals.length vc] 40) := Lib.hid (by rw [← hu0]; exact HBK.out.drew)
          rw [hu0]
          have hHeld := HSS.out u0 HBu0.out
          clear hu0
          refine wpAnyJ_take0 (i := 0) (v := ?_) rfl (by kernel_rfl) (by kernel_rfl) (by kernel_rfl) (fun _ _ _ h => h) (Or.inl ⟨by rfl, ?_⟩) ?_
          rotate_left
          focus ((intro w hSw; clear hSw; go_simp); try with_reducible rfl)
          (try simp only [Act.put, List.getElem_toArray, List.getElem_cons_zero, List.getElem_cons_succ, List.setIfInBounds_toArray, List.set_cons_zero, List.set_cons_succ])
          refine wpAnyJ_take (i := 1) (v := ?_) rfl (by kernel_rfl) (by kernel_rfl) (by kernel_rfl) (by kernel_rfl) (fun _ _ _ h => h) (Or.inl ⟨by rfl, ?_⟩) (by assumption) ?_
          rotate_left
          focus ((intro w hSw; (try dsimp only at hSw); go_simp); try with_reducible rfl)
          (try simp only [Act.put, List.getElem_toArray, List.getElem_cons_zero, List.getElem_cons_succ, List.setIfInBounds_toArray, List.set_cons_zero, List.set_cons_succ])
          refine wpAnyJ_take0 (i := 5) (v := ?_) rfl (by kernel_rfl) (by kernel_rfl) (by kernel_rfl) (fun _ _ _ h => h) (Or.inl ⟨by rfl, ?_⟩) ?_
          rotate_left
          focus ((intro w hSw; clear hSw; go_simp); try with_reducible rfl)
          (try simp only [Act.put, List.getElem_toArray, List.getElem_cons_zero, List.getElem_cons_succ, List.setIfInBounds_toArray, List.set_cons_zero, List.set_cons_succ])
          refine wpAnyJ_take (i := 6) (v := ?_) rfl (by kernel_rfl) (by kernel_rfl) (by kernel_rfl) (by kernel_rfl) (fun _ _ _ h => h) (Or.inl ⟨by rfl, ?_⟩) (by assumption) ?_
          rotate_left
          focus ((intro w hSw; (try dsimp only at hSw); go_simp); try with_reducible rfl)
          (try simp only [Act.put, List.getElem_toArray, List.getElem_cons_zero, List.getElem_cons_succ, List.setIfInBounds_toArray, List.set_cons_zero, List.set_cons_succ])
          refine wpAnyJ_take0 (i := 10) (v := ?_) rfl (by kernel_rfl) (by kernel_rfl) (by kernel_rfl) (fun _ _ _ h => h) (Or.inl ⟨by rfl, ?_⟩) ?_
          rotate_left
          focus ((intro w hSw; clear hSw; go_simp); try with_reducible rfl)
          (try simp only [Act.put, List.getElem_toArray, List.getElem_cons_zero, List.getElem_cons_succ, List.setIfInBounds_toArray, List.set_cons_zero, List.set_cons_succ])
          refine wpAnyJ_take (i := 11) (v := ?_) rfl (by kernel_rfl) (by kernel_rfl) (by kernel_rfl) (by kernel_rfl) (fun _ _ _ h => h) (Or.inl ⟨by rfl, ?_⟩) (by assumption) ?_
          rotate_left
          focus ((intro w hSw; (try dsimp only at hSw); go_simp); try with_reducible rfl)
          (try simp only [Act.put, List.getElem_toArray, List.getElem_cons_zero, List.getElem_cons_succ, List.setIfInBounds_toArray, List.set_cons_zero, List.set_cons_succ])
          refine wpAnyJ_take0 (i := 15) (v := ?_) rfl (by kernel_rfl) (by kernel_rfl) (by kernel_rfl) (fun _ _ _ h => h) (Or.inl ⟨by rfl, ?_⟩) ?_
          rotate_left
          focus ((intro w hSw; clear hSw; go_simp); try with_reducible rfl)
          (try simp only [Act.put, List.getElem_toArray, List.getElem_cons_zero, List.getElem_cons_succ, List.setIfInBounds_toArray, List.set_cons_zero, List.set_cons_succ])
          refine wpAnyJ_take (i := 16) (v := ?_) rfl (by kernel_rfl) (by kernel_rfl) (by kernel_rfl) (by kernel_rfl) (fun _ _ _ h => h) (Or.inl ⟨by rfl, ?_⟩) (by assumption) ?_
          rotate_left
          focus ((intro w hSw; (try dsimp only at hSw); go_simp); try with_reducible rfl)
          (try simp only [Act.put, List.getElem_toArray, List.getElem_cons_zero, List.getElem_cons_succ, List.setIfInBounds_toArray, List.set_cons_zero, List.set_cons_succ])
          refine wpAnyJ_ready (rs := [2]) (by kernel_rfl) (by simp) ?_
          refine AllReadyJ.cons rfl (fun KK hKK => ?_) AllReadyJ.nil
          go_simp
          go_at_call 36
          refine (HT0.out _).mono ?_
          rintro e u1 ⟨rfl, hb9⟩
          have Hu1 := Lib.hid (Hu0.out.trans (hb9.mono Hu0.out.size))
          have HBu1 := Lib.hid (HBu0.out.below hb9 HBu0.out.lt)
          have hH2 := HSS.out u1 HBu1.out
          refine hKK.out _ _ (fun _ _ => hH2) ?_
          clear hKK KK hHeld hb9
          have hHeld := hH2
          clear hH2
          (try simp only [Act.put, List.getElem_toArray, List.getElem_cons_zero, List.getElem_cons_succ, List.setIfInBounds_toArray, List.set_cons_zero, List.set_cons_succ])
          refine wpAnyJ_take0 (i := 3) (v := ?_) rfl (by kernel_rfl) (by kernel_rfl) (by kernel_rfl) (fun _ _ _ h => h) (Or.inl ⟨by rfl, ?_⟩) ?_
          rotate_left
          focus ((intro w hSw; clear hSw; go_simp); try with_reducible rfl)
          (try simp only [Act.put, List.getElem_toArray, List.getElem_cons_zero, List.getElem_cons_succ, List.setIfInBounds_toArray, List.set_cons_zero, List.set_cons_succ])
          refine wpAnyJ_take0 (i := 4) (v := ?_) rfl (by kernel_rfl) (by kernel_rfl) (by kernel_rfl) (fun _ _ _ h => h) (Or.inl ⟨by rfl, ?_⟩) ?_
          rotate_left
          focus ((intro w hSw; clear hSw; go_simp); try with_reducible rfl)
          (try simp only [Act.put, List.getElem_toArray, List.getElem_cons_zero, List.getElem_cons_succ, List.setIfInBounds_toArray, List.set_cons_zero, List.set_cons_succ])
          refine wpAnyJ_ready (rs := [7]) (by kernel_rfl) (by simp) ?_
          refine AllReadyJ.cons rfl (fun KK hKK => ?_) AllReadyJ.nil
          go_simp
          go_at_call 37
          refine (HT3.out _).mono ?_
          rintro e u2 ⟨rfl, hb9⟩
          have Hu2 := Lib.hid (Hu1.out.trans (hb9.mono Hu1.out.size))
          have HBu2 := Lib.hid (HBu1.out.below hb9 HBu1.out.lt)
          have hH2 := HSS.out u2 HBu2.out
          refine hKK.out _ _ (fun _ _ => hH2) ?_
          clear hKK KK hHeld hb9
          have hHeld := hH2
          clear hH2
          (try simp only [Act.put, List.getElem_toArray, List.getElem_cons_zero, List.getElem_cons_succ, List.setIfInBounds_toArray, List.set_cons_zero, List.set_cons_succ])
          refine wpAnyJ_take0 (i := 8) (v := ?_) rfl (by kernel_rfl) (by kernel_rfl) (by kernel_rfl) (fun _ _ _ h => h) (Or.inl ⟨by rfl, ?_⟩) ?_
          rotate_left
          focus ((intro w hSw; clear hSw; go_simp); try with_reducible rfl)
          (try simp only [Act.put, List.getElem_toArray, List.getElem_cons_zero, List.getElem_cons_succ, List.setIfInBounds_toArray, List.set_cons_zero, List.set_cons_succ])
          refine wpAnyJ_take0 (i := 9) (v := ?_) rfl (by kernel_rfl) (by kernel_rfl) (by kernel_rfl) (fun _ _ _ h => h) (Or.inl ⟨by rfl, ?_⟩) ?_
          rotate_left
          focus ((intro w hSw; clear hSw; go_simp); try with_reducible rfl)
          (try simp only [Act.put, List.getElem_toArray, List.getElem_cons_zero, List.getElem_cons_succ, List.setIfInBounds_toArray, List.set_cons_zero, List.set_cons_succ])
          refine wpAnyJ_ready (rs := [12]) (by kernel_rfl) (by simp) ?_
          refine AllReadyJ.cons rfl (fun KK hKK => ?_) AllReadyJ.nil
          go_simp
          go_at_call 36
          refine (HT1.out _).mono ?_
          rintro e u3 ⟨rfl, hb9⟩
          have Hu3 := Lib.hid (Hu2.out.trans (hb9.mono Hu2.out.size))
          have HBu3 := Lib.hid (HBu2.out.below hb9 HBu2.out.lt)
          have hH2 := HSS.out u3 HBu3.out
          refine hKK.out _ _ (fun _ _ => hH2) ?_
          clear hKK KK hHeld hb9
          have hHeld := hH2
          clear hH2
          (try simp only [Act.put, List.getElem_toArray, List.getElem_cons_zero, List.getElem_cons_succ, List.setIfInBounds_toArray, List.set_cons_zero, List.set_cons_succ])
          refine wpAnyJ_take0 (i := 13) (v := ?_) rfl (by kernel_rfl) (by kernel_rfl) (by kernel_rfl) (fun _ _ _ h => h) (Or.inl ⟨by rfl, ?_⟩) ?_
          rotate_left
          focus ((intro w hSw; clear hSw; go_simp); try with_reducible rfl)
          (try simp only [Act.put, List.getElem_toArray, List.getElem_cons_zero, List.getElem_cons_succ, List.setIfInBounds_toArray, List.set_cons_zero, List.set_cons_succ])
          refine wpAnyJ_take0 (i := 14) (v := ?_) rfl (by kernel_rfl) (by kernel_rfl) (by kernel_rfl) (fun _ _ _ h => h) (Or.inl ⟨by rfl, ?_⟩) ?_
          rotate_left
          focus ((intro w hSw; clear hSw; go_simp); try with_reducible rfl)
          (try simp only [Act.put, List.getElem_toArray, List.getElem_cons_zero, List.getElem_cons_succ, List.setIfInBounds_toArray, List.set_cons_zero, List.set_cons_succ])
          refine wpAnyJ_ready (rs := [17]) (by kernel_rfl) (by simp) ?_
          refine AllReadyJ.cons rfl (fun KK hKK => ?_) AllReadyJ.nil
          go_simp
          go_at_call 36
          refine (HT2.out _).mono ?_
          rintro e u4 ⟨rfl, hb9⟩
          have Hu4 := Lib.hid (Hu3.out.trans (hb9.mono Hu3.out.size))
          have HBu4 := Lib.hid (HBu3.out.below hb9 HBu3.out.lt)
          have hH2 := HSS.out u4 HBu4.out
          refine hKK.out _ _ (fun _ _ => hH2) ?_
          clear hKK KK hHeld hb9
          have hHeld := hH2
          clear hH2
          (try simp only [Act.put, List.getElem_toArray, List.getElem_cons_zero, List.getElem_cons_succ, List.setIfInBounds_toArray, List.set_cons_zero, List.set_cons_succ])
          refine wpAnyJ_take0 (i := 18) (v := ?_) rfl (by kernel_rfl) (by kernel_rfl) (by kernel_rfl) (fun _ _ _ h => h) (Or.inl ⟨by rfl, ?_⟩) ?_
          rotate_left
          focus ((intro w hSw; clear hSw; go_simp); try with_reducible rfl)
          (try simp only [Act.put, List.getElem_toArray, List.getElem_cons_zero, List.getElem_cons_succ, List.setIfInBounds_toArray, List.set_cons_zero, List.set_cons_succ])
          refine wpAnyJ_ready (rs := [19]) (by kernel_rfl) (by simp) ?_
          refine AllReadyJ.cons rfl (fun KK hKK => ?_) AllReadyJ.nil
          go_simp
          go_at_call 33
          clear n1 n2 n3 n4 n5 n6 n7 s1 s2 s3 s4 s5 s6 s7 a0 a1 a2 a3
          obtain ⟨SS, hSS⟩ : ∃ SS : ByteArray, ⟨#[35, 101]⟩ ++ strOf T0 ++ ⟨#[58]⟩ ++ strOf T3 ++ ⟨#[32, 35, 110]⟩ ++ strOf T1 ++ ⟨#[32, 35, 110]⟩ ++ strOf T2 = SS := ⟨_, rfl⟩
          rw [hSS] at HD HS7 ⊢
          clear hSS
          have hbw4 : Bld b b (g.nodes.flatMap nodeL ++ (g.edges.take j).flatMap edgeL) u4 := HBD.out.below (HB2.out.trans (Hu4.out.mono HB2.out.size))
          have hln4 : (g.nodes.flatMap nodeL ++ (g.edges.take j).flatMap edgeL).length + SS.size ≤ 140737488355328 := Nat.le_trans (Nat.add_le_add HLEj.out HS7.out) (by decide)
          have hbz4 : b ≤ u4.heap.size := by have := Hu4.out.size; have := HZ2.out; have := HNB.out; omega
          refine (bld_string b b _ SS u4 hbw4 hln4 hbz4).mono ?_
          clear hbw4 hln4 hbz4
          rintro e u5 ⟨rfl, hw5⟩
          rw [HD.out] at hw5
          have HW5 := Lib.hid (hw5.behind (HB2.out.trans (Hu4.out.mono HB2.out.size)) (by omega))
          have HB5 := Lib.hid (hw5.blk HBu4.out (by have := HNB.out; omega) (by decide))
          have hH2 := HSS.out u5 HB5.out
          refine hKK.out _ _ (fun _ _ => hH2) ?_
          clear hKK KK hHeld hw5 hH2
          (try simp only [Act.put, List.getElem_toArray, List.getElem_cons_zero, List.getElem_cons_succ, List.setIfInBounds_toArray, List.set_cons_zero, List.set_cons_succ])
          refine wpAnyJ_done (by kernel_rfl) ?_ _
          refine NoPanic.normal ?_
          have g4 := HB5.out.cell (i := 4) rfl
          have g5 := HB5.out.cell (i := 5) rfl
          have HBRq : Hid (Below b W1 u5) := Lib.hid (HBR.out.trans HW5.out.2.1)
          have hbq : Below w.heap.size w u5 := HBW.out.trans (HBRq.out.mono (by have := HBB.out; omega))
          have HTP := Lib.hid (textProps_any x.keys x.vals b b B ((g.nodes.flatMap nodeL ++ (g.edges.take j).flatMap edgeL) ++ edgeH x) ka va kc vc u5 (HPR.out.below hbq hB) (by have := hbq.size; omega) HTX.out (by rw [wt_propsV]; have := HWX.out; unfold wtE at this; omega) HW5.out.1 (by have := HB5.out.lt; have := HNB.out; omega) (by have h1 := edgeH_len x; have := HLEj.out; rw [List.length_append]; omega))
          clear hbq
          go_wp2_with fail
          refine HTP.out.mono ?_
          rintro e w7 ⟨rfl, hw7⟩
          have HW7 := Lib.hid hw7
          clear hw7 g4 g5
          go_wp2_with fail
          go_roundw
          case rel => exact ⟨j + 1, by go_num, by omega, Lib.hid (by have h9 := HW7.out.1; rw [flat_take edgeL HXJ.out, show edgeL x = edgeH x ++ propsL x.keys x.vals from rfl]; simpa using h9), Lib.hid (HBRq.out.trans HW7.out.2.1)⟩
          case measure => simp [intOf]; omega
        · have hlt' : ¬ (j : Int) < g.edges.length := by omega
          have HBS : Hid (Bld b b (textG g) wr) := Lib.hid (by have := HBD.out; rw [List.take_of_length_le (by omega)] at this; exact this)
          have hzr : b ≤ wr.heap.size := by have := HBR.out.size; have := HZ1.out; omega
          have HST := Lib.hid (bld_str b b (textG g) wr HBS.out hzr)
          go_wp2_with fail
          refine HST.out.mono ?_
          rintro e w8 ⟨rfl, hw8⟩
          have HW8 := Lib.hid (HBR.out.trans hw8.2.1)
          clear hw8
          go_wp2_with fail
          exact HQ.out _ HW8.out
end Go.Proofs.Ytoakloicjlfaaaa

/- Layer 14: the law's small example. Conditions: none. -/
namespace Go.Proofs.Ytoakloicjlfaaaa
open Go.RowKit Go.Shelf
set_option linter.unusedSimpArgs false
set_option linter.unusedVariables false
set_option maxRecDepth 100000

def exN : Nt := ⟨3, [⟨#[65]⟩], [], []⟩
def exE : Et := ⟨1, 3, 3, ⟨#[84]⟩, [], []⟩
def exG1 : Gt := ⟨[exN], []⟩
def exG2 : Gt := ⟨[exN], [exE]⟩
theorem ex_put : putG noG exN = (0, exG1) := by kernel_rfl
theorem ex_join : joinG exG1 exE = (0, exG2) := by kernel_rfl
theorem ex_drop : dropG exG2 3 = (5, noG) := by kernel_rfl
theorem ex_around : aroundG exG2 3 2 ⟨#[84]⟩ = [exE] := by kernel_rfl
theorem ex_text : strOf (textG exG2) = ⟨#[35, 110, 51, 58, 65, 10, 35, 101, 49, 58, 84, 32, 35, 110, 51, 32, 35, 110, 51, 10]⟩ := by kernel_rfl
theorem RiseI.nil : RiseI [] := fun i j x y _ hx _ => by simp at hx
theorem RiseI.one (a : Int) : RiseI [a] := fun i j x y h _ hy => by
 have := (List.getElem?_eq_some_iff.1 hy).1
 simp at this
 omega
theorem ex_smN : SmN exN := ⟨by decide, by decide, by decide, fun j t h => by simp [exN] at h⟩
theorem ex_smE : SmE exE := ⟨by decide, by decide, fun j t h => by simp [exE] at h⟩
theorem one_get {α : Type} {a x : α} {j : Nat} (h : [a][j]? = some x) : x = a := by
 cases j with
 | zero => simp at h; exact h.symm
 | succ j => simp at h
theorem ex_sm1 : SmG exG1 := ⟨⟨by decide, by decide⟩, fun j n h => by rw [one_get h]; exact ex_smN, fun j e h => by simp [exG1] at h⟩
theorem ex_sm2 : SmG exG2 := ⟨⟨by decide, by decide⟩, fun j n h => by rw [one_get h]; exact ex_smN, fun j e h => by rw [one_get h]; exact ex_smE⟩
theorem ex_sm0 : SmG noG := ⟨⟨by decide, by decide⟩, fun j n h => by simp [noG] at h, fun j e h => by simp [noG] at h⟩
theorem ex_tx : TxG exG2 := ⟨by decide, fun j n h => by rw [one_get h]; intro h; exact absurd rfl h, fun j n h => by rw [one_get h]; intro h; exact absurd rfl h⟩
theorem IsGO.form {w : World} {cs : List Value} {g : Gt} {bs : List Nat} (h : IsGO w cs g bs) : ∃ na nc ea ec, cs = [.slice na g.nodes.length nc, .slice ea g.edges.length ec] := by
 obtain ⟨na, nc, ea, ec, b1, b2, h1, _⟩ := h
 exact ⟨na, nc, ea, ec, h1⟩
set_option maxHeartbeats 8000000 in
theorem gworks_any (w : World) : Calls Try.prog 8 #[] w fun e w' => e = .returned (.bool true) ∧ Below w.heap.size w w' := by
 obtain ⟨W0, hW0⟩ : ∃ W0, w.alloc (.cells #[.string ⟨#[65]⟩] 9) = W0 := ⟨_, rfl⟩
 have hb0 : Below w.heap.size w W0 := by rw [← hW0]; exact (Below.refl _ _).alloc (Nat.le_refl _) _
 have hblk : Block W0 w.heap.size [.string ⟨#[65]⟩] 9 := by rw [← hW0]; exact Block.new _ _ _
 have hz0 : w.heap.size < W0.heap.size := by rw [← hW0]; simp
 have hn : IsN W0.heap.size W0 [.int .i64 3, .slice (some ⟨w.heap.size, 0, none⟩) 1 1, .slice none 0 0, .slice none 0 0] exN :=
  ⟨some ⟨w.heap.size, 0, none⟩, 1, none, 0, none, 0, rfl, by show in64 3; unfold in64; omega, ⟨⟨Nat.le_refl _, by omega⟩, fun e => by cases e⟩, .inr ⟨w.heap.size, 0, rfl, hz0, fun i v hv => by
   have hi : i = 0 := by have := (List.getElem?_eq_some_iff.1 hv).1; simp [exN] at this; omega
   subst hi
   have hv2 : v = .string ⟨#[65]⟩ := one_get (α := Value) hv
   rw [hv2]
   exact hblk.cell rfl⟩, ⟨⟨Nat.le_refl _, by omega⟩, fun _ => rfl⟩, ⟨⟨Nat.le_refl _, by omega⟩, fun _ => rfl⟩, .inl rfl, by unfold exN IsVs; trivial⟩
 have hg0 : IsG W0.heap.size W0 [.slice none 0 0, .slice none 0 0] noG := ⟨none, 0, none, 0, rfl, ⟨⟨Nat.le_refl _, by omega⟩, fun _ => rfl⟩, ⟨⟨Nat.le_refl _, by omega⟩, fun _ => rfl⟩, fun i o h => by simp [noG] at h, fun i o h => by simp [noG] at h⟩
 have HP := Lib.hid (put_any noG exN _ _ W0.heap.size W0 hg0 hn (Nat.le_refl _) RiseI.nil ex_sm0 ex_smN)
 rw [ex_put] at HP
 have HB0 := Lib.hid hb0
 have HW0 := Lib.hid hW0
 have hbn : Program.built Try.prog 38 [(0, Value.int .i64 3), (1, Value.slice (some ⟨w.heap.size, 0, none⟩) 1 1)] = some #[.int .i64 3, .slice (some ⟨w.heap.size, 0, none⟩) 1 1, .slice none 0 0, .slice none 0 0] := by kernel_rfl
 clear hW0 hb0 hblk hz0 hn hg0
 obtain ⟨Q, hQ⟩ : ∃ Q : Ending → World → Prop, (fun e w' => e = .returned (.bool true) ∧ Below w.heap.size w w') = Q := ⟨_, rfl⟩
 have HQ : Hid (∀ u, Below w.heap.size w u → Q (.returned (.bool true)) u) := Lib.hid (fun u h => by rw [← hQ]; exact ⟨rfl, h⟩)
 rw [hQ]
 clear hQ
 go_enter Try.func8, Try.ntmps8
 go_wp2_with fail
 rw [HW0.out]
 clear hbn
 refine HP.out.mono ?_
 rintro e w1 ⟨cs1, bs1, rfl, hb1, hG1, -, hr1⟩
 obtain ⟨na, nc, ea, ec, rfl⟩ := hG1.form
 obtain ⟨W1, hW1⟩ : ∃ W1, w1.alloc (.cells #[.slice na exG1.nodes.length nc, .slice ea exG1.edges.length ec] 25) = W1 := ⟨_, rfl⟩
 have hb1a : Below w1.heap.size w1 W1 := by rw [← hW1]; exact (Below.refl _ _).alloc (Nat.le_refl _) _
 have hblk1 : Block W1 w1.heap.size [.slice na exG1.nodes.length nc, .slice ea exG1.edges.length ec] 25 := by rw [← hW1]; exact Block.new _ _ _
 have hg1 : IsG w1.heap.size W1 [.slice na exG1.nodes.length nc, .slice ea exG1.edges.length ec] exG1 := (hG1.isG (fun b hb => (hr1 b hb).2)).below hb1a (Nat.le_refl _)
 have HB1 := Lib.hid (HB0.out.trans ((hb1.trans (hb1a.mono hb1.size)).mono HB0.out.size))
 have he1 : ∀ u : World, IsE w1.heap.size u [.int .i64 1, .int .i64 3, .int .i64 3, .string ⟨#[84]⟩, .slice none 0 0, .slice none 0 0] exE := fun u =>
  ⟨none, 0, none, 0, rfl, ⟨by show in64 1; unfold in64; omega, by show in64 3; unfold in64; omega, by show in64 3; unfold in64; omega⟩, ⟨⟨Nat.le_refl _, by omega⟩, fun _ => rfl⟩, ⟨⟨Nat.le_refl _, by omega⟩, fun _ => rfl⟩, .inl rfl, by unfold exE IsVs; trivial⟩
 have HJ := Lib.hid (join_any exG1 exE _ _ w1.heap.size W1 hg1 (he1 W1) hb1a.size (RiseI.one 3) RiseI.nil ex_sm1 ex_smE)
 rw [ex_join] at HJ
 have hbe : Program.built Try.prog 40 [(0, Value.int .i64 1), (1, Value.int .i64 3), (2, Value.int .i64 3), (3, Value.string ⟨#[84]⟩)] = some #[.int .i64 1, .int .i64 3, .int .i64 3, .string ⟨#[84]⟩, .slice none 0 0, .slice none 0 0] := by kernel_rfl
 have c0 := hblk1.cell (i := 0) rfl
 have c1 := hblk1.cell (i := 1) rfl
 rw [← hW1] at c0 c1
 have HW1 := Lib.hid hW1
 clear hW1 hb1a hblk1 hg1 hb1 hr1 hG1 he1
 go_wp2_with fail
 rw [HW1.out]
 clear hbe c0 c1
 refine HJ.out.mono ?_
 rintro e w2 ⟨cs2, bs2, rfl, hb2, hG2, -, hr2⟩
 obtain ⟨na2, nc2, ea2, ec2, rfl⟩ := hG2.form
 obtain ⟨W2, hW2⟩ : ∃ W2, w2.alloc (.cells #[.slice na2 exG2.nodes.length nc2, .slice ea2 exG2.edges.length ec2] 25) = W2 := ⟨_, rfl⟩
 have hb2a : Below w2.heap.size w2 W2 := by rw [← hW2]; exact (Below.refl _ _).alloc (Nat.le_refl _) _
 have hz2 : w2.heap.size < W2.heap.size := by rw [← hW2]; simp
 have hblk2 : Block W2 w2.heap.size [.slice na2 exG2.nodes.length nc2, .slice ea2 exG2.edges.length ec2] 25 := by rw [← hW2]; exact Block.new _ _ _
 have hg2 : IsG w2.heap.size W2 [.slice na2 exG2.nodes.length nc2, .slice ea2 exG2.edges.length ec2] exG2 := (hG2.isG (fun b hb => (hr2 b hb).2)).below hb2a (Nat.le_refl _)
 have HB2 := Lib.hid (HB1.out.trans ((hb2.trans (hb2a.mono hb2.size)).mono HB1.out.size))
 have HD := Lib.hid (drop_any exG2 3 _ w2.heap.size W2 hg2 hb2a.size (RiseI.one 3) ex_sm2)
 rw [ex_drop] at HD
 have c0 := hblk2.cell (i := 0) rfl
 have c1 := hblk2.cell (i := 1) rfl
 rw [← hW2] at c0 c1
 have HW2 := Lib.hid hW2
 have HZ2 := Lib.hid hz2
 have HK2 := Lib.hid hblk2
 have HG2 := Lib.hid hg2
 have HB2A := Lib.hid hb2a
 clear hW2 hb2a hblk2 hg2 hb2 hr2 hG2 hz2
 go_wp2_with fail
 rw [HW2.out]
 clear c0 c1
 refine HD.out.mono ?_
 rintro e w3 ⟨cs3, bs3, rfl, hb3, hG3, -, -⟩
 obtain ⟨na3, nc3, ea3, ec3, rfl⟩ := hG3.form
 obtain ⟨W3, hW3⟩ : ∃ W3, w3.alloc (.cells #[.slice na3 noG.nodes.length nc3, .slice ea3 noG.edges.length ec3] 25) = W3 := ⟨_, rfl⟩
 have hb3a : Below W2.heap.size W2 W3 := hb3.trans (by rw [← hW3]; exact (Below.refl _ _).alloc hb3.size _)
 have hblk3 := HK2.out.below hb3a HK2.out.lt
 have HB3 := Lib.hid (HB2.out.trans (hb3a.mono HB2.out.size))
 have hg3 := HG2.out.below (hb3a.mono (Nat.le_of_lt HZ2.out)) (Nat.le_refl _)
 have HAR := Lib.hid (around_any exG2 3 2 ⟨#[84]⟩ _ w2.heap.size W3 hg3 (Nat.le_trans (Nat.le_of_lt HZ2.out) hb3a.size) ex_sm2)
 rw [ex_around] at HAR
 have c0 := hblk3.cell (i := 0) rfl
 have c1 := hblk3.cell (i := 1) rfl
 rw [← hW3] at c0 c1
 have HK3 := Lib.hid hblk3
 have HG3 := Lib.hid hg3
 have HZ3 := Lib.hid (Nat.le_trans (Nat.le_of_lt HZ2.out) hb3a.size)
 have HW3 := Lib.hid hW3
 clear hW3 hb3a hblk3 hg3 hb3 hG3
 go_wp2_with fail
 rw [HW3.out]
 clear c0 c1
 refine HAR.out.mono ?_
 rintro e w4 ⟨a4, c4, bs4, rfl, hb4, -, -, -, -⟩
 have hblk4 := HK3.out.below hb4 HK3.out.lt
 have HB4 := Lib.hid (HB3.out.trans (hb4.mono HB3.out.size))
 have HTX := Lib.hid (text_any' exG2 _ w2.heap.size w4 (HG3.out.below (hb4.mono HZ3.out) (Nat.le_refl _)) (Nat.le_trans HZ3.out hb4.size) ex_tx)
 rw [ex_text] at HTX
 have c0 := hblk4.cell (i := 0) rfl
 have c1 := hblk4.cell (i := 1) rfl
 clear hblk4 hb4
 go_wp2_with fail
 refine HTX.out.mono ?_
 rintro e w5 ⟨rfl, hb5⟩
 have HB5 := Lib.hid (HB4.out.trans (hb5.mono HB4.out.size))
 clear hb5 c0 c1
 go_wp2_with fail
 exact HQ.out _ HB5.out
end Go.Proofs.Ytoakloicjlfaaaa

/- Layer 14: whether two nodes, edges, graphs are the same: the reference's answer. Conditions: none. -/
namespace Go.Proofs.Ytoakloicjlfaaaa
open Go.RowKit
set_option linter.unusedSimpArgs false
set_option linter.unusedVariables false
set_option maxRecDepth 100000

def sameN (n m : Nt) : Bool := decide (n.id = m.id) && (decide (n.labels = m.labels) && (decide (n.keys = m.keys) && sameVs n.vals m.vals))
def sameE (n m : Et) : Bool := decide (n.id = m.id) && (decide (n.src = m.src) && (decide (n.dst = m.dst) && (decide (n.ty = m.ty) && (decide (n.keys = m.keys) && sameVs n.vals m.vals))))
theorem sameVs_eq (l m : List Vt) : sameVs l m = true ↔ l = m := sameVs_iff l m (fun _ t _ u => sameV_iff t u)
theorem sameN_iff (n m : Nt) : sameN n m = true ↔ n = m := by
 obtain ⟨a1, a2, a3, a4⟩ := n
 obtain ⟨b1, b2, b3, b4⟩ := m
 simp [sameN, sameVs_eq]
theorem sameE_iff (n m : Et) : sameE n m = true ↔ n = m := by
 obtain ⟨a1, a2, a3, a4, a5, a6⟩ := n
 obtain ⟨b1, b2, b3, b4, b5, b6⟩ := m
 simp [sameE, sameVs_eq]
/-- One by one. -/
def sameL {α : Type} (f : α → α → Bool) : List α → List α → Bool
 | [], [] => true
 | x :: xs, y :: ys => f x y && sameL f xs ys
 | _, _ => false
theorem sameL_iff {α : Type} {f : α → α → Bool} (hf : ∀ x y, f x y = true ↔ x = y) : ∀ l m : List α, sameL f l m = true ↔ l = m
 | [], [] => by simp [sameL]
 | [], y :: ys => by simp [sameL]
 | x :: xs, [] => by simp [sameL]
 | x :: xs, y :: ys => by simp [sameL, hf, sameL_iff hf xs ys]
theorem sameL_len {α : Type} {f : α → α → Bool} : ∀ {l m : List α}, l.length ≠ m.length → sameL f l m = false
 | [], [], h => by simp at h
 | [], y :: ys, _ => rfl
 | x :: xs, [], _ => rfl
 | x :: xs, y :: ys, h => by simp only [sameL]; rw [sameL_len (l := xs) (m := ys) (fun e => h (by simp [e]))]; simp
theorem sameL_at {α : Type} {f : α → α → Bool} : ∀ {l m : List α} {j : Nat} {t u : α}, l[j]? = some t → m[j]? = some u → sameL f (l.drop j) (m.drop j) = (f t u && sameL f (l.drop (j + 1)) (m.drop (j + 1)))
 | x :: xs, y :: ys, 0, t, u, h1, h2 => by simp at h1 h2; subst h1 h2; rfl
 | x :: xs, y :: ys, j + 1, t, u, h1, h2 => by simpa using sameL_at (l := xs) (m := ys) (j := j) (by simpa using h1) (by simpa using h2)
 | [], _, j, t, u, h1, _ => by simp at h1
 | _ :: _, [], j, t, u, _, h2 => by simp at h2
def sameG (g h : Gt) : Bool := sameL sameN g.nodes h.nodes && sameL sameE g.edges h.edges
theorem sameG_iff (g h : Gt) : sameG g h = true ↔ g = h := by
 obtain ⟨a1, a2⟩ := g
 obtain ⟨b1, b2⟩ := h
 simp [sameG, sameL_iff sameN_iff, sameL_iff sameE_iff]
theorem sameList_all (l m : List Vt) (la ma : Option Addr) (lc mc : Nat) (B : Nat) (w : World) (hl : IsVs B w la 0 l) (hm : IsVs B w ma 0 m) (hB : B ≤ w.heap.size) (hll : l.length ≤ 9223372036854775807) (hml : m.length ≤ 9223372036854775807) :
    Calls Try.prog 68 #[.slice la l.length lc, .slice ma m.length mc] w fun e w' => e = .returned (.bool (sameVs l m)) ∧ Below w.heap.size w w' :=
  sameList_any l m (fun _ t _ => same_any t) la ma lc mc B w hl hm hB hll hml
/-- A row seen from whatever world grows out of one. -/
theorem RowR.ext {α : Type} {R : Nat → World → List Value → α → Prop} {size B M : Nat} {w W0 : World} {a : Option Addr} {l : List α} (h : RowR (R B w) size B w a l) (hbe : ∀ u : Ext M W0, Below w.heap.size w u.w) (hB : B ≤ w.heap.size) {j : Nat} {x : α} (hx : l[j]? = some x) :
    ∃ b off cs, a = some ⟨b, off, none⟩ ∧ b < B ∧ cs.length = size ∧ R B w cs x ∧ ∀ (u : Ext M W0) q v, cs[q]? = some v → u.w.cell? ⟨b, off + j * size + q, none⟩ = some v := by
  obtain ⟨b, off, cs, h1, h2, h3, h4, h5⟩ := h.at hx
  exact ⟨b, off, cs, h1, h2, h3, h4, fun u q v hv => by rw [(hbe u).cell (by show b < _; omega)]; exact h5 q v hv⟩

set_option maxHeartbeats 8000000 in
theorem sameN_any (n m : Nt) (cs ds : List Value) (B : Nat) (w : World) (hn : IsN B w cs n) (hm : IsN B w ds m) (hB : B ≤ w.heap.size) :
    Calls Try.prog 39 #[.agg cs.toArray, .agg ds.toArray] w fun e w' => e = .returned (.bool (sameN n m)) ∧ Below w.heap.size w w' := by
  obtain ⟨la, lc, ka, kc, va, vc, rfl, hid, hlo, hls, hko, hvo, hks, hvs⟩ := hn
  obtain ⟨mla, mlc, mka, mkc, mva, mvc, rfl, hid2, hlo2, hls2, hko2, hvo2, hks2, hvs2⟩ := hm
  show Calls Try.prog 39 #[.agg #[.int .i64 n.id, .slice la n.labels.length lc, .slice ka n.keys.length kc, .slice va n.vals.length vc], .agg #[.int .i64 m.id, .slice mla m.labels.length mlc, .slice mka m.keys.length mkc, .slice mva m.vals.length mvc]] w _
  obtain ⟨W0, hw0⟩ : ∃ w0, (w.alloc (.cells #[.int .i64 n.id, .slice la n.labels.length lc, .slice ka n.keys.length kc, .slice va n.vals.length vc] 38)).alloc (.cells #[.int .i64 m.id, .slice mla m.labels.length mlc, .slice mka m.keys.length mkc, .slice mva m.vals.length mvc] 38) = w0 := ⟨_, rfl⟩
  have hb0 : Below w.heap.size w W0 := by rw [← hw0]; exact ((Below.refl _ _).alloc (Nat.le_refl _) _).alloc (by simp) _
  have hX : Block W0 w.heap.size [.int .i64 n.id, .slice la n.labels.length lc, .slice ka n.keys.length kc, .slice va n.vals.length vc] 38 := by rw [← hw0]; exact (Block.new w _ _).alloc _
  have hY : Block W0 (w.heap.size + 1) [.int .i64 m.id, .slice mla m.labels.length mlc, .slice mka m.keys.length mkc, .slice mva m.vals.length mvc] 38 := by rw [← hw0]; have := Block.new (w.alloc (.cells #[.int .i64 n.id, .slice la n.labels.length lc, .slice ka n.keys.length kc, .slice va n.vals.length vc] 38)) [.int .i64 m.id, .slice mla m.labels.length mlc, .slice mka m.keys.length mkc, .slice mva m.vals.length mvc] 38; simpa using this
  have hsz : w.heap.size + 2 ≤ W0.heap.size := by rw [← hw0]; simp
  have hl0 : w.heap.size < w.heap.size + 2 := by omega
  have hl1 : w.heap.size + 1 < w.heap.size + 2 := by omega
  have hbe : ∀ u : Ext (w.heap.size + 2) W0, Below w.heap.size w u.w := fun u => hb0.trans (u.below.mono (by omega))
  have x0 : ∀ u : Ext (w.heap.size + 2) W0, u.w.cell? ⟨w.heap.size, 0, none⟩ = some (.int .i64 n.id) := fun u => u.cell hl0 (hX.cell rfl)
  have x1 : ∀ u : Ext (w.heap.size + 2) W0, u.w.cell? ⟨w.heap.size, 1, none⟩ = some (.slice la n.labels.length lc) := fun u => u.cell hl0 (hX.cell rfl)
  have x2 : ∀ u : Ext (w.heap.size + 2) W0, u.w.cell? ⟨w.heap.size, 2, none⟩ = some (.slice ka n.keys.length kc) := fun u => u.cell hl0 (hX.cell rfl)
  have x3 : ∀ u : Ext (w.heap.size + 2) W0, u.w.cell? ⟨w.heap.size, 3, none⟩ = some (.slice va n.vals.length vc) := fun u => u.cell hl0 (hX.cell rfl)
  have y0 : ∀ u : Ext (w.heap.size + 2) W0, u.w.cell? ⟨w.heap.size + 1, 0, none⟩ = some (.int .i64 m.id) := fun u => u.cell hl1 (hY.cell rfl)
  have y1 : ∀ u : Ext (w.heap.size + 2) W0, u.w.cell? ⟨w.heap.size + 1, 1, none⟩ = some (.slice mla m.labels.length mlc) := fun u => u.cell hl1 (hY.cell rfl)
  have y2 : ∀ u : Ext (w.heap.size + 2) W0, u.w.cell? ⟨w.heap.size + 1, 2, none⟩ = some (.slice mka m.keys.length mkc) := fun u => u.cell hl1 (hY.cell rfl)
  have y3 : ∀ u : Ext (w.heap.size + 2) W0, u.w.cell? ⟨w.heap.size + 1, 3, none⟩ = some (.slice mva m.vals.length mvc) := fun u => u.cell hl1 (hY.cell rfl)
  have HSL := Lib.hid (fun u : Ext (w.heap.size + 2) W0 => ext_call u hsz (sameNames_any n.labels m.labels la mla lc mlc B u.w (hls.below (hbe u) hB) (hls2.below (hbe u) hB) (Nat.le_trans hB (hbe u).size) (by have := hlo.1; omega) (by have := hlo2.1; omega)))
  have HSK := Lib.hid (fun u : Ext (w.heap.size + 2) W0 => ext_call u hsz (sameNames_any n.keys m.keys ka mka kc mkc B u.w (hks.below (hbe u) hB) (hks2.below (hbe u) hB) (Nat.le_trans hB (hbe u).size) (by have := hko.1; omega) (by have := hko2.1; omega)))
  have HSV := Lib.hid (fun u : Ext (w.heap.size + 2) W0 => ext_call u hsz (sameList_all n.vals m.vals va mva vc mvc B u.w (hvs.below (hbe u) hB) (hvs2.below (hbe u) hB) (Nat.le_trans hB (hbe u).size) (by have := hvo.1; omega) (by have := hvo2.1; omega)))
  have HBE := Lib.hid hbe
  have HW0 := Lib.hid hw0
  obtain ⟨u0, hu0⟩ := Ext.start (w.heap.size + 2) W0
  have HU0 := Lib.hid hu0
  have HR : Hid (∀ r, sameN n m = r → ∀ (u : Ext (w.heap.size + 2) W0), Ending.returned (.bool r) = Ending.returned (.bool (sameN n m)) ∧ Below w.heap.size w u.w) := Lib.hid (fun r h u => ⟨by rw [h], hbe u⟩)
  obtain ⟨Q, hQ⟩ : ∃ Q : Ending → World → Prop, (fun e w' => e = .returned (.bool (sameN n m)) ∧ Below w.heap.size w w') = Q := ⟨_, rfl⟩
  have HQ : Hid (∀ r, sameN n m = r → ∀ (u : Ext (w.heap.size + 2) W0), Q (.returned (.bool r)) u.w) := Lib.hid (fun r h u => by rw [← hQ]; exact ⟨by rw [h], hbe u⟩)
  rw [hQ]
  clear hQ HR hX hY hsz hl0 hl1 hbe hw0 hb0 hu0 hid hid2 hko hko2 hvo hvo2 hks hks2 hvs hvs2 hlo hlo2 hls hls2
  unfold sameN at HQ
  generalize decide (n.labels = m.labels) = rlabels at *
  generalize decide (n.keys = m.keys) = rkeys at *
  generalize sameVs n.vals m.vals = rvals at *
  generalize n.labels.length = nlabels at *
  generalize m.labels.length = mlabels at *
  generalize n.keys.length = nkeys at *
  generalize m.keys.length = mkeys at *
  generalize n.vals.length = nvals at *
  generalize m.vals.length = mvals at *
  generalize n.id = aid at *
  generalize m.id = bid at *
  by_cases hne : aid = bid
  · subst hne
    cases rlabels with
    | false =>
      have HF := Lib.hid (fun u => HQ.out false (by simp) u)
      clear HQ
      go_enter Try.func39, Try.ntmps39
      go_wp2_with fail
      rw [HW0.out, HU0.out]
      go_wp2_with (first | (go_at_call 67; (first | (with_reducible refine (HSK.out _).mono ?_) | (with_reducible refine (HSL.out _).mono ?_)); rintro e w1 ⟨rfl, u1, rfl⟩) | (go_at_call 68; with_reducible refine (HSV.out _).mono ?_; rintro e w1 ⟨rfl, u1, rfl⟩))
      exact HF.out _
    | true =>
      cases rkeys with
      | false =>
        have HF := Lib.hid (fun u => HQ.out false (by simp) u)
        clear HQ
        go_enter Try.func39, Try.ntmps39
        go_wp2_with fail
        rw [HW0.out, HU0.out]
        go_wp2_with (first | (go_at_call 67; (first | (with_reducible refine (HSK.out _).mono ?_) | (with_reducible refine (HSL.out _).mono ?_)); rintro e w1 ⟨rfl, u1, rfl⟩) | (go_at_call 68; with_reducible refine (HSV.out _).mono ?_; rintro e w1 ⟨rfl, u1, rfl⟩))
        exact HF.out _
      | true =>
        cases rvals with
        | false =>
          have HF := Lib.hid (fun u => HQ.out false (by simp) u)
          clear HQ
          go_enter Try.func39, Try.ntmps39
          go_wp2_with fail
          rw [HW0.out, HU0.out]
          go_wp2_with (first | (go_at_call 67; (first | (with_reducible refine (HSK.out _).mono ?_) | (with_reducible refine (HSL.out _).mono ?_)); rintro e w1 ⟨rfl, u1, rfl⟩) | (go_at_call 68; with_reducible refine (HSV.out _).mono ?_; rintro e w1 ⟨rfl, u1, rfl⟩))
          exact HF.out _
        | true =>
          have HF := Lib.hid (fun u => HQ.out true (by simp) u)
          clear HQ
          go_enter Try.func39, Try.ntmps39
          go_wp2_with fail
          rw [HW0.out, HU0.out]
          go_wp2_with (first | (go_at_call 67; (first | (with_reducible refine (HSK.out _).mono ?_) | (with_reducible refine (HSL.out _).mono ?_)); rintro e w1 ⟨rfl, u1, rfl⟩) | (go_at_call 68; with_reducible refine (HSV.out _).mono ?_; rintro e w1 ⟨rfl, u1, rfl⟩))
          exact HF.out _
  · have HF := Lib.hid (fun u => HQ.out false (by simp [hne]) u)
    clear HQ
    have hne2 : (aid == bid) = false := by simpa using hne
    clear hne
    go_enter Try.func39, Try.ntmps39
    go_wp2_with fail
    rw [HW0.out, HU0.out]
    go_wp2_with (first | (go_at_call 67; (first | (with_reducible refine (HSK.out _).mono ?_) | (with_reducible refine (HSL.out _).mono ?_)); rintro e w1 ⟨rfl, u1, rfl⟩) | (go_at_call 68; with_reducible refine (HSV.out _).mono ?_; rintro e w1 ⟨rfl, u1, rfl⟩))
    exact HF.out _

set_option maxHeartbeats 8000000 in
theorem sameE_any (n m : Et) (cs ds : List Value) (B : Nat) (w : World) (hn : IsE B w cs n) (hm : IsE B w ds m) (hB : B ≤ w.heap.size) :
    Calls Try.prog 60 #[.agg cs.toArray, .agg ds.toArray] w fun e w' => e = .returned (.bool (sameE n m)) ∧ Below w.heap.size w w' := by
  obtain ⟨ka, kc, va, vc, rfl, hid, hko, hvo, hks, hvs⟩ := hn
  obtain ⟨mka, mkc, mva, mvc, rfl, hid2, hko2, hvo2, hks2, hvs2⟩ := hm
  show Calls Try.prog 60 #[.agg #[.int .i64 n.id, .int .i64 n.src, .int .i64 n.dst, .string n.ty, .slice ka n.keys.length kc, .slice va n.vals.length vc], .agg #[.int .i64 m.id, .int .i64 m.src, .int .i64 m.dst, .string m.ty, .slice mka m.keys.length mkc, .slice mva m.vals.length mvc]] w _
  obtain ⟨W0, hw0⟩ : ∃ w0, (w.alloc (.cells #[.int .i64 n.id, .int .i64 n.src, .int .i64 n.dst, .string n.ty, .slice ka n.keys.length kc, .slice va n.vals.length vc] 40)).alloc (.cells #[.int .i64 m.id, .int .i64 m.src, .int .i64 m.dst, .string m.ty, .slice mka m.keys.length mkc, .slice mva m.vals.length mvc] 40) = w0 := ⟨_, rfl⟩
  have hb0 : Below w.heap.size w W0 := by rw [← hw0]; exact ((Below.refl _ _).alloc (Nat.le_refl _) _).alloc (by simp) _
  have hX : Block W0 w.heap.size [.int .i64 n.id, .int .i64 n.src, .int .i64 n.dst, .string n.ty, .slice ka n.keys.length kc, .slice va n.vals.length vc] 40 := by rw [← hw0]; exact (Block.new w _ _).alloc _
  have hY : Block W0 (w.heap.size + 1) [.int .i64 m.id, .int .i64 m.src, .int .i64 m.dst, .string m.ty, .slice mka m.keys.length mkc, .slice mva m.vals.length mvc] 40 := by rw [← hw0]; have := Block.new (w.alloc (.cells #[.int .i64 n.id, .int .i64 n.src, .int .i64 n.dst, .string n.ty, .slice ka n.keys.length kc, .slice va n.vals.length vc] 40)) [.int .i64 m.id, .int .i64 m.src, .int .i64 m.dst, .string m.ty, .slice mka m.keys.length mkc, .slice mva m.vals.length mvc] 40; simpa using this
  have hsz : w.heap.size + 2 ≤ W0.heap.size := by rw [← hw0]; simp
  have hl0 : w.heap.size < w.heap.size + 2 := by omega
  have hl1 : w.heap.size + 1 < w.heap.size + 2 := by omega
  have hbe : ∀ u : Ext (w.heap.size + 2) W0, Below w.heap.size w u.w := fun u => hb0.trans (u.below.mono (by omega))
  have x0 : ∀ u : Ext (w.heap.size + 2) W0, u.w.cell? ⟨w.heap.size, 0, none⟩ = some (.int .i64 n.id) := fun u => u.cell hl0 (hX.cell rfl)
  have x1 : ∀ u : Ext (w.heap.size + 2) W0, u.w.cell? ⟨w.heap.size, 1, none⟩ = some (.int .i64 n.src) := fun u => u.cell hl0 (hX.cell rfl)
  have x2 : ∀ u : Ext (w.heap.size + 2) W0, u.w.cell? ⟨w.heap.size, 2, none⟩ = some (.int .i64 n.dst) := fun u => u.cell hl0 (hX.cell rfl)
  have x3 : ∀ u : Ext (w.heap.size + 2) W0, u.w.cell? ⟨w.heap.size, 3, none⟩ = some (.string n.ty) := fun u => u.cell hl0 (hX.cell rfl)
  have x4 : ∀ u : Ext (w.heap.size + 2) W0, u.w.cell? ⟨w.heap.size, 4, none⟩ = some (.slice ka n.keys.length kc) := fun u => u.cell hl0 (hX.cell rfl)
  have x5 : ∀ u : Ext (w.heap.size + 2) W0, u.w.cell? ⟨w.heap.size, 5, none⟩ = some (.slice va n.vals.length vc) := fun u => u.cell hl0 (hX.cell rfl)
  have y0 : ∀ u : Ext (w.heap.size + 2) W0, u.w.cell? ⟨w.heap.size + 1, 0, none⟩ = some (.int .i64 m.id) := fun u => u.cell hl1 (hY.cell rfl)
  have y1 : ∀ u : Ext (w.heap.size + 2) W0, u.w.cell? ⟨w.heap.size + 1, 1, none⟩ = some (.int .i64 m.src) := fun u => u.cell hl1 (hY.cell rfl)
  have y2 : ∀ u : Ext (w.heap.size + 2) W0, u.w.cell? ⟨w.heap.size + 1, 2, none⟩ = some (.int .i64 m.dst) := fun u => u.cell hl1 (hY.cell rfl)
  have y3 : ∀ u : Ext (w.heap.size + 2) W0, u.w.cell? ⟨w.heap.size + 1, 3, none⟩ = some (.string m.ty) := fun u => u.cell hl1 (hY.cell rfl)
  have y4 : ∀ u : Ext (w.heap.size + 2) W0, u.w.cell? ⟨w.heap.size + 1, 4, none⟩ = some (.slice mka m.keys.length mkc) := fun u => u.cell hl1 (hY.cell rfl)
  have y5 : ∀ u : Ext (w.heap.size + 2) W0, u.w.cell? ⟨w.heap.size + 1, 5, none⟩ = some (.slice mva m.vals.length mvc) := fun u => u.cell hl1 (hY.cell rfl)
  have HSK := Lib.hid (fun u : Ext (w.heap.size + 2) W0 => ext_call u hsz (sameNames_any n.keys m.keys ka mka kc mkc B u.w (hks.below (hbe u) hB) (hks2.below (hbe u) hB) (Nat.le_trans hB (hbe u).size) (by have := hko.1; omega) (by have := hko2.1; omega)))
  have HSV := Lib.hid (fun u : Ext (w.heap.size + 2) W0 => ext_call u hsz (sameList_all n.vals m.vals va mva vc mvc B u.w (hvs.below (hbe u) hB) (hvs2.below (hbe u) hB) (Nat.le_trans hB (hbe u).size) (by have := hvo.1; omega) (by have := hvo2.1; omega)))
  have HBE := Lib.hid hbe
  have HW0 := Lib.hid hw0
  obtain ⟨u0, hu0⟩ := Ext.start (w.heap.size + 2) W0
  have HU0 := Lib.hid hu0
  have HR : Hid (∀ r, sameE n m = r → ∀ (u : Ext (w.heap.size + 2) W0), Ending.returned (.bool r) = Ending.returned (.bool (sameE n m)) ∧ Below w.heap.size w u.w) := Lib.hid (fun r h u => ⟨by rw [h], hbe u⟩)
  obtain ⟨Q, hQ⟩ : ∃ Q : Ending → World → Prop, (fun e w' => e = .returned (.bool (sameE n m)) ∧ Below w.heap.size w w') = Q := ⟨_, rfl⟩
  have HQ : Hid (∀ r, sameE n m = r → ∀ (u : Ext (w.heap.size + 2) W0), Q (.returned (.bool r)) u.w) := Lib.hid (fun r h u => by rw [← hQ]; exact ⟨by rw [h], hbe u⟩)
  rw [hQ]
  clear hQ HR hX hY hsz hl0 hl1 hbe hw0 hb0 hu0 hid hid2 hko hko2 hvo hvo2 hks hks2 hvs hvs2
  unfold sameE at HQ
  generalize decide (n.keys = m.keys) = rkeys at *
  generalize sameVs n.vals m.vals = rvals at *
  generalize n.keys.length = nkeys at *
  generalize m.keys.length = mkeys at *
  generalize n.vals.length = nvals at *
  generalize m.vals.length = mvals at *
  generalize n.id = aid at *
  generalize m.id = bid at *
  generalize n.src = asrc at *
  generalize m.src = bsrc at *
  generalize n.dst = adst at *
  generalize m.dst = bdst at *
  generalize n.ty = aty at *
  generalize m.ty = bty at *
  by_cases hne : aid = bid
  · subst hne
    by_cases hne : asrc = bsrc
    · subst hne
      by_cases hne : adst = bdst
      · subst hne
        by_cases hne : aty = bty
        · subst hne
          cases rkeys with
          | false =>
            have HF := Lib.hid (fun u => HQ.out false (by simp) u)
            clear HQ
            go_enter Try.func60, Try.ntmps60
            go_wp2_with fail
            rw [HW0.out, HU0.out]
            go_wp2_with (first | (go_at_call 67; (first | (with_reducible refine (HSK.out _).mono ?_)); rintro e w1 ⟨rfl, u1, rfl⟩) | (go_at_call 68; with_reducible refine (HSV.out _).mono ?_; rintro e w1 ⟨rfl, u1, rfl⟩))
            exact HF.out _
          | true =>
            cases rvals with
            | false =>
              have HF := Lib.hid (fun u => HQ.out false (by simp) u)
              clear HQ
              go_enter Try.func60, Try.ntmps60
              go_wp2_with fail
              rw [HW0.out, HU0.out]
              go_wp2_with (first | (go_at_call 67; (first | (with_reducible refine (HSK.out _).mono ?_)); rintro e w1 ⟨rfl, u1, rfl⟩) | (go_at_call 68; with_reducible refine (HSV.out _).mono ?_; rintro e w1 ⟨rfl, u1, rfl⟩))
              exact HF.out _
            | true =>
              have HF := Lib.hid (fun u => HQ.out true (by simp) u)
              clear HQ
              go_enter Try.func60, Try.ntmps60
              go_wp2_with fail
              rw [HW0.out, HU0.out]
              go_wp2_with (first | (go_at_call 67; (first | (with_reducible refine (HSK.out _).mono ?_)); rintro e w1 ⟨rfl, u1, rfl⟩) | (go_at_call 68; with_reducible refine (HSV.out _).mono ?_; rintro e w1 ⟨rfl, u1, rfl⟩))
              exact HF.out _
        · have HF := Lib.hid (fun u => HQ.out false (by simp [hne]) u)
          clear HQ
          have hne2 : (aty.toList == bty.toList) = false := by rw [ba_beq]; simpa using hne
          have hne3 : ¬ aty.toList = bty.toList := by simpa using hne2
          clear hne
          go_enter Try.func60, Try.ntmps60
          go_wp2_with fail
          rw [HW0.out, HU0.out]
          go_wp2_with (first | (go_at_call 67; (first | (with_reducible refine (HSK.out _).mono ?_)); rintro e w1 ⟨rfl, u1, rfl⟩) | (go_at_call 68; with_reducible refine (HSV.out _).mono ?_; rintro e w1 ⟨rfl, u1, rfl⟩))
          exact HF.out _
      · have HF := Lib.hid (fun u => HQ.out false (by simp [hne]) u)
        clear HQ
        have hne2 : (adst == bdst) = false := by simpa using hne
        clear hne
        go_enter Try.func60, Try.ntmps60
        go_wp2_with fail
        rw [HW0.out, HU0.out]
        go_wp2_with (first | (go_at_call 67; (first | (with_reducible refine (HSK.out _).mono ?_)); rintro e w1 ⟨rfl, u1, rfl⟩) | (go_at_call 68; with_reducible refine (HSV.out _).mono ?_; rintro e w1 ⟨rfl, u1, rfl⟩))
        exact HF.out _
    · have HF := Lib.hid (fun u => HQ.out false (by simp [hne]) u)
      clear HQ
      have hne2 : (asrc == bsrc) = false := by simpa using hne
      clear hne
      go_enter Try.func60, Try.ntmps60
      go_wp2_with fail
      rw [HW0.out, HU0.out]
      go_wp2_with (first | (go_at_call 67; (first | (with_reducible refine (HSK.out _).mono ?_)); rintro e w1 ⟨rfl, u1, rfl⟩) | (go_at_call 68; with_reducible refine (HSV.out _).mono ?_; rintro e w1 ⟨rfl, u1, rfl⟩))
      exact HF.out _
  · have HF := Lib.hid (fun u => HQ.out false (by simp [hne]) u)
    clear HQ
    have hne2 : (aid == bid) = false := by simpa using hne
    clear hne
    go_enter Try.func60, Try.ntmps60
    go_wp2_with fail
    rw [HW0.out, HU0.out]
    go_wp2_with (first | (go_at_call 67; (first | (with_reducible refine (HSK.out _).mono ?_)); rintro e w1 ⟨rfl, u1, rfl⟩) | (go_at_call 68; with_reducible refine (HSV.out _).mono ?_; rintro e w1 ⟨rfl, u1, rfl⟩))
    exact HF.out _
end Go.Proofs.Ytoakloicjlfaaaa

/- Layer 14: whether two lists of edges, two graphs are the same: the reference's answer. Conditions: none. -/
namespace Go.Proofs.Ytoakloicjlfaaaa
open Go.RowKit
set_option linter.unusedSimpArgs false
set_option linter.unusedVariables false
set_option maxRecDepth 100000

theorem sameL_nil {α : Type} {f : α → α → Bool} {l m : List α} (h : l.length = m.length) : sameL f (l.drop l.length) (m.drop l.length) = true := by
 rw [List.drop_eq_nil_of_le (Nat.le_refl _), List.drop_eq_nil_of_le (by omega)]; rfl

set_option maxHeartbeats 8000000 in
theorem sameEdges_any (l m : List Et) (a b : Option Addr) (c d B : Nat) (w : World) (hl : RowR (IsE B w) 6 B w a l) (hm : RowR (IsE B w) 6 B w b m) (hB : B ≤ w.heap.size) (hll : l.length ≤ 9223372036854775807) (hml : m.length ≤ 9223372036854775807) :
    Calls Try.prog 28 #[.slice a l.length c, .slice b m.length d] w fun e w' => e = .returned (.bool (sameL sameE l m)) ∧ Below w.heap.size w w' := by
  obtain ⟨W0, hw0⟩ : ∃ w0, w = w0 := ⟨_, rfl⟩
  have hbe : ∀ u : Ext w.heap.size W0, Below w.heap.size w u.w := by subst hw0; exact fun u => u.below
  have hsz : w.heap.size ≤ W0.heap.size := by rw [← hw0]; exact Nat.le_refl _
  have HBE := Lib.hid hbe
  have HSZ := Lib.hid hsz
  have HL := Lib.hid hl
  have HM := Lib.hid hm
  obtain ⟨Q, hQ⟩ : ∃ Q : Ending → World → Prop, (fun e w' => e = .returned (.bool (sameL sameE l m)) ∧ Below w.heap.size w w') = Q := ⟨_, rfl⟩
  have HQ : Hid (∀ r, sameL sameE l m = r → ∀ (u : Ext w.heap.size W0), Q (.returned (.bool r)) u.w) := Lib.hid (fun r h u => by rw [← hQ]; exact ⟨by rw [h], hbe u⟩)
  rw [hQ]
  clear hQ
  obtain ⟨u0, hu0⟩ := Ext.start w.heap.size W0
  have HU0 := Lib.hid (hw0.trans hu0)
  obtain ⟨n1, hn1⟩ : ∃ n, l.length = n := ⟨_, rfl⟩
  obtain ⟨n2, hn2⟩ : ∃ n, m.length = n := ⟨_, rfl⟩
  rw [hn1, hn2]
  rw [hn1] at hll
  rw [hn2] at hml
  by_cases hne : n1 = n2
  · have HLEN : Hid (l.length = n1 ∧ m.length = n1) := Lib.hid ⟨hn1, hn2.trans hne.symm⟩
    clear hl hm hbe hsz hw0 hu0 hml
    rw [← hne]
    clear hne hn2 hn1 n2
    go_enter Try.func28, Try.ntmps28
    go_wp2_with fail
    rw [HU0.out]
    go_loopw [5] (fun iv wr => ∃ (j : Nat) (u : Ext w.heap.size W0), iv = .int .i64 j ∧ j ≤ n1 ∧ Hid (sameL sameE l m = sameL sameE (l.drop j) (m.drop j)) ∧ wr = u.w) (fun iv _ => n1 - (intOf iv).toNat)
    case atStart => exact ⟨0, u0, rfl, Nat.zero_le _, Lib.hid rfl, rfl⟩
    case round =>
      obtain ⟨j, u, rfl, hj, HST, rfl⟩ := hrel
      by_cases hlt : j < n1
      · have hlt' : (j : Int) < n1 := by omega
        have hj0 : (0 : Int) ≤ (j : Int) := by omega
        have hwi : IntKind.i64.wrap ((j : Int) + 1) = (j : Int) + 1 := IntWalk.i64_in _ (by omega)
        obtain ⟨n, hnj⟩ : ∃ n, l[j]? = some n := by have := HLEN.out; obtain ⟨n, h⟩ := get_some (l := l) (j := j) (by omega); exact ⟨n, h⟩
        obtain ⟨m1, hmj⟩ : ∃ n, m[j]? = some n := by have := HLEN.out; obtain ⟨n, h⟩ := get_some (l := m) (j := j) (by omega); exact ⟨n, h⟩
        obtain ⟨b, off, cs, rfl, hbB, _, hc, hcell⟩ := HL.out.ext HBE.out hB hnj
        obtain ⟨b2, off2, cs2, rfl, hbB2, _, hc2, hcell2⟩ := HM.out.ext HBE.out hB hmj
        have HCS := Lib.hid (fun u : Ext w.heap.size W0 => ext_call u HSZ.out (sameE_any n m1 cs cs2 B u.w (hc.below (HBE.out u) hB) (hc2.below (HBE.out u) hB) (Nat.le_trans hB (HBE.out u).size)))
        have hst := sameL_at (f := sameE) hnj hmj
        obtain ⟨ka, kc, va, vc, rfl, -, -⟩ := hc
        obtain ⟨mka, mkc, mva, mvc, rfl, -, -⟩ := hc2
        have k0 : ∀ u : Ext w.heap.size W0, u.w.cell? ⟨b, off + j * 6, none⟩ = some (.int .i64 n.id) := fun u => hcell u 0 _ rfl
        have q0 : ∀ u : Ext w.heap.size W0, u.w.cell? ⟨b2, off2 + j * 6, none⟩ = some (.int .i64 m1.id) := fun u => hcell2 u 0 _ rfl
        have k1 := fun u => hcell u 1 _ rfl
        have q1 := fun u => hcell2 u 1 _ rfl
        have k2 := fun u => hcell u 2 _ rfl
        have q2 := fun u => hcell2 u 2 _ rfl
        have k3 := fun u => hcell u 3 _ rfl
        have q3 := fun u => hcell2 u 3 _ rfl
        have k4 := fun u => hcell u 4 _ rfl
        have q4 := fun u => hcell2 u 4 _ rfl
        have k5 := fun u => hcell u 5 _ rfl
        have q5 := fun u => hcell2 u 5 _ rfl
        clear hcell hcell2 hnj hmj
        cases hok : sameE n m1 with
        | false =>
          rw [hok] at HCS hst
          have HF := Lib.hid (HST.out.trans (hst.trans (Bool.false_and _)))
          clear hok hst
          generalize n.keys.length = nkeys at *
          generalize n.vals.length = nvals at *
          generalize m1.keys.length = mkeys at *
          generalize m1.vals.length = mvals at *
          generalize n.id = i0 at *
          generalize m1.id = i1 at *
          generalize n.src = a0 at *
          generalize m1.src = a1 at *
          generalize n.dst = d0 at *
          generalize m1.dst = d1 at *
          generalize n.ty = t0 at *
          generalize m1.ty = t1 at *
          go_wp2_with fail
          refine wp_region_at u (by kernel_rfl) (by kernel_rfl) ?_
          repeat (go_big_quiet_step (first | (with_reducible exact HCS.out _)))
          refine wpQuiet_nil ?_
          rintro w2 ⟨u2, rfl⟩
          go_wp2_with fail
          exact HQ.out _ (HF.out) u2
        | true =>
          rw [hok] at HCS hst
          have HF := Lib.hid (HST.out.trans (hst.trans (Bool.true_and _)))
          clear hok hst
          generalize n.keys.length = nkeys at *
          generalize n.vals.length = nvals at *
          generalize m1.keys.length = mkeys at *
          generalize m1.vals.length = mvals at *
          generalize n.id = i0 at *
          generalize m1.id = i1 at *
          generalize n.src = a0 at *
          generalize m1.src = a1 at *
          generalize n.dst = d0 at *
          generalize m1.dst = d1 at *
          generalize n.ty = t0 at *
          generalize m1.ty = t1 at *
          go_wp2_with fail
          refine wp_region_at u (by kernel_rfl) (by kernel_rfl) ?_
          repeat (go_big_quiet_step (first | (with_reducible exact HCS.out _)))
          refine wpQuiet_nil ?_
          rintro w2 ⟨u2, rfl⟩
          go_wp2_with fail
          go_roundw
          case rel => exact ⟨j + 1, u2, by go_num, by omega, HF, rfl⟩
          case measure => simp [intOf]; omega
      · have hlt' : ¬ (j : Int) < n1 := by omega
        have hjn : j = n1 := by omega
        have HF : Hid (sameL sameE l m = true) := Lib.hid (by have h1 := HST.out; have h2 := HLEN.out; rw [h1, hjn, ← h2.1]; exact sameL_nil (h2.1.trans h2.2.symm))
        clear hjn
        go_wp2_with fail
        exact HQ.out _ HF.out u
  · have hne' : ((n1 : Int) == (n2 : Int)) = false := by simp; omega
    have hne2 : ¬ (n1 : Int) = (n2 : Int) := by omega
    have hne3 : ((n1 : Int) != (n2 : Int)) = true := by simp; omega
    have HF : Hid (sameL sameE l m = false) := Lib.hid (sameL_len (by omega))
    clear hl hm hbe hsz hw0 hu0 hne hn1 hn2
    go_enter Try.func28, Try.ntmps28
    go_wp2_with fail
    rw [HU0.out]
    exact HQ.out _ HF.out u0

set_option maxHeartbeats 8000000 in
theorem sameG_any (g h : Gt) (cs ds : List Value) (B : Nat) (w : World) (hg : IsG B w cs g) (hh : IsG B w ds h) (hB : B ≤ w.heap.size) :
    Calls Try.prog 10 #[.agg cs.toArray, .agg ds.toArray] w fun e w' => e = .returned (.bool (sameG g h)) ∧ Below w.heap.size w w' := by
  obtain ⟨na, nc, ea, ec, rfl, hn, he, hN, hE⟩ := hg
  obtain ⟨mna, mnc, mea, mec, rfl, hn2, he2, hN2, hE2⟩ := hh
  show Calls Try.prog 10 #[.agg #[.slice na g.nodes.length nc, .slice ea g.edges.length ec], .agg #[.slice mna h.nodes.length mnc, .slice mea h.edges.length mec]] w _
  obtain ⟨W0, hw0⟩ : ∃ w0, (w.alloc (.cells #[.slice na g.nodes.length nc, .slice ea g.edges.length ec] 25)).alloc (.cells #[.slice mna h.nodes.length mnc, .slice mea h.edges.length mec] 25) = w0 := ⟨_, rfl⟩
  have hb0 : Below w.heap.size w W0 := by rw [← hw0]; exact ((Below.refl _ _).alloc (Nat.le_refl _) _).alloc (by simp) _
  have hX : Block W0 w.heap.size [.slice na g.nodes.length nc, .slice ea g.edges.length ec] 25 := by rw [← hw0]; exact (Block.new w _ _).alloc _
  have hY : Block W0 (w.heap.size + 1) [.slice mna h.nodes.length mnc, .slice mea h.edges.length mec] 25 := by rw [← hw0]; have := Block.new (w.alloc (.cells #[.slice na g.nodes.length nc, .slice ea g.edges.length ec] 25)) [.slice mna h.nodes.length mnc, .slice mea h.edges.length mec] 25; simpa using this
  have hsz : w.heap.size + 2 ≤ W0.heap.size := by rw [← hw0]; simp
  have hl0 : w.heap.size < w.heap.size + 2 := by omega
  have hl1 : w.heap.size + 1 < w.heap.size + 2 := by omega
  have hbe : ∀ u : Ext (w.heap.size + 2) W0, Below w.heap.size w u.w := fun u => hb0.trans (u.below.mono (by omega))
  have x0 : ∀ u : Ext (w.heap.size + 2) W0, u.w.cell? ⟨w.heap.size, 0, none⟩ = some (.slice na g.nodes.length nc) := fun u => u.cell hl0 (hX.cell rfl)
  have x1 : ∀ u : Ext (w.heap.size + 2) W0, u.w.cell? ⟨w.heap.size, 1, none⟩ = some (.slice ea g.edges.length ec) := fun u => u.cell hl0 (hX.cell rfl)
  have y0 : ∀ u : Ext (w.heap.size + 2) W0, u.w.cell? ⟨w.heap.size + 1, 0, none⟩ = some (.slice mna h.nodes.length mnc) := fun u => u.cell hl1 (hY.cell rfl)
  have y1 : ∀ u : Ext (w.heap.size + 2) W0, u.w.cell? ⟨w.heap.size + 1, 1, none⟩ = some (.slice mea h.edges.length mec) := fun u => u.cell hl1 (hY.cell rfl)
  have HSE := Lib.hid (fun u : Ext (w.heap.size + 2) W0 => ext_call u hsz (sameEdges_any g.edges h.edges ea mea ec mec B u.w (hE.below (hbe u) hB (fun _ _ h => h.below (hbe u) hB)) (hE2.below (hbe u) hB (fun _ _ h => h.below (hbe u) hB)) (Nat.le_trans hB (hbe u).size) (by have := he.1; omega) (by have := he2.1; omega)))
  have HBE := Lib.hid hbe
  have HSZ := Lib.hid hsz
  have HL := Lib.hid hN
  have HM := Lib.hid hN2
  obtain ⟨Q, hQ⟩ : ∃ Q : Ending → World → Prop, (fun e w' => e = .returned (.bool (sameG g h)) ∧ Below w.heap.size w w') = Q := ⟨_, rfl⟩
  have HQ : Hid (∀ r, sameG g h = r → ∀ (u : Ext (w.heap.size + 2) W0), Q (.returned (.bool r)) u.w) := Lib.hid (fun r h u => by rw [← hQ]; exact ⟨by rw [h], hbe u⟩)
  rw [hQ]
  clear hQ
  have HW0 := Lib.hid hw0
  obtain ⟨u0, hu0⟩ := Ext.start (w.heap.size + 2) W0
  have HU0 := Lib.hid hu0
  have hll : g.nodes.length ≤ 9223372036854775807 := by have := hn.1; omega
  have hml : h.nodes.length ≤ 9223372036854775807 := by have := hn2.1; omega
  clear hX hY hsz hl0 hl1 hbe hw0 hb0 hu0 hE hE2 hN hN2 hn hn2 he he2
  generalize hrE : sameL sameE g.edges h.edges = rE at *
  have HRE := Lib.hid hrE
  clear hrE
  generalize g.edges.length = e1 at *
  generalize h.edges.length = e2 at *
  obtain ⟨n1, hn1⟩ : ∃ n, g.nodes.length = n := ⟨_, rfl⟩
  obtain ⟨n2, hn2⟩ : ∃ n, h.nodes.length = n := ⟨_, rfl⟩
  rw [hn1] at hll x0 HW0 ⊢
  rw [hn2] at hml y0 HW0 ⊢
  by_cases hne : n1 = n2
  · have HLEN : Hid (g.nodes.length = n1 ∧ h.nodes.length = n1) := Lib.hid ⟨hn1, hn2.trans hne.symm⟩
    subst hne
    clear hn2 hn1 hml
    go_enter Try.func10, Try.ntmps10
    go_wp2_with fail
    rw [HW0.out, HU0.out]
    go_wp2_with fail
    go_loopw [5] (fun iv wr => ∃ (j : Nat) (u : Ext (w.heap.size + 2) W0), iv = .int .i64 j ∧ j ≤ n1 ∧ Hid (sameL sameN g.nodes h.nodes = sameL sameN (g.nodes.drop j) (h.nodes.drop j)) ∧ wr = u.w) (fun iv _ => n1 - (intOf iv).toNat)
    case atStart => exact ⟨0, u0, rfl, Nat.zero_le _, Lib.hid rfl, rfl⟩
    case round =>
      obtain ⟨j, u, rfl, hj, HST, rfl⟩ := hrel
      by_cases hlt : j < n1
      · have hlt' : (j : Int) < n1 := by omega
        have hj0 : (0 : Int) ≤ (j : Int) := by omega
        have hwi : IntKind.i64.wrap ((j : Int) + 1) = (j : Int) + 1 := IntWalk.i64_in _ (by omega)
        obtain ⟨n, hnj⟩ : ∃ n, g.nodes[j]? = some n := by have := HLEN.out; obtain ⟨n, h⟩ := get_some (l := g.nodes) (j := j) (by omega); exact ⟨n, h⟩
        obtain ⟨m1, hmj⟩ : ∃ n, h.nodes[j]? = some n := by have := HLEN.out; obtain ⟨n, h⟩ := get_some (l := h.nodes) (j := j) (by omega); exact ⟨n, h⟩
        obtain ⟨b, off, cs, rfl, hbB, _, hc, hcell⟩ := HL.out.ext HBE.out hB hnj
        obtain ⟨b2, off2, cs2, rfl, hbB2, _, hc2, hcell2⟩ := HM.out.ext HBE.out hB hmj
        have HCS := Lib.hid (fun u : Ext (w.heap.size + 2) W0 => ext_call u HSZ.out (sameN_any n m1 cs cs2 B u.w (hc.below (HBE.out u) hB) (hc2.below (HBE.out u) hB) (Nat.le_trans hB (HBE.out u).size)))
        have hst := sameL_at (f := sameN) hnj hmj
        obtain ⟨la, lc, ka, kc, va, vc, rfl, -, -, -, -⟩ := hc
        obtain ⟨mla, mlc, mka, mkc, mva, mvc, rfl, -, -, -, -⟩ := hc2
        have k0 : ∀ u : Ext (w.heap.size + 2) W0, u.w.cell? ⟨b, off + j * 4, none⟩ = some (.int .i64 n.id) := fun u => hcell u 0 _ rfl
        have q0 : ∀ u : Ext (w.heap.size + 2) W0, u.w.cell? ⟨b2, off2 + j * 4, none⟩ = some (.int .i64 m1.id) := fun u => hcell2 u 0 _ rfl
        have k1 := fun u => hcell u 1 _ rfl
        have q1 := fun u => hcell2 u 1 _ rfl
        have k2 := fun u => hcell u 2 _ rfl
        have q2 := fun u => hcell2 u 2 _ rfl
        have k3 := fun u => hcell u 3 _ rfl
        have q3 := fun u => hcell2 u 3 _ rfl
        clear hcell hcell2 hnj hmj
        cases hok : sameN n m1 with
        | false =>
          rw [hok] at HCS hst
          have HF := Lib.hid (HST.out.trans (hst.trans (Bool.false_and _)))
          clear hok hst
          generalize n.labels.length = nlabels at *
          generalize n.keys.length = nkeys at *
          generalize n.vals.length = nvals at *
          generalize m1.labels.length = mlabels at *
          generalize m1.keys.length = mkeys at *
          generalize m1.vals.length = mvals at *
          generalize n.id = i0 at *
          generalize m1.id = i1 at *
          go_wp2_with fail
          refine wp_region_at u (by kernel_rfl) (by kernel_rfl) ?_
          repeat (go_big_quiet_step (first | (with_reducible exact HCS.out _)))
          refine wpQuiet_nil ?_
          rintro w2 ⟨u2, rfl⟩
          go_wp2_with fail
          exact HQ.out _ (by unfold sameG; rw [HF.out]; rfl) u2
        | true =>
          rw [hok] at HCS hst
          have HF := Lib.hid (HST.out.trans (hst.trans (Bool.true_and _)))
          clear hok hst
          generalize n.labels.length = nlabels at *
          generalize n.keys.length = nkeys at *
          generalize n.vals.length = nvals at *
          generalize m1.labels.length = mlabels at *
          generalize m1.keys.length = mkeys at *
          generalize m1.vals.length = mvals at *
          generalize n.id = i0 at *
          generalize m1.id = i1 at *
          go_wp2_with fail
          refine wp_region_at u (by kernel_rfl) (by kernel_rfl) ?_
          repeat (go_big_quiet_step (first | (with_reducible exact HCS.out _)))
          refine wpQuiet_nil ?_
          rintro w2 ⟨u2, rfl⟩
          go_wp2_with fail
          go_roundw
          case rel => exact ⟨j + 1, u2, by go_num, by omega, HF, rfl⟩
          case measure => simp [intOf]; omega
      · have hlt' : ¬ (j : Int) < n1 := by omega
        have hjn : j = n1 := by omega
        have HF : Hid (sameL sameN g.nodes h.nodes = true) := Lib.hid (by have h1 := HST.out; have h2 := HLEN.out; rw [h1, hjn, ← h2.1]; exact sameL_nil (h2.1.trans h2.2.symm))
        clear hjn
        go_wp2_with fail
        refine (HSE.out u).mono ?_
        rintro e w2 ⟨rfl, u2, rfl⟩
        go_wp2_with fail
        exact HQ.out _ (by unfold sameG; rw [HF.out, HRE.out]; rfl) u2
  · have hne' : ((n1 : Int) == (n2 : Int)) = false := by simp; omega
    have hne2 : ¬ (n1 : Int) = (n2 : Int) := by omega
    have hne3 : ((n1 : Int) != (n2 : Int)) = true := by simp; omega
    have HF : Hid (sameG g h = false) := Lib.hid (by unfold sameG; rw [sameL_len (f := sameN) (by omega)]; rfl)
    clear hne hn1 hn2
    go_enter Try.func10, Try.ntmps10
    go_wp2_with fail
    rw [HW0.out, HU0.out]
    go_wp2_with fail
    exact HQ.out _ HF.out u0
end Go.Proofs.Ytoakloicjlfaaaa

/- Layer 14, in plain words: a node that is put and dropped again, an edge that is joined and cut again, leave the graph as it was. Conditions: the graph may be. -/
namespace Go.Proofs.Ytoakloicjlfaaaa
open Go.RowKit
set_option linter.unusedSimpArgs false
set_option linter.unusedVariables false

theorem rise_step {l : List Int} (h : ∀ (m : Nat) x y, l[m]? = some x → l[m + 1]? = some y → x < y) : RiseI l := by
 have key : ∀ (d i : Nat) x y, l[i]? = some x → l[i + d + 1]? = some y → x < y := by
  intro d
  induction d with
  | zero => exact fun i x y hx hy => h i x y hx hy
  | succ d ih =>
   intro i x y hx hy
   have hlt : i + (d + 1) + 1 < l.length := (List.getElem?_eq_some_iff.1 hy).1
   obtain ⟨z, hz⟩ := get_some (l := l) (j := i + d + 1) (by omega)
   have h1 := ih i x z hx hz
   have h2 := h (i + d + 1) z y hz (by rw [show i + d + 1 + 1 = i + (d + 1) + 1 from by omega]; exact hy)
   omega
 intro i j x y hij hx hy
 exact key (j - i - 1) i x y hx (by rw [show i + (j - i - 1) + 1 = j from by omega]; exact hy)
structure MayG (g : Gt) : Prop where
 nodes : ∀ (j : Nat) n, g.nodes[j]? = some n → mayN n = true
 edges : ∀ (j : Nat) n, g.edges[j]? = some n → mayE n = true
 riseN : RiseI (idsN g)
 riseE : RiseI (idsE g)
 ends : ∀ (j : Nat) e, g.edges[j]? = some e → hasI (idsN g) e.src = true ∧ hasI (idsN g) e.dst = true
 lenN : g.nodes.length ≤ 4096
 lenE : g.edges.length ≤ 4096
theorem MayG.of {g : Gt} (h : mayG g = true) : MayG g := by
 unfold mayG at h
 simp only [Bool.and_eq_true, decide_eq_true_eq] at h
 obtain ⟨⟨⟨h1, h2⟩, h3⟩, h4⟩ := h
 have hn : ∀ (j : Nat) n, g.nodes[j]? = some n → nodeOk g.nodes j = true := fun j n hj => allB_at h1 (List.getElem?_eq_some_iff.1 hj).1
 have he : ∀ (j : Nat) n, g.edges[j]? = some n → ordE g.edges j = true ∧ endsE g j = true := fun j n hj => by
  have := allB_at h2 (i := j) (List.getElem?_eq_some_iff.1 hj).1
  unfold edgeOk at this
  simpa [Bool.and_eq_true] using this
 have hmn : ∀ (j : Nat) n, g.nodes[j]? = some n → mayN n = true := fun j n hj => by
  cases hm : mayN n with
  | true => rfl
  | false => have := hn j n hj; rw [nodeOk_no hj hm] at this; cases this
 have hme : ∀ (j : Nat) n, g.edges[j]? = some n → mayE n = true := fun j n hj => by
  cases hm : mayE n with
  | true => rfl
  | false => have := (he j n hj).1; rw [ordE_no hj hm] at this; cases this
 have hrn : RiseI (idsN g) := rise_step fun m x y hx hy => by
  unfold idsN at hx hy
  rw [List.getElem?_map] at hx hy
  obtain ⟨p, hp, rfl⟩ := Option.map_eq_some_iff.1 hx
  obtain ⟨n, hn', rfl⟩ := Option.map_eq_some_iff.1 hy
  have := hn _ _ hn'
  rw [nodeOk_succ hn' hp (hmn _ _ hn')] at this
  exact of_decide_eq_true this
 have hre : RiseI (idsE g) := rise_step fun m x y hx hy => by
  unfold idsE at hx hy
  rw [List.getElem?_map] at hx hy
  obtain ⟨p, hp, rfl⟩ := Option.map_eq_some_iff.1 hx
  obtain ⟨n, hn', rfl⟩ := Option.map_eq_some_iff.1 hy
  have := (he _ _ hn').1
  rw [ordE_succ hn' hp (hme _ _ hn')] at this
  exact of_decide_eq_true this
 refine ⟨hmn, hme, hrn, hre, fun j e hj => ?_, h3, h4⟩
 have := (he j e hj).2
 unfold endsE at this
 rw [hj] at this
 simp only [Bool.and_eq_true, decide_eq_true_eq] at this
 exact ⟨by rw [(hasI_idx hrn e.src).1]; exact decide_eq_true this.1, by rw [(hasI_idx hrn e.dst).1]; exact decide_eq_true this.2⟩
theorem posI_spec {l : List Int} (hr : RiseI l) (id : Int) : (∀ (i : Nat) x, i < posI l id → l[i]? = some x → x < id) ∧ ∀ (i : Nat) x, posI l id ≤ i → l[i]? = some x → ¬ x < id := by
 have h1 : ∀ (i : Nat) x, i < posI l id → l[i]? = some x → x < id := fun i x hi hx => by
  unfold posI at hi
  clear hr
  induction l generalizing i with
  | nil => simp at hx
  | cons a l ih =>
   rw [List.takeWhile_cons] at hi
   split at hi
   ·next ha =>
    cases i with
    | zero => simp at hx; subst hx; simpa using ha
    | succ i => exact ih i (by simpa using hi) (by simpa using hx)
   ·simp at hi
 have h2 : ∀ x, l[posI l id]? = some x → ¬ x < id := fun x hx => by
  unfold posI at hx
  clear hr h1
  induction l with
  | nil => simp at hx
  | cons a l ih =>
   rw [List.takeWhile_cons] at hx
   split at hx
   ·exact ih (by simpa using hx)
   ·next ha => simp at hx; subst hx; simpa using ha
 refine ⟨h1, fun i x hi hx => ?_⟩
 rcases Nat.lt_or_ge (posI l id) i with h | h
 ·obtain ⟨y, hy⟩ := get_some (l := l) (j := posI l id) (by have := (List.getElem?_eq_some_iff.1 hx).1; omega)
  have h3 := h2 y hy
  have h4 := hr _ _ _ _ h hy hx
  omega
 ·rw [show i = posI l id from by omega] at hx
  exact h2 x hx
/-- A list of numbers with one more. -/
theorem ins_rise {l : List Int} {id : Int} (hr : RiseI l) (hno : hasI l id = false) : RiseI (setL l (posI l id) false id) ∧ posI (setL l (posI l id) false id) id = posI l id ∧ hasI (setL l (posI l id) false id) id = true := by
 obtain ⟨h1, h2⟩ := posI_spec hr id
 have hne : ∀ (i : Nat) x, l[i]? = some x → x ≠ id := fun i x hx e => by
  subst e
  have hp : posI l x = i := posI_eq (Nat.le_of_lt (List.getElem?_eq_some_iff.1 hx).1) (fun k z hk hz => hr k i z x hk hz hx) (fun z hz => by rw [hx] at hz; injection hz with hz; omega)
  unfold hasI at hno
  rw [hp] at hno
  exact of_decide_eq_false hno hx
 have hp := posI_le l id
 obtain ⟨p, hpe⟩ : ∃ p, posI l id = p := ⟨_, rfl⟩
 rw [hpe] at h1 h2 hp ⊢
 have hg : ∀ (i : Nat) x, (setL l p false id)[i]? = some x → (i < p ∧ l[i]? = some x) ∨ (i = p ∧ x = id) ∨ (p < i ∧ l[i - 1]? = some x) := fun i x hx => by
  have hx : (l.take p ++ (id :: l.drop p))[i]? = some x := hx
  have ht : (l.take p).length = p := by rw [List.length_take]; omega
  rcases Nat.lt_or_ge i p with h | h
  ·rw [List.getElem?_append_left (by omega), List.getElem?_take_of_lt h] at hx
   exact .inl ⟨h, hx⟩
  ·rw [List.getElem?_append_right (by omega), ht] at hx
   rcases Nat.eq_or_lt_of_le h with h | h
   ·subst h; simp at hx; exact .inr (.inl ⟨rfl, hx.symm⟩)
   ·obtain ⟨k, hk⟩ : ∃ k, i - p = k + 1 := ⟨i - p - 1, by omega⟩
    rw [hk, List.getElem?_cons_succ, List.getElem?_drop] at hx
    exact .inr (.inr ⟨h, by rw [show i - 1 = p + k from by omega]; exact hx⟩)
 have hat : (setL l p false id)[p]? = some id := by
  show (l.take p ++ (id :: l.drop p))[p]? = some id
  have ht : (l.take p).length = p := by rw [List.length_take]; omega
  rw [List.getElem?_append_right (by omega), ht, Nat.sub_self]
  rfl
 have hrise : RiseI (setL l p false id) := by
  intro i j x y hij hx hy
  rcases hg i x hx with ⟨a1, a2⟩ | ⟨a1, a2⟩ | ⟨a1, a2⟩ <;> rcases hg j y hy with ⟨b1, b2⟩ | ⟨b1, b2⟩ | ⟨b1, b2⟩ <;> try omega
  ·exact hr i j x y hij a2 b2
  ·rw [b2]; exact h1 i x a1 a2
  ·exact hr i (j - 1) x y (by omega) a2 b2
  ·have h3 := h2 (j - 1) y (by omega) b2
   have h4 := hne (j - 1) y b2
   omega
  ·exact hr (i - 1) (j - 1) x y (by omega) a2 b2
 have hpos : posI (setL l p false id) id = p := posI_eq (by have := (List.getElem?_eq_some_iff.1 hat).1; omega) (fun i x hi hx => by
  rcases hg i x hx with ⟨a1, a2⟩ | ⟨a1, a2⟩ | ⟨a1, a2⟩
  ·exact h1 i x a1 a2
  ·omega
  ·omega) (fun x hx => by rw [hat] at hx; injection hx with hx; omega)
 exact ⟨hrise, hpos, by unfold hasI; rw [hpos]; exact decide_eq_true hat⟩
end Go.Proofs.Ytoakloicjlfaaaa

/- Layer 14: the law GraphBack as a call. Conditions: what is read is small. -/
namespace Go.Proofs.Ytoakloicjlfaaaa
open Go.RowKit
set_option linter.unusedSimpArgs false
set_option linter.unusedVariables false
set_option maxRecDepth 100000

theorem wtS_len (l : List ByteArray) : l.length ≤ wtS l := by
 unfold wtS
 induction l with
 | nil => simp
 | cons x xs ih => simp only [List.length_cons, List.map_cons, List.sum_cons]; omega
theorem smPr_of {ks : List ByteArray} {vs : List Vt} (h : wtS ks + wtVs vs ≤ 1048576) : SmPr ks vs :=
 ⟨by have := wtS_len ks; omega, by have := wtVs_len vs; omega, fun j t ht => by have := wtVs_get ht; omega⟩
theorem smN_of {n : Nt} (h : wtN n ≤ 1048576) : SmN n := by
 unfold wtN at h
 exact ⟨by have := wtS_len n.labels; omega, smPr_of (by omega)⟩
theorem smE_of {n : Et} (h : wtE n ≤ 1048576) : SmE n := by
 unfold wtE at h
 exact smPr_of (by omega)
theorem len_sum {α : Type} (f : α → Nat) (hf : ∀ x, 1 ≤ f x) (l : List α) : l.length ≤ (l.map f).sum := by
 induction l with
 | nil => simp
 | cons x xs ih => have := hf x; simp only [List.length_cons, List.map_cons, List.sum_cons]; omega
theorem smG_of {g : Gt} (h : wtG g ≤ 1048576) : SmG g := by
 unfold wtG at h
 refine ⟨⟨?_, ?_⟩, fun j n hj => smN_of ?_, fun j n hj => smE_of ?_⟩
 ·have := len_sum wtN (fun x => by unfold wtN; omega) g.nodes; omega
 ·have := len_sum wtE (fun x => by unfold wtE; omega) g.edges; omega
 ·have := sum_get wtN hj; omega
 ·have := sum_get wtE hj; omega
set_option maxHeartbeats 4000000 in
theorem small_any (na ea : Option Addr) (nc ec n m : Nat) (w : World) :
    Calls Try.prog 11 #[.agg #[.slice na n nc, .slice ea m ec]] w fun e w' => e = .returned (.bool (decide (n < 60) && decide (m < 60))) ∧ Below w.heap.size w w' := by
  obtain ⟨W0, hW0⟩ : ∃ W0, w.alloc (.cells #[.slice na n nc, .slice ea m ec] 25) = W0 := ⟨_, rfl⟩
  have hb0 : Below w.heap.size w W0 := by rw [← hW0]; exact (Below.refl _ _).alloc (Nat.le_refl _) _
  have hblk : Block W0 w.heap.size [.slice na n nc, .slice ea m ec] 25 := by rw [← hW0]; exact Block.new _ _ _
  have c0 := hblk.cell (i := 0) rfl
  have c1 := hblk.cell (i := 1) rfl
  rw [← hW0] at c0 c1
  have HB0 := Lib.hid (show Below w.heap.size w (w.alloc (.cells #[.slice na n nc, .slice ea m ec] 25)) by rw [hW0]; exact hb0)
  clear hW0 hb0 hblk
  by_cases h1 : n < 60
  · have h1' : (n : Int) < 60 := by omega
    by_cases h2 : m < 60
    · have h2' : (m : Int) < 60 := by omega
      rw [decide_eq_true h1, decide_eq_true h2]
      go_enter Try.func11, Try.ntmps11
      go_wp2_with fail
      go_ret
      exact ⟨rfl, HB0.out⟩
    · have h2' : ¬ (m : Int) < 60 := by omega
      rw [decide_eq_true h1, decide_eq_false h2]
      go_enter Try.func11, Try.ntmps11
      go_wp2_with fail
      go_ret
      exact ⟨rfl, HB0.out⟩
  · have h1' : ¬ (n : Int) < 60 := by omega
    rw [decide_eq_false h1]
    go_enter Try.func11, Try.ntmps11
    go_wp2_with fail
    go_ret
    exact ⟨rfl, HB0.out⟩

end Go.Proofs.Ytoakloicjlfaaaa

/- Layer 14: the contract of the reference's Spoil: it turns nothing but the graph's own memory. Conditions: the graph's memory is its own. -/
namespace Go.Proofs.Ytoakloicjlfaaaa
open Go.RowKit
set_option linter.unusedSimpArgs false
set_option linter.unusedVariables false
set_option maxRecDepth 100000

section
variable {α : Type} {R : World → List Value → α → List Nat → Prop} {size : Nat}
/-- A row in its own block, of which the elements from j on stand as they were. -/
def Spo (R : World → List Value → α → List Nat → Prop) (size : Nat) (w : World) (a : Option Addr) (l : List α) (j : Nat) (bs : List Nat) : Prop :=
 l = [] ∨ ∃ lb cu ty b4, a = some ⟨lb, 0, none⟩ ∧ Block w lb cu ty ∧ lb ∈ bs ∧ lb ∉ b4 ∧ b4.Nodup ∧ (∀ q ∈ b4, q ∈ bs) ∧ IsRows (R w) size cu j (l.drop j) b4
theorem Spo.start {w : World} {a : Option Addr} {l : List α} {bs : List Nat} (h : OwnRw R size w a l bs) (hn : bs.Nodup) : Spo R size w a l 0 bs := by
 rcases h with ⟨h, _⟩ | ⟨lb, cur, ty, b3, h1, h2, h3, h4⟩
 ·exact .inl h
 ·subst h2
  obtain ⟨n1, n2⟩ := List.nodup_cons.1 hn
  exact .inr ⟨lb, cur, ty, b3, h1, h3, by simp, n1, n2, fun q hq => by simp [hq], h4⟩
theorem Spo.at (hR : OwnElem R size) {w : World} {a : Option Addr} {l : List α} {j : Nat} {bs : List Nat} {t : α} (h : Spo R size w a l j bs) (ht : l[j]? = some t) (hlt : ∀ b ∈ bs, b < w.heap.size) :
    ∃ lb cu ty cs b5, a = some ⟨lb, 0, none⟩ ∧ Block w lb cu ty ∧ (∀ (q : Nat) v, cs[q]? = some v → cu[j * size + q]? = some v) ∧ R w cs t b5 ∧ b5.Nodup ∧ (∀ q ∈ b5, q ∈ bs) ∧ lb ∈ bs ∧ lb ∉ b5 ∧
      ∀ w' cu', Kept (lb :: b5) w w' → Block w' lb cu' ty → (∀ q, (j + 1) * size ≤ q → cu'[q]? = cu[q]?) → Spo R size w' a l (j + 1) bs := by
  rcases h with rfl | ⟨lb, cu, ty, b4, h1, h2, h3, h4, h5, h6, h7⟩
  · simp at ht
  · rw [drop_some ht] at h7
    obtain ⟨cs, b1, b2, e, hc, hx, hrest⟩ := h7
    subst e
    obtain ⟨n1, n2, n12⟩ := List.nodup_append.1 h5
    refine ⟨lb, cu, ty, cs, b1, h1, h2, hc, hx, n1, fun q hq => h6 q (by simp [hq]), h3, fun h => h4 (by simp [h]), fun w' cu' hk hb hq => ?_⟩
    refine .inr ⟨lb, cu', ty, b2, h1, hb, h3, fun h => h4 (by simp [h]), n2, fun q hq => h6 q (by simp [hq]), ?_⟩
    refine (hrest.same hR _ _ _ fun q hq2 => hk.block q (hlt q (h6 q (by simp [hq2]))) fun hm => ?_).cur hR _ _ _ (fun q hq1 _ => hq q hq1)
    rcases List.mem_cons.1 hm with rfl | hm
    · exact h4 (by simp [hq2])
    · exact n12 q hm q hq2 rfl
end
theorem ownStr_head {w : World} {ka : Option Addr} {ks : List ByteArray} {bs : List Nat} (h : OwnStr w ka ks bs) :
    ∃ kb kcur kty, (ks ≠ [] → ka = some ⟨kb, 0, none⟩) ∧ (ks ≠ [] → kb ∈ bs) ∧ (ks ≠ [] → Block w kb kcur kty) ∧ ks.length ≤ kcur.length := by
  rcases h with ⟨rfl, _⟩ | ⟨kb, cur, ty, h1, h2, h3, h4⟩
  · exact ⟨0, [], 0, fun h => absurd rfl h, fun h => absurd rfl h, fun h => absurd rfl h, by simp⟩
  · refine ⟨kb, cur, ty, fun _ => h1, fun _ => by rw [h2]; simp, fun _ => h3, ?_⟩
    by_cases h0 : ks.length = 0
    · omega
    · obtain ⟨x, hx⟩ : ∃ x, ks[ks.length - 1]? = some x := get_some (by omega)
      have := (List.getElem?_eq_some_iff.1 (h4 _ x hx)).1
      omega
theorem there6 {w : World} {b : Nat} {cu : List Value} {ty : TypeId} (h : Block w b cu ty) {off : Nat} (hl : off + 6 ≤ cu.length) : w.there b off 6 := by
 intro j hj
 exact ⟨by rw [h.cell (show cu[off + j]? = some (cu[off + j]'(by omega)) from List.getElem?_eq_getElem _)]; rfl, h.free _⟩
set_option maxHeartbeats 16000000 in
theorem spoilG_any (g : Gt) (cs : List Value) (bs : List Nat) (w : World) (hO : IsGO w cs g bs) (hnd : bs.Nodup) (hlt : ∀ b ∈ bs, b < w.heap.size) :
    Calls Try.prog 15 #[.agg cs.toArray] w fun e w' => e = .returned (.tuple #[]) ∧ Kept bs w w' := by
  obtain ⟨na, nc, ea, ec, B1, B2, rfl, ⟨⟨⟨hlc, hlm⟩, hnz⟩, ⟨⟨hec, hem⟩, hez⟩⟩, rfl, hN, hE⟩ := hO
  obtain ⟨hn1, hn2, hn12⟩ := List.nodup_append.1 hnd
  show Calls Try.prog 15 #[.agg #[.slice na g.nodes.length nc, .slice ea g.edges.length ec]] w _
  obtain ⟨W0, hW0⟩ : ∃ W0, w.alloc (.cells #[.slice na g.nodes.length nc, .slice ea g.edges.length ec] 25) = W0 := ⟨_, rfl⟩
  have hX0 : Block W0 w.heap.size [.slice na g.nodes.length nc, .slice ea g.edges.length ec] 25 := by rw [← hW0]; exact Block.new w _ _
  have hBW : Below w.heap.size w W0 := by rw [← hW0]; exact (Below.refl _ _).alloc (Nat.le_refl _) _
  have HX0 := Lib.hid hX0
  have HBW := Lib.hid hBW
  have HZ0 : Hid (W0.heap.size = w.heap.size + 1) := Lib.hid (by rw [← hW0]; simp)
  have HW0 := Lib.hid hW0
  have HL1 : Hid (∀ q ∈ B1, q < w.heap.size) := Lib.hid (fun q hq => hlt q (by simp [hq]))
  have HL2 : Hid (∀ q ∈ B2, q < w.heap.size) := Lib.hid (fun q hq => hlt q (by simp [hq]))
  have HSN : Hid (Spo IsNO 4 W0 na g.nodes 0 B1) := Lib.hid (Spo.start (hN.same ownIsNO (fun q hq => hBW.block q (HL1.out q hq))) hn1)
  have HSE : Hid (OwnRw IsEO 6 W0 ea g.edges B2) := Lib.hid (hE.same ownIsEO (fun q hq => hBW.block q (HL2.out q hq)))
  have HND := Lib.hid (show _ ∧ _ ∧ _ from ⟨hn1, hn2, hn12⟩)
  clear hX0 hBW hW0 hN hE hnd hlt hn1 hn2 hn12 hnz hez
  go_enter Try.func15, Try.ntmps15
  go_wp2_with fail
  rw [HW0.out]
  go_loopw [2] (fun iv wr => ∃ (j : Nat), iv = .int .i64 j ∧ j ≤ g.nodes.length ∧ Hid (Kept B1 W0 wr) ∧ Hid (Spo IsNO 4 wr na g.nodes j B1)) (fun iv _ => g.nodes.length - (intOf iv).toNat)
  case atStart => exact ⟨0, rfl, Nat.zero_le _, Lib.hid (Kept.refl _ _), HSN⟩
  case round =>
    obtain ⟨j, rfl, hj, HK, HS⟩ := hrel
    clear HSN
    have HX : Hid (Block wr w.heap.size [.slice na g.nodes.length nc, .slice ea g.edges.length ec] 25) := Lib.hid (HX0.out.of_heap (HK.out.block _ HX0.out.lt (fun h => by have := HL1.out _ h; omega)))
    have c0 := HX.out.cell (i := 0) rfl
    by_cases hlt : j < g.nodes.length
    · have hlt' : (j : Int) < g.nodes.length := by omega
      have hj0 : (0 : Int) ≤ (j : Int) := by omega
      obtain ⟨x, hx⟩ := get_some hlt
      have hzr := HK.out.size
      have hz0 := HZ0.out
      obtain ⟨lb, cu, ty, cs, b5, rfl, hblk, hcs, hxo, hnd5, hm5, hlb, hlb5, hstep⟩ := HS.out.at ownIsNO hx (fun q hq => by have := HL1.out q hq; omega)
      obtain ⟨la, lc, ka, kc, va, vc, b1, b2, b3, rfl, hid, ⟨⟨⟨q1, q2⟩, q3⟩, -, ⟨⟨q4, q5⟩, q6⟩⟩, rfl, hlab, -, hval⟩ := hxo
      have k0 := hblk.cell (hcs 0 _ rfl)
      have k1 := hblk.cell (hcs 1 _ rfl)
      have k2 := hblk.cell (hcs 2 _ rfl)
      have k3 := hblk.cell (hcs 3 _ rfl)
      rw [Nat.add_zero] at k0
      have hcl := (List.getElem?_eq_some_iff.1 (hcs 3 _ rfl)).1
      obtain ⟨W1, hW1⟩ : ∃ W1, wr.alloc (.cells #[.int .i64 x.id, .slice la x.labels.length lc, .slice ka x.keys.length kc, .slice va x.vals.length vc] 38) = W1 := ⟨_, rfl⟩
      have hb1 : Below wr.heap.size wr W1 := by rw [← hW1]; exact (Below.refl _ _).alloc (Nat.le_refl _) _
      have HY1 : Hid (Block W1 wr.heap.size [.int .i64 x.id, .slice la x.labels.length lc, .slice ka x.keys.length kc, .slice va x.vals.length vc] 38) := Lib.hid (by rw [← hW1]; exact Block.new wr _ _)
      have HB1 := Lib.hid hb1
      have HZ1 : Hid (W1.heap.size = wr.heap.size + 1) := Lib.hid (by rw [← hW1]; simp)
      have HW1 := Lib.hid hW1
      have h5w : ∀ q ∈ b1 ++ (b2 ++ b3), q < w.heap.size := fun q hq => HL1.out q (hm5 q hq)
      have h5r : ∀ q ∈ b1 ++ (b2 ++ b3), q < wr.heap.size := fun q hq => by have := h5w q hq; omega
      have HLB : Hid (OwnStr W1 la x.labels b1) := Lib.hid (hlab.same fun q hq => hb1.block q (h5r q (by simp [hq])))
      have HVL : Hid (OwnRw IsO 6 W1 va x.vals b3) := Lib.hid (hval.same ownIsO fun q hq => hb1.block q (h5r q (by simp [hq])))
      have HBL : Hid (Block W1 lb cu ty) := Lib.hid (hblk.below hb1 hblk.lt)
      have HST := Lib.hid hstep
      have HM5 := Lib.hid (show _ ∧ _ ∧ _ ∧ _ ∧ _ ∧ _ ∧ _ from ⟨hnd5, hm5, hlb, hlb5, h5w, h5r, hcl⟩)
      have h3 : b3.Nodup := (List.nodup_append.1 (List.nodup_append.1 hnd5).2.1).2.1
      have h13 : ∀ q ∈ b3, q ∉ b1 := fun q hq hq1 => (List.nodup_append.1 hnd5).2.2 q hq1 q (by simp [hq]) rfl
      have HND3 := Lib.hid (show _ ∧ _ from ⟨h3, h13⟩)
      obtain ⟨kb, kcur, kty, hka, hkm, hkb, hkl⟩ : ∃ kb kcur kty, (x.labels ≠ [] → la = some ⟨kb, 0, none⟩) ∧ (x.labels ≠ [] → kb ∈ b1) ∧ (x.labels ≠ [] → Block W1 kb kcur kty) ∧ x.labels.length ≤ kcur.length := ownStr_head HLB.out
      have HKA := Lib.hid hka
      have HKM := Lib.hid hkm
      have HKB := Lib.hid hkb
      have HKL := Lib.hid hkl
      clear hx hblk hcs hid hlab hval hb1 hW1 h5w h5r hstep hnd5 hm5 hlb hlb5 hcl h3 h13 hka hkm hkb hkl hzr hz0
      go_wp2_with fail
      rw [HW1.out]
      go_loopw [4] (fun iv w3 => ∃ (q : Nat) (kcu : List Value), iv = .int .i64 q ∧ q ≤ x.labels.length ∧ Hid (Kept b1 W1 w3) ∧ Hid (x.labels ≠ [] → Block w3 kb kcu kty) ∧ Hid (x.labels.length ≤ kcu.length)) (fun iv _ => x.labels.length - (intOf iv).toNat)
      case atStart => exact ⟨0, kcur, rfl, Nat.zero_le _, Lib.hid (Kept.refl _ _), HKB, HKL⟩
      case round =>
        rename World => w3
        obtain ⟨q, kcu, rfl, hq, HK3, HKB3, HKL3⟩ := hrel
        have HY3 := Lib.hid (HY1.out.of_heap (HK3.out.block _ HY1.out.lt (fun h => by have := HM5.out.2.2.2.2.2.1 _ (show wr.heap.size ∈ b1 ++ (b2 ++ b3) by simp [h]); omega)))
        have r1 := HY3.out.cell (i := 1) rfl
        by_cases hlt3 : q < x.labels.length
        · have hlt3' : (q : Int) < x.labels.length := by omega
          have hq0 : (0 : Int) ≤ (q : Int) := by omega
          have hne : x.labels ≠ [] := by intro h; rw [h] at hlt3; simp at hlt3
          obtain rfl := HKA.out hne
          obtain ⟨y, hy⟩ : ∃ y, kcu[q]? = some y := get_some (by have := HKL3.out; omega)
          have e0 := (HKB3.out hne).free q
          have e1 := (HKB3.out hne).cell hy
          have HNE := Lib.hid hne
          clear hne hy k0 k1 k2 k3 c0
          go_wp2_with fail
          go_roundw
          case rel => exact ⟨q + 1, kcu.set q (.string ⟨#[115, 112, 111, 105, 108, 116]⟩), by go_num, by omega, Lib.hid (HK3.out.setCell (.inl (HKM.out HNE.out)) _), Lib.hid (fun _ => (HKB3.out HNE.out).set q _), Lib.hid (by rw [List.length_set]; exact HKL3.out)⟩
          case measure => simp [intOf]; omega
        · have hlt3' : ¬ (q : Int) < x.labels.length := by omega
          have HK5 : Hid (Kept (b1 ++ (b2 ++ b3)) W1 w3) := Lib.hid (HK3.out.mono (fun q hq => by simp [hq]))
          have HVS : Hid (Spo IsO 6 w3 va x.vals 0 b3) := Lib.hid (Spo.start (HVL.out.same ownIsO fun q hq => HK3.out.block q (by have := HM5.out.2.2.2.2.2.1 q (by simp [hq]); have := HZ1.out; omega) (HND3.out.2 q hq)) HND3.out.1)
          clear k0 k1 k2 k3 c0
          go_wp2_with fail
          go_loopw [5] (fun iv w4 => ∃ (q : Nat), iv = .int .i64 q ∧ q ≤ x.vals.length ∧ Hid (Kept (b1 ++ (b2 ++ b3)) W1 w4) ∧ Hid (Spo IsO 6 w4 va x.vals q b3)) (fun iv _ => x.vals.length - (intOf iv).toNat)
          case atStart => exact ⟨0, rfl, Nat.zero_le _, HK5, HVS⟩
          case round =>
            rename World => w4
            obtain ⟨q, rfl, hq, HK4, HS4⟩ := hrel
            clear HVS HK5
            have HY4 : Hid (Block w4 wr.heap.size [.int .i64 x.id, .slice la x.labels.length lc, .slice ka x.keys.length kc, .slice va x.vals.length vc] 38) := Lib.hid (HY1.out.of_heap (HK4.out.block _ HY1.out.lt (fun h => by have := HM5.out.2.2.2.2.2.1 _ h; omega)))
            have r3 := HY4.out.cell (i := 3) rfl
            by_cases hlt4 : q < x.vals.length
            · have hlt4' : (q : Int) < x.vals.length := by omega
              have hq0 : (0 : Int) ≤ (q : Int) := by omega
              obtain ⟨t, ht⟩ := get_some hlt4
              obtain ⟨vb, vcu, vty, vcs, v5, rfl, hvb, hvcs, hto, hv5, hvm, hvbm, hvb5, hvst⟩ := HS4.out.at ownIsO ht (fun q hq => by have := HM5.out.2.2.2.2.2.1 q (by simp [hq]); have := HK4.out.size; have := HZ1.out; omega)
              have HSP := Lib.hid (spoil_any t vcs v5 w4 hto hv5 (fun q hq => by have := HM5.out.2.2.2.2.2.1 q (by simp [hvm q hq]); have := HK4.out.size; have := HZ1.out; omega))
              obtain ⟨tk, tb, ti, ts, tl, tks⟩ := t
              have ht3 := hto
              unfold IsO at ht3
              obtain ⟨la2, lc2, ka2, kc2, x1, x2, rfl, -, -, -, -⟩ := ht3
              have g0 := hvb.cell (hvcs 0 _ rfl)
              have g1 := hvb.cell (hvcs 1 _ rfl)
              have g2 := hvb.cell (hvcs 2 _ rfl)
              have g3 := hvb.cell (hvcs 3 _ rfl)
              have g4 := hvb.cell (hvcs 4 _ rfl)
              have g5 := hvb.cell (hvcs 5 _ rfl)
              rw [Nat.add_zero] at g0
              have hvl := (List.getElem?_eq_some_iff.1 (hvcs 5 _ rfl)).1
              have HV := Lib.hid (show _ ∧ _ ∧ _ ∧ _ ∧ _ ∧ _ from ⟨hvb, hvm, hvbm, hvb5, hvst, hvl⟩)
              clear hto ht hvb hvcs hv5 hvm hvbm hvb5 hvst hvl
              go_wp2_with fail
              refine HSP.out.mono ?_
              rintro e w5 ⟨rfl, hk5⟩
              have hvb5 : Block w5 vb vcu vty := HV.out.1.of_heap (hk5.block vb HV.out.1.lt HV.out.2.2.2.1)
              have hY5 : Block w5 wr.heap.size [.int .i64 x.id, .slice la x.labels.length lc, .slice ka x.keys.length kc, .slice (some ⟨vb, 0, none⟩) x.vals.length vc] 38 := HY4.out.of_heap (hk5.block _ HY4.out.lt (fun h => by have := HM5.out.2.2.2.2.2.1 _ (show wr.heap.size ∈ b1 ++ (b2 ++ b3) by simp [HV.out.2.1 _ h]); omega))
              have d3 := hY5.cell (i := 3) rfl
              obtain ⟨we, hwe⟩ : ∃ we, w5.setCells vb (q * 6) (#[.int .i64 0, .bool false, .int .i64 0, .string ⟨#[]⟩, .slice none 0 0, .slice none 0 0] : Array Value).toList = we := ⟨_, rfl⟩
              have HT : Hid (w5.there vb (q * 6) 6) := Lib.hid (there6 hvb5 (by have := HV.out.2.2.2.2.2; omega))
              have hbe : Block we vb (put6 vcu (q * 6) (.int .i64 0) (.bool false) (.int .i64 0) (.string ⟨#[]⟩) (.slice none 0 0) (.slice none 0 0)) vty := by rw [← hwe]; exact hvb5.set6 (q * 6) _ _ _ _ _ _
              have HKW : Hid (Kept (vb :: v5) w4 we) := Lib.hid (by rw [← hwe]; exact (((((((hk5.mono (fun q hq => by simp [hq])).setCell (.inl (by simp)) _).setCell (.inl (by simp)) _).setCell (.inl (by simp)) _).setCell (.inl (by simp)) _).setCell (.inl (by simp)) _).setCell (.inl (by simp)) _))
              have HSX : Hid (Spo IsO 6 we (some ⟨vb, 0, none⟩) x.vals (q + 1) b3) := Lib.hid (HV.out.2.2.2.2.1 we _ HKW.out hbe (fun q hq => put6_out _ _ _ _ _ _ _ _ q (by omega)))
              have HWE := Lib.hid hwe
              clear g0 g1 g2 g3 g4 g5 r3 hvb5 hY5 hk5 hwe hbe
              go_wp2_with (refine wpList_store_mid rfl 71 _ _ rfl vb (q * 6) #[.int .i64 0, .bool false, .int .i64 0, .string ⟨#[]⟩, .slice none 0 0, .slice none 0 0] rfl rfl HT.out (by kernel_rfl) (by simp [Value.oneCell']) ?_; rw [HWE.out])
              go_roundw
              case rel => exact ⟨q + 1, by go_num, by omega, Lib.hid (HK4.out.trans HKW.out (fun q hq => .inl (by rcases List.mem_cons.1 hq with rfl | hq; simp [HV.out.2.2.1]; simp [HV.out.2.1 q hq]))), HSX⟩
              case measure => simp [intOf]; omega
            · have hlt4' : ¬ (q : Int) < x.vals.length := by omega
              have hX4 : Block w4 w.heap.size [.slice (some ⟨lb, 0, none⟩) g.nodes.length nc, .slice ea g.edges.length ec] 25 := (HX.out.below HB1.out HX.out.lt).of_heap (HK4.out.block _ (HX.out.below HB1.out HX.out.lt).lt (fun h => by have := HM5.out.2.2.2.2.1 _ h; omega))
              have hB4 : Block w4 lb cu ty := HBL.out.of_heap (HK4.out.block _ HBL.out.lt HM5.out.2.2.2.1)
              have d0 := hX4.cell (i := 0) rfl
              have d1 := hB4.free (j * 4)
              obtain ⟨y, hy⟩ : ∃ y, cu[j * 4]? = some y := get_some (by have := HM5.out.2.2.2.2.2.2; omega)
              have d2 := hB4.cell hy
              have HB4 := Lib.hid hB4
              have hKL : Kept (lb :: (b1 ++ (b2 ++ b3))) wr w4 := by
                have h1 := HK4.out
                have h2 := HB1.out
                exact ⟨h1.os.trans h2.os, h1.tape.trans h2.tape, h1.output.trans h2.output, Nat.le_trans h2.size h1.size, fun x hx hn => by rw [h1.block x (by have := h2.size; omega) (fun h => hn (by simp [h])), h2.block x hx]⟩
              have HKL := Lib.hid hKL
              clear hX4 hB4 hy hKL
              go_wp2_with fail
              go_roundw
              case rel =>
                refine ⟨j + 1, by go_num, by omega, Lib.hid (HK.out.trans (HKL.out.setCell (.inl (by simp)) _) (fun q hq => .inl (by rcases List.mem_cons.1 hq with rfl | hq; exact HM5.out.2.2.1; exact HM5.out.2.1 q hq))), Lib.hid (HST.out _ _ (HKL.out.setCell (.inl (by simp)) _) (HB4.out.set (j * 4) _) (fun q hq => List.getElem?_set_ne (by omega)))⟩
              case measure => simp [intOf]; omega
    · have hlt' : ¬ (j : Int) < g.nodes.length := by omega
      have c1 := HX.out.cell (i := 1) rfl
      have HSE2 : Hid (Spo IsEO 6 wr ea g.edges 0 B2) := Lib.hid (Spo.start (HSE.out.same ownIsEO (fun q hq => HK.out.block q (by have := HL2.out q hq; have := HZ0.out; omega) (fun h => HND.out.2.2 q h q hq rfl))) HND.out.2.1)
      have HKE : Hid (Kept (B1 ++ B2) W0 wr) := Lib.hid (HK.out.mono (fun q hq => by simp [hq]))
      clear HS HK HX
      go_wp2_with fail
      clear c0 c1
      go_loopw [6] (fun iv wr => ∃ (j : Nat), iv = .int .i64 j ∧ j ≤ g.edges.length ∧ Hid (Kept (B1 ++ B2) W0 wr) ∧ Hid (Spo IsEO 6 wr ea g.edges j B2)) (fun iv _ => g.edges.length - (intOf iv).toNat)
      case atStart => exact ⟨0, rfl, Nat.zero_le _, HKE, HSE2⟩
      case round =>
        rename World => wr
        obtain ⟨j, rfl, hj, HK, HS⟩ := hrel
        clear HSE2 HKE
        have HX : Hid (Block wr w.heap.size [.slice na g.nodes.length nc, .slice ea g.edges.length ec] 25) := Lib.hid (HX0.out.of_heap (HK.out.block _ HX0.out.lt (fun h => by rcases List.mem_append.1 h with h | h; exact absurd (HL1.out _ h) (by omega); exact absurd (HL2.out _ h) (by omega))))
        have c1 := HX.out.cell (i := 1) rfl
        by_cases hlt : j < g.edges.length
        · have hlt' : (j : Int) < g.edges.length := by omega
          have hj0 : (0 : Int) ≤ (j : Int) := by omega
          obtain ⟨x, hx⟩ := get_some hlt
          have hzr := HK.out.size
          have hz0 := HZ0.out
          obtain ⟨lb, cu, ty, cs, b5, rfl, hblk, hcs, hxo, hnd5, hm5, hlb, hlb5, hstep⟩ := HS.out.at ownIsEO hx (fun q hq => by have := HL2.out q hq; omega)
          obtain ⟨ka, kc, va, vc, b2, b3, rfl, hid, ⟨-, ⟨⟨q4, q5⟩, q6⟩⟩, rfl, -, hval⟩ := hxo
          have k0 := hblk.cell (hcs 0 _ rfl)
          have k1 := hblk.cell (hcs 1 _ rfl)
          have k2 := hblk.cell (hcs 2 _ rfl)
          have k3 := hblk.cell (hcs 3 _ rfl)
          have k4 := hblk.cell (hcs 4 _ rfl)
          have k5 := hblk.cell (hcs 5 _ rfl)
          rw [Nat.add_zero] at k0
          have hcl := (List.getElem?_eq_some_iff.1 (hcs 5 _ rfl)).1
          obtain ⟨W1, hW1⟩ : ∃ W1, wr.alloc (.cells #[.int .i64 x.id, .int .i64 x.src, .int .i64 x.dst, .string x.ty, .slice ka x.keys.length kc, .slice va x.vals.length vc] 40) = W1 := ⟨_, rfl⟩
          have hb1 : Below wr.heap.size wr W1 := by rw [← hW1]; exact (Below.refl _ _).alloc (Nat.le_refl _) _
          have HY1 : Hid (Block W1 wr.heap.size [.int .i64 x.id, .int .i64 x.src, .int .i64 x.dst, .string x.ty, .slice ka x.keys.length kc, .slice va x.vals.length vc] 40) := Lib.hid (by rw [← hW1]; exact Block.new wr _ _)
          have HB1 := Lib.hid hb1
          have HZ1 : Hid (W1.heap.size = wr.heap.size + 1) := Lib.hid (by rw [← hW1]; simp)
          have HW1 := Lib.hid hW1
          have h5w : ∀ q ∈ b2 ++ b3, q < w.heap.size := fun q hq => HL2.out q (hm5 q hq)
          have h5r : ∀ q ∈ b2 ++ b3, q < wr.heap.size := fun q hq => by have := h5w q hq; omega
          have h3 : b3.Nodup := (List.nodup_append.1 hnd5).2.1
          have HVS : Hid (Spo IsO 6 W1 va x.vals 0 b3) := Lib.hid (Spo.start (hval.same ownIsO fun q hq => hb1.block q (h5r q (by simp [hq]))) h3)
          have HBL : Hid (Block W1 lb cu ty) := Lib.hid (hblk.below hb1 hblk.lt)
          have HST := Lib.hid hstep
          have HM5 := Lib.hid (show _ ∧ _ ∧ _ ∧ _ ∧ _ ∧ _ ∧ _ from ⟨hnd5, hm5, hlb, hlb5, h5w, h5r, hcl⟩)
          have HK5 : Hid (Kept (b2 ++ b3) W1 W1) := Lib.hid (Kept.refl _ _)
          clear hx hblk hcs hid hval hb1 hW1 h5w h5r hstep hnd5 hm5 hlb hlb5 hcl h3 hzr hz0
          go_wp2_with fail
          rw [HW1.out]
          clear k0 k1 k2 k3 k4 k5 c1
          go_loopw [8] (fun iv w4 => ∃ (q : Nat), iv = .int .i64 q ∧ q ≤ x.vals.length ∧ Hid (Kept (b2 ++ b3) W1 w4) ∧ Hid (Spo IsO 6 w4 va x.vals q b3)) (fun iv _ => x.vals.length - (intOf iv).toNat)
          case atStart => exact ⟨0, rfl, Nat.zero_le _, HK5, HVS⟩
          case round =>
            rename World => w4
            obtain ⟨q, rfl, hq, HK4, HS4⟩ := hrel
            clear HVS HK5
            have HY4 : Hid (Block w4 wr.heap.size [.int .i64 x.id, .int .i64 x.src, .int .i64 x.dst, .string x.ty, .slice ka x.keys.length kc, .slice va x.vals.length vc] 40) := Lib.hid (HY1.out.of_heap (HK4.out.block _ HY1.out.lt (fun h => by have := HM5.out.2.2.2.2.2.1 _ h; omega)))
            have r3 := HY4.out.cell (i := 5) rfl
            by_cases hlt4 : q < x.vals.length
            · have hlt4' : (q : Int) < x.vals.length := by omega
              have hq0 : (0 : Int) ≤ (q : Int) := by omega
              obtain ⟨t, ht⟩ := get_some hlt4
              obtain ⟨vb, vcu, vty, vcs, v5, rfl, hvb, hvcs, hto, hv5, hvm, hvbm, hvb5, hvst⟩ := HS4.out.at ownIsO ht (fun q hq => by have := HM5.out.2.2.2.2.2.1 q (by simp [hq]); have := HK4.out.size; have := HZ1.out; omega)
              have HSP := Lib.hid (spoil_any t vcs v5 w4 hto hv5 (fun q hq => by have := HM5.out.2.2.2.2.2.1 q (by simp [hvm q hq]); have := HK4.out.size; have := HZ1.out; omega))
              obtain ⟨tk, tb, ti, ts, tl, tks⟩ := t
              have ht3 := hto
              unfold IsO at ht3
              obtain ⟨la2, lc2, ka2, kc2, x1, x2, rfl, -, -, -, -⟩ := ht3
              have g0 := hvb.cell (hvcs 0 _ rfl)
              have g1 := hvb.cell (hvcs 1 _ rfl)
              have g2 := hvb.cell (hvcs 2 _ rfl)
              have g3 := hvb.cell (hvcs 3 _ rfl)
              have g4 := hvb.cell (hvcs 4 _ rfl)
              have g5 := hvb.cell (hvcs 5 _ rfl)
              rw [Nat.add_zero] at g0
              have hvl := (List.getElem?_eq_some_iff.1 (hvcs 5 _ rfl)).1
              have HV := Lib.hid (show _ ∧ _ ∧ _ ∧ _ ∧ _ ∧ _ from ⟨hvb, hvm, hvbm, hvb5, hvst, hvl⟩)
              clear hto ht hvb hvcs hv5 hvm hvbm hvb5 hvst hvl
              go_wp2_with fail
              refine HSP.out.mono ?_
              rintro e w5 ⟨rfl, hk5⟩
              have hvb5 : Block w5 vb vcu vty := HV.out.1.of_heap (hk5.block vb HV.out.1.lt HV.out.2.2.2.1)
              have hY5 : Block w5 wr.heap.size [.int .i64 x.id, .int .i64 x.src, .int .i64 x.dst, .string x.ty, .slice ka x.keys.length kc, .slice (some ⟨vb, 0, none⟩) x.vals.length vc] 40 := HY4.out.of_heap (hk5.block _ HY4.out.lt (fun h => by have := HM5.out.2.2.2.2.2.1 _ (show wr.heap.size ∈ b2 ++ b3 by simp [HV.out.2.1 _ h]); omega))
              have d3 := hY5.cell (i := 5) rfl
              obtain ⟨we, hwe⟩ : ∃ we, w5.setCells vb (q * 6) (#[.int .i64 0, .bool false, .int .i64 0, .string ⟨#[]⟩, .slice none 0 0, .slice none 0 0] : Array Value).toList = we := ⟨_, rfl⟩
              have HT : Hid (w5.there vb (q * 6) 6) := Lib.hid (there6 hvb5 (by have := HV.out.2.2.2.2.2; omega))
              have hbe : Block we vb (put6 vcu (q * 6) (.int .i64 0) (.bool false) (.int .i64 0) (.string ⟨#[]⟩) (.slice none 0 0) (.slice none 0 0)) vty := by rw [← hwe]; exact hvb5.set6 (q * 6) _ _ _ _ _ _
              have HKW : Hid (Kept (vb :: v5) w4 we) := Lib.hid (by rw [← hwe]; exact (((((((hk5.mono (fun q hq => by simp [hq])).setCell (.inl (by simp)) _).setCell (.inl (by simp)) _).setCell (.inl (by simp)) _).setCell (.inl (by simp)) _).setCell (.inl (by simp)) _).setCell (.inl (by simp)) _))
              have HSX : Hid (Spo IsO 6 we (some ⟨vb, 0, none⟩) x.vals (q + 1) b3) := Lib.hid (HV.out.2.2.2.2.1 we _ HKW.out hbe (fun q hq => put6_out _ _ _ _ _ _ _ _ q (by omega)))
              have HWE := Lib.hid hwe
              clear g0 g1 g2 g3 g4 g5 r3 hvb5 hY5 hk5 hwe hbe
              go_wp2_with (refine wpList_store_mid rfl 71 _ _ rfl vb (q * 6) #[.int .i64 0, .bool false, .int .i64 0, .string ⟨#[]⟩, .slice none 0 0, .slice none 0 0] rfl rfl HT.out (by kernel_rfl) (by simp [Value.oneCell']) ?_; rw [HWE.out])
              go_roundw
              case rel => exact ⟨q + 1, by go_num, by omega, Lib.hid (HK4.out.trans HKW.out (fun q hq => .inl (by rcases List.mem_cons.1 hq with rfl | hq; simp [HV.out.2.2.1]; simp [HV.out.2.1 q hq]))), HSX⟩
              case measure => simp [intOf]; omega
            · have hlt4' : ¬ (q : Int) < x.vals.length := by omega
              have hX4 : Block w4 w.heap.size [.slice na g.nodes.length nc, .slice (some ⟨lb, 0, none⟩) g.edges.length ec] 25 := (HX.out.below HB1.out HX.out.lt).of_heap (HK4.out.block _ (HX.out.below HB1.out HX.out.lt).lt (fun h => by have := HM5.out.2.2.2.2.1 _ h; omega))
              have hB4 : Block w4 lb cu ty := HBL.out.of_heap (HK4.out.block _ HBL.out.lt HM5.out.2.2.2.1)
              have d0 := hX4.cell (i := 1) rfl
              have d1 := hB4.free (j * 6 + 1)
              obtain ⟨y, hy⟩ : ∃ y, cu[j * 6 + 1]? = some y := get_some (by have := HM5.out.2.2.2.2.2.2; omega)
              have d2 := hB4.cell hy
              have HB4 := Lib.hid hB4
              have hKL : Kept (lb :: (b2 ++ b3)) wr w4 := by
                have h1 := HK4.out
                have h2 := HB1.out
                exact ⟨h1.os.trans h2.os, h1.tape.trans h2.tape, h1.output.trans h2.output, Nat.le_trans h2.size h1.size, fun x hx hn => by rw [h1.block x (by have := h2.size; omega) (fun h => hn (by simp [h])), h2.block x hx]⟩
              have HKL := Lib.hid hKL
              clear hX4 hB4 hy hKL
              go_wp2_with fail
              go_roundw
              case rel =>
                refine ⟨j + 1, by go_num, by omega, Lib.hid (HK.out.trans (HKL.out.setCell (.inl (by simp)) _) (fun q hq => .inl (by rcases List.mem_cons.1 hq with rfl | hq; exact List.mem_append_right _ HM5.out.2.2.1; exact List.mem_append_right _ (HM5.out.2.1 q hq)))), Lib.hid (HST.out _ _ (HKL.out.setCell (.inl (by simp)) _) (HB4.out.set (j * 6 + 1) _) (fun q hq => List.getElem?_set_ne (by omega)))⟩
              case measure => simp [intOf]; omega
        · have hlt' : ¬ (j : Int) < g.edges.length := by omega
          go_wp2_with fail
          go_end0
          exact ⟨rfl, by
            have h1 := HK.out
            exact ⟨h1.os.trans HBW.out.os, h1.tape.trans HBW.out.tape, h1.output.trans HBW.out.output, Nat.le_trans HBW.out.size h1.size, fun x hx hn => by rw [h1.block x (by have := HBW.out.size; omega) hn, HBW.out.block x hx]⟩⟩
end Go.Proofs.Ytoakloicjlfaaaa

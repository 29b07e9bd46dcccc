/- The texts S2, S3, S4, S5, S6, S7, Shelf, S8, S9, S10, S11, S12, S13, S14, S15, S17, S19, S23, S24, S16, S18, S20, S25, G30, G31, G32 of this seat, one behind the other. Conditions: each says its own. -/
import Derived.Lib.Strings
import Derived.Test.YtoakloicjlfaaaaProg
import Derived.Outline
import Derived.Laws.BytesArg
import Derived.Laws.IdiomStrings
import Derived.Deep.RegionLaw
import Derived.Laws.Concat
import Derived.Shelf.Strings.BuilderK
import Derived.Shelf.Strings.BuilderRune
import Derived.Shelf.Strings.Prefix
import Derived.Shelf.Strings.Search1
import Derived.Shelf.Strings.OnBuilder
import Derived.Shelf.Small.Strs
import Derived.WalkKit
import Derived.BigCall
import Derived.BigQuiet
import Derived.Laws.Runes
import Derived.Lib.AppendStr
import Derived.Deep.AppendLies
import Derived.Lib.Join
import Derived.IntWalk
import Derived.Test.YtoakloicjlfaaaaM4

/- Layer 5: what quotes make of a text, in plain lists of bytes; the same by runes. Conditions: none. -/
namespace Go.Proofs.Ytoakloicjlfaaaa
open Go.RowKit

theorem nb_zero {l : List UInt8} (h : l.length ≠ 0) : ∃ c r, l = c :: r ∧ nb l 0 = c.toNat := by
  cases l with
  | nil => simp at h
  | cons c r => exact ⟨c, r, rfl, rfl⟩
theorem sg_one {l : List UInt8} : sg l = 1 ↔ (l.length ≠ 0 ∧ nb l 0 < 128) := by
  unfold sg
  constructor
  · intro h
    split at h
    · cases h
    · split at h
      · exact ⟨by assumption, by assumption⟩
      · split at h
        · cases h
        · split at h
          · cases h
          · split at h
            · cases h
            · split at h
              · cases h
              · split at h <;> cases h
  · rintro ⟨h1, h2⟩
    rw [if_neg h1, if_pos h2]
theorem sg_le {l : List UInt8} : sg l ≤ 4 ∧ sg l ≤ l.length := by
  unfold sg
  simp only [tl_false]
  generalize nb l 0 = b0
  generalize nb l 1 = b1
  generalize nb l 2 = b2
  generalize nb l 3 = b3
  generalize l.length = n
  split
  · omega
  split
  · omega
  rename_i h0 h1
  by_cases g1 : b0 < 194 ∨ 244 < b0 ∨ ¬ (1 < n ∧ 128 ≤ b1 ∧ b1 < 192)
  · rw [if_pos g1]; omega
  rw [if_neg g1]
  have k1 : 1 < n := Classical.byContradiction fun h => g1 (.inr (.inr (fun x => h x.1)))
  split
  · omega
  by_cases g3 : ¬ (2 < n ∧ 128 ≤ b2 ∧ b2 < 192) ∨ (b0 = 224 ∧ b1 < 160) ∨ (b0 = 237 ∧ 160 ≤ b1)
  · rw [if_pos g3]; omega
  rw [if_neg g3]
  have k3 : 2 < n := Classical.byContradiction fun h => g3 (.inl (fun x => h x.1))
  split
  · omega
  by_cases g5 : ¬ (3 < n ∧ 128 ≤ b3 ∧ b3 < 192) ∨ (b0 = 240 ∧ b1 < 144) ∨ (b0 = 244 ∧ 144 ≤ b1)
  · rw [if_pos g5]; omega
  rw [if_neg g5]
  have k5 : 3 < n := Classical.byContradiction fun h => g5 (.inl (fun x => h x.1))
  omega

/-- The facts of a sign of two, three, four bytes. -/
theorem sg_facts {l : List UInt8} : (sg l = 2 → 194 ≤ nb l 0 ∧ nb l 0 < 224 ∧ (128 ≤ nb l 1 ∧ nb l 1 < 192)) ∧
    (sg l = 3 → 224 ≤ nb l 0 ∧ nb l 0 < 240 ∧ (128 ≤ nb l 1 ∧ nb l 1 < 192) ∧ (128 ≤ nb l 2 ∧ nb l 2 < 192) ∧ ¬ (nb l 0 = 224 ∧ nb l 1 < 160) ∧ ¬ (nb l 0 = 237 ∧ 160 ≤ nb l 1)) ∧
    (sg l = 4 → 240 ≤ nb l 0 ∧ nb l 0 ≤ 244 ∧ (128 ≤ nb l 1 ∧ nb l 1 < 192) ∧ (128 ≤ nb l 2 ∧ nb l 2 < 192) ∧ (128 ≤ nb l 3 ∧ nb l 3 < 192) ∧ ¬ (nb l 0 = 240 ∧ nb l 1 < 144) ∧ ¬ (nb l 0 = 244 ∧ 144 ≤ nb l 1)) := by
  unfold sg
  simp only [tl_false]
  generalize nb l 0 = b0
  generalize nb l 1 = b1
  generalize nb l 2 = b2
  generalize nb l 3 = b3
  generalize l.length = n
  by_cases h0 : n = 0
  · rw [if_pos h0]; simp
  rw [if_neg h0]
  by_cases h1 : b0 < 128
  · rw [if_pos h1]; simp
  rw [if_neg h1]
  by_cases g1 : b0 < 194 ∨ 244 < b0 ∨ ¬ (1 < n ∧ 128 ≤ b1 ∧ b1 < 192)
  · rw [if_pos g1]; simp
  rw [if_neg g1]
  have k1 : (1 < n ∧ 128 ≤ b1 ∧ b1 < 192) := Classical.byContradiction fun h => g1 (.inr (.inr h))
  have k2 : 194 ≤ b0 ∧ b0 ≤ 244 := ⟨by omega, by omega⟩
  by_cases g2 : b0 < 224
  · rw [if_pos g2]; exact ⟨fun _ => ⟨k2.1, g2, k1.2⟩, fun h => (by cases h), fun h => (by cases h)⟩
  rw [if_neg g2]
  by_cases g3 : ¬ (2 < n ∧ 128 ≤ b2 ∧ b2 < 192) ∨ (b0 = 224 ∧ b1 < 160) ∨ (b0 = 237 ∧ 160 ≤ b1)
  · rw [if_pos g3]; simp
  rw [if_neg g3]
  have k3 : (2 < n ∧ 128 ≤ b2 ∧ b2 < 192) := Classical.byContradiction fun h => g3 (.inl h)
  by_cases g4 : b0 < 240
  · rw [if_pos g4]
    exact ⟨fun h => (by cases h), fun _ => ⟨by omega, g4, k1.2, k3.2, fun h => g3 (.inr (.inl h)), fun h => g3 (.inr (.inr h))⟩, fun h => (by cases h)⟩
  rw [if_neg g4]
  by_cases g5 : ¬ (3 < n ∧ 128 ≤ b3 ∧ b3 < 192) ∨ (b0 = 240 ∧ b1 < 144) ∨ (b0 = 244 ∧ 144 ≤ b1)
  · rw [if_pos g5]; simp
  rw [if_neg g5]
  exact ⟨fun h => (by cases h), fun h => (by cases h), fun _ => ⟨by omega, k2.2, k1.2, k3.2, (Classical.byContradiction fun h => g5 (.inl h) : 3 < n ∧ 128 ≤ b3 ∧ b3 < 192).2, fun h => g5 (.inr (.inl h)), fun h => g5 (.inr (.inr h))⟩⟩

theorem take_nb (l : List UInt8) (n : Nat) (h : n ≤ l.length) : l.take n = (List.range n).map fun k => UInt8.ofNat (nb l k) := by
  apply List.ext_getElem?
  intro i
  rw [List.getElem?_take]
  by_cases hi : i < n
  · rw [if_pos hi, List.getElem?_map, List.getElem?_range hi]
    have hl : l[i]? = some l[i] := List.getElem?_eq_getElem (by omega)
    unfold nb
    rw [hl]
    simp [hl]
  · rw [if_neg hi, List.getElem?_eq_none (by simpa using hi)]

/-- The rune, written as bytes, is the sign. -/
theorem encode_sign {l : List UInt8} (h : sg l ≠ 0) : Lib.encodeRune (rv l : Int) = l.take (sg l) := by
  have h0 := nb_lt l 0
  have h1 := nb_lt l 1
  have h2 := nb_lt l 2
  have h3 := nb_lt l 3
  obtain ⟨f2, f3, f4⟩ := sg_facts (l := l)
  have hle := (sg_le (l := l)).2
  rw [take_nb l _ hle]
  have hc : sg l = 1 ∨ sg l = 2 ∨ sg l = 3 ∨ sg l = 4 := by have := (sg_le (l := l)).1; omega
  rcases hc with e | e | e | e
  · have hn := (sg_one.1 e).2
    have hr : rv l = nb l 0 := by unfold rv; rw [if_pos e]
    rw [hr, e]
    unfold Lib.encodeRune
    rw [Lib.encodeRuneZ_one (by omega) (by omega)]
    simp only [List.range, List.range.loop, List.map_cons, List.map_nil, Int.toNat_natCast]
  · obtain ⟨a, b, c, d⟩ := f2 e
    have hr : rv l = (nb l 0 - 192) * 64 + (nb l 1 - 128) := by unfold rv; rw [if_neg (by omega), if_pos e]
    rw [e]
    unfold Lib.encodeRune
    generalize rv l = r at *
    rw [Lib.encodeRuneZ_two (by omega) (by omega)]
    have e0 : (192 + (r : Int) / 64).toNat = nb l 0 := by omega
    have e1 : (128 + (r : Int) % 64).toNat = nb l 1 := by omega
    simp only [List.range, List.range.loop, List.map_cons, List.map_nil, e0, e1]
  · obtain ⟨a, b, ⟨c, d⟩, ⟨p, q⟩, u, v⟩ := f3 e
    have hr : rv l = (nb l 0 - 224) * 4096 + (nb l 1 - 128) * 64 + (nb l 2 - 128) := by unfold rv; rw [if_neg (by omega), if_neg (by omega), if_pos e]
    rw [e]
    unfold Lib.encodeRune
    generalize rv l = r at *
    rw [Lib.encodeRuneZ_three (by omega)]
    have e0 : (224 + (r : Int) / 4096).toNat = nb l 0 := by omega
    have e1 : (128 + (r : Int) / 64 % 64).toNat = nb l 1 := by omega
    have e2 : (128 + (r : Int) % 64).toNat = nb l 2 := by omega
    simp only [List.range, List.range.loop, List.map_cons, List.map_nil, e0, e1, e2]
  · obtain ⟨a, b, ⟨c, d⟩, ⟨p, q⟩, ⟨x, y⟩, u, v⟩ := f4 e
    have hr : rv l = (nb l 0 - 240) * 262144 + (nb l 1 - 128) * 4096 + (nb l 2 - 128) * 64 + (nb l 3 - 128) := by unfold rv; rw [if_neg (by omega), if_neg (by omega), if_neg (by omega), if_pos e]
    rw [e]
    unfold Lib.encodeRune
    generalize rv l = r at *
    rw [Lib.encodeRuneZ_four (by omega) (by omega)]
    have e0 : (240 + (r : Int) / 262144).toNat = nb l 0 := by omega
    have e1 : (128 + (r : Int) / 4096 % 64).toNat = nb l 1 := by omega
    have e2 : (128 + (r : Int) / 64 % 64).toNat = nb l 2 := by omega
    have e3 : (128 + (r : Int) % 64).toNat = nb l 3 := by omega
    simp only [List.range, List.range.loop, List.map_cons, List.map_nil, e0, e1, e2, e3]

/-- A rune beyond ASCII. -/
theorem rv_big {l : List UInt8} (h : ¬ nb l 0 < 128) : 128 ≤ rv l := by
  obtain ⟨f2, f3, f4⟩ := sg_facts (l := l)
  have hc : sg l = 0 ∨ sg l = 2 ∨ sg l = 3 ∨ sg l = 4 := by
    have := (sg_le (l := l)).1
    have h1 : sg l ≠ 1 := fun e => h (sg_one.1 e).2
    omega
  unfold rv
  rcases hc with e | e | e | e
  · rw [e]; simp
  · have := f2 e; rw [if_neg (by omega), if_pos e]; omega
  · have := f3 e; rw [if_neg (by omega), if_neg (by omega), if_pos e]; omega
  · have := f4 e; rw [if_neg (by omega), if_neg (by omega), if_neg (by omega), if_pos e]; omega
theorem prefix_iff {l : List UInt8} : Lib.hasPrefix l [239, 191, 189] = true ↔ (3 ≤ l.length ∧ nb l 0 = 239 ∧ nb l 1 = 191 ∧ nb l 2 = 189) := by
  unfold Lib.hasPrefix nb
  match l with
  | [] => simp
  | [a] => simp
  | [a, b] => simp
  | a :: b :: c :: r =>
    simp [← UInt8.toNat_inj]
    exact ⟨fun ⟨h1, h2, h3⟩ => ⟨h1.symm, h2.symm, h3.symm⟩, fun ⟨h1, h2, h3⟩ => ⟨h1.symm, h2.symm, h3.symm⟩⟩
/-- No sign: the rune 65533 where the text has not that sign's bytes. -/
theorem bad_iff {l : List UInt8} (h0 : l.length ≠ 0) : (rv l = 65533 ∧ Lib.hasPrefix l [239, 191, 189] = false) ↔ sg l = 0 := by
  obtain ⟨f2, f3, f4⟩ := sg_facts (l := l)
  have h1 := nb_lt l 0
  constructor
  · rintro ⟨hr, hp⟩
    have hp' : ¬ (3 ≤ l.length ∧ nb l 0 = 239 ∧ nb l 1 = 191 ∧ nb l 2 = 189) := fun h => by rw [prefix_iff.2 h] at hp; cases hp
    have hle := sg_le (l := l)
    have hc : sg l = 0 ∨ sg l = 1 ∨ sg l = 2 ∨ sg l = 3 ∨ sg l = 4 := by omega
    unfold rv at hr
    rcases hc with e | e | e | e | e
    · exact e
    · rw [if_pos e] at hr; have := (sg_one.1 e).2; omega
    · have := f2 e; rw [if_neg (by omega), if_pos e] at hr; omega
    · have := f3 e; rw [if_neg (by omega), if_neg (by omega), if_pos e] at hr; omega
    · have := f4 e; rw [if_neg (by omega), if_neg (by omega), if_neg (by omega), if_pos e] at hr; omega
  · intro e
    refine ⟨by unfold rv; rw [e]; simp, ?_⟩
    cases hp : Lib.hasPrefix l [239, 191, 189] with
    | false => rfl
    | true =>
      obtain ⟨h3, a, b, c⟩ := prefix_iff.1 hp
      exfalso
      unfold sg at e
      simp only [tl_false, a, b, c] at e
      rw [if_neg h0] at e
      simp at e
      omega
end Go.Proofs.Ytoakloicjlfaaaa

/- Layer 5: the contracts of the reference's tail, Sign, Letter, Digit. Conditions: none. -/
namespace Go.Proofs.Ytoakloicjlfaaaa
open Go.RowKit
set_option linter.unusedSimpArgs false
set_option linter.unusedVariables false

theorem nb_drop (l : List UInt8) (p k : Nat) : nb (l.drop p) k = nb l (p + k) := by unfold nb; rw [List.getElem?_drop]
theorem tl_drop (l : List UInt8) (p k : Nat) : tl (l.drop p) k = tl l (p + k) := by
  unfold tl
  rw [nb_drop, List.length_drop]
  congr 2
  exact decide_eq_decide.2 (by omega)
theorem nb_get (s : ByteArray) (i : Nat) (h : i < s.size) : s[i].toNat = nb s.data.toList i := by
  unfold nb
  rw [List.getElem?_eq_getElem (by simpa using h)]
  rfl
end Go.Proofs.Ytoakloicjlfaaaa

/- Layer 5: the contracts of Letter, Digit, Hex. Written by genS4.py. Conditions: none. -/
namespace Go.Proofs.Ytoakloicjlfaaaa
open Go.RowKit
set_option linter.unusedSimpArgs false
set_option linter.unusedVariables false

def letter (c : Nat) : Bool := decide ((97 ≤ c ∧ c ≤ 122) ∨ (65 ≤ c ∧ c ≤ 90) ∨ c = 95)
def digt (c : Nat) : Bool := decide (48 ≤ c ∧ c ≤ 57)
def hexv (c : Nat) : Int := if 48 ≤ c ∧ c ≤ 57 then (c : Int) - 48 else if 97 ≤ c ∧ c ≤ 102 then (c : Int) - 97 + 10 else if 65 ≤ c ∧ c ≤ 70 then (c : Int) - 65 + 10 else -1
end Go.Proofs.Ytoakloicjlfaaaa

/- Layer 5: what quoting makes of a text, in plain lists of bytes. Conditions: none. -/
namespace Go.Proofs.Ytoakloicjlfaaaa
open Go.RowKit
set_option linter.unusedVariables false

/-- The byte of a hexadecimal digit. -/
def hxd (k : Nat) : UInt8 := if k < 10 then UInt8.ofNat (48 + k) else UInt8.ofNat (87 + k)
/-- A byte by its two digits. -/
def hx2 (c : Nat) : List UInt8 := [hxd (c / 16), hxd (c % 16)]
/-- How far a step goes. -/
def stepQ (l : List UInt8) : Nat := if sg l = 0 then 1 else sg l
/-- What a step writes. -/
def pieceQ (l : List UInt8) : List UInt8 :=
  if sg l = 0 ∨ nb l 0 = 127 then [92, 120] ++ hx2 (nb l 0)
  else if nb l 0 = 39 ∨ nb l 0 = 92 then [92, UInt8.ofNat (nb l 0)]
  else if nb l 0 = 10 then [92, 110] else if nb l 0 = 9 then [92, 116] else if nb l 0 = 13 then [92, 114]
  else if nb l 0 < 32 then [92, 120] ++ hx2 (nb l 0) else l.take (sg l)
theorem stepQ_pos (l : List UInt8) : 1 ≤ stepQ l := by unfold stepQ; split <;> omega
theorem stepQ_le {l : List UInt8} (h : l.length ≠ 0) : stepQ l ≤ l.length := by
  have := sg_le (l := l)
  unfold stepQ; split <;> omega
theorem stepQ_le4 (l : List UInt8) : stepQ l ≤ 4 := by
  have := sg_le (l := l)
  unfold stepQ; split <;> omega
theorem pieceQ_le (l : List UInt8) : (pieceQ l).length ≤ 4 := by
  have := sg_le (l := l)
  unfold pieceQ hx2
  repeat' split
  all_goals simp
  omega
/-- What lies between the quotes. -/
def quoteL (l : List UInt8) : List UInt8 := if h : l.length = 0 then [] else pieceQ l ++ quoteL (l.drop (stepQ l))
termination_by l.length
decreasing_by
  have := stepQ_pos l
  simp only [List.length_drop]
  omega
theorem quoteL_nil {l : List UInt8} (h : l.length = 0) : quoteL l = [] := by unfold quoteL; rw [dif_pos h]
theorem quoteL_step {l : List UInt8} (h : l.length ≠ 0) : quoteL l = pieceQ l ++ quoteL (l.drop (stepQ l)) := by rw [quoteL, dif_neg h]
theorem quoteL_len (l : List UInt8) : (quoteL l).length ≤ 4 * l.length := by
  induction hn : l.length using Nat.strongRecOn generalizing l with
  | _ n ih =>
    by_cases h : l.length = 0
    · rw [quoteL_nil h]; simp
    rw [quoteL_step h, List.length_append]
    have h1 := stepQ_pos l
    have h2 := stepQ_le h
    have h3 := pieceQ_le l
    have h4 := ih (l.drop (stepQ l)).length (by simp only [List.length_drop]; omega) (l.drop (stepQ l)) rfl
    simp only [List.length_drop] at h4
    omega
/-- What is written ahead of place i, and that a step goes on with it. -/
def DoneQ (l : List UInt8) (i : Nat) (d : List UInt8) : Prop := i ≤ l.length ∧ d.length ≤ 4 * i ∧ d ++ quoteL (l.drop i) = quoteL l
theorem doneQ_zero (l : List UInt8) : DoneQ l 0 [] := ⟨by omega, by simp, by simp⟩
theorem doneQ_step {l d : List UInt8} {i : Nat} (h : DoneQ l i d) (hi : i < l.length) : DoneQ l (i + stepQ (l.drop i)) (d ++ pieceQ (l.drop i)) := by
  obtain ⟨h1, h2, h3⟩ := h
  have hl : (l.drop i).length ≠ 0 := by simp; omega
  have a := stepQ_le hl
  have b := stepQ_pos (l.drop i)
  have c := pieceQ_le (l.drop i)
  rw [List.length_drop] at a
  refine ⟨by omega, by rw [List.length_append]; omega, ?_⟩
  rw [quoteL_step hl, List.drop_drop] at h3
  rw [← h3, List.append_assoc]
theorem doneQ_end {l d : List UInt8} {i : Nat} (h : DoneQ l i d) (hi : l.length ≤ i) : d = quoteL l := by
  obtain ⟨h1, h2, h3⟩ := h
  rw [quoteL_nil (by simp; omega), List.append_nil] at h3
  exact h3
end Go.Proofs.Ytoakloicjlfaaaa

/- Layer 5: the contract of the reference's hex. Conditions: none. -/
namespace Go.Proofs.Ytoakloicjlfaaaa
open Go.RowKit
set_option linter.unusedSimpArgs false
set_option linter.unusedVariables false

def strOf (l : List UInt8) : ByteArray := ⟨l.toArray⟩
theorem strOf_list (l : List UInt8) : (strOf l).toList = l := by simp [strOf]
theorem strOf_size (l : List UInt8) : (strOf l).size = l.length := by simp [strOf, ByteArray.size]
theorem nums_of_bytes (l : List UInt8) : strOfNums (l.map fun c => (c.toNat : Int)) = strOf l := by
  unfold strOfNums strOf
  rw [List.map_map]
  congr 2
  refine (List.map_congr_left fun c _ => ?_).trans (List.map_id l)
  simp
theorem lit_at (k : Nat) (h : k < 16) : ∀ h' : k < (ByteArray.mk #[48, 49, 50, 51, 52, 53, 54, 55, 56, 57, 97, 98, 99, 100, 101, 102]).size, (ByteArray.mk #[48, 49, 50, 51, 52, 53, 54, 55, 56, 57, 97, 98, 99, 100, 101, 102])[k].toNat = (hxd k).toNat := by
  have : k = 0 ∨ k = 1 ∨ k = 2 ∨ k = 3 ∨ k = 4 ∨ k = 5 ∨ k = 6 ∨ k = 7 ∨ k = 8 ∨ k = 9 ∨ k = 10 ∨ k = 11 ∨ k = 12 ∨ k = 13 ∨ k = 14 ∨ k = 15 := by omega
  rcases this with h | h | h | h | h | h | h | h | h | h | h | h | h | h | h | h <;> subst h <;> intro _ <;> rfl

theorem convTwo (w : World) (b d : UInt8) : (convert 62 9 (.slice (some ⟨w.heap.size, 0, none⟩) 2 2)).run Try.prog (w.alloc (.cells #[.int .u8 b.toNat, .int .u8 d.toNat] 5)).drew = .ok (.string (strOf [b, d])) (w.alloc (.cells #[.int .u8 b.toNat, .int .u8 d.toNat] 5)).drew := by
  have hc := run_convert_bytes_arg (P := Try.prog) (w.alloc (.cells #[.int .u8 b.toNat, .int .u8 d.toNat] 5)).drew 62 5 Try.underlying62 Try.underlying5 w.heap.size 0 2 2 ([b, d].map fun c => (c.toNat : Int)) rfl (fun i hi => by
    have : i = 0 ∨ i = 1 := by omega
    rcases this with h | h <;> subst h <;> simp) 9 Try.underlying9
  rw [nums_of_bytes] at hc
  exact hc
end Go.Proofs.Ytoakloicjlfaaaa

/- Layer 5: the contract of the reference's Quote. Written by genS7.py. Conditions: the text is no longer than 2^40. -/
namespace Go.Proofs.Ytoakloicjlfaaaa
open Go.RowKit
set_option linter.unusedSimpArgs false
set_option linter.unusedVariables false

theorem strOf_append (p q : List UInt8) : strOf p ++ strOf q = strOf (p ++ q) := by
  apply ByteArray.ext; simp [strOf]
theorem extract_strOf (s : ByteArray) (k n : Nat) (h : k + n ≤ s.size) : s.extract k (k + n) = strOf ((s.data.toList.drop k).take n) := by
  apply ByteArray.ext
  apply Array.ext'
  simp [strOf]
/-- Adding a text to a text of bytes. -/
theorem add_of (p q : List UInt8) (B : ByteArray) (hB : strOf q = B) (u : World) (h : p.length + q.length ≤ 9223372036854775807) {r : List UInt8} (hr : p ++ q = r) : (Op.stringOp .add (strOf p) B).run Try.prog u = .ok (.string (strOf r)) u := by
  subst hr
  subst hB
  rw [← strOf_append]
  exact run_string_add_sum (P := Try.prog) (w := u) (strOf p) (strOf q) (by rw [strOf_size, strOf_size]; exact h)
end Go.Proofs.Ytoakloicjlfaaaa

/- The shelf's contracts of strings.Builder and of a few functions of strings at this dump, under one numbering. Conditions: none. -/
namespace Go.Proofs.Ytoakloicjlfaaaa
open Go.Shelf Go.Proofs Go.RowKit
def shRen : Go.Shelf.Ren := ⟨fun | 99 => 83 | 156 => 64 | 165 => 85 | 166 => 33 | 167 => 35 | 168 => 82 | 169 => 38 | 206 => 96 | 240 => 62 | 241 => 97 | 242 => 95 | 276 => 81 | 277 => 103 | 278 => 102 | n => n, fun | 0 => 0 | 3 => 3 | 4 => 4 | 5 => 5 | 9 => 9 | 20 => 20 | 21 => 21 | 31 => 35 | 37 => 62 | 46 => 117 | 51 => 123 | 70 => 61 | 72 => 64 | 75 => 66 | 76 => 67 | 80 => 76 | 127 => 96 | 164 => 108 | n => n, fun | n => n⟩
theorem shLays168 : Go.Proofs.Lays.n168 Try.prog shRen := {
  mixed := by kernel_rfl
  f168 := Try.func82.trans (congrArg some (by kernel_rfl))
  f240 := Try.func62.trans (congrArg some (by kernel_rfl))
  f242 := Try.func95.trans (congrArg some (by kernel_rfl))
  f276 := Try.func81.trans (congrArg some (by kernel_rfl))
  f278 := Try.func102.trans (congrArg some (by kernel_rfl))
  t0 := Try.underlying0
  a0 := Try.isAgg0
  z0 := Try.sizeOf0
  v0 := Try.zeroValue0
  t3 := Try.underlying3
  a3 := Try.isAgg3
  z3 := Try.sizeOf3
  v3 := Try.zeroValue3
  t4 := Try.underlying4
  a4 := Try.isAgg4
  z4 := Try.sizeOf4
  v4 := Try.zeroValue4
  t5 := Try.underlying5
  a5 := Try.isAgg5
  z5 := Try.sizeOf5
  v5 := Try.zeroValue5
  t9 := Try.underlying9
  a9 := Try.isAgg9
  z9 := Try.sizeOf9
  v9 := Try.zeroValue9
  t20 := Try.underlying20
  a20 := Try.isAgg20
  z20 := Try.sizeOf20
  v20 := Try.zeroValue20
  t21 := Try.underlying21
  a21 := Try.isAgg21
  z21 := Try.sizeOf21
  v21 := Try.zeroValue21
  t37 := Try.underlying62
  a37 := Try.isAgg62
  z37 := Try.sizeOf62
  v37 := Try.zeroValue62
  t46 := Try.underlying117
  a46 := Try.isAgg117
  z46 := Try.sizeOf117
  v46 := Try.zeroValue117
  t51 := Try.underlying123
  a51 := Try.isAgg123
  z51 := Try.sizeOf123
  v51 := Try.zeroValue123
  t70 := Try.underlying61
  a70 := Try.isAgg61
  z70 := Try.sizeOf61
  v70 := Try.zeroValue61
  t72 := Try.underlying64
  a72 := Try.isAgg64
  z72 := Try.sizeOf64
  v72 := Try.zeroValue64
  t75 := Try.underlying66
  a75 := Try.isAgg66
  z75 := Try.sizeOf66
  v75 := Try.zeroValue66
  t164 := Try.underlying108
  a164 := Try.isAgg108
  z164 := Try.sizeOf108
  v164 := Try.zeroValue108
}
theorem shLays167 : Go.Proofs.Lays.n167 Try.prog shRen := {
  mixed := by kernel_rfl
  f167 := Try.func35.trans (congrArg some (by kernel_rfl))
  f240 := Try.func62.trans (congrArg some (by kernel_rfl))
  f276 := Try.func81.trans (congrArg some (by kernel_rfl))
  t0 := Try.underlying0
  a0 := Try.isAgg0
  z0 := Try.sizeOf0
  v0 := Try.zeroValue0
  t4 := Try.underlying4
  a4 := Try.isAgg4
  z4 := Try.sizeOf4
  v4 := Try.zeroValue4
  t5 := Try.underlying5
  a5 := Try.isAgg5
  z5 := Try.sizeOf5
  v5 := Try.zeroValue5
  t9 := Try.underlying9
  a9 := Try.isAgg9
  z9 := Try.sizeOf9
  v9 := Try.zeroValue9
  t20 := Try.underlying20
  a20 := Try.isAgg20
  z20 := Try.sizeOf20
  v20 := Try.zeroValue20
  t37 := Try.underlying62
  a37 := Try.isAgg62
  z37 := Try.sizeOf62
  v37 := Try.zeroValue62
  t70 := Try.underlying61
  a70 := Try.isAgg61
  z70 := Try.sizeOf61
  v70 := Try.zeroValue61
  t72 := Try.underlying64
  a72 := Try.isAgg64
  z72 := Try.sizeOf64
  v72 := Try.zeroValue64
  t75 := Try.underlying66
  a75 := Try.isAgg66
  z75 := Try.sizeOf66
  v75 := Try.zeroValue66
  t164 := Try.underlying108
  a164 := Try.isAgg108
  z164 := Try.sizeOf108
  v164 := Try.zeroValue108
}
theorem shLays166 : Go.Proofs.Lays.n166 Try.prog shRen := {
  mixed := by kernel_rfl
  f166 := Try.func33.trans (congrArg some (by kernel_rfl))
  f240 := Try.func62.trans (congrArg some (by kernel_rfl))
  f276 := Try.func81.trans (congrArg some (by kernel_rfl))
  t0 := Try.underlying0
  a0 := Try.isAgg0
  z0 := Try.sizeOf0
  v0 := Try.zeroValue0
  t3 := Try.underlying3
  a3 := Try.isAgg3
  z3 := Try.sizeOf3
  v3 := Try.zeroValue3
  t4 := Try.underlying4
  a4 := Try.isAgg4
  z4 := Try.sizeOf4
  v4 := Try.zeroValue4
  t9 := Try.underlying9
  a9 := Try.isAgg9
  z9 := Try.sizeOf9
  v9 := Try.zeroValue9
  t20 := Try.underlying20
  a20 := Try.isAgg20
  z20 := Try.sizeOf20
  v20 := Try.zeroValue20
  t37 := Try.underlying62
  a37 := Try.isAgg62
  z37 := Try.sizeOf62
  v37 := Try.zeroValue62
  t70 := Try.underlying61
  a70 := Try.isAgg61
  z70 := Try.sizeOf61
  v70 := Try.zeroValue61
  t72 := Try.underlying64
  a72 := Try.isAgg64
  z72 := Try.sizeOf64
  v72 := Try.zeroValue64
  t75 := Try.underlying66
  a75 := Try.isAgg66
  z75 := Try.sizeOf66
  v75 := Try.zeroValue66
  t164 := Try.underlying108
  a164 := Try.isAgg108
  z164 := Try.sizeOf108
  v164 := Try.zeroValue108
}
theorem shLays169 : Go.Proofs.Lays.n169 Try.prog shRen := {
  mixed := by kernel_rfl
  f169 := Try.func38.trans (congrArg some (by kernel_rfl))
  t0 := Try.underlying0
  a0 := Try.isAgg0
  z0 := Try.sizeOf0
  v0 := Try.zeroValue0
  t3 := Try.underlying3
  a3 := Try.isAgg3
  z3 := Try.sizeOf3
  v3 := Try.zeroValue3
  t9 := Try.underlying9
  a9 := Try.isAgg9
  z9 := Try.sizeOf9
  v9 := Try.zeroValue9
  t37 := Try.underlying62
  a37 := Try.isAgg62
  z37 := Try.sizeOf62
  v37 := Try.zeroValue62
  t70 := Try.underlying61
  a70 := Try.isAgg61
  z70 := Try.sizeOf61
  v70 := Try.zeroValue61
  t72 := Try.underlying64
  a72 := Try.isAgg64
  z72 := Try.sizeOf64
  v72 := Try.zeroValue64
  t127 := Try.underlying96
  a127 := Try.isAgg96
  z127 := Try.sizeOf96
  v127 := Try.zeroValue96
}
theorem shLays99 : Go.Proofs.Lays.n99 Try.prog shRen := {
  mixed := by kernel_rfl
  f99 := Try.func83.trans (congrArg some (by kernel_rfl))
  f206 := Try.func96.trans (congrArg some (by kernel_rfl))
  t3 := Try.underlying3
  a3 := Try.isAgg3
  z3 := Try.sizeOf3
  v3 := Try.zeroValue3
  t4 := Try.underlying4
  a4 := Try.isAgg4
  z4 := Try.sizeOf4
  v4 := Try.zeroValue4
  t9 := Try.underlying9
  a9 := Try.isAgg9
  z9 := Try.sizeOf9
  v9 := Try.zeroValue9
}
theorem shLays156 : Go.Proofs.Lays.n156 Try.prog shRen := {
  mixed := by kernel_rfl
  f156 := Try.func64.trans (congrArg some (by kernel_rfl))
  f165 := Try.func85.trans (congrArg some (by kernel_rfl))
  f166 := Try.func33.trans (congrArg some (by kernel_rfl))
  f169 := Try.func38.trans (congrArg some (by kernel_rfl))
  f240 := Try.func62.trans (congrArg some (by kernel_rfl))
  f241 := Try.func97.trans (congrArg some (by kernel_rfl))
  f276 := Try.func81.trans (congrArg some (by kernel_rfl))
  f277 := Try.func103.trans (congrArg some (by kernel_rfl))
  t0 := Try.underlying0
  a0 := Try.isAgg0
  z0 := Try.sizeOf0
  v0 := Try.zeroValue0
  t3 := Try.underlying3
  a3 := Try.isAgg3
  z3 := Try.sizeOf3
  v3 := Try.zeroValue3
  t4 := Try.underlying4
  a4 := Try.isAgg4
  z4 := Try.sizeOf4
  v4 := Try.zeroValue4
  t9 := Try.underlying9
  a9 := Try.isAgg9
  z9 := Try.sizeOf9
  v9 := Try.zeroValue9
  t20 := Try.underlying20
  a20 := Try.isAgg20
  z20 := Try.sizeOf20
  v20 := Try.zeroValue20
  t31 := Try.underlying35
  a31 := Try.isAgg35
  z31 := Try.sizeOf35
  v31 := Try.zeroValue35
  t37 := Try.underlying62
  a37 := Try.isAgg62
  z37 := Try.sizeOf62
  v37 := Try.zeroValue62
  t70 := Try.underlying61
  a70 := Try.isAgg61
  z70 := Try.sizeOf61
  v70 := Try.zeroValue61
  t72 := Try.underlying64
  a72 := Try.isAgg64
  z72 := Try.sizeOf64
  v72 := Try.zeroValue64
  t75 := Try.underlying66
  a75 := Try.isAgg66
  z75 := Try.sizeOf66
  v75 := Try.zeroValue66
  t76 := Try.underlying67
  a76 := Try.isAgg67
  z76 := Try.sizeOf67
  v76 := Try.zeroValue67
  t127 := Try.underlying96
  a127 := Try.isAgg96
  z127 := Try.sizeOf96
  v127 := Try.zeroValue96
  t164 := Try.underlying108
  a164 := Try.isAgg108
  z164 := Try.sizeOf108
  v164 := Try.zeroValue108
}
theorem shExtra : Builder.Extra Try.prog shRen := {
  sizeBuilder := by kernel_rfl
  liesBuilder := by kernel_rfl
  t5 := Try.underlying5
  a5 := Try.isAgg5
  z5 := Try.sizeOf5
  v5 := Try.zeroValue5
  infoByte := by kernel_rfl
  cellsByte := by kernel_rfl
  sizeByte := by kernel_rfl
  neB5 := by decide }
end Go.Proofs.Ytoakloicjlfaaaa

/- Layer 5: the builder's writers over lists of bytes; the contract of coded. Conditions: none. -/
namespace Go.Proofs.Ytoakloicjlfaaaa
open Go.RowKit Go.Shelf
set_option linter.unusedSimpArgs false
set_option linter.unusedVariables false

/-- The call's own builder, in block b, holds these bytes. -/
def Bld (B b : Nat) (l : List UInt8) (w : World) : Prop := Lib.IsBuilderF 64 5 B b (Lib.byteCells l) w
/-- What a writer leaves: the builder with more bytes, all else as it was. -/
def Wrote (B b : Nat) (l : List UInt8) (w w' : World) : Prop := Bld B b l w' ∧ Below B w w' ∧ Lib.OthersKept 5 (some b) w w'

theorem bld_byte (B b : Nat) (l : List UInt8) (c : Nat) (w : World) (h : Bld B b l w) (hl : l.length + 1 ≤ 140737488355328) (hB : B ≤ w.heap.size) (hc : c < 256) :
    Calls Try.prog 35 #[.pointer (some ⟨b, 0, none⟩), .int .u8 c] w fun e w' => e = .returned .nilIface ∧ Wrote B b (l ++ [UInt8.ofNat c]) w w' := by
  refine (Any.Builder_WriteByte_k { shLays167 with } shExtra B b (Lib.byteCells l) c w h (by rw [Lib.byteCells_length]; exact hl) hB).mono ?_
  rintro e w' ⟨rfl, h1, b1, k1⟩
  refine ⟨rfl, Or.inr ?_, b1, k1⟩
  rw [Lib.byteCells_append, show Lib.byteCells [UInt8.ofNat c] = [.int .u8 c] from by simp [Lib.byteCells]; omega]
  exact h1
theorem bld_string (B b : Nat) (l : List UInt8) (s : ByteArray) (w : World) (h : Bld B b l w) (hl : l.length + s.size ≤ 140737488355328) (hB : B ≤ w.heap.size) :
    Calls Try.prog 33 #[.pointer (some ⟨b, 0, none⟩), .string s] w fun e w' => e = .returned (.tuple #[.int .i64 s.size, .nilIface]) ∧ Wrote B b (l ++ s.data.toList) w w' := by
  refine (Any.Builder_WriteString_k { shLays166 with } shExtra B b (Lib.byteCells l) s w h (by rw [Lib.byteCells_length]; exact hl) hB).mono ?_
  rintro e w' ⟨rfl, h1, b1, k1⟩
  refine ⟨rfl, Or.inr ?_, b1, k1⟩
  rw [Lib.byteCells_append]
  exact h1
theorem bld_rune (B b : Nat) (l : List UInt8) (r : Nat) (w : World) (h : Bld B b l w) (hl : l.length + 4 ≤ 140737488355328) (hB : B ≤ w.heap.size) (hr : r ≤ 2147483647) :
    Calls Try.prog 82 #[.pointer (some ⟨b, 0, none⟩), .int .i32 r] w fun e w' => e = .returned (.tuple #[.int .i64 (Lib.runeCells r).length, .nilIface]) ∧ Wrote B b (l ++ Lib.encodeRune r) w w' := by
  refine (Any.Builder_WriteRune_k { shLays168 with } shExtra B b (Lib.byteCells l) r (by omega) (by omega) w h (by rw [Lib.byteCells_length]; exact hl) hB).mono ?_
  rintro e w' ⟨rfl, h1, b1, k1⟩
  refine ⟨rfl, Or.inr ?_, b1, k1⟩
  rw [Lib.byteCells_append, Lib.byteCells_encodeRune]
  exact h1
theorem bld_str (B b : Nat) (l : List UInt8) (w : World) (h : Bld B b l w) (hB : B ≤ w.heap.size) :
    Calls Try.prog 38 #[.pointer (some ⟨b, 0, none⟩)] w fun e w' => e = .returned (.string (strOf l)) ∧ Wrote B b l w w' := by
  refine (Any.Builder_String_any_k { shLays169 with } shExtra B b l w h hB).mono ?_
  rintro e w' ⟨rfl, h1, b1, k1⟩
  exact ⟨rfl, h1, b1, k1⟩
theorem Wrote.trans {B b : Nat} {l l' : List UInt8} {w w' w'' : World} (h : Wrote B b l w w') (k : Wrote B b l' w' w'') : Wrote B b l' w w'' := ⟨k.1, h.2.1.trans k.2.1, h.2.2.trans k.2.2⟩
theorem Wrote.size {B b : Nat} {l : List UInt8} {w w' : World} (h : Wrote B b l w w') : B ≤ w.heap.size → B ≤ w'.heap.size := fun k => Nat.le_trans k h.2.1.size

set_option maxRecDepth 20000 in
theorem coded_any (B b : Nat) (l : List UInt8) (c : Nat) (w : World) (h : Bld B b l w) (hl : l.length + 4 ≤ 140737488355328) (hB : B ≤ w.heap.size) (hc : c < 256) :
    Calls Try.prog 84 #[.pointer (some ⟨b, 0, none⟩), .int .u8 c] w fun e w' => e = .returned (.tuple #[]) ∧ Wrote B b (l ++ ([92, 120] ++ hx2 c)) w w' := by
  have h1 : c / 16 < 16 := by omega
  have h2 : c % 16 < 16 := by omega
  have L1 := lit_at _ h1 h1
  have L2 := lit_at _ h2 h2
  have H1 := Lib.hid (bld_string B b l ⟨#[92, 120]⟩ w h (by have : (ByteArray.mk #[92, 120]).size = 2 := rfl; omega) hB)
  have hq : (c : Int) / 16 = ((c / 16 : Nat) : Int) := by omega
  have p1 : (0 : Int) ≤ ((c / 16 : Nat) : Int) := by omega
  have p2 : ((c / 16 : Nat) : Int) < 16 := by omega
  rw [show hx2 c = [hxd (c / 16), hxd (c % 16)] from rfl]
  have hr : (c : Int) % 16 = ((c % 16 : Nat) : Int) := by omega
  have p3 : (0 : Int) ≤ ((c % 16 : Nat) : Int) := by omega
  have p4 : ((c % 16 : Nat) : Int) < 16 := by omega
  generalize c / 16 = p at *
  generalize c % 16 = q at *
  go_enter Try.func84, Try.ntmps84
  go_wp2_with fail
  refine H1.out.mono ?_
  rintro e w1 ⟨rfl, k1⟩
  have K1 := Lib.hid k1
  clear k1
  go_wp2_with fail
  refine (bld_byte B b _ _ w1 K1.out.1 (by simp; omega) (K1.out.size hB) (hxd p).toNat_lt).mono ?_
  rintro e w2 ⟨rfl, k2⟩
  have K2 := Lib.hid k2
  clear k2
  go_wp2_with fail
  refine (bld_byte B b _ _ w2 K2.out.1 (by simp; omega) (K2.out.size (K1.out.size hB)) (hxd q).toNat_lt).mono ?_
  rintro e w3 ⟨rfl, k3⟩
  have K3 := Lib.hid k3
  clear k3
  go_wp2_with fail
  go_end0
  refine ⟨rfl, ?_⟩
  have := (K1.out.trans K2.out).trans K3.out
  simpa using this
end Go.Proofs.Ytoakloicjlfaaaa

/- Layer 5: what quoting makes of a sign, by its rune. Conditions: none. -/
namespace Go.Proofs.Ytoakloicjlfaaaa
open Go.RowKit
set_option linter.unusedVariables false

theorem rv_small {l : List UInt8} (h0 : l.length ≠ 0) (h : rv l < 128) : sg l = 1 ∧ nb l 0 = rv l := by
  have h1 : nb l 0 < 128 := Classical.byContradiction fun hh => by have := rv_big hh; omega
  have h2 := sg_one.2 ⟨h0, h1⟩
  exact ⟨h2, by unfold rv; rw [if_pos h2]⟩
theorem encode_one {l : List UInt8} (h : sg l = 1) : Lib.encodeRune (rv l : Int) = [UInt8.ofNat (nb l 0)] := by
  rw [encode_sign (by omega), h, take_nb l 1 (by have := (sg_le (l := l)).2; omega)]; rfl
theorem pieceQ_1 {l : List UInt8} (h0 : l.length ≠ 0) (h : rv l = 92 ∨ rv l = 39) : pieceQ l = [92] ++ Lib.encodeRune (rv l : Int) := by
  obtain ⟨h1, h2⟩ := rv_small h0 (by omega)
  rw [encode_one h1]
  unfold pieceQ
  rw [if_neg (by omega), if_pos (by omega)]
  rfl
theorem pieceQ_10 {l : List UInt8} (h0 : l.length ≠ 0) (h : rv l = 10) : pieceQ l = [92, 110] := by
  obtain ⟨h1, h2⟩ := rv_small h0 (by omega)
  unfold pieceQ
  rw [if_neg (by omega), if_neg (by omega), if_pos (by omega)]
theorem pieceQ_9 {l : List UInt8} (h0 : l.length ≠ 0) (h : rv l = 9) : pieceQ l = [92, 116] := by
  obtain ⟨h1, h2⟩ := rv_small h0 (by omega)
  unfold pieceQ
  rw [if_neg (by omega), if_neg (by omega), if_neg (by omega), if_pos (by omega)]
theorem pieceQ_13 {l : List UInt8} (h0 : l.length ≠ 0) (h : rv l = 13) : pieceQ l = [92, 114] := by
  obtain ⟨h1, h2⟩ := rv_small h0 (by omega)
  unfold pieceQ
  rw [if_neg (by omega), if_neg (by omega), if_neg (by omega), if_neg (by omega), if_pos (by omega)]
theorem pieceQ_c {l : List UInt8} (h0 : l.length ≠ 0) (h : (rv l < 32 ∧ rv l ≠ 10 ∧ rv l ≠ 9 ∧ rv l ≠ 13) ∨ rv l = 127 ∨ (rv l = 65533 ∧ Lib.hasPrefix l [239, 191, 189] = false)) : pieceQ l = [92, 120] ++ hx2 (nb l 0) := by
  unfold pieceQ
  rcases h with h | h | h
  · obtain ⟨h1, h2⟩ := rv_small h0 (by omega)
    rw [if_neg (by omega), if_neg (by omega), if_neg (by omega), if_neg (by omega), if_neg (by omega), if_pos (by omega)]
  · obtain ⟨h1, h2⟩ := rv_small h0 (by omega)
    rw [if_pos (by omega)]
  · rw [if_pos (.inl ((bad_iff h0).1 h))]
theorem pieceQ_r {l : List UInt8} (h0 : l.length ≠ 0) (h1 : rv l ≠ 92) (h2 : rv l ≠ 39) (h3 : ¬ rv l < 32) (h4 : rv l ≠ 127) (h5 : rv l ≠ 65533 ∨ Lib.hasPrefix l [239, 191, 189] = true) : pieceQ l = Lib.encodeRune (rv l : Int) := by
  have hs : sg l ≠ 0 := fun e => by
    have := (bad_iff h0).2 e
    rcases h5 with h5 | h5
    · exact h5 this.1
    · rw [h5] at this; cases this.2
  rw [encode_sign hs]
  unfold pieceQ
  by_cases hb : nb l 0 < 128
  · have h6 := sg_one.2 ⟨h0, hb⟩
    have h7 : rv l = nb l 0 := by unfold rv; rw [if_pos h6]
    rw [if_neg (by omega), if_neg (by omega), if_neg (by omega), if_neg (by omega), if_neg (by omega), if_neg (by omega)]
  · rw [if_neg (by omega), if_neg (by omega), if_neg (by omega), if_neg (by omega), if_neg (by omega), if_neg (by omega)]
end Go.Proofs.Ytoakloicjlfaaaa

/- Layer 5: the contract of the program's Quote. Written by genS10.py. Conditions: the text is no longer than 2^40. -/
namespace Go.Proofs.Ytoakloicjlfaaaa
open Go.RowKit Go.Shelf
set_option linter.unusedSimpArgs false
set_option linter.unusedVariables false

theorem Wrote.old {B : Nat} {l : List UInt8} {a w w' : World} (h : Wrote B B l w w') (k : Below B a w) : Below B a w' := k.trans h.2.1

theorem hasPrefix_any (s : ByteArray) (b : Bool) (w : World) (h : Lib.hasPrefix s.data.toList [239, 191, 189] = b) :
    Calls Try.prog 83 #[.string s, .string ⟨#[239, 191, 189]⟩] w fun e w' => e = .returned (.bool b) ∧ w = w' := by
  refine (Any.strings_HasPrefix { shLays99 with } s ⟨#[239, 191, 189]⟩ w).mono ?_
  rintro e w' ⟨rfl, rfl⟩
  exact ⟨by rw [← h], rfl⟩

set_option maxRecDepth 1000000 in
set_option maxHeartbeats 4000000 in
theorem quote_any (s : ByteArray) (w : World) (hs : s.size ≤ 1099511627776) :
    Calls Try.prog 63 #[.string s] w fun e w' => e = .returned (.string (strOf (39 :: (quoteL s.data.toList ++ [39])))) ∧ Below w.heap.size w w' := by
  go_enter Try.func63, Try.ntmps63
  go_wp2_with fail
  have HI0 := Lib.hid (show Bld w.heap.size w.heap.size [] _ from (Lib.IsBuilderF.of (Lib.fresh_isBuilder 64 5 w)))
  refine (bld_byte w.heap.size w.heap.size [] 39 _ HI0.out (by simp) (by simp) (by omega)).mono ?_
  rintro e W1 ⟨rfl, k1⟩
  have hbl := k1.old ((Below.refl _ w).alloc (Nat.le_refl _) _)
  have hsz := k1.2.1.size
  simp at hsz
  have HI1 := Lib.hid k1.1
  clear HI0 k1
  go_wp2_with fail
  go_loopw [] (fun wr => ∃ (pos : Nat) (d : List UInt8), Bld w.heap.size w.heap.size (39 :: d) wr ∧ wr.heap[W1.heap.size]? = some (.stringIter s pos) ∧ Below w.heap.size w wr ∧ Hid (DoneQ s.data.toList pos d)) (fun wr => s.size - wr.iterPos W1.heap.size)
  case atStart =>
    refine ⟨0, [], HI1.out.alloc _, ?_, hbl.alloc (by omega) _, Lib.hid (doneQ_zero _)⟩
    have := World.iter_heap W1 s 0
    simpa using this
  case round =>
    obtain ⟨pos, d, hI, hit, hbw, hd⟩ := hrel
    have hszr : W1.heap.size < wr.heap.size := (Array.getElem?_eq_some_iff.1 hit).1
    have HIT := Lib.hid hit
    clear hit
    have HBW := Lib.hid hbw
    clear hbw HI1 hbl
    have HI := Lib.hid hI
    clear hI
    by_cases hp : pos < s.size
    · have hnx : ∀ ty, (Instr.next (.pointer (some ⟨W1.heap.size, 0, none⟩)) true ty).run Try.prog wr = _ := fun ty => Lib.run_next_any_at wr W1.heap.size s pos ty HIT.out hp
      have hln : (s.data.toList.drop pos).length ≠ 0 := by simp; omega
      have hdec := decode_spec s pos hp
      have NX := Lib.hid (doneQ_step hd.out (by simp; exact hp))
      have hdl := hd.out.2.1
      have hmv : (if sg (s.data.toList.drop pos) = 0 then 1 else sg (s.data.toList.drop pos)) = stepQ (s.data.toList.drop pos) := rfl
      rw [hmv] at hdec
      have hm1 := stepQ_pos (s.data.toList.drop pos)
      have hm2 := stepQ_le hln
      rw [List.length_drop] at hm2
      simp only [Array.length_toList, ByteArray.size_data] at hm2
      have hrl : rv (s.data.toList.drop pos) ≤ 2147483647 := by have := decode_le s pos; rw [hdec] at this; exact this
      rw [hdec] at hnx
      dsimp only at hnx
      have HPC : Hid (∀ c, c = s[pos] → nb (s.data.toList.drop pos) 0 = c.toNat) := Lib.hid (fun c hc => by rw [nb_drop, Nat.add_zero, hc, nb_get s pos hp])
      have hcb : s[pos].toNat < 256 := by have := s[pos].toNat_lt; omega
      have HX := Lib.hid (HPC.out _ rfl)
      have R1 := Lib.hid (pieceQ_1 hln)
      have R10 := Lib.hid (pieceQ_10 hln)
      have R9 := Lib.hid (pieceQ_9 hln)
      have R13 := Lib.hid (pieceQ_13 hln)
      have RC := Lib.hid (pieceQ_c hln)
      have RR := Lib.hid (pieceQ_r hln)
      have hex : s.extract pos s.size = strOf (s.data.toList.drop pos) := by
        have h := extract_strOf s pos (s.size - pos) (by omega)
        rw [show pos + (s.size - pos) = s.size from by omega, List.take_of_length_le (by simp)] at h
        exact h
      have HEX := Lib.hid hex
      clear hex hdec hmv HPC
      rw [HX.out] at RC
      generalize rv (s.data.toList.drop pos) = r at *
      generalize pieceQ (s.data.toList.drop pos) = P at *
      generalize stepQ (s.data.toList.drop pos) = m at *
      have HI2 := Lib.hid (show Bld w.heap.size w.heap.size (39 :: d) (wr.iterAt W1.heap.size s (pos + m)) from (HI.out.iterAt HIT.out (pos + m)))
      have HIT2 := Lib.hid (Lib.iterAt_heap wr W1.heap.size s pos (pos + m) HIT.out)
      have HBW2 := Lib.hid (Lib.below_iterAt HBW.out (k := W1.heap.size) (by omega) s (pos + m))
      have hsz2 : w.heap.size ≤ (wr.iterAt W1.heap.size s (pos + m)).heap.size := by rw [Lib.iterAt_size]; omega
      generalize hWn : wr.iterAt W1.heap.size s (pos + m) = Wn at *
      have HWn := Lib.hid hWn
      clear hWn HX
      by_cases a92 : r = 92
      · have q92 : ((r : Int) == 92) = true := by simp; omega
        have HP := Lib.hid (R1.out (by omega))
        clear a92
        go_wp2_with fail
        refine (bld_byte w.heap.size w.heap.size _ 92 _ HI2.out (by simp; omega) hsz2 (by omega)).mono ?_
        rintro e Wa ⟨rfl, kWa⟩
        have KWa := Lib.hid kWa
        clear kWa
        go_wp2_with fail
        refine (bld_rune w.heap.size w.heap.size _ r _ KWa.out.1 (by simp; omega) (KWa.out.size hsz2) hrl).mono ?_
        rintro e Wb ⟨rfl, kWb⟩
        have KWb := Lib.hid kWb
        clear kWb
        have KW := Lib.hid (KWa.out.trans KWb.out)
        go_wp2_with fail
        go_roundw
        case rel => exact ⟨pos + m, d ++ P, by have := KW.out.1; rw [show P = _ from HP.out]; simpa using this, KW.out.2.2.iter HIT2.out (by simp; omega), HBW2.out.trans KW.out.2.1, NX⟩
        case measure => simp only [World.iterPos, KW.out.2.2.iter HIT2.out (by simp; omega), HIT.out]; omega
      have q92 : ((r : Int) == 92) = false := by simp; omega
      by_cases a39 : r = 39
      · have q39 : ((r : Int) == 39) = true := by simp; omega
        have HP := Lib.hid (R1.out (by omega))
        clear a39
        go_wp2_with fail
        refine (bld_byte w.heap.size w.heap.size _ 92 _ HI2.out (by simp; omega) hsz2 (by omega)).mono ?_
        rintro e Wa ⟨rfl, kWa⟩
        have KWa := Lib.hid kWa
        clear kWa
        go_wp2_with fail
        refine (bld_rune w.heap.size w.heap.size _ r _ KWa.out.1 (by simp; omega) (KWa.out.size hsz2) hrl).mono ?_
        rintro e Wb ⟨rfl, kWb⟩
        have KWb := Lib.hid kWb
        clear kWb
        have KW := Lib.hid (KWa.out.trans KWb.out)
        go_wp2_with fail
        go_roundw
        case rel => exact ⟨pos + m, d ++ P, by have := KW.out.1; rw [show P = _ from HP.out]; simpa using this, KW.out.2.2.iter HIT2.out (by simp; omega), HBW2.out.trans KW.out.2.1, NX⟩
        case measure => simp only [World.iterPos, KW.out.2.2.iter HIT2.out (by simp; omega), HIT.out]; omega
      have q39 : ((r : Int) == 39) = false := by simp; omega
      by_cases a10 : r = 10
      · have q10 : ((r : Int) == 10) = true := by simp; omega
        have HP := Lib.hid (R10.out a10)
        clear a10
        go_wp2_with fail
        refine (bld_string w.heap.size w.heap.size _ ⟨#[92, 110]⟩ _ HI2.out (by have : (ByteArray.mk #[92, 110]).size = 2 := rfl; simp; omega) hsz2).mono ?_
        rintro e KW0 ⟨rfl, kKW0⟩
        have KKW0 := Lib.hid kKW0
        clear kKW0
        have KW := KKW0
        go_wp2_with fail
        go_roundw
        case rel => exact ⟨pos + m, d ++ P, by have := KW.out.1; rw [show P = _ from HP.out]; simpa using this, KW.out.2.2.iter HIT2.out (by simp; omega), HBW2.out.trans KW.out.2.1, NX⟩
        case measure => simp only [World.iterPos, KW.out.2.2.iter HIT2.out (by simp; omega), HIT.out]; omega
      have q10 : ((r : Int) == 10) = false := by simp; omega
      by_cases a9 : r = 9
      · have q9 : ((r : Int) == 9) = true := by simp; omega
        have HP := Lib.hid (R9.out a9)
        clear a9
        go_wp2_with fail
        refine (bld_string w.heap.size w.heap.size _ ⟨#[92, 116]⟩ _ HI2.out (by have : (ByteArray.mk #[92, 116]).size = 2 := rfl; simp; omega) hsz2).mono ?_
        rintro e KW0 ⟨rfl, kKW0⟩
        have KKW0 := Lib.hid kKW0
        clear kKW0
        have KW := KKW0
        go_wp2_with fail
        go_roundw
        case rel => exact ⟨pos + m, d ++ P, by have := KW.out.1; rw [show P = _ from HP.out]; simpa using this, KW.out.2.2.iter HIT2.out (by simp; omega), HBW2.out.trans KW.out.2.1, NX⟩
        case measure => simp only [World.iterPos, KW.out.2.2.iter HIT2.out (by simp; omega), HIT.out]; omega
      have q9 : ((r : Int) == 9) = false := by simp; omega
      by_cases a13 : r = 13
      · have q13 : ((r : Int) == 13) = true := by simp; omega
        have HP := Lib.hid (R13.out a13)
        clear a13
        go_wp2_with fail
        refine (bld_string w.heap.size w.heap.size _ ⟨#[92, 114]⟩ _ HI2.out (by have : (ByteArray.mk #[92, 114]).size = 2 := rfl; simp; omega) hsz2).mono ?_
        rintro e KW0 ⟨rfl, kKW0⟩
        have KKW0 := Lib.hid kKW0
        clear kKW0
        have KW := KKW0
        go_wp2_with fail
        go_roundw
        case rel => exact ⟨pos + m, d ++ P, by have := KW.out.1; rw [show P = _ from HP.out]; simpa using this, KW.out.2.2.iter HIT2.out (by simp; omega), HBW2.out.trans KW.out.2.1, NX⟩
        case measure => simp only [World.iterPos, KW.out.2.2.iter HIT2.out (by simp; omega), HIT.out]; omega
      have q13 : ((r : Int) == 13) = false := by simp; omega
      by_cases b32 : r < 32
      · have q32 : decide ((r : Int) < 32) = true := by simp; omega
        have q33 : (r : Int) < 32 := by omega
        have HP := Lib.hid (RC.out (.inl ⟨by omega, by omega, by omega, by omega⟩))
        go_wp2_with fail
        refine (coded_any w.heap.size w.heap.size _ s[pos].toNat _ HI2.out (by simp; omega) hsz2 hcb).mono ?_
        rintro e KW0 ⟨rfl, kKW0⟩
        have KKW0 := Lib.hid kKW0
        clear kKW0
        have KW := KKW0
        go_wp2_with fail
        go_roundw
        case rel => exact ⟨pos + m, d ++ P, by have := KW.out.1; rw [show P = _ from HP.out]; simpa using this, KW.out.2.2.iter HIT2.out (by simp; omega), HBW2.out.trans KW.out.2.1, NX⟩
        case measure => simp only [World.iterPos, KW.out.2.2.iter HIT2.out (by simp; omega), HIT.out]; omega
      have q32 : decide ((r : Int) < 32) = false := by simp; omega
      have q33 : ¬ (r : Int) < 32 := by omega
      by_cases a127 : r = 127
      · have q127 : ((r : Int) == 127) = true := by simp; omega
        have HP := Lib.hid (RC.out (.inr (.inl (by omega))))
        clear a127
        go_wp2_with fail
        refine (coded_any w.heap.size w.heap.size _ s[pos].toNat _ HI2.out (by simp; omega) hsz2 hcb).mono ?_
        rintro e KW0 ⟨rfl, kKW0⟩
        have KKW0 := Lib.hid kKW0
        clear kKW0
        have KW := KKW0
        go_wp2_with fail
        go_roundw
        case rel => exact ⟨pos + m, d ++ P, by have := KW.out.1; rw [show P = _ from HP.out]; simpa using this, KW.out.2.2.iter HIT2.out (by simp; omega), HBW2.out.trans KW.out.2.1, NX⟩
        case measure => simp only [World.iterPos, KW.out.2.2.iter HIT2.out (by simp; omega), HIT.out]; omega
      have q127 : ((r : Int) == 127) = false := by simp; omega
      by_cases a6 : r = 65533
      · have q6 : ((r : Int) == 65533) = true := by simp; omega
        by_cases hpf : Lib.hasPrefix (s.data.toList.drop pos) [239, 191, 189] = false
        · have hpx : Lib.hasPrefix (s.extract pos s.size).data.toList [239, 191, 189] = false := by rw [HEX.out, ← hpf]; rfl
          have HPF := Lib.hid (hasPrefix_any (s.extract pos s.size) false Wn hpx)
          clear hpx
          have HP := Lib.hid (RC.out (.inr (.inr ⟨a6, hpf⟩)))
          have HPF2 := Lib.hid hpf
          clear a6 hpf
          go_wp2_with fail
          refine HPF.out.mono ?_
          rintro e w8 ⟨rfl, rfl⟩
          go_wp2_with fail
          refine (coded_any w.heap.size w.heap.size _ s[pos].toNat _ HI2.out (by simp; omega) hsz2 hcb).mono ?_
          rintro e KW0 ⟨rfl, kKW0⟩
          have KKW0 := Lib.hid kKW0
          clear kKW0
          have KW := KKW0
          go_wp2_with fail
          go_roundw
          case rel => exact ⟨pos + m, d ++ P, by have := KW.out.1; rw [show P = _ from HP.out]; simpa using this, KW.out.2.2.iter HIT2.out (by simp; omega), HBW2.out.trans KW.out.2.1, NX⟩
          case measure => simp only [World.iterPos, KW.out.2.2.iter HIT2.out (by simp; omega), HIT.out]; omega
        have hpf : Lib.hasPrefix (s.data.toList.drop pos) [239, 191, 189] = true := by simpa using hpf
        have hpx : Lib.hasPrefix (s.extract pos s.size).data.toList [239, 191, 189] = true := by rw [HEX.out, ← hpf]; rfl
        have HPF := Lib.hid (hasPrefix_any (s.extract pos s.size) true Wn hpx)
        clear hpx
        have HP := Lib.hid (RR.out (by omega) (by omega) b32 (by omega) (.inr hpf))
        have HPF2 := Lib.hid hpf
        clear a6 hpf
        go_wp2_with fail
        refine HPF.out.mono ?_
        rintro e w8 ⟨rfl, rfl⟩
        go_wp2_with fail
        refine (bld_rune w.heap.size w.heap.size _ r _ HI2.out (by simp; omega) hsz2 hrl).mono ?_
        rintro e KW0 ⟨rfl, kKW0⟩
        have KKW0 := Lib.hid kKW0
        clear kKW0
        have KW := KKW0
        go_wp2_with fail
        go_roundw
        case rel => exact ⟨pos + m, d ++ P, by have := KW.out.1; rw [show P = _ from HP.out]; simpa using this, KW.out.2.2.iter HIT2.out (by simp; omega), HBW2.out.trans KW.out.2.1, NX⟩
        case measure => simp only [World.iterPos, KW.out.2.2.iter HIT2.out (by simp; omega), HIT.out]; omega
      have q6 : ((r : Int) == 65533) = false := by simp; omega
      have HP := Lib.hid (RR.out (by omega) (by omega) b32 (by omega) (.inl a6))
      go_wp2_with fail
      refine (bld_rune w.heap.size w.heap.size _ r _ HI2.out (by simp; omega) hsz2 hrl).mono ?_
      rintro e KW0 ⟨rfl, kKW0⟩
      have KKW0 := Lib.hid kKW0
      clear kKW0
      have KW := KKW0
      go_wp2_with fail
      go_roundw
      case rel => exact ⟨pos + m, d ++ P, by have := KW.out.1; rw [show P = _ from HP.out]; simpa using this, KW.out.2.2.iter HIT2.out (by simp; omega), HBW2.out.trans KW.out.2.1, NX⟩
      case measure => simp only [World.iterPos, KW.out.2.2.iter HIT2.out (by simp; omega), HIT.out]; omega
    · have hnx : ∀ ty, (Instr.next (.pointer (some ⟨W1.heap.size, 0, none⟩)) true ty).run Try.prog wr = _ := fun ty => Lib.run_next_end_at wr W1.heap.size s pos ty HIT.out hp
      have HE := Lib.hid (doneQ_end hd.out (by simp; omega))
      have hdl := hd.out.2.1
      have hpl := hd.out.1
      simp only [Array.length_toList, ByteArray.size_data] at hpl
      go_wp2_with fail
      refine (bld_byte w.heap.size w.heap.size _ 39 _ HI.out (by simp; omega) (by omega) (by omega)).mono ?_
      rintro e Wa ⟨rfl, kWa⟩
      have KWa := Lib.hid kWa
      clear kWa
      go_wp2_with fail
      refine (bld_str w.heap.size w.heap.size _ _ KWa.out.1 (KWa.out.size (by omega))).mono ?_
      rintro e Wb ⟨rfl, kWb⟩
      have KWb := Lib.hid kWb
      clear kWb
      go_wp2_with fail
      go_ret
      exact ⟨by rw [HE.out]; rfl, (HBW.out.trans KWa.out.2.1).trans KWb.out.2.1⟩
end Go.Proofs.Ytoakloicjlfaaaa

/- Layer 5: what a text in quotes stands for, in plain lists of bytes. Conditions: none. -/
namespace Go.Proofs.Ytoakloicjlfaaaa
open Go.RowKit
set_option linter.unusedVariables false

/-- The byte for which an escape stands; a list that begins with a backslash. -/
def escV (l : List UInt8) : Option (UInt8 × Nat) :=
  if l.length < 2 then none
  else if nb l 1 = 92 ∨ nb l 1 = 39 then some (UInt8.ofNat (nb l 1), 2)
  else if nb l 1 = 110 then some (10, 2) else if nb l 1 = 116 then some (9, 2) else if nb l 1 = 114 then some (13, 2)
  else if l.length < 4 ∨ nb l 1 ≠ 120 ∨ hexv (nb l 2) < 0 ∨ hexv (nb l 3) < 0 then none
  else some (UInt8.ofNat (hexv (nb l 2) * 16 + hexv (nb l 3)).toNat, 4)
theorem escV_len {l : List UInt8} {x : UInt8} {n : Nat} (h : escV l = some (x, n)) : (n = 2 ∨ n = 4) ∧ n ≤ l.length := by
  unfold escV at h
  by_cases h1 : l.length < 2
  · rw [if_pos h1] at h; cases h
  rw [if_neg h1] at h
  by_cases h2 : nb l 1 = 92 ∨ nb l 1 = 39
  · rw [if_pos h2] at h; cases h; omega
  rw [if_neg h2] at h
  by_cases h3 : nb l 1 = 110
  · rw [if_pos h3] at h; cases h; omega
  rw [if_neg h3] at h
  by_cases h4 : nb l 1 = 116
  · rw [if_pos h4] at h; cases h; omega
  rw [if_neg h4] at h
  by_cases h5 : nb l 1 = 114
  · rw [if_pos h5] at h; cases h; omega
  rw [if_neg h5] at h
  by_cases h6 : l.length < 4 ∨ nb l 1 ≠ 120 ∨ hexv (nb l 2) < 0 ∨ hexv (nb l 3) < 0
  · rw [if_pos h6] at h; cases h
  rw [if_neg h6] at h; cases h; omega
/-- No sign, a control byte, a quote or a backslash. -/
def bad (l : List UInt8) : Prop := sg l = 0 ∨ nb l 0 < 32 ∨ nb l 0 = 127
instance (l : List UInt8) : Decidable (bad l) := by unfold bad; infer_instance

/-- What stands ahead of the first quote, and what behind it (steps k; more than the bytes never fail). -/
def qdN : Nat → List UInt8 → Option (List UInt8 × List UInt8)
  | 0, _ => none
  | k + 1, l =>
    if l.length = 0 then none else if nb l 0 = 39 then some ([], l.drop 1) else if bad l then none
    else if nb l 0 = 92 then (match escV l with | none => none | some (x, n) => (qdN k (l.drop n)).map fun p => (x :: p.1, p.2))
    else (qdN k (l.drop (sg l))).map fun p => (l.take (sg l) ++ p.1, p.2)
/-- A text between quotes: what it stands for. -/
def uqN : Nat → List UInt8 → Option (List UInt8)
  | 0, _ => some []
  | k + 1, l =>
    if l.length = 0 then some [] else if nb l 0 = 92 then (match escV l with | none => none | some (x, n) => (uqN k (l.drop n)).map fun p => x :: p)
    else if nb l 0 = 39 ∨ bad l then none
    else (uqN k (l.drop (sg l))).map fun p => l.take (sg l) ++ p
theorem bad_not {l : List UInt8} (h : ¬ bad l) : sg l ≠ 0 := fun e => h (.inl e)
theorem qdN_more : ∀ (k : Nat) (l : List UInt8), l.length ≤ k → qdN (k + 1) l = qdN (l.length + 1) l := by
  intro k
  induction k using Nat.strongRecOn with
  | _ k ih =>
    intro l hl
    by_cases hk : k = l.length
    · rw [hk]
    obtain ⟨j, rfl⟩ : ∃ j, k = j + 1 := ⟨k - 1, by omega⟩
    by_cases h0 : l.length = 0
    · simp [qdN, h0]
    have hstep : ∀ n, 1 ≤ n → n ≤ l.length → qdN (j + 1) (l.drop n) = qdN l.length (l.drop n) := fun n h1 h2 => by
      have a := ih j (by omega) (l.drop n) (by simp; omega)
      obtain ⟨m, hm⟩ : ∃ m, l.length = m + 1 := ⟨l.length - 1, by omega⟩
      rw [hm]
      by_cases hmj : m = j
      · rw [hmj]
      have b := ih m (by omega) (l.drop n) (by simp; omega)
      rw [a, b]
    rw [qdN]
    conv => rhs; rw [qdN]
    rw [if_neg h0, if_neg h0]
    by_cases h1 : nb l 0 = 39
    · rw [if_pos h1, if_pos h1]
    rw [if_neg h1, if_neg h1]
    by_cases h2 : bad l
    · rw [if_pos h2, if_pos h2]
    rw [if_neg h2, if_neg h2]
    by_cases h3 : nb l 0 = 92
    · rw [if_pos h3, if_pos h3]
      cases he : escV l with
      | none => rfl
      | some p =>
        obtain ⟨x, n⟩ := p
        have := escV_len he
        simp only []
        rw [hstep n (by omega) this.2]
    · rw [if_neg h3, if_neg h3, hstep (sg l) (by have := bad_not h2; omega) (sg_le).2]
theorem uqN_more : ∀ (k : Nat) (l : List UInt8), l.length ≤ k → uqN k l = uqN l.length l := by
  intro k
  induction k using Nat.strongRecOn with
  | _ k ih =>
    intro l hl
    by_cases hk : k = l.length
    · rw [hk]
    obtain ⟨j, rfl⟩ : ∃ j, k = j + 1 := ⟨k - 1, by omega⟩
    by_cases h0 : l.length = 0
    · rw [uqN, if_pos h0, h0, uqN]
    obtain ⟨m, hm⟩ : ∃ m, l.length = m + 1 := ⟨l.length - 1, by omega⟩
    have hstep : ∀ n, 1 ≤ n → n ≤ l.length → uqN j (l.drop n) = uqN m (l.drop n) := fun n h1 h2 => by
      have a := ih j (by omega) (l.drop n) (by simp; omega)
      have b := ih m (by omega) (l.drop n) (by simp; omega)
      rw [a, b]
    rw [hm, uqN]
    conv => rhs; rw [uqN]
    rw [if_neg h0, if_neg h0]
    by_cases h3 : nb l 0 = 92
    · rw [if_pos h3, if_pos h3]
      cases he : escV l with
      | none => rfl
      | some p =>
        obtain ⟨x, n⟩ := p
        have := escV_len he
        simp only []
        rw [hstep n (by omega) this.2]
    · rw [if_neg h3, if_neg h3]
      by_cases h2 : nb l 0 = 39 ∨ bad l
      · rw [if_pos h2, if_pos h2]
      rw [if_neg h2, if_neg h2, hstep (sg l) (by have := bad_not (fun h => h2 (.inr h)); omega) (sg_le).2]
def qd (l : List UInt8) : Option (List UInt8 × List UInt8) := qdN (l.length + 1) l
def uq (l : List UInt8) : Option (List UInt8) := uqN l.length l
theorem qd_eq (l : List UInt8) : qd l = if l.length = 0 then none else if nb l 0 = 39 then some ([], l.drop 1) else if bad l then none
    else if nb l 0 = 92 then (match escV l with | none => none | some (x, n) => (qd (l.drop n)).map fun p => (x :: p.1, p.2))
    else (qd (l.drop (sg l))).map fun p => (l.take (sg l) ++ p.1, p.2) := by
  unfold qd
  rw [qdN]
  by_cases h0 : l.length = 0
  · rw [if_pos h0, if_pos h0]
  rw [if_neg h0, if_neg h0]
  obtain ⟨m, hm⟩ : ∃ m, l.length = m + 1 := ⟨l.length - 1, by omega⟩
  have hs : ∀ n, 1 ≤ n → n ≤ l.length → qdN l.length (l.drop n) = qdN ((l.drop n).length + 1) (l.drop n) := fun n h1 h2 => by
    rw [hm]; exact qdN_more m (l.drop n) (by simp; omega)
  by_cases h1 : nb l 0 = 39
  · rw [if_pos h1, if_pos h1]
  rw [if_neg h1, if_neg h1]
  by_cases h2 : bad l
  · rw [if_pos h2, if_pos h2]
  rw [if_neg h2, if_neg h2]
  by_cases h3 : nb l 0 = 92
  · rw [if_pos h3, if_pos h3]
    cases he : escV l with
    | none => rfl
    | some p =>
      obtain ⟨x, n⟩ := p
      have := escV_len he
      simp only []
      rw [hs n (by omega) this.2]
  · rw [if_neg h3, if_neg h3, hs (sg l) (by have := bad_not h2; omega) (sg_le).2]
theorem uq_eq (l : List UInt8) : uq l = if l.length = 0 then some [] else if nb l 0 = 92 then (match escV l with | none => none | some (x, n) => (uq (l.drop n)).map fun p => x :: p)
    else if nb l 0 = 39 ∨ bad l then none else (uq (l.drop (sg l))).map fun p => l.take (sg l) ++ p := by
  unfold uq
  by_cases h0 : l.length = 0
  · rw [if_pos h0, h0, uqN]
  obtain ⟨m, hm⟩ : ∃ m, l.length = m + 1 := ⟨l.length - 1, by omega⟩
  have hs : ∀ n, 1 ≤ n → n ≤ l.length → uqN m (l.drop n) = uqN (l.drop n).length (l.drop n) := fun n h1 h2 => uqN_more m (l.drop n) (by simp; omega)
  rw [hm, uqN, if_neg h0, if_neg (show ¬ m + 1 = 0 from by omega)]
  by_cases h3 : nb l 0 = 92
  · rw [if_pos h3, if_pos h3]
    cases he : escV l with
    | none => rfl
    | some p =>
      obtain ⟨x, n⟩ := p
      have := escV_len he
      simp only []
      rw [hs n (by omega) this.2]
  · rw [if_neg h3, if_neg h3]
    by_cases h2 : nb l 0 = 39 ∨ bad l
    · rw [if_pos h2, if_pos h2]
    rw [if_neg h2, if_neg h2, hs (sg l) (by have := bad_not (fun h => h2 (.inr h)); omega) (sg_le).2]
/-- What is read is at most as long. -/
theorem uq_len : ∀ (k : Nat) (l : List UInt8), l.length = k → ∀ t, uq l = some t → t.length ≤ l.length := by
  intro k
  induction k using Nat.strongRecOn with
  | _ k ih =>
    intro l hl t ht
    rw [uq_eq] at ht
    by_cases h0 : l.length = 0
    · rw [if_pos h0] at ht; cases ht; simp
    rw [if_neg h0] at ht
    have key : ∀ (n : Nat) (p : List UInt8), p.length ≤ n → 1 ≤ n → n ≤ l.length → (uq (l.drop n)).map (fun q => p ++ q) = some t → t.length ≤ l.length := fun n p h1 h2 h3 h4 => by
      cases hu : uq (l.drop n) with
      | none => rw [hu] at h4; cases h4
      | some q =>
        rw [hu] at h4
        have := ih (l.drop n).length (by simp; omega) (l.drop n) rfl q hu
        cases h4
        simp at this ⊢
        omega
    by_cases h3 : nb l 0 = 92
    · rw [if_pos h3] at ht
      cases he : escV l with
      | none => rw [he] at ht; cases ht
      | some p =>
        obtain ⟨x, n⟩ := p
        rw [he] at ht
        have := escV_len he
        exact key n [x] (by simp; omega) (by omega) this.2 ht
    · rw [if_neg h3] at ht
      by_cases h2 : nb l 0 = 39 ∨ bad l
      · rw [if_pos h2] at ht; cases ht
      rw [if_neg h2] at ht
      exact key (sg l) (l.take (sg l)) (by simp; omega) (by have := bad_not (fun h => h2 (.inr h)); omega) sg_le.2 ht
end Go.Proofs.Ytoakloicjlfaaaa

/- Layer 5: the contracts of digit and escaped. Written by genS12.py. Conditions: none. -/
namespace Go.Proofs.Ytoakloicjlfaaaa
open Go.RowKit Go.Shelf
set_option linter.unusedSimpArgs false
set_option linter.unusedVariables false

theorem digV (c : Fin 256) : Lib.indexByte [48, 49, 50, 51, 52, 53, 54, 55, 56, 57, 97, 98, 99, 100, 101, 102] (UInt8.ofNat (if 65 ≤ c.val ∧ c.val ≤ 70 then c.val + 32 else c.val)) = hexv c.val := by
  revert c; decide +kernel
theorem or16 : ∀ a b : Fin 16, bits BinOp.or IntKind.i64 ((a.val : Int) * 16) b.val % 256 = ((UInt8.ofNat ((a.val : Int) * (16 : Int) + b.val).toNat).toNat : Int) := by decide +kernel
theorem or_of {a b : Int} (h1 : 0 ≤ a) (h2 : a ≤ 15) (h3 : 0 ≤ b) (h4 : b ≤ 15) : bits BinOp.or IntKind.i64 (a * 16) b % 256 = ((UInt8.ofNat (a * (16 : Int) + b).toNat).toNat : Int) := by
  have h := or16 ⟨a.toNat, by omega⟩ ⟨b.toNat, by omega⟩
  simp only [Int.toNat_of_nonneg h1, Int.toNat_of_nonneg h3] at h
  exact h
theorem below_drewN (w : World) (n : Nat) : Below w.heap.size w (w.drewN n) := by
  induction n with
  | zero => exact Below.refl _ _
  | succ n ih => exact ih.drew
/-- What escaped hands back. -/
def escR (l : List UInt8) : Value := match escV l with | none => .tuple #[.int .u8 0, .int .i64 0] | some (x, n) => .tuple #[.int .u8 x.toNat, .int .i64 n]
theorem hexv_lt (c : Nat) : hexv c ≤ 15 := by unfold hexv; (repeat' split) <;> omega
end Go.Proofs.Ytoakloicjlfaaaa

/- Layer 5: what the program's Unquote has done ahead of a place, in plain lists; a sign as the model writes it. Conditions: none. -/
namespace Go.Proofs.Ytoakloicjlfaaaa
open Go.RowKit
set_option linter.unusedVariables false

theorem enc_eq (r : Nat) : (Utf8.encode (r : Int)).data.toList = Lib.encodeRune (r : Int) := by
  unfold Lib.encodeRune
  by_cases c1 : r < 128
  · have v : Utf8.valid (r : Int) = true := by simp [Utf8.valid]; omega
    rw [Lib.encodeRuneZ_one (by omega) (by omega)]
    simp [Utf8.encode, v, c1]
  by_cases c2 : r < 2048
  · have v : Utf8.valid (r : Int) = true := by simp [Utf8.valid]; omega
    rw [Lib.encodeRuneZ_two (by omega) (by omega)]
    have e0 : (192 + (r : Int) / 64).toNat = 192 + r / 64 := by omega
    have e1 : (128 + (r : Int) % 64).toNat = 128 + r % 64 := by omega
    simp [Utf8.encode, v, c1, c2, e0, e1]
  by_cases cb : (55296 ≤ r ∧ r ≤ 57343) ∨ 1114111 < r
  · have v : Utf8.valid (r : Int) = false := by
      cases hv : Utf8.valid (r : Int) with
      | false => rfl
      | true => simp [Utf8.valid] at hv; omega
    rw [Lib.encodeRuneZ_bad (by omega)]
    simp [Utf8.encode, v, Utf8.runeError]
  have v : Utf8.valid (r : Int) = true := by simp [Utf8.valid]; omega
  by_cases c3 : r < 65536
  · rw [Lib.encodeRuneZ_three (by omega)]
    have e0 : (224 + (r : Int) / 4096).toNat = 224 + r / 4096 := by omega
    have e1 : (128 + (r : Int) / 64 % 64).toNat = 128 + r / 64 % 64 := by omega
    have e2 : (128 + (r : Int) % 64).toNat = 128 + r % 64 := by omega
    simp [Utf8.encode, v, c1, c2, c3, e0, e1, e2]
  · rw [Lib.encodeRuneZ_four (by omega) (by omega)]
    have e0 : (240 + (r : Int) / 262144).toNat = 240 + r / 262144 := by omega
    have e1 : (128 + (r : Int) / 4096 % 64).toNat = 128 + r / 4096 % 64 := by omega
    have e2 : (128 + (r : Int) / 64 % 64).toNat = 128 + r / 64 % 64 := by omega
    have e3 : (128 + (r : Int) % 64).toNat = 128 + r % 64 := by omega
    simp [Utf8.encode, v, c1, c2, c3, e0, e1, e2, e3]
theorem strOf_toList (B : ByteArray) : strOf B.data.toList = B := by apply ByteArray.ext; simp [strOf]
theorem enc_sign {l : List UInt8} (h : sg l ≠ 0) : Utf8.encode (rv l : Int) = strOf (l.take (sg l)) := by
  rw [← encode_sign h, ← enc_eq, strOf_toList]

/-- The bytes within an escape are ASCII. -/
theorem escV_ascii {l : List UInt8} {x : UInt8} {n : Nat} (h : escV l = some (x, n)) : ∀ j, 1 ≤ j → j < n → nb l j < 128 := by
  have hl := escV_len h
  have hx : ∀ c, ¬ hexv c < 0 → c < 128 := fun c hc => by
    unfold hexv at hc
    by_cases a : 48 ≤ c ∧ c ≤ 57
    · omega
    rw [if_neg a] at hc
    by_cases b : 97 ≤ c ∧ c ≤ 102
    · omega
    rw [if_neg b] at hc
    by_cases d : 65 ≤ c ∧ c ≤ 70
    · omega
    rw [if_neg d] at hc
    omega
  unfold escV at h
  by_cases h1 : l.length < 2
  · rw [if_pos h1] at h; cases h
  rw [if_neg h1] at h
  by_cases h2 : nb l 1 = 92 ∨ nb l 1 = 39
  · rw [if_pos h2] at h; cases h; intro j j1 j2; obtain rfl : j = 1 := by omega
    omega
  rw [if_neg h2] at h
  by_cases h3 : nb l 1 = 110
  · rw [if_pos h3] at h; cases h; intro j j1 j2; obtain rfl : j = 1 := by omega
    omega
  rw [if_neg h3] at h
  by_cases h4 : nb l 1 = 116
  · rw [if_pos h4] at h; cases h; intro j j1 j2; obtain rfl : j = 1 := by omega
    omega
  rw [if_neg h4] at h
  by_cases h5 : nb l 1 = 114
  · rw [if_pos h5] at h; cases h; intro j j1 j2; obtain rfl : j = 1 := by omega
    omega
  rw [if_neg h5] at h
  by_cases h6 : l.length < 4 ∨ nb l 1 ≠ 120 ∨ hexv (nb l 2) < 0 ∨ hexv (nb l 3) < 0
  · rw [if_pos h6] at h; cases h
  rw [if_neg h6] at h; cases h
  intro j j1 j2
  have k2 := hx (nb l 2) (fun hh => h6 (.inr (.inr (.inl hh))))
  have k3 := hx (nb l 3) (fun hh => h6 (.inr (.inr (.inr hh))))
  have : j = 1 ∨ j = 2 ∨ j = 3 := by omega
  rcases this with rfl | rfl | rfl
  · omega
  · exact k2
  · exact k3

/-- What is read ahead of place i (what lies ahead of place k is passed over). -/
def DoneU (l : List UInt8) (i k : Nat) (d : List UInt8) : Prop :=
  i ≤ l.length ∧ k ≤ l.length ∧ d.length ≤ max i k ∧ (∀ j, i ≤ j → j < k → nb l j < 128) ∧ uq l = (uq (l.drop (max i k))).map fun p => d ++ p
theorem doneU_zero (l : List UInt8) : DoneU l 0 0 [] := by
  refine ⟨by omega, by omega, by simp, fun j _ h => by omega, ?_⟩
  simp
theorem doneU_pass {l d : List UInt8} {i k : Nat} (h : DoneU l i k d) (hi : i < l.length) (hk : i < k) : sg (l.drop i) = 1 ∧ DoneU l (i + 1) k d := by
  obtain ⟨h1, h2, h3, h4, h5⟩ := h
  refine ⟨sg_one.2 ⟨by simp; omega, by rw [nb_drop, Nat.add_zero]; exact h4 i (by omega) hk⟩, by omega, h2, by rw [show max (i + 1) k = max i k from by omega]; exact h3, fun j a b => h4 j (by omega) b, by rw [show max (i + 1) k = max i k from by omega]; exact h5⟩
theorem doneU_esc {l d : List UInt8} {i k : Nat} (h : DoneU l i k d) (hi : i < l.length) (hk : ¬ i < k) (h92 : nb (l.drop i) 0 = 92) : match escV (l.drop i) with
    | none => uq l = none
    | some (x, n) => sg (l.drop i) = 1 ∧ (n = 2 ∨ n = 4) ∧ i + n ≤ l.length ∧ DoneU l (i + 1) (i + n) (d ++ [x]) := by
  obtain ⟨h1, h2, h3, h4, h5⟩ := h
  have h0 : (l.drop i).length ≠ 0 := by simp; omega
  rw [show max i k = i from by omega, uq_eq (l.drop i), if_neg h0, if_pos h92] at h5
  cases he : escV (l.drop i) with
  | none => rw [he] at h5; exact h5
  | some p =>
    obtain ⟨x, n⟩ := p
    rw [he] at h5
    have hl := escV_len he
    have ha := escV_ascii he
    rw [List.length_drop] at hl
    refine ⟨sg_one.2 ⟨h0, by omega⟩, hl.1, by omega, by omega, by omega, ?_, ?_, ?_⟩
    · rw [show max i k = i from by omega] at h3
      rw [List.length_append, show max (i + 1) (i + n) = i + n from by omega]; simp; omega
    · intro j a b
      have := ha (j - i) (by omega) (by omega)
      rw [nb_drop, show i + (j - i) = j from by omega] at this
      exact this
    · rw [h5, show max (i + 1) (i + n) = i + n from by omega]
      dsimp only
      rw [List.drop_drop]
      cases uq (l.drop (i + n)) with
      | none => rfl
      | some q => simp
theorem doneU_bad {l d : List UInt8} {i k : Nat} (h : DoneU l i k d) (hi : i < l.length) (hk : ¬ i < k) (h92 : nb (l.drop i) 0 ≠ 92) (hb : nb (l.drop i) 0 = 39 ∨ bad (l.drop i)) : uq l = none := by
  obtain ⟨h1, h2, h3, h4, h5⟩ := h
  have h0 : (l.drop i).length ≠ 0 := by simp; omega
  rw [show max i k = i from by omega, uq_eq (l.drop i), if_neg h0, if_neg h92, if_pos hb] at h5
  exact h5
theorem doneU_sign {l d : List UInt8} {i k : Nat} (h : DoneU l i k d) (hi : i < l.length) (hk : ¬ i < k) (h92 : nb (l.drop i) 0 ≠ 92) (hb : ¬ (nb (l.drop i) 0 = 39 ∨ bad (l.drop i))) :
    DoneU l (i + sg (l.drop i)) k (d ++ (l.drop i).take (sg (l.drop i))) := by
  obtain ⟨h1, h2, h3, h4, h5⟩ := h
  have h0 : (l.drop i).length ≠ 0 := by simp; omega
  rw [show max i k = i from by omega, uq_eq (l.drop i), if_neg h0, if_neg h92, if_neg hb] at h5
  have h6 := bad_not (fun hh => hb (.inr hh))
  have h7 := (sg_le (l := l.drop i)).2
  rw [List.length_drop] at h7
  refine ⟨by omega, h2, ?_, fun j a b => by omega, ?_⟩
  · rw [show max i k = i from by omega] at h3
    rw [List.length_append, List.length_take, show max (i + sg (l.drop i)) k = i + sg (l.drop i) from by omega]
    omega
  · rw [h5, show max (i + sg (l.drop i)) k = i + sg (l.drop i) from by omega, List.drop_drop]
    cases uq (l.drop (i + sg (l.drop i))) with
    | none => rfl
    | some q => simp
theorem doneU_end {l d : List UInt8} {i k : Nat} (h : DoneU l i k d) (hi : l.length ≤ i) : uq l = some d := by
  obtain ⟨h1, h2, h3, h4, h5⟩ := h
  rw [h5, show max i k = l.length from by omega, uq_eq (l.drop l.length), if_pos (by simp)]
  simp
/-- By the rune: what is refused, what goes on. -/
theorem rv_39 {l : List UInt8} (h0 : l.length ≠ 0) (h : rv l = 39) : nb l 0 ≠ 92 ∧ (nb l 0 = 39 ∨ bad l) := by
  have := rv_small h0 (by omega); exact ⟨by omega, .inl (by omega)⟩
theorem rv_92 {l : List UInt8} (h0 : l.length ≠ 0) (h : rv l = 92) : nb l 0 = 92 := by
  have := rv_small h0 (by omega); omega
theorem rv_bad {l : List UInt8} (h0 : l.length ≠ 0) (h : rv l < 32 ∨ rv l = 127 ∨ (rv l = 65533 ∧ Lib.hasPrefix l [239, 191, 189] = false)) : nb l 0 ≠ 92 ∧ (nb l 0 = 39 ∨ bad l) := by
  rcases h with h | h | h
  · have := rv_small h0 (by omega); exact ⟨by omega, .inr (.inr (.inl (by omega)))⟩
  · have := rv_small h0 (by omega); exact ⟨by omega, .inr (.inr (.inr (by omega)))⟩
  · have h1 := (bad_iff h0).1 h
    refine ⟨fun hh => ?_, .inr (.inl h1)⟩
    have := sg_one.2 ⟨h0, by omega⟩
    omega
theorem rv_good {l : List UInt8} (h0 : l.length ≠ 0) (h1 : rv l ≠ 92) (h2 : rv l ≠ 39) (h3 : ¬ rv l < 32) (h4 : rv l ≠ 127) (h5 : rv l ≠ 65533 ∨ Lib.hasPrefix l [239, 191, 189] = true) : nb l 0 ≠ 92 ∧ ¬ (nb l 0 = 39 ∨ bad l) := by
  have hs : sg l ≠ 0 := fun e => by
    have := (bad_iff h0).2 e
    rcases h5 with h5 | h5
    · exact h5 this.1
    · rw [h5] at this; cases this.2
  by_cases hb : nb l 0 < 128
  · have h6 := sg_one.2 ⟨h0, hb⟩
    have h7 : rv l = nb l 0 := by unfold rv; rw [if_pos h6]
    refine ⟨by omega, fun h => ?_⟩
    rcases h with h | h | h | h <;> omega
  · refine ⟨by omega, fun h => ?_⟩
    rcases h with h | h | h | h <;> omega
/-- A row that the call owns, in a world that keeps the blocks from its base on. -/
theorem ownsRow_other {w w' : World} {base : Nat} {e : TypeId} {size : Nat} {v : Value} {n : Nat} {xs : List Value} (h : w.ownsRow base e size v n xs) (hk : ∀ k, base ≤ k → w'.heap[k]? = w.heap[k]?) : w'.ownsRow base e size v n xs := by
  refine ⟨h.1, ?_⟩
  rcases h.2 with hn | ⟨g, cap, cur, rfl, hb, hg, rest⟩
  · exact .inl hn
  · exact .inr ⟨g, cap, cur, rfl, hb, (hk g hb).trans hg, rest⟩
theorem ownsRow_below {w w' : World} {base : Nat} {e : TypeId} {size : Nat} {v : Value} {n : Nat} {xs : List Value} (h : w.ownsRow base e size v n xs) (hb : Below w.heap.size w w') : w'.ownsRow base e size v n xs := by
  refine ⟨h.1, ?_⟩
  rcases h.2 with hn | ⟨g, cap, cur, rfl, hbb, hg, rest⟩
  · exact .inl hn
  · exact .inr ⟨g, cap, cur, rfl, hbb, (hb.block g (Array.getElem?_eq_some_iff.1 hg).1).trans hg, rest⟩
end Go.Proofs.Ytoakloicjlfaaaa

/- Layer 5: the contract of the program's Unquote. Written by genS14.py. Conditions: the text is no longer than 2^40. -/
namespace Go.Proofs.Ytoakloicjlfaaaa
open Go.RowKit Go.Shelf
set_option linter.unusedSimpArgs false
set_option linter.unusedVariables false

theorem Try.info5 : (Try.prog.info? 5).map (fun i => (i.zero, i.size, i.bytes)) = some (some (.int .u8 0), 1, 1) := by kernel_rfl
theorem byteCells_snoc (d : List UInt8) (x : UInt8) : Lib.byteCells (d ++ [x]) = Lib.byteCells d ++ [.int .u8 x.toNat] := by simp [Lib.byteCells]
theorem byteCells_one (l : List UInt8) : ∀ u ∈ Lib.byteCells l, u.oneCell' = true := by
  intro u hu
  simp only [Lib.byteCells, List.mem_map] at hu
  obtain ⟨c, _, rfl⟩ := hu
  rfl
/-- The text of bytes that the call owns. -/
theorem conv_own {base : Nat} {w : World} {v : Value} {n : Nat} {d : List UInt8} (h : w.ownsRow base 5 1 v n (Lib.byteCells d)) : (convert 62 9 v).run Try.prog w = .ok (.string (strOf d)) w := by
  have hl := h.1
  rw [Lib.byteCells_length, Nat.mul_one] at hl
  rcases h.2 with ⟨rfl, hx⟩ | ⟨g, cap, cur, rfl, _⟩
  · have : d = [] := List.length_eq_zero_iff.1 (by omega)
    subst this
    exact run_convert_bytes_nil (P := Try.prog) w 62 5 Try.underlying62 Try.underlying5 _ _ 9 Try.underlying9
  · have hc := h.cells (g := g) rfl
    have := run_convert_bytes_arg (P := Try.prog) w 62 5 Try.underlying62 Try.underlying5 g 0 n cap (d.map fun c => (c.toNat : Int)) (by rw [List.length_map]; exact hl) (fun i hi => by
      have hi' : i < d.length := by omega
      have := hc i (.int .u8 d[i].toNat) (by simp [Lib.byteCells, hi'])
      rw [addr_add, Nat.zero_add] at this
      rw [Nat.zero_add, this]
      simp [hi']) 9 Try.underlying9
    rw [nums_of_bytes] at this
    exact this
/-- What Unquote hands back. -/
def unqV (o : Option (List UInt8)) : Value := match o with | none => .tuple #[.string ⟨#[]⟩, .int .i64 1] | some t => .tuple #[.string (strOf t), .int .i64 0]
def unqS (l : List UInt8) : Option (List UInt8) := if 2 ≤ l.length ∧ nb l 0 = 39 ∧ nb l (l.length - 1) = 39 then uq ((l.drop 1).take (l.length - 2)) else none
end Go.Proofs.Ytoakloicjlfaaaa

/- Layer 5: what the reference's Quoted has done ahead of a place, in plain lists. Conditions: none. -/
namespace Go.Proofs.Ytoakloicjlfaaaa
open Go.RowKit
set_option linter.unusedVariables false

def DoneD (l : List UInt8) (a i : Nat) (d : List UInt8) : Prop := a ≤ i ∧ i ≤ l.length ∧ d.length ≤ i ∧ qd (l.drop a) = (qd (l.drop i)).map fun p => (d ++ p.1, p.2)
theorem doneD_zero (l : List UInt8) (a : Nat) (h : a ≤ l.length) : DoneD l a a [] := by
  refine ⟨by omega, h, by simp, ?_⟩
  cases qd (l.drop a) <;> simp
theorem doneD_end {l d : List UInt8} {a i : Nat} (h : DoneD l a i d) (hi : l.length ≤ i) : qd (l.drop a) = none := by
  obtain ⟨h1, h2, h3, h4⟩ := h
  rw [h4, qd_eq (l.drop i), if_pos (by simp; omega)]; rfl
theorem doneD_quote {l d : List UInt8} {a i : Nat} (h : DoneD l a i d) (hi : i < l.length) (h39 : nb (l.drop i) 0 = 39) : qd (l.drop a) = some (d, l.drop (i + 1)) := by
  obtain ⟨h1, h2, h3, h4⟩ := h
  rw [h4, qd_eq (l.drop i), if_neg (by simp; omega), if_pos h39, List.drop_drop]; simp
theorem doneD_bad {l d : List UInt8} {a i : Nat} (h : DoneD l a i d) (hi : i < l.length) (h39 : nb (l.drop i) 0 ≠ 39) (hb : bad (l.drop i)) : qd (l.drop a) = none := by
  obtain ⟨h1, h2, h3, h4⟩ := h
  rw [h4, qd_eq (l.drop i), if_neg (by simp; omega), if_neg h39, if_pos hb]; rfl
theorem doneD_sign {l d : List UInt8} {a i : Nat} (h : DoneD l a i d) (hi : i < l.length) (h39 : nb (l.drop i) 0 ≠ 39) (hb : ¬ bad (l.drop i)) (h92 : nb (l.drop i) 0 ≠ 92) :
    DoneD l a (i + sg (l.drop i)) (d ++ (l.drop i).take (sg (l.drop i))) := by
  obtain ⟨h1, h2, h3, h4⟩ := h
  have h6 := bad_not hb
  have h7 := (sg_le (l := l.drop i)).2
  rw [List.length_drop] at h7
  refine ⟨by omega, by omega, by rw [List.length_append, List.length_take]; omega, ?_⟩
  rw [h4, qd_eq (l.drop i), if_neg (by simp; omega), if_neg h39, if_neg hb, if_neg h92, List.drop_drop]
  cases qd (l.drop (i + sg (l.drop i))) with
  | none => rfl
  | some q => simp
theorem doneD_escN {l d : List UInt8} {a i : Nat} (h : DoneD l a i d) (hi : i < l.length) (h39 : nb (l.drop i) 0 ≠ 39) (hb : ¬ bad (l.drop i)) (h92 : nb (l.drop i) 0 = 92) (he : escV (l.drop i) = none) : qd (l.drop a) = none := by
  obtain ⟨h1, h2, h3, h4⟩ := h
  rw [h4, qd_eq (l.drop i), if_neg (by simp; omega), if_neg h39, if_neg hb, if_pos h92, he]; rfl
theorem doneD_escS {l d : List UInt8} {a i : Nat} (h : DoneD l a i d) (hi : i < l.length) (h39 : nb (l.drop i) 0 ≠ 39) (hb : ¬ bad (l.drop i)) (h92 : nb (l.drop i) 0 = 92) {x : UInt8} {n : Nat} (he : escV (l.drop i) = some (x, n)) :
    DoneD l a (i + n) (d ++ [x]) := by
  obtain ⟨h1, h2, h3, h4⟩ := h
  have hl := escV_len he
  rw [List.length_drop] at hl
  refine ⟨by omega, by omega, by rw [List.length_append]; simp; omega, ?_⟩
  rw [h4, qd_eq (l.drop i), if_neg (by simp; omega), if_neg h39, if_neg hb, if_pos h92, he]
  dsimp only
  rw [List.drop_drop]
  cases qd (l.drop (i + n)) with
  | none => rfl
  | some q => simp
theorem escV_short {l : List UInt8} (h : l.length < 2) : escV l = none := by unfold escV; rw [if_pos h]
theorem escV_q {l : List UInt8} (h : ¬ l.length < 2) (h1 : nb l 1 = 92 ∨ nb l 1 = 39) : escV l = some (UInt8.ofNat (nb l 1), 2) := by unfold escV; rw [if_neg h, if_pos h1]
theorem escV_n {l : List UInt8} (h : ¬ l.length < 2) (h1 : nb l 1 = 110) : escV l = some (10, 2) := by unfold escV; rw [if_neg h, if_neg (by omega), if_pos h1]
theorem escV_t {l : List UInt8} (h : ¬ l.length < 2) (h1 : nb l 1 = 116) : escV l = some (9, 2) := by unfold escV; rw [if_neg h, if_neg (by omega), if_neg (by omega), if_pos h1]
theorem escV_r {l : List UInt8} (h : ¬ l.length < 2) (h1 : nb l 1 = 114) : escV l = some (13, 2) := by unfold escV; rw [if_neg h, if_neg (by omega), if_neg (by omega), if_neg (by omega), if_pos h1]
theorem escV_no {l : List UInt8} (h : ¬ l.length < 2) (h1 : nb l 1 ≠ 92) (h2 : nb l 1 ≠ 39) (h3 : nb l 1 ≠ 110) (h4 : nb l 1 ≠ 116) (h5 : nb l 1 ≠ 114) (h6 : l.length < 4 ∨ nb l 1 ≠ 120 ∨ hexv (nb l 2) < 0 ∨ hexv (nb l 3) < 0) : escV l = none := by
  unfold escV; rw [if_neg h, if_neg (by omega), if_neg h3, if_neg h4, if_neg h5, if_pos h6]
theorem escV_x {l : List UInt8} (h : ¬ l.length < 4) (h1 : nb l 1 = 120) (h2 : ¬ hexv (nb l 2) < 0) (h3 : ¬ hexv (nb l 3) < 0) : escV l = some (UInt8.ofNat (hexv (nb l 2) * (16 : Int) + hexv (nb l 3)).toNat, 4) := by
  unfold escV; rw [if_neg (by omega), if_neg (by omega), if_neg (by omega), if_neg (by omega), if_neg (by omega), if_neg (by omega)]
/-- What Quoted hands back. -/
def qdV (n : Nat) (o : Option (List UInt8 × List UInt8)) : Value := match o with
  | none => .tuple #[.string ⟨#[]⟩, .int .i64 0, .bool false]
  | some p => .tuple #[.string (strOf p.1), .int .i64 ((n - p.2.length : Nat) : Int), .bool true]
def qdS (l : List UInt8) (at_ : Nat) : Option (List UInt8 × List UInt8) := if at_ < l.length ∧ nb l at_ = 39 then qd (l.drop (at_ + 1)) else none
end Go.Proofs.Ytoakloicjlfaaaa

/- Layer 5: the two ways of reading a text in quotes come to one, in plain lists. Conditions: none. -/
namespace Go.Proofs.Ytoakloicjlfaaaa
open Go.RowKit
set_option linter.unusedVariables false

theorem nb_snoc (m : List UInt8) (k : Nat) (h : k < m.length) : nb (m ++ [39]) k = nb m k := by unfold nb; rw [List.getElem?_append_left h]
theorem nb_snoc_end (m : List UInt8) : nb (m ++ [39]) m.length = 39 := by unfold nb; simp
theorem nb_past (m : List UInt8) (k : Nat) (h : m.length ≤ k) : nb m k = 0 := by unfold nb; rw [List.getElem?_eq_none h]; rfl
theorem tl_snoc (m : List UInt8) (k : Nat) : tl (m ++ [39]) k = tl m k := by
  rw [Bool.eq_iff_iff, tl_true, tl_true, List.length_append, List.length_singleton]
  by_cases h : k < m.length
  · rw [nb_snoc m k h]; omega
  · by_cases h2 : k = m.length
    · subst h2; rw [nb_snoc_end]; omega
    · omega
theorem sg_snoc (m : List UInt8) (h : m.length ≠ 0) : sg (m ++ [39]) = sg m := by
  unfold sg
  rw [tl_snoc, tl_snoc, tl_snoc, nb_snoc m 0 (by omega), if_neg (by simp), if_neg h]
  by_cases h0 : nb m 0 < 128
  · rw [if_pos h0, if_pos h0]
  rw [if_neg h0, if_neg h0]
  by_cases h1 : nb m 0 < 194 ∨ 244 < nb m 0 ∨ tl m 1 = false
  · rw [if_pos h1, if_pos h1]
  rw [if_neg h1, if_neg h1]
  have ht : tl m 1 = true := by
    cases hh : tl m 1 with
    | true => rfl
    | false => exact absurd (.inr (.inr hh)) h1
  rw [nb_snoc m 1 (tl_true.1 ht).1]
theorem bad_snoc (m : List UInt8) (h : m.length ≠ 0) : bad (m ++ [39]) ↔ bad m := by
  unfold bad
  rw [sg_snoc m h, nb_snoc m 0 (by omega)]
theorem hexv_39 : hexv 39 < 0 := by decide
theorem escV_snoc (m : List UInt8) (h : 2 ≤ m.length) : escV (m ++ [39]) = escV m := by
  have h2 : ¬ (m ++ [39]).length < 2 := by rw [List.length_append]; omega
  unfold escV
  rw [if_neg h2, if_neg (show ¬ m.length < 2 from by omega), nb_snoc m 1 (by omega)]
  by_cases h4 : m.length < 4
  · have hc : ((m ++ [39]).length < 4 ∨ nb m 1 ≠ 120 ∨ hexv (nb (m ++ [39]) 2) < 0 ∨ hexv (nb (m ++ [39]) 3) < 0) := by
      by_cases h3 : m.length = 2
      · exact .inl (by rw [List.length_append, h3]; decide)
      · have h3' : m.length = 3 := by omega
        have := nb_snoc_end m
        rw [h3'] at this
        exact .inr (.inr (.inr (by rw [this]; exact hexv_39)))
    rw [if_pos hc, if_pos (show m.length < 4 ∨ _ from .inl h4)]
  · rw [nb_snoc m 2 (by omega), nb_snoc m 3 (by omega)]
    have h5 : ¬ (m ++ [39]).length < 4 := by rw [List.length_append]; omega
    simp only [h4, h5, false_or]
/-- Read to the very end. -/
def fin_ (o : Option (List UInt8 × List UInt8)) : Option (List UInt8) := match o with | some (t, []) => some t | _ => none
theorem fin_map (p : List UInt8) (o : Option (List UInt8 × List UInt8)) : fin_ (o.map fun q => (p ++ q.1, q.2)) = (fin_ o).map fun q => p ++ q := by
  cases o with
  | none => rfl
  | some q =>
    obtain ⟨t, r⟩ := q
    cases r <;> rfl
theorem fin_qd : ∀ (k : Nat) (m : List UInt8), m.length = k → fin_ (qd (m ++ [39])) = uq m := by
  intro k
  induction k using Nat.strongRecOn with
  | _ k ih =>
    intro m hm
    by_cases h0 : m.length = 0
    · rw [uq_eq, if_pos h0, qd_eq, if_neg (by simp), if_pos (by have := nb_snoc_end m; rw [h0] at this; exact this)]
      have : m = [] := List.length_eq_zero_iff.1 h0
      subst this
      rfl
    have hstep : ∀ n, 1 ≤ n → n ≤ m.length → fin_ (qd ((m ++ [39]).drop n)) = uq (m.drop n) := fun n h1 h2 => by
      rw [List.drop_append_of_le_length h2]
      exact ih (m.drop n).length (by rw [List.length_drop]; omega) (m.drop n) rfl
    rw [uq_eq, if_neg h0, qd_eq, if_neg (by simp), nb_snoc m 0 (by omega), sg_snoc m h0]
    by_cases h1 : nb m 0 = 39
    · rw [if_pos h1, if_neg (by omega), if_pos (.inl h1)]
      rw [List.drop_append_of_le_length (by omega)]
      cases hd : m.drop 1 <;> rfl
    rw [if_neg h1]
    by_cases h2 : bad m
    · have h92 : nb m 0 ≠ 92 ∨ nb m 0 = 92 := by omega
      rw [if_pos ((bad_snoc m h0).2 h2)]
      by_cases h3 : nb m 0 = 92
      · exfalso
        have := sg_one.2 ⟨h0, by omega⟩
        rcases h2 with h2 | h2 | h2 <;> omega
      · rw [if_neg h3, if_pos (.inr h2)]; rfl
    rw [if_neg (fun h => h2 ((bad_snoc m h0).1 h))]
    by_cases h3 : nb m 0 = 92
    · rw [if_pos h3, if_pos h3]
      by_cases h4 : m.length = 1
      · have e2 : escV m = none := escV_short (by omega)
        have e1 : escV (m ++ [39]) = some (UInt8.ofNat 39, 2) := by
          have hn : nb (m ++ [39]) 1 = 39 := by have := nb_snoc_end m; rw [h4] at this; exact this
          rw [escV_q (by rw [List.length_append]; simp; omega) (.inr hn), hn]
        rw [e1, e2]
        dsimp only
        have e3 : qd ((m ++ [39]).drop 2) = none := by rw [qd_eq, if_pos (by rw [List.length_drop, List.length_append, h4]; rfl)]
        show fin_ (Option.map _ (qd ((m ++ [39]).drop 2))) = none
        rw [e3]
        rfl
      · rw [escV_snoc m (by omega)]
        cases he : escV m with
        | none => rfl
        | some p =>
          obtain ⟨x, n⟩ := p
          have hl := escV_len he
          dsimp only
          have := fin_map [x] (qd ((m ++ [39]).drop n))
          rw [hstep n (by omega) hl.2] at this
          exact this
    · rw [if_neg h3, if_neg h3, if_neg (fun h => h.elim h1 h2)]
      have h5 := bad_not h2
      have h6 := (sg_le (l := m)).2
      rw [List.take_append_of_le_length h6, fin_map, hstep (sg m) (by omega) h6]
theorem qd_last : ∀ (k : Nat) (l : List UInt8), l.length = k → ∀ t r, qd l = some (t, r) → ∃ j, j < l.length ∧ nb l j = 39 ∧ r = l.drop (j + 1) := by
  intro k
  induction k using Nat.strongRecOn with
  | _ k ih =>
    intro l hl t r h
    rw [qd_eq] at h
    by_cases h0 : l.length = 0
    · rw [if_pos h0] at h; cases h
    rw [if_neg h0] at h
    have key : ∀ (n : Nat) (p : List UInt8), 1 ≤ n → n ≤ l.length → (qd (l.drop n)).map (fun q => (p ++ q.1, q.2)) = some (t, r) → ∃ j, j < l.length ∧ nb l j = 39 ∧ r = l.drop (j + 1) := fun n p h1 h2 h3 => by
      cases hq : qd (l.drop n) with
      | none => rw [hq] at h3; cases h3
      | some q =>
        obtain ⟨t', r'⟩ := q
        rw [hq] at h3
        obtain ⟨j, j1, j2, j3⟩ := ih (l.drop n).length (by rw [List.length_drop]; omega) (l.drop n) rfl t' r' hq
        rw [List.length_drop] at j1
        rw [nb_drop] at j2
        rw [List.drop_drop] at j3
        cases h3
        exact ⟨n + j, by omega, j2, by rw [j3]; congr 1⟩
    by_cases h1 : nb l 0 = 39
    · rw [if_pos h1] at h
      cases h
      exact ⟨0, by omega, h1, rfl⟩
    rw [if_neg h1] at h
    by_cases h2 : bad l
    · rw [if_pos h2] at h; cases h
    rw [if_neg h2] at h
    by_cases h3 : nb l 0 = 92
    · rw [if_pos h3] at h
      cases he : escV l with
      | none => rw [he] at h; cases h
      | some p =>
        obtain ⟨x, n⟩ := p
        rw [he] at h
        have hl := escV_len he
        exact key n [x] (by omega) hl.2 h
    · rw [if_neg h3] at h
      exact key (sg l) (l.take (sg l)) (by have := bad_not h2; omega) sg_le.2 h
theorem fin_some {o : Option (List UInt8 × List UInt8)} {t : List UInt8} (h : fin_ o = some t) : o = some (t, []) := by
  unfold fin_ at h
  split at h
  · cases h; rfl
  · cases h
/-- The reference's way is the program's. -/
theorem unq_same (l : List UInt8) : fin_ (qdS l 0) = unqS l := by
  unfold qdS unqS
  by_cases h0 : 0 < l.length ∧ nb l 0 = 39
  · rw [if_pos h0]
    by_cases h1 : 2 ≤ l.length ∧ nb l 0 = 39 ∧ nb l (l.length - 1) = 39
    · rw [if_pos h1]
      have hm : l.drop 1 = (l.drop 1).take (l.length - 2) ++ [39] := by
        apply List.ext_getElem?
        intro j
        by_cases hj : j < l.length - 2
        · rw [List.getElem?_append_left (by rw [List.length_take, List.length_drop]; omega), List.getElem?_take, if_pos hj]
        · rw [List.getElem?_append_right (by rw [List.length_take, List.length_drop]; omega), List.length_take, List.length_drop, List.getElem?_drop]
          by_cases hj2 : j = l.length - 2
          · subst hj2
            rw [show l.length - 2 - min (l.length - 2) (l.length - 1) = 0 from by omega]
            have h3 := h1.2.2
            unfold nb at h3
            rw [show 1 + (l.length - 2) = l.length - 1 from by omega]
            rw [List.getElem?_eq_getElem (by omega)] at h3 ⊢
            simp at h3
            have h39 : l[l.length - 1] = 39 := UInt8.toNat_inj.1 h3
            rw [h39]; rfl
          · rw [List.getElem?_eq_none (by omega), List.getElem?_eq_none (by simp; omega)]
      rw [show 0 + 1 = 1 from rfl]
      conv => lhs; rw [hm]
      exact fin_qd _ _ rfl
    · rw [if_neg h1]
      cases hf : fin_ (qd (l.drop (0 + 1))) with
      | none => rfl
      | some t =>
        exfalso
        obtain ⟨j, j1, j2, j3⟩ := qd_last _ _ rfl t [] (fin_some hf)
        rw [List.length_drop] at j1
        have h4 : ((l.drop (0 + 1)).drop (j + 1)).length = 0 := by rw [← j3]; rfl
        rw [List.length_drop, List.length_drop] at h4
        rw [nb_drop] at j2
        exact h1 ⟨by omega, h0.2, by rw [show l.length - 1 = 0 + 1 + j from by omega]; exact j2⟩
  · rw [if_neg h0, if_neg (fun h => h0 ⟨by omega, h.2.1⟩)]
    rfl
end Go.Proofs.Ytoakloicjlfaaaa

/- Layer 5: the contracts of Name and Key, the program's and the reference's. Written by genS19.py. Conditions: the text is no longer than 2^40. -/
namespace Go.Proofs.Ytoakloicjlfaaaa
open Go.RowKit Go.Shelf
set_option linter.unusedSimpArgs false
set_option linter.unusedVariables false

theorem toList_data (s : ByteArray) : s.toList = s.data.toList := by
  have h := strOf_list s.data.toList
  rwa [strOf_toList] at h
def nchar (c : Nat) : Bool := letter c || digt c
def nameB (l : List UInt8) : Bool := decide (1 ≤ l.length ∧ l.length ≤ 64 ∧ letter (nb l 0) = true ∧ ∀ k, k < l.length → nchar (nb l k) = true)
/-- What is seen ahead of place i. -/
def DoneN (l : List UInt8) (i : Nat) : Prop := i ≤ l.length ∧ (0 < i → letter (nb l 0) = true) ∧ ∀ k, k < i → nchar (nb l k) = true
theorem doneN_zero (l : List UInt8) : DoneN l 0 := ⟨by omega, fun h => by omega, fun k h => by omega⟩
theorem doneN_step {l : List UInt8} {i : Nat} (h : DoneN l i) (hi : i < l.length) (h0 : i = 0 → letter (nb l i) = true) (hc : nchar (nb l i) = true) : DoneN l (i + 1) := by
  obtain ⟨h1, h2, h3⟩ := h
  refine ⟨by omega, fun _ => ?_, fun k hk => ?_⟩
  · by_cases hz : i = 0
    · subst hz; exact h0 rfl
    · exact h2 (by omega)
  · by_cases hk2 : k = i
    · subst hk2; exact hc
    · exact h3 k (by omega)
theorem doneN_end {l : List UInt8} {i : Nat} (h : DoneN l i) (hi : l.length ≤ i) : nameB l = decide (1 ≤ l.length ∧ l.length ≤ 64) := by
  obtain ⟨h1, h2, h3⟩ := h
  unfold nameB
  apply decide_eq_decide.2
  constructor
  · rintro ⟨a, b, _⟩; exact ⟨a, b⟩
  · rintro ⟨a, b⟩; exact ⟨a, b, h2 (by omega), fun k hk => h3 k (by omega)⟩
theorem nameB_no {l : List UInt8} {i : Nat} (hi : i < l.length) (h : nchar (nb l i) = false ∨ (i = 0 ∧ letter (nb l i) = false)) : nameB l = false := by
  apply decide_eq_false
  rintro ⟨_, _, h3, h4⟩
  rcases h with h | ⟨rfl, h⟩
  · rw [h4 i hi] at h; cases h
  · rw [h3] at h; cases h
theorem letter_nchar {c : Nat} (h : letter c = true) : nchar c = true := by unfold nchar; rw [h]; rfl
theorem digt_nchar {c : Nat} (h : digt c = true) : nchar c = true := by unfold nchar; rw [h, Bool.or_true]
theorem nchar_no {c : Nat} (h : letter c = false) (k : digt c = false) : nchar c = false := by unfold nchar; rw [h, k]; rfl

theorem big_no {r m c : Nat} (SM : r < 128 → m = 1 ∧ c = r) (BG : ¬ r < 128 → ¬ c < 128) (h1 : ¬ (97 ≤ r ∧ r ≤ 122)) (h2 : ¬ (65 ≤ r ∧ r ≤ 90) ∧ r ≠ 95 ∧ ¬ (48 ≤ r ∧ r ≤ 57)) : nchar c = false := by
  by_cases hb : r < 128
  · have hsm := SM hb
    rw [hsm.2]
    exact nchar_no (decide_eq_false (by omega)) (decide_eq_false (by omega))
  · have := BG hb
    exact nchar_no (decide_eq_false (by omega)) (decide_eq_false (by omega))

set_option maxRecDepth 1000000 in
set_option maxHeartbeats 4000000 in
theorem sname_any (s : ByteArray) (w : World) (hs : s.size ≤ 1099511627776) :
    Calls Try.prog 66 #[.string s] w fun e w' => e = .returned (.bool (nameB s.data.toList)) ∧ Below w.heap.size w w' := by
  have HL : Hid (s.data.toList.length = s.size) := Lib.hid (by simp)
  obtain ⟨R, hR⟩ : ∃ R, nameB s.data.toList = R := ⟨_, rfl⟩
  have HR := Lib.hid hR
  rw [hR]
  clear hR
  go_enter Try.func66, Try.ntmps66
  go_wp2_with fail
  go_loopw [] (fun wr => ∃ i : Nat, wr.heap[w.heap.size]? = some (.stringIter s i) ∧ Below w.heap.size w wr ∧ Hid (DoneN s.data.toList i)) (fun wr => s.size - wr.iterPos w.heap.size)
  case atStart =>
    refine ⟨0, ?_, (Below.refl _ w).alloc (Nat.le_refl _) _, Lib.hid (doneN_zero _)⟩
    have := World.iter_heap w s 0
    simpa using this
  case round =>
    obtain ⟨i, hit, hbw, hd⟩ := hrel
    have hszr : w.heap.size < wr.heap.size := (Array.getElem?_eq_some_iff.1 hit).1
    have HIT := Lib.hid hit
    have HBW := Lib.hid hbw
    clear hit hbw
    have hil : i ≤ s.size := by have := hd.out.1; rw [HL.out] at this; exact this
    by_cases hp : i < s.size
    · have hnx : ∀ ty, (Instr.next (.pointer (some ⟨w.heap.size, 0, none⟩)) true ty).run Try.prog wr = _ := fun ty => Lib.run_next_any_at wr w.heap.size s i ty HIT.out hp
      have hln : (s.data.toList.drop i).length ≠ 0 := by simp; omega
      have hdec := decode_spec s i hp
      have hmv : (if sg (s.data.toList.drop i) = 0 then 1 else sg (s.data.toList.drop i)) = stepQ (s.data.toList.drop i) := rfl
      rw [hmv] at hdec
      rw [hdec] at hnx
      dsimp only at hnx
      have hm1 := stepQ_pos (s.data.toList.drop i)
      have hm2 := stepQ_le hln
      rw [List.length_drop] at hm2
      simp only [Array.length_toList, ByteArray.size_data] at hm2
      have X : Hid (nb (s.data.toList.drop i) 0 = nb s.data.toList i) := Lib.hid (by rw [nb_drop, Nat.add_zero])
      have SM : Hid (rv (s.data.toList.drop i) < 128 → stepQ (s.data.toList.drop i) = 1 ∧ nb s.data.toList i = rv (s.data.toList.drop i)) := Lib.hid (fun h => by
        have := rv_small hln h
        exact ⟨by unfold stepQ; rw [if_neg (by omega)]; exact this.1, by rw [← X.out]; exact this.2⟩)
      have BG : Hid (¬ rv (s.data.toList.drop i) < 128 → ¬ nb s.data.toList i < 128) := Lib.hid (fun h h2 => h (by
        have h3 := sg_one.2 ⟨hln, by rw [X.out]; exact h2⟩
        have h4 : rv (s.data.toList.drop i) = nb (s.data.toList.drop i) 0 := by unfold rv; rw [if_pos h3]
        rw [h4, X.out]; exact h2))
      have hrl : rv (s.data.toList.drop i) ≤ 2147483647 := by have := decode_le s i; rw [hdec] at this; exact this
      have NX := Lib.hid (doneN_step hd.out (by rw [HL.out]; exact hp))
      have NO := Lib.hid (@nameB_no s.data.toList i (by rw [HL.out]; exact hp))
      clear hln hdec hmv
      generalize rv (s.data.toList.drop i) = r at *
      generalize stepQ (s.data.toList.drop i) = m at *
      have HIT2 := Lib.hid (Lib.iterAt_heap wr w.heap.size s i (i + m) HIT.out)
      have HBW2 := Lib.hid (Lib.below_iterAt HBW.out (k := w.heap.size) (by omega) s (i + m))
      generalize hWn : wr.iterAt w.heap.size s (i + m) = Wn at *
      have HWn := Lib.hid hWn
      clear hWn
      by_cases c1 : 97 ≤ r
      · have d1 : (97 : Int) ≤ r := by omega
        by_cases c2 : r ≤ 122
        · have d2 : (r : Int) ≤ 122 := by omega
          have t : True := trivial
          have hsm := SM.out (by omega)
          have HM := Lib.hid hsm.1
          have hlt : letter (nb s.data.toList i) = true := by rw [hsm.2]; exact decide_eq_true (by omega)
          have HU := Lib.hid (NX.out (fun _ => hlt) (letter_nchar hlt))
          clear hsm hlt
          go_wp2_with fail
          go_roundw
          case rel => exact ⟨i + m, HIT2.out, HBW2.out, by rw [HM.out]; exact HU⟩
          case measure => simp only [World.iterPos, HIT2.out, HIT.out]; omega
        have d2 : ¬ (r : Int) ≤ 122 := by omega
        have d3 : (65 : Int) ≤ r := by omega
        have d4 : ¬ (r : Int) ≤ 90 := by omega
        have d5 : ((r : Int) == 95) = false := by simp; omega
        have d6 : ¬ (r : Int) < 48 := by omega
        have d7 : (57 : Int) < r := by omega
        have t : True := trivial
        have HU := Lib.hid (NO.out (.inl (big_no SM.out BG.out (by omega) (by omega))))
        by_cases hz : i = 0
        · have hzb : ((i : Int) == 0) = true := by simp; omega
          clear hz
          go_wp2_with fail
          go_ret
          exact ⟨by rw [← HR.out, HU.out]; rfl, HBW2.out⟩
        · have hzb : ((i : Int) == 0) = false := by simp; omega
          go_wp2_with fail
          go_ret
          exact ⟨by rw [← HR.out, HU.out]; rfl, HBW2.out⟩
      have d1 : ¬ (97 : Int) ≤ r := by omega
      by_cases c3 : 65 ≤ r
      · have d3 : (65 : Int) ≤ r := by omega
        by_cases c4 : r ≤ 90
        · have d4 : (r : Int) ≤ 90 := by omega
          have t : True := trivial
          have hsm := SM.out (by omega)
          have HM := Lib.hid hsm.1
          have hlt : letter (nb s.data.toList i) = true := by rw [hsm.2]; exact decide_eq_true (by omega)
          have HU := Lib.hid (NX.out (fun _ => hlt) (letter_nchar hlt))
          clear hsm hlt
          go_wp2_with fail
          go_roundw
          case rel => exact ⟨i + m, HIT2.out, HBW2.out, by rw [HM.out]; exact HU⟩
          case measure => simp only [World.iterPos, HIT2.out, HIT.out]; omega
        have d4 : ¬ (r : Int) ≤ 90 := by omega
        by_cases c5 : r = 95
        · have d5 : ((r : Int) == 95) = true := by simp; omega
          have C5 := Lib.hid c5
          have hsm := SM.out (by omega)
          have HM := Lib.hid hsm.1
          have hlt : letter (nb s.data.toList i) = true := by rw [hsm.2]; exact decide_eq_true (by omega)
          have HU := Lib.hid (NX.out (fun _ => hlt) (letter_nchar hlt))
          clear hsm hlt c5
          go_wp2_with fail
          go_roundw
          case rel => exact ⟨i + m, HIT2.out, HBW2.out, by rw [HM.out]; exact HU⟩
          case measure => simp only [World.iterPos, HIT2.out, HIT.out]; omega
        have d5 : ((r : Int) == 95) = false := by simp; omega
        have d6 : ¬ (r : Int) < 48 := by omega
        have d7 : (57 : Int) < r := by omega
        have t : True := trivial
        have HU := Lib.hid (NO.out (.inl (big_no SM.out BG.out (by omega) (by omega))))
        by_cases hz : i = 0
        · have hzb : ((i : Int) == 0) = true := by simp; omega
          clear hz
          go_wp2_with fail
          go_ret
          exact ⟨by rw [← HR.out, HU.out]; rfl, HBW2.out⟩
        · have hzb : ((i : Int) == 0) = false := by simp; omega
          go_wp2_with fail
          go_ret
          exact ⟨by rw [← HR.out, HU.out]; rfl, HBW2.out⟩
      have d3 : ¬ (65 : Int) ≤ r := by omega
      have d5 : ((r : Int) == 95) = false := by simp; omega
      by_cases c6 : r < 48
      · have d6 : (r : Int) < 48 := by omega
        have t : True := trivial
        have HU := Lib.hid (NO.out (.inl (big_no SM.out BG.out (by omega) (by omega))))
        by_cases hz : i = 0
        · have hzb : ((i : Int) == 0) = true := by simp; omega
          clear hz
          go_wp2_with fail
          go_ret
          exact ⟨by rw [← HR.out, HU.out]; rfl, HBW2.out⟩
        · have hzb : ((i : Int) == 0) = false := by simp; omega
          go_wp2_with fail
          go_ret
          exact ⟨by rw [← HR.out, HU.out]; rfl, HBW2.out⟩
      have d6 : ¬ (r : Int) < 48 := by omega
      by_cases c7 : 57 < r
      · have d7 : (57 : Int) < r := by omega
        have t : True := trivial
        have HU := Lib.hid (NO.out (.inl (big_no SM.out BG.out (by omega) (by omega))))
        by_cases hz : i = 0
        · have hzb : ((i : Int) == 0) = true := by simp; omega
          clear hz
          go_wp2_with fail
          go_ret
          exact ⟨by rw [← HR.out, HU.out]; rfl, HBW2.out⟩
        · have hzb : ((i : Int) == 0) = false := by simp; omega
          go_wp2_with fail
          go_ret
          exact ⟨by rw [← HR.out, HU.out]; rfl, HBW2.out⟩
      have d7 : ¬ (57 : Int) < r := by omega
      have hsm := SM.out (by omega)
      have HM := Lib.hid hsm.1
      have hdg : digt (nb s.data.toList i) = true := by rw [hsm.2]; exact decide_eq_true (by omega)
      have hnl : letter (nb s.data.toList i) = false := by rw [hsm.2]; exact decide_eq_false (by omega)
      by_cases hz : i = 0
      · have hzb : ((i : Int) == 0) = true := by simp; omega
        have HU := Lib.hid (NO.out (.inr ⟨hz, hnl⟩))
        clear hz hsm hdg hnl
        go_wp2_with fail
        go_ret
        exact ⟨by rw [← HR.out, HU.out]; rfl, HBW2.out⟩
      · have hzb : ((i : Int) == 0) = false := by simp; omega
        have HU := Lib.hid (NX.out (fun h => absurd h hz) (digt_nchar hdg))
        clear hsm hdg hnl
        go_wp2_with fail
        go_roundw
        case rel => exact ⟨i + m, HIT2.out, HBW2.out, by rw [HM.out]; exact HU⟩
        case measure => simp only [World.iterPos, HIT2.out, HIT.out]; omega
    · have hnx : ∀ ty, (Instr.next (.pointer (some ⟨w.heap.size, 0, none⟩)) true ty).run Try.prog wr = _ := fun ty => Lib.run_next_end_at wr w.heap.size s i ty HIT.out hp
      have HE := Lib.hid (doneN_end hd.out (by rw [HL.out]; omega))
      have hle : s.toList.length = s.size := by rw [← HL.out, toList_data]
      by_cases he : s.size = 0
      · have k1 : s.toList = [] := List.length_eq_zero_iff.1 (by omega)
        have HF : Hid (R = false) := Lib.hid (by rw [← HR.out, HE.out, HL.out]; exact decide_eq_false (by omega))
        have k1b : s.toList.isEmpty = true := by rw [k1]; rfl
        clear hle k1
        go_wp2_with fail
        go_ret
        exact ⟨by rw [HF.out]; rfl, HBW.out⟩
      · have k1 : ¬ s.toList = [] := fun h => by rw [h] at hle; simp at hle; omega
        have k1b : s.toList.isEmpty = false := by rw [List.isEmpty_eq_false_iff]; exact k1
        clear hle
        by_cases h64 : s.size ≤ 64
        · have k2 : (s.size : Int) ≤ 64 := by omega
          have HF : Hid (R = true) := Lib.hid (by rw [← HR.out, HE.out, HL.out]; exact decide_eq_true (by omega))
          go_wp2_with fail
          go_ret
          exact ⟨by rw [HF.out]; rfl, HBW.out⟩
        · have k2 : ¬ (s.size : Int) ≤ 64 := by omega
          have HF : Hid (R = false) := Lib.hid (by rw [← HR.out, HE.out, HL.out]; exact decide_eq_false (by omega))
          go_wp2_with fail
          go_ret
          exact ⟨by rw [HF.out]; rfl, HBW.out⟩

def keyL (l : List UInt8) : List UInt8 := if nameB l = true then l else 39 :: (quoteL l ++ [39])
theorem key_any (s : ByteArray) (w : World) (hs : s.size ≤ 1099511627776) :
    Calls Try.prog 37 #[.string s] w fun e w' => e = .returned (.string (strOf (keyL s.data.toList))) ∧ Below w.heap.size w w' := by
  have HN := Lib.hid (sname_any s w hs)
  cases hb : nameB s.data.toList with
  | true =>
    have HK : Hid (strOf (keyL s.data.toList) = s) := Lib.hid (by unfold keyL; rw [if_pos hb]; exact strOf_toList s)
    rw [hb] at HN
    clear hb
    rw [HK.out]
    go_enter Try.func37, Try.ntmps37
    go_wp2_with fail
    refine HN.out.mono ?_
    rintro e w1 ⟨rfl, hb1⟩
    go_wp2_with fail
    go_ret
    exact ⟨rfl, hb1⟩
  | false =>
    have HK : Hid (keyL s.data.toList = 39 :: (quoteL s.data.toList ++ [39])) := Lib.hid (by unfold keyL; rw [if_neg (by rw [hb]; simp)])
    rw [hb] at HN
    clear hb
    rw [HK.out]
    go_enter Try.func37, Try.ntmps37
    go_wp2_with fail
    refine HN.out.mono ?_
    rintro e w1 ⟨rfl, hb1⟩
    have HB1 := Lib.hid hb1
    clear hb1
    go_wp2_with fail
    refine (quote_any s w1 hs).mono ?_
    rintro e w2 ⟨rfl, hb2⟩
    go_wp2_with fail
    go_ret
    exact ⟨rfl, below_step HB1.out rfl hb2⟩
end Go.Proofs.Ytoakloicjlfaaaa

/- Layer 5: values as texts, in plain trees. Conditions: none. -/
namespace Go.Proofs.Ytoakloicjlfaaaa
open Go.RowKit
set_option linter.unusedVariables false

def jn (xs : List (List UInt8)) : List UInt8 := Lib.join xs [44, 32]
theorem jn_nil : jn [] = [] := rfl
theorem jn_snoc (xs : List (List UInt8)) (x : List UInt8) : jn (xs ++ [x]) = if xs = [] then x else jn xs ++ [44, 32] ++ x := by
  cases xs with
  | nil => rw [if_pos rfl]; exact Lib.join_one x _
  | cons y ys =>
    rw [if_neg (by simp)]
    unfold jn
    rw [List.cons_append, Lib.join_cons, Lib.join_cons]
    unfold Lib.joinTail
    rw [List.map_append, List.flatten_append]
    simp
theorem jn_len' : ∀ (n : Nat) (xs : List (List UInt8)), xs.length = n → (jn xs).length ≤ (xs.map fun x => x.length + 2).sum := by
  intro n
  induction n with
  | zero => intro xs h; rw [List.length_eq_zero_iff.1 h]; simp [jn_nil]
  | succ n ih =>
    intro ys h
    have hne : ys ≠ [] := fun e => by rw [e] at h; simp at h
    obtain ⟨xs, x, rfl⟩ : ∃ xs x, ys = xs ++ [x] := ⟨ys.dropLast, ys.getLast hne, (List.dropLast_concat_getLast hne).symm⟩
    have ih := ih xs (by simpa using h)
    rw [jn_snoc, List.map_append, List.sum_append]
    split
    · simp; omega
    · simp only [List.length_append, List.length_cons, List.length_nil, List.map_cons, List.map_nil, List.sum_cons, List.sum_nil]
      omega
theorem jn_len (xs : List (List UInt8)) : (jn xs).length ≤ (xs.map fun x => x.length + 2).sum := jn_len' _ xs rfl
def withKeys (ks : List ByteArray) (es : List (List UInt8)) : List (List UInt8) := List.zipWith (fun k e => keyL k.data.toList ++ [58, 32] ++ e) ks es
mutual
def showV : Vt → List UInt8
  | .mk k b i s l ks =>
    if k = 1 then (if b then [116, 114, 117, 101] else [102, 97, 108, 115, 101]) else if k = 2 then textOf i else if k = 3 then 39 :: (quoteL s.data.toList ++ [39])
    else if k = 6 then [35, 110] ++ textOf i else if k = 7 then [35, 101] ++ textOf i
    else if k = 4 then [91] ++ jn (showVs l) ++ [93] else if k = 5 then [123] ++ jn (withKeys ks (showVs l)) ++ [125] else [110, 117, 108, 108]
def showVs : List Vt → List (List UInt8)
  | [] => []
  | t :: ts => showV t :: showVs ts
end
theorem showVs_map (l : List Vt) : showVs l = l.map showV := by
  induction l with
  | nil => simp [showVs]
  | cons t ts ih => simp [showVs, ih]
theorem textOf_len (n : Int) : (textOf n).length ≤ 20 := by
  have := decN_len n.natAbs
  unfold textOf
  rw [List.length_append]
  split
  · simp; omega
  · simp; omega
theorem keyL_len (l : List UInt8) : (keyL l).length ≤ 4 * l.length + 2 := by
  have := quoteL_len l
  unfold keyL
  split
  · omega
  · simp; omega
/-- How long a value's text is. -/
theorem showV_len (t : Vt) : (showV t).length + 2 ≤ 32 * wtV t := by
  refine t.down (p := fun t => (showV t).length + 2 ≤ 32 * wtV t) fun k b i s l ks ih => ?_
  have hs : s.data.toList.length = s.size := by simp
  have hq := quoteL_len s.data.toList
  have ht := textOf_len i
  have h1 : ((showVs l).map fun x => x.length + 2).sum ≤ 32 * wtVs l := by
    rw [showVs_map, wtVs_sum]
    clear hs hq ht
    induction l with
    | nil => simp
    | cons u us ih2 =>
      have a := ih 0 u rfl
      have b := ih2 (fun j t h => ih (j + 1) t (by simpa using h))
      simp only [List.map_cons, List.sum_cons] at b ⊢
      omega
  have h2 : ∀ (ks : List ByteArray) (es : List (List UInt8)), ((withKeys ks es).map fun x => x.length + 2).sum ≤ (es.map fun x => x.length + 2).sum + 32 * (ks.map fun k => k.size + 1).sum := by
    intro ks
    induction ks with
    | nil => intro es; simp [withKeys]
    | cons k ks ih2 =>
      intro es
      cases es with
      | nil => simp [withKeys]
      | cons e es =>
        have a := ih2 es
        have b := keyL_len k.data.toList
        have c : k.data.toList.length = k.size := by simp
        unfold withKeys at a ⊢
        simp only [List.zipWith_cons_cons, List.map_cons, List.sum_cons, List.length_append, List.length_cons, List.length_nil]
        omega
  have h3 := h2 ks (showVs l)
  have h4 := jn_len (showVs l)
  have h5 := jn_len (withKeys ks (showVs l))
  simp only [wtV]
  unfold showV
  by_cases k1 : k = 1
  · rw [if_pos k1]; cases b <;> simp <;> omega
  rw [if_neg k1]
  by_cases k2 : k = 2
  · rw [if_pos k2]; omega
  rw [if_neg k2]
  by_cases k3 : k = 3
  · rw [if_pos k3]; simp; omega
  rw [if_neg k3]
  by_cases k6 : k = 6
  · rw [if_pos k6]; simp; omega
  rw [if_neg k6]
  by_cases k7 : k = 7
  · rw [if_pos k7]; simp; omega
  rw [if_neg k7]
  by_cases k4 : k = 4
  · rw [if_pos k4]; simp; omega
  rw [if_neg k4]
  by_cases k5 : k = 5
  · rw [if_pos k5]; simp; omega
  rw [if_neg k5]
  simp; omega
theorem showVs_take {l : List Vt} {j : Nat} {t : Vt} (h : l[j]? = some t) : (showVs l).take (j + 1) = (showVs l).take j ++ [showV t] := by
  rw [showVs_map]
  exact take_succ_some (by rw [List.getElem?_map, h]; rfl)
theorem withKeys_take {ks : List ByteArray} {l : List Vt} {j : Nat} {t : Vt} {k : ByteArray} (h : l[j]? = some t) (hk : ks[j]? = some k) :
    (withKeys ks (showVs l)).take (j + 1) = (withKeys ks (showVs l)).take j ++ [keyL k.data.toList ++ [58, 32] ++ showV t] := by
  refine take_succ_some ?_
  unfold withKeys
  rw [List.getElem?_zipWith, hk, showVs_map, List.getElem?_map, h]
  rfl
theorem showVs_len (l : List Vt) : (showVs l).length = l.length := by rw [showVs_map, List.length_map]
theorem withKeys_len {ks : List ByteArray} {l : List Vt} (h : ks.length = l.length) : (withKeys ks (showVs l)).length = l.length := by
  unfold withKeys
  rw [List.length_zipWith, showVs_len, h, Nat.min_self]
/-- The parts of a list, of a map. -/
def shPartsV (k : Int) (ks : List ByteArray) (l : List Vt) : List (List UInt8) := if k = 5 then withKeys ks (showVs l) else showVs l
theorem shPartsV_len {k : Int} {ks : List ByteArray} {l : List Vt} (h : k = 5 → ks.length = l.length) : (shPartsV k ks l).length = l.length := by
  unfold shPartsV
  split
  · rename_i h5; exact withKeys_len (h h5)
  · exact showVs_len l
theorem jn_parts_len (k : Int) (b : Bool) (i : Int) (s : ByteArray) (l : List Vt) (ks : List ByteArray) : ((shPartsV k ks l).map fun x => x.length + 2).sum ≤ 32 * wtV (.mk k b i s l ks) := by
  have h1 : ((showVs l).map fun x => x.length + 2).sum ≤ 32 * wtVs l := by
    rw [showVs_map, wtVs_sum]
    induction l with
    | nil => simp
    | cons u us ih2 =>
      have a := showV_len u
      simp only [List.map_cons, List.sum_cons] at ih2 ⊢
      omega
  have h2 : ∀ (ks : List ByteArray) (es : List (List UInt8)), ((withKeys ks es).map fun x => x.length + 2).sum ≤ (es.map fun x => x.length + 2).sum + 32 * (ks.map fun k => k.size + 1).sum := by
    intro ks
    induction ks with
    | nil => intro es; simp [withKeys]
    | cons k ks ih2 =>
      intro es
      cases es with
      | nil => simp [withKeys]
      | cons e es =>
        have a := ih2 es
        have b := keyL_len k.data.toList
        have c : k.data.toList.length = k.size := by simp
        unfold withKeys at a ⊢
        simp only [List.zipWith_cons_cons, List.map_cons, List.sum_cons, List.length_append, List.length_cons, List.length_nil]
        omega
  have h3 := h2 ks (showVs l)
  simp only [wtV]
  unfold shPartsV
  split <;> omega
theorem sum_take (xs : List (List UInt8)) (j : Nat) : ((xs.take j).map fun x => x.length + 2).sum ≤ (xs.map fun x => x.length + 2).sum := by
  conv => rhs; rw [← List.take_append_drop j xs]
  rw [List.map_append, List.sum_append]
  omega
end Go.Proofs.Ytoakloicjlfaaaa

/- Layer 5: the contract of the reference's Show over values that may be. Written by genS24.py. Conditions: the value weighs no more than 2^20. -/
namespace Go.Proofs.Ytoakloicjlfaaaa
open Go.RowKit Go.Shelf
set_option linter.unusedSimpArgs false
set_option linter.unusedVariables false

/-- What Show needs of a value. -/
inductive MayE : Vt → Prop
  | mk (k : Int) (b : Bool) (i : Int) (s : ByteArray) (l : List Vt) (ks : List ByteArray) (h1 : 0 ≤ k) (h2 : k ≤ 7) (h3 : k = 5 → ks.length = l.length) (h4 : unusedV k b i s l.length ks.length = true) (h5 : ∀ (j : Nat) u, l[j]? = some u → MayE u) : MayE (.mk k b i s l ks)
theorem MayE.head {k : Int} {b : Bool} {i : Int} {s : ByteArray} {l : List Vt} {ks : List ByteArray} (h : MayE (.mk k b i s l ks)) : 0 ≤ k ∧ k ≤ 7 ∧ (k = 5 → ks.length = l.length) ∧ ∀ (j : Nat) u, l[j]? = some u → MayE u := by
  cases h with
  | mk _ _ _ _ _ _ h1 h2 h3 h4 h5 => exact ⟨h1, h2, h3, h5⟩
theorem MayE.of_may (t : Vt) : ∀ d p, (mayV t d p).2 = true → MayE t := by
  refine t.down (p := fun t => ∀ d p, (mayV t d p).2 = true → MayE t) fun k b i s l ks ih d p h => ?_
  obtain ⟨k', b', i', s', l', ks', he, hh, hp⟩ := mayV_parts h
  injection he with e1 e2 e3 e4 e5 e6
  subst e1 e2 e3 e4 e5 e6
  have h9 := of_decide_eq_true hh
  exact .mk _ _ _ _ _ _ h9.2.2.1 h9.2.2.2.1 (fun h5 => (h9.2.2.2.2.2.2 h5).1) h9.2.2.2.2.1 (fun j u hu => by obtain ⟨q, hq⟩ := hp j u hu; exact ih j u hu _ _ hq)
end Go.Proofs.Ytoakloicjlfaaaa

/- Layer 5: the contract of the reference's Quoted. Written by genS16.py. Conditions: the text is no longer than 2^40. -/
namespace Go.Proofs.Ytoakloicjlfaaaa
open Go.RowKit Go.Shelf
set_option linter.unusedSimpArgs false
set_option linter.unusedVariables false
end Go.Proofs.Ytoakloicjlfaaaa

/- Layer 5: what is put in quotes is read as it was, and has no bare quote and no control byte, in plain lists. Conditions: none. -/
namespace Go.Proofs.Ytoakloicjlfaaaa
open Go.RowKit
set_option linter.unusedVariables false

theorem sg_2 {l : List UInt8} (h1 : 194 ≤ nb l 0) (h2 : nb l 0 < 224) (h3 : tl l 1 = true) : sg l = 2 := by
  have := (tl_true.1 h3).1
  unfold sg
  rw [if_neg (by omega), if_neg (by omega), if_neg (by rw [h3]; simp; omega), if_pos h2]
theorem sg_3 {l : List UInt8} (h1 : 224 ≤ nb l 0) (h2 : nb l 0 < 240) (h3 : tl l 1 = true) (h4 : tl l 2 = true) (h5 : ¬ (nb l 0 = 224 ∧ nb l 1 < 160)) (h6 : ¬ (nb l 0 = 237 ∧ 160 ≤ nb l 1)) : sg l = 3 := by
  have := (tl_true.1 h3).1
  unfold sg
  rw [if_neg (by omega), if_neg (by omega), if_neg (by rw [h3]; simp; omega), if_neg (by omega), if_neg (by rw [h4]; simp only [Bool.true_eq_false, false_or]; omega), if_pos h2]
theorem sg_4 {l : List UInt8} (h1 : 240 ≤ nb l 0) (h2 : nb l 0 ≤ 244) (h3 : tl l 1 = true) (h4 : tl l 2 = true) (h7 : tl l 3 = true) (h5 : ¬ (nb l 0 = 240 ∧ nb l 1 < 144)) (h6 : ¬ (nb l 0 = 244 ∧ 144 ≤ nb l 1)) : sg l = 4 := by
  have := (tl_true.1 h3).1
  unfold sg
  rw [if_neg (by omega), if_neg (by omega), if_neg (by rw [h3]; simp; omega), if_neg (by omega), if_neg (by rw [h4]; simp only [Bool.true_eq_false, false_or]; omega), if_neg (by omega), if_neg (by rw [h7]; simp only [Bool.true_eq_false, false_or]; omega)]
theorem nb_take (l r : List UInt8) (n k : Nat) (h : k < n) (hn : n ≤ l.length) : nb (l.take n ++ r) k = nb l k := by
  unfold nb
  rw [List.getElem?_append_left (by rw [List.length_take]; omega), List.getElem?_take, if_pos h]
theorem tl_take (l r : List UInt8) (n k : Nat) (h : k < n) (hn : n ≤ l.length) (ht : 128 ≤ nb l k ∧ nb l k < 192) : tl (l.take n ++ r) k = true := by
  rw [tl_true, nb_take l r n k h hn, List.length_append, List.length_take]
  exact ⟨by omega, ht⟩
/-- A sign stands by itself. -/
theorem sg_take {l : List UInt8} (r : List UInt8) (h : sg l ≠ 0) : sg (l.take (sg l) ++ r) = sg l := by
  obtain ⟨f2, f3, f4⟩ := sg_facts (l := l)
  have hle := sg_le (l := l)
  have hc : sg l = 1 ∨ sg l = 2 ∨ sg l = 3 ∨ sg l = 4 := by omega
  have n0 : nb (l.take (sg l) ++ r) 0 = nb l 0 := nb_take l r _ 0 (by omega) hle.2
  rcases hc with e | e | e | e
  · have h1 := (sg_one.1 e).2
    rw [e] at n0 hle ⊢
    exact sg_one.2 ⟨by rw [List.length_append, List.length_take]; omega, by omega⟩
  · have h1 := f2 e
    rw [e] at n0 hle ⊢
    exact sg_2 (by omega) (by omega) (tl_take l r 2 1 (by omega) hle.2 h1.2.2)
  · have h1 := f3 e
    rw [e] at n0 hle ⊢
    have n1 := nb_take l r 3 1 (by omega) hle.2
    exact sg_3 (by omega) (by omega) (tl_take l r 3 1 (by omega) hle.2 h1.2.2.1) (tl_take l r 3 2 (by omega) hle.2 h1.2.2.2.1) (by rw [n0, n1]; exact h1.2.2.2.2.1) (by rw [n0, n1]; exact h1.2.2.2.2.2)
  · have h1 := f4 e
    rw [e] at n0 hle ⊢
    have n1 := nb_take l r 4 1 (by omega) hle.2
    exact sg_4 (by omega) (by omega) (tl_take l r 4 1 (by omega) hle.2 h1.2.2.1) (tl_take l r 4 2 (by omega) hle.2 h1.2.2.2.1) (tl_take l r 4 3 (by omega) hle.2 h1.2.2.2.2.1) (by rw [n0, n1]; exact h1.2.2.2.2.2.1) (by rw [n0, n1]; exact h1.2.2.2.2.2.2)
theorem hexd_all : ∀ k : Fin 16, hexv (hxd k.val).toNat = k.val ∧ 48 ≤ (hxd k.val).toNat ∧ (hxd k.val).toNat < 127 := by decide
theorem hexd (k : Nat) (h : k < 16) : hexv (hxd k).toNat = k ∧ 48 ≤ (hxd k).toNat ∧ (hxd k).toNat < 127 := hexd_all ⟨k, h⟩
theorem nb_c0 (c : UInt8) (r : List UInt8) : nb (c :: r) 0 = c.toNat := rfl
theorem nb_c1 (a c : UInt8) (r : List UInt8) : nb (a :: c :: r) 1 = c.toNat := rfl
theorem escV_hex (c : Nat) (hc : c < 256) (r : List UInt8) : escV ([92, 120] ++ hx2 c ++ r) = some (UInt8.ofNat c, 4) := by
  have a := hexd (c / 16) (by omega)
  have b := hexd (c % 16) (by omega)
  have e : [92, 120] ++ hx2 c ++ r = 92 :: 120 :: hxd (c / 16) :: hxd (c % 16) :: r := rfl
  have n2 : nb (92 :: 120 :: hxd (c / 16) :: hxd (c % 16) :: r) 2 = (hxd (c / 16)).toNat := rfl
  have n3 : nb (92 :: 120 :: hxd (c / 16) :: hxd (c % 16) :: r) 3 = (hxd (c % 16)).toNat := rfl
  rw [e, escV_x (by simp) rfl (by rw [n2, a.1]; omega) (by rw [n3, b.1]; omega), n2, n3, a.1, b.1]
  rw [show (((c / 16 : Nat) : Int) * (16 : Int) + ((c % 16 : Nat) : Int)).toNat = c from by omega]
theorem uq_esc {l r : List UInt8} {x : UInt8} {n : Nat} (h0 : l.length ≠ 0) (h : nb l 0 = 92) (he : escV l = some (x, n)) (hr : l.drop n = r) : uq l = (uq r).map fun p => [x] ++ p := by
  rw [uq_eq, if_neg h0, if_pos h, he]
  dsimp only
  rw [hr]
  rfl
theorem take_one {l : List UInt8} (h : l.length ≠ 0) : l.take 1 = [UInt8.ofNat (nb l 0)] := by
  rw [take_nb l 1 (by omega)]; rfl
theorem uq_piece (l r : List UInt8) (h0 : l.length ≠ 0) : uq (pieceQ l ++ r) = (uq r).map fun p => l.take (stepQ l) ++ p := by
  have hb := nb_lt l 0
  have hs1 : ∀ k, nb l 0 = k → k < 128 → sg l = 1 := fun k h1 h2 => sg_one.2 ⟨h0, by omega⟩
  have hst : (sg l = 0 ∨ nb l 0 < 128) → stepQ l = 1 := fun h => by
    unfold stepQ
    rcases h with h | h
    · rw [if_pos h]
    · have := hs1 _ rfl h
      rw [if_neg (by omega)]; exact this
  unfold pieceQ
  by_cases a1 : sg l = 0 ∨ nb l 0 = 127
  · rw [if_pos a1, hst (by omega), take_one h0]
    exact uq_esc (by simp) rfl (escV_hex _ hb r) rfl
  rw [if_neg a1]
  by_cases a2 : nb l 0 = 39 ∨ nb l 0 = 92
  · rw [if_pos a2, hst (by omega), take_one h0]
    have n1 : nb ([92, UInt8.ofNat (nb l 0)] ++ r) 1 = nb l 0 := by
      show (UInt8.ofNat (nb l 0)).toNat = _
      simp; omega
    have e := escV_q (l := [92, UInt8.ofNat (nb l 0)] ++ r) (by simp) (by rw [n1]; omega)
    rw [n1] at e
    exact uq_esc (by simp) rfl e rfl
  rw [if_neg a2]
  by_cases a3 : nb l 0 = 10
  · rw [if_pos a3, hst (by omega), take_one h0, a3]
    exact uq_esc (by simp) rfl (escV_n (by simp) rfl) rfl
  rw [if_neg a3]
  by_cases a4 : nb l 0 = 9
  · rw [if_pos a4, hst (by omega), take_one h0, a4]
    exact uq_esc (by simp) rfl (escV_t (by simp) rfl) rfl
  rw [if_neg a4]
  by_cases a5 : nb l 0 = 13
  · rw [if_pos a5, hst (by omega), take_one h0, a5]
    exact uq_esc (by simp) rfl (escV_r (by simp) rfl) rfl
  rw [if_neg a5]
  by_cases a6 : nb l 0 < 32
  · rw [if_pos a6, hst (by omega), take_one h0]
    exact uq_esc (by simp) rfl (escV_hex _ hb r) rfl
  rw [if_neg a6]
  have h1 : sg l ≠ 0 := fun e => a1 (.inl e)
  have h2 := sg_le (l := l)
  have hS := sg_take r h1
  have n0 := nb_take l r (sg l) 0 (by omega) h2.2
  rw [uq_eq, if_neg (by rw [List.length_append, List.length_take]; omega), n0, if_neg (by omega), hS, if_neg ?_]
  · rw [show stepQ l = sg l from by unfold stepQ; rw [if_neg h1]]
    have h3 : (l.take (sg l)).length = sg l := by rw [List.length_take]; omega
    rw [List.drop_append_of_le_length (by omega), List.take_append_of_le_length (by omega), List.take_take, Nat.min_self]
    rw [List.drop_of_length_le (by omega), List.nil_append]
  · unfold bad
    rw [hS, n0]
    omega
theorem uq_quote : ∀ (k : Nat) (l : List UInt8), l.length = k → uq (quoteL l) = some l := by
  intro k
  induction k using Nat.strongRecOn with
  | _ k ih =>
    intro l hl
    by_cases h0 : l.length = 0
    · rw [quoteL_nil h0, List.length_eq_zero_iff.1 h0]; rfl
    · have h1 := stepQ_pos l
      rw [quoteL_step h0, uq_piece l _ h0, ih _ (by rw [List.length_drop]; omega) (l.drop (stepQ l)) rfl]
      simp
theorem unqS_quote (l : List UInt8) : unqS (39 :: (quoteL l ++ [39])) = some l := by
  unfold unqS
  have hn : nb (39 :: (quoteL l ++ [39])) ((39 :: (quoteL l ++ [39])).length - 1) = 39 := by
    unfold nb
    simp
  rw [if_pos ⟨by simp, rfl, hn⟩]
  have : ((39 :: (quoteL l ++ [39])).drop 1).take ((39 :: (quoteL l ++ [39])).length - 2) = quoteL l := by simp
  rw [this]
  exact uq_quote _ l rfl

/-- Pairs behind a backslash, and signs that are no control byte, no quote and no backslash. -/
inductive Good : List UInt8 → Prop where
  | nil : Good []
  | esc (c : UInt8) (r : List UInt8) (h : Good r) : Good (92 :: c :: r)
  | sign (x r : List UInt8) (hx : x.length ≠ 0) (hs : ∀ q, sg (x ++ q) = x.length) (h32 : 32 ≤ nb x 0) (h127 : nb x 0 ≠ 127) (h39 : nb x 0 ≠ 39) (h92 : nb x 0 ≠ 92) (h : Good r) : Good (x ++ r)
theorem good_byte (c : UInt8) (r : List UInt8) (h1 : 48 ≤ c.toNat) (h2 : c.toNat < 127) (h3 : c.toNat ≠ 92) (h : Good r) : Good (c :: r) :=
  Good.sign [c] r (by simp) (fun q => sg_one.2 ⟨by simp, by show c.toNat < 128; omega⟩) (by show 32 ≤ c.toNat; omega) (by show c.toNat ≠ 127; omega) (by show c.toNat ≠ 39; omega) h3 h
theorem hexd92 : ∀ k : Fin 16, (hxd k.val).toNat ≠ 92 := by decide
theorem good_hex (c : Nat) (hc : c < 256) (r : List UInt8) (h : Good r) : Good ([92, 120] ++ hx2 c ++ r) := by
  have a := hexd (c / 16) (by omega)
  have b := hexd (c % 16) (by omega)
  exact Good.esc 120 _ (good_byte _ _ a.2.1 a.2.2 (hexd92 ⟨c / 16, by omega⟩) (good_byte _ _ b.2.1 b.2.2 (hexd92 ⟨c % 16, by omega⟩) h))
theorem good_piece (l r : List UInt8) (h0 : l.length ≠ 0) (h : Good r) : Good (pieceQ l ++ r) := by
  have hb := nb_lt l 0
  unfold pieceQ
  by_cases a1 : sg l = 0 ∨ nb l 0 = 127
  · rw [if_pos a1]; exact good_hex _ hb r h
  rw [if_neg a1]
  by_cases a2 : nb l 0 = 39 ∨ nb l 0 = 92
  · rw [if_pos a2]; exact Good.esc _ _ h
  rw [if_neg a2]
  by_cases a3 : nb l 0 = 10
  · rw [if_pos a3]; exact Good.esc _ _ h
  rw [if_neg a3]
  by_cases a4 : nb l 0 = 9
  · rw [if_pos a4]; exact Good.esc _ _ h
  rw [if_neg a4]
  by_cases a5 : nb l 0 = 13
  · rw [if_pos a5]; exact Good.esc _ _ h
  rw [if_neg a5]
  by_cases a6 : nb l 0 < 32
  · rw [if_pos a6]; exact good_hex _ hb r h
  rw [if_neg a6]
  have h1 : sg l ≠ 0 := fun e => a1 (.inl e)
  have h2 := sg_le (l := l)
  have n0 : nb (l.take (sg l)) 0 = nb l 0 := by have := nb_take l [] (sg l) 0 (by omega) h2.2; rwa [List.append_nil] at this
  have h3 : (l.take (sg l)).length = sg l := by rw [List.length_take]; omega
  exact Good.sign _ r (by omega) (fun q => by rw [h3]; exact sg_take q h1) (by omega) (by omega) (by omega) (by omega) h
theorem good_quote : ∀ (k : Nat) (l : List UInt8), l.length = k → Good (quoteL l) := by
  intro k
  induction k using Nat.strongRecOn with
  | _ k ih =>
    intro l hl
    by_cases h0 : l.length = 0
    · rw [quoteL_nil h0]; exact Good.nil
    · have h1 := stepQ_pos l
      rw [quoteL_step h0]
      exact good_piece l _ h0 (ih _ (by rw [List.length_drop]; omega) (l.drop (stepQ l)) rfl)
end Go.Proofs.Ytoakloicjlfaaaa

/- Layer 5: the contracts of the reference's Unquote, of Show at null, and of works. Conditions: the text is no longer than 2^40. -/
namespace Go.Proofs.Ytoakloicjlfaaaa
open Go.RowKit Go.Shelf
set_option linter.unusedSimpArgs false
set_option linter.unusedVariables false

/-- The zero value. -/
def nullV : Value := .agg #[.int .i64 0, .bool false, .int .i64 0, .string ⟨#[]⟩, .slice none 0 0, .slice none 0 0]
set_option maxRecDepth 100000 in
theorem show_null (w : World) :
    Calls Try.prog 34 #[.agg #[.int .i64 0, .bool false, .int .i64 0, .string ⟨#[]⟩, .slice none 0 0, .slice none 0 0]] w fun e w' => e = .returned (.string ⟨#[110, 117, 108, 108]⟩) ∧ Below w.heap.size w w' := by
  go_enter Try.func34, Try.ntmps34
  go_wp2_with fail
  go_ret
  exact ⟨rfl, (Below.refl _ _).alloc (Nat.le_refl _) _⟩

theorem quote_ex : quoteL [97, 39, 10] = [97, 92, 39, 92, 110] := by
  rw [quoteL_step (by decide), show pieceQ [97, 39, 10] = [97] from by decide, show stepQ [97, 39, 10] = 1 from by decide]
  rw [show ([97, 39, 10] : List UInt8).drop 1 = [39, 10] from rfl]
  rw [quoteL_step (by decide), show pieceQ [39, 10] = [92, 39] from by decide, show stepQ [39, 10] = 1 from by decide]
  rw [show ([39, 10] : List UInt8).drop 1 = [10] from rfl]
  rw [quoteL_step (by decide), show pieceQ [10] = [92, 110] from by decide, show stepQ [10] = 1 from by decide]
  rw [show ([10] : List UInt8).drop 1 = [] from rfl, quoteL_nil rfl]
  rfl
theorem unq_ex : unqS [39, 97, 92, 120, 48, 48, 39] = some [97, 0] := by decide +kernel
theorem name_ex1 : nameB [97, 95, 49] = true := by
  apply decide_eq_true
  refine ⟨by decide, by decide, by decide, fun k hk => ?_⟩
  have : k = 0 ∨ k = 1 ∨ k = 2 := by simp at hk; omega
  rcases this with rfl | rfl | rfl <;> decide
theorem name_ex2 : nameB [49, 97] = false := by
  apply decide_eq_false
  rintro ⟨_, _, h, _⟩
  revert h; decide
end Go.Proofs.Ytoakloicjlfaaaa

/- Layer 5: the contract of the program's Show over values that may be. Written by genS25.py. Conditions: the value weighs no more than 2^20. -/
namespace Go.Proofs.Ytoakloicjlfaaaa
open Go.RowKit Go.Shelf
set_option linter.unusedSimpArgs false
set_option linter.unusedVariables false

theorem Try.info9 : (Try.prog.info? 9).map (fun i => (i.zero, i.size, i.bytes)) = some (some (.string ⟨#[]⟩), 1, 16) := by kernel_rfl
def strsV (xs : List (List UInt8)) : List Value := xs.map fun p => .string (strOf p)
theorem strsV_len (xs : List (List UInt8)) : (strsV xs).length = xs.length := by simp [strsV]
theorem strsV_snoc (xs : List (List UInt8)) (x : List UInt8) : strsV (xs ++ [x]) = strsV xs ++ [.string (strOf x)] := by simp [strsV]
theorem join_own {base : Nat} {w : World} {v : Value} {xs : List (List UInt8)} (h : w.ownsRow base 9 1 v xs.length (strsV xs)) (hl : (jn xs).length ≤ 140737488355328) (hn : xs.length ≤ 140737488355328) :
    Calls Try.prog 64 #[v, .string ⟨#[44, 32]⟩] w fun e w' => e = .returned (.string (strOf (jn xs))) ∧ Below w.heap.size w w' := by
  rcases h.2 with ⟨rfl, hx⟩ | ⟨g, cap, cur, rfl, _, hg, hle, _, hcs, _⟩
  · have hx0 : xs = [] := List.length_eq_zero_iff.1 (by omega)
    subst hx0
    refine (Any.strings_Join_none { shLays156 with } shExtra none 0 ⟨#[44, 32]⟩ w).mono ?_
    rintro e w' ⟨rfl, rfl⟩
    exact ⟨rfl, Below.refl _ _⟩
  · have hc := h.cells (g := g) rfl
    have hj : Lib.join ((xs.map strOf).map (·.data.toList)) [44, 32] = jn xs := by
      unfold jn
      congr 1
      rw [List.map_map]
      exact (List.map_congr_left fun p _ => rfl).trans (List.map_id xs)
    have hk := Any.strings_Join { shLays156 with } shExtra g 0 cap (xs.map strOf) ⟨#[44, 32]⟩ w (fun j x hx => by
      rw [List.getElem?_map] at hx
      cases hxj : xs[j]? with
      | none => rw [hxj] at hx; cases hx
      | some p =>
        rw [hxj] at hx
        cases hx
        have := hc j (.string (strOf p)) (by unfold strsV; rw [List.getElem?_map, hxj]; rfl)
        rwa [addr_add] at this) (Array.getElem?_eq_some_iff.1 hg).1 (by rw [List.length_map]; exact hn) (by rw [List.length_map]; exact hle) (by
          show (Lib.join ((xs.map strOf).map (·.data.toList)) [44, 32]).length ≤ _
          rw [hj]; exact hl)
    rw [List.length_map] at hk
    refine hk.mono ?_
    rintro e w' ⟨rfl, hb⟩
    refine ⟨?_, hb⟩
    show Ending.returned (.string ⟨(Lib.join ((xs.map strOf).map (·.data.toList)) [44, 32]).toArray⟩) = _
    rw [hj]
    rfl
def ShowSaid (t : Vt) : Prop := ∀ (cs : List Value) (B : Nat) (w : World), IsV B w cs t → B ≤ w.heap.size → MayE t → wtV t ≤ 1048576 →
    Calls Try.prog 34 #[.agg cs.toArray] w fun e w' => e = .returned (.string (strOf (showV t))) ∧ Below w.heap.size w w'

set_option maxRecDepth 1000000 in
set_option maxHeartbeats 4000000 in
theorem show_any (t : Vt) : ShowSaid t := by
  refine t.down (p := ShowSaid) fun k b i s l ks ih cs B w hV hB hM hw => ?_
  have HV0 := Lib.hid hV
  unfold IsV at hV
  obtain ⟨la, lc, ka, kc, rfl, hk64, hi64, ⟨hlc, hlm⟩, ⟨hkc, hkm⟩, hla, hka, hK, hL⟩ := hV
  have HI64 : Hid (In64 i) := Lib.hid hi64
  obtain ⟨hk0, hk7, hm5, hmM⟩ := hM.head
  have hss : s.size ≤ 1048576 := by have h := hw; simp only [wtV] at h; omega
  have hPL := jn_parts_len k b i s l ks
  have hpl := shPartsV_len (k := k) (ks := ks) (l := l) hm5
  have hwl : ∀ (j : Nat) t, l[j]? = some t → wtV t ≤ 1048576 := fun j t ht => by have h := hw; simp only [wtV] at h; have := wtVs_get ht; omega
  have hkl : ∀ (j : Nat) x, ks[j]? = some x → x.size ≤ 1048576 := fun j x hx => by have h := hw; simp only [wtV] at h; have := sum_get (fun k : ByteArray => k.size + 1) hx; omega
  have HKL := Lib.hid hkl
  have IH := Lib.hid (fun (j : Nat) t (ht : l[j]? = some t) cs B w h1 h2 => ih j t ht cs B w h1 h2 (hmM j t ht) (hwl j t ht))
  have HK := Lib.hid hK
  have HLs := Lib.hid hL
  have HPL := Lib.hid hPL
  have HPN := Lib.hid hpl
  have HW := Lib.hid hw
  have HM5 := Lib.hid hm5
  clear ih hK hL hla hka hwl hmM hM hi64 hk64 hm5 hPL hpl hkl hw
  show Calls Try.prog 34 #[.agg #[.int .i64 k, .bool b, .int .i64 i, .string s, .slice la l.length lc, .slice ka ks.length kc]] w _
  have HB0 := Lib.hid ((Below.refl w.heap.size w).alloc (Nat.le_refl _) (.cells #[.int .i64 k, .bool b, .int .i64 i, .string s, .slice la l.length lc, .slice ka ks.length kc] 71))
  have HBX := Lib.hid (Block.new w [.int .i64 k, .bool b, .int .i64 i, .string s, .slice la l.length lc, .slice ka ks.length kc] 71)
  by_cases k1 : k = 1
  · subst k1
    cases b with
    | true =>
      have HE := Lib.hid (show showV (.mk 1 true i s l ks) = [116, 114, 117, 101] from by unfold showV; rfl)
      rw [HE.out]
      go_enter Try.func34, Try.ntmps34
      go_wp2_with fail
      go_ret
      exact ⟨rfl, HB0.out⟩
    | false =>
      have HE := Lib.hid (show showV (.mk 1 false i s l ks) = [102, 97, 108, 115, 101] from by unfold showV; rfl)
      rw [HE.out]
      go_enter Try.func34, Try.ntmps34
      go_wp2_with fail
      go_ret
      exact ⟨rfl, HB0.out⟩
  by_cases k2 : k = 2
  · subst k2
    have HE := Lib.hid (show showV (.mk 2 b i s l ks) = textOf i from by unfold showV; rfl)
    rw [HE.out]
    go_enter Try.func34, Try.ntmps34
    go_wp2_with fail
    refine (text_any i _ HI64.out).mono ?_
    rintro e w1 ⟨rfl, hb1⟩
    go_wp2_with fail
    go_ret
    exact ⟨rfl, below_step HB0.out rfl hb1⟩
  by_cases k3 : k = 3
  · subst k3
    have HE := Lib.hid (show showV (.mk 3 b i s l ks) = 39 :: (quoteL s.data.toList ++ [39]) from by unfold showV; rfl)
    rw [HE.out]
    go_enter Try.func34, Try.ntmps34
    go_wp2_with fail
    refine (quote_any s _ (by omega)).mono ?_
    rintro e w1 ⟨rfl, hb1⟩
    go_wp2_with fail
    go_ret
    exact ⟨rfl, below_step HB0.out rfl hb1⟩
  by_cases k6 : k = 6
  · subst k6
    have HE := Lib.hid (show showV (.mk 6 b i s l ks) = [35, 110] ++ textOf i from by unfold showV; rfl)
    have hlt := textOf_len i
    rw [HE.out]
    have ha := fun u => add_of [35, 110] (textOf i) _ rfl u (by simp; omega) (r := [35, 110] ++ textOf i) rfl
    have HT := Lib.hid (fun w => text_any i w HI64.out)
    clear HE
    generalize textOf i = x at *
    go_enter Try.func34, Try.ntmps34
    go_wp2_with fail
    refine (HT.out _).mono ?_
    rintro e w1 ⟨rfl, hb1⟩
    have HB1 := Lib.hid hb1
    clear hb1
    have ha2 : ∀ u, (Op.stringOp .add ⟨#[35, 110]⟩ ⟨x.toArray⟩).run Try.prog u = .ok (.string (strOf ([35, 110] ++ x))) u := ha
    clear ha
    go_wp2_with fail
    go_ret
    exact ⟨rfl, below_step HB0.out rfl HB1.out⟩
  by_cases k7 : k = 7
  · subst k7
    have HE := Lib.hid (show showV (.mk 7 b i s l ks) = [35, 101] ++ textOf i from by unfold showV; rfl)
    have hlt := textOf_len i
    rw [HE.out]
    have ha := fun u => add_of [35, 101] (textOf i) _ rfl u (by simp; omega) (r := [35, 101] ++ textOf i) rfl
    have HT := Lib.hid (fun w => text_any i w HI64.out)
    clear HE
    generalize textOf i = x at *
    go_enter Try.func34, Try.ntmps34
    go_wp2_with fail
    refine (HT.out _).mono ?_
    rintro e w1 ⟨rfl, hb1⟩
    have HB1 := Lib.hid hb1
    clear hb1
    have ha2 : ∀ u, (Op.stringOp .add ⟨#[35, 101]⟩ ⟨x.toArray⟩).run Try.prog u = .ok (.string (strOf ([35, 101] ++ x))) u := ha
    clear ha
    go_wp2_with fail
    go_ret
    exact ⟨rfl, below_step HB0.out rfl HB1.out⟩
  by_cases k4 : k = 4
  · subst k4
    have HE := Lib.hid (show showV (.mk 4 b i s l ks) = [91] ++ jn (shPartsV 4 ks l) ++ [93] from by unfold showV; rfl)
    rw [HE.out]
    clear HE
    obtain ⟨i0, hi, hz0, hz1, hz2⟩ := info_parts Try.info9
    have I0 := Lib.hid hi
    have I1 := Lib.hid hz0
    have I2 := Lib.hid hz1
    have I3 := Lib.hid hz2
    clear hi hz0 hz1 hz2
    go_enter Try.func34, Try.ntmps34
    go_wp2_with fail
    go_loopw [3, 41] (fun pv iv wr => ∃ (j : Nat), iv = .int .i64 j ∧ wr.ownsRow (w.heap.size + 1) 9 1 pv j (strsV ((shPartsV 4 ks l).take j)) ∧ j ≤ l.length ∧ Below (w.heap.size + 1) (w.alloc (.cells #[.int .i64 4, .bool b, .int .i64 i, .string s, .slice la l.length lc, .slice ka ks.length kc] 71)) wr) (fun _ iv _ => l.length - (intOf iv).toNat)
    case atStart => exact ⟨0, rfl, World.ownsRow_nil _ _ _ _, Nat.zero_le _, Below.refl _ _⟩
    case round =>
      obtain ⟨j, rfl, hown, hj, hbr⟩ := hrel
      have hBR := HBX.out.below hbr (by simp)
      have y0 := hBR.cell (i := 0) rfl
      have y4 := hBR.cell (i := 4) rfl
      have HBK := Lib.hid hBR
      have HO := Lib.hid hown
      have HBR := Lib.hid hbr
      clear hBR hown hbr
      have hszr : w.heap.size + 1 ≤ wr.heap.size := Nat.le_trans (by simp) HBR.out.size
      have hll : l.length ≤ 1048576 := by have h1 := wtVs_len l; have h2 := HW.out; simp only [wtV] at h2; omega
      have hjl := jn_len ((shPartsV 4 ks l).take j)
      have hjs := sum_take (shPartsV 4 ks l) j
      have hjw : (jn ((shPartsV 4 ks l).take j)).length ≤ 33554432 := by have h1 := HPL.out; have h2 := HW.out; omega
      clear hjl hjs
      have p0 : (0 : Int) ≤ (j : Int) := by omega
      by_cases hlt : j < l.length
      · have hlt' : (j : Int) < l.length := by omega
        obtain ⟨t, ht⟩ := get_some hlt
        obtain ⟨eb, eo, cs, rfl, heb, hce, hVt⟩ := HLs.out.get j t ht
        have hbw : Below w.heap.size w wr := HB0.out.trans (HBR.out.mono (by omega))
        have HBW := Lib.hid hbw
        have hIt : ∀ w', Below wr.heap.size wr w' → IsV B w' cs t := fun w' hb => IsV.below (hbw.trans (hb.mono (by omega))) hB t cs hVt
        have hszB : B ≤ wr.heap.size := by omega
        have HI := Lib.hid (fun w' (hb : Below wr.heap.size wr w') => IH.out j t ht cs B w' (hIt w' hb) (Nat.le_trans hszB hb.size))
        have hsl := showV_len t
        have hwt : wtV t ≤ 1048576 := by have h1 := wtVs_get ht; have h2 := HW.out; simp only [wtV] at h2; omega
        have g : ∀ (n : Nat) v, cs[n]? = some v → wr.cell? ⟨eb, eo + j * 6 + n, none⟩ = some v := fun n v hv => by
          have h1 := hce n v hv
          rw [Nat.zero_add] at h1
          rw [Nat.add_assoc, hbw.cell (by show eb < w.heap.size; omega)]
          exact h1
        clear hIt hbw
        have hsnoc : (shPartsV 4 ks l).take (j + 1) = (shPartsV 4 ks l).take j ++ [showV t] := showVs_take ht
        obtain ⟨X, hX⟩ : ∃ X, showV t = X := ⟨_, rfl⟩
        rw [hX] at HI hsl hsnoc
        clear hX
        obtain ⟨k2, b2, i2, s2, l2, ks2⟩ := t
        unfold IsV at hVt
        obtain ⟨la2, lc2, ka2, kc2, rfl, -⟩ := hVt
        have g0 := g 0 _ rfl
        have g1 := g 1 _ rfl
        have g2 := g 2 _ rfl
        have g3 := g 3 _ rfl
        have g4 := g 4 _ rfl
        have g5 := g 5 _ rfl
        rw [Nat.add_zero] at g0
        clear g hce
        have HSN := Lib.hid hsnoc
        clear hsnoc
        have HBX2 := Lib.hid (Below.alloc (Below.refl wr.heap.size wr) (Nat.le_refl _) (.cells #[.int .i64 k2, .bool b2, .int .i64 i2, .string s2, .slice la2 l2.length lc2, .slice ka2 ks2.length kc2] 71))
        have HI0 := Lib.hid (HI.out _ HBX2.out)
        go_wp2_with fail
        refine HI0.out.mono ?_
        rintro e w2 ⟨rfl, hb2⟩
        have HB2 := Lib.hid (HBX2.out.trans (hb2.mono (by simp)))
        have HB2a := Lib.hid hb2
        clear hb2
        have hsz2 : wr.heap.size ≤ w2.heap.size := HB2.out.size
        have HO2 : Hid (w2.ownsRow (w.heap.size + 1) 9 1 u3 j (strsV ((shPartsV 4 ks l).take j))) := Lib.hid (ownsRow_below HO.out HB2.out)
        have HBK2 := Lib.hid (HBK.out.below HB2.out HBK.out.lt)
        have z0 := HBK2.out.cell (i := 0) rfl
        have z5 := HBK2.out.cell (i := 5) rfl
        have hlen9 : (strsV ((shPartsV 4 ks l).take j)).length = j := by rw [strsV_len, List.length_take, HPN.out]; omega
        have HBT : Hid (Below (w.heap.size + 1) (w.alloc (.cells #[.int .i64 4, .bool b, .int .i64 i, .string s, .slice (some ⟨eb, eo, none⟩) l.length lc, .slice ka ks.length kc] 71)) w2) := Lib.hid (HBR.out.trans (HB2.out.mono hszr))
        clear z5
        go_wp2_with (at_builtin; refine wpList_append_own _ rfl _ _ 35 rfl (w.heap.size + 1) 9 i0 (.string ⟨#[]⟩) 1 16 Try.underlying35 I0.out I1.out I2.out I3.out rfl (by omega) u3 j (strsV ((shPartsV 4 ks l).take j)) rfl (HO2.out.alloc _) ⟨w2.heap.size, 0, none⟩ 1 1 [.string (strOf X)] rfl rfl (World.news_of_block (cs := #[.string (strOf X)]) (t := 9) (fr := (0, 0)) (heap_alloc_new _ _)) (by simp [Value.oneCell']) (by unfold maxLen; omega) (by omega) (by simp; omega) ?_)
        intro v1 w4 hown1 hgrow _
        have HO1 : Hid (w4.ownsRow (w.heap.size + 1) 9 1 v1 (j + 1) (strsV ((shPartsV 4 ks l).take (j + 1)))) := Lib.hid (by rw [HSN.out, strsV_snoc]; exact hown1)
        have HB4 : Hid (Below (w.heap.size + 1) _ w4) := Lib.hid (Below.grown (HBT.out.alloc (by omega) _) hgrow (by simp; omega) (fun k hk => (HO2.out.lt k hk).1))
        clear hown1 hgrow
        go_wp2_with fail
        go_roundw
        case rel => exact ⟨j + 1, by go_num, HO1.out, by omega, HB4.out⟩
        case measure => simp [intOf]; omega
      · have hlt' : ¬ (j : Int) < l.length := by omega
        have hjn : j = l.length := by omega
        have HT := Lib.hid (show (shPartsV 4 ks l).take j = shPartsV 4 ks l from List.take_of_length_le (by have := HPN.out; omega))
        rw [HT.out] at hjw HO
        have HO9 : Hid (wr.ownsRow (w.heap.size + 1) 9 1 u3 (shPartsV 4 ks l).length (strsV (shPartsV 4 ks l))) := Lib.hid (by rw [HPN.out, ← hjn]; exact HO.out)
        have hJO := join_own HO9.out (by omega) (by rw [HPN.out]; omega)
        obtain ⟨J, hJ⟩ : ∃ J, jn (shPartsV 4 ks l) = J := ⟨_, rfl⟩
        rw [hJ] at hjw hJO
        have HJ := Lib.hid hJ
        have HJO := Lib.hid hJO
        clear hJ hJO hjn
        obtain ⟨Y1, hY1⟩ : ∃ Y1, [91] ++ J = Y1 := ⟨_, rfl⟩
        have hyl : Y1.length = J.length + 1 := by rw [← hY1]; simp
        have ha1 : ∀ u, (Op.stringOp .add ⟨#[91]⟩ (strOf J)).run Try.prog u = .ok (.string (strOf Y1)) u := fun u => add_of [91] J _ rfl u (by simp; omega) hY1
        have ha2 := fun u => add_of Y1 [93] ⟨#[93]⟩ rfl u (by simp; omega) (r := Y1 ++ [93]) rfl
        have HY1 := Lib.hid hY1
        clear hY1
        go_wp2_with fail
        refine HJO.out.mono ?_
        rintro e w5 ⟨rfl, hb5⟩
        have HB5 := Lib.hid hb5
        clear hb5
        go_wp2_with fail
        go_ret
        exact ⟨str_ret (congrArg strOf (by rw [← HY1.out, ← HJ.out]; simp)), HB0.out.trans ((HBR.out.mono (by omega)).trans (HB5.out.mono (by omega)))⟩
  by_cases k5 : k = 5
  · subst k5
    have HE := Lib.hid (show showV (.mk 5 b i s l ks) = [123] ++ jn (shPartsV 5 ks l) ++ [125] from by unfold showV; rfl)
    rw [HE.out]
    clear HE
    have HN5 := Lib.hid (HM5.out rfl)
    obtain ⟨i0, hi, hz0, hz1, hz2⟩ := info_parts Try.info9
    have I0 := Lib.hid hi
    have I1 := Lib.hid hz0
    have I2 := Lib.hid hz1
    have I3 := Lib.hid hz2
    clear hi hz0 hz1 hz2
    go_enter Try.func34, Try.ntmps34
    go_wp2_with fail
    go_loopw [3, 41] (fun pv iv wr => ∃ (j : Nat), iv = .int .i64 j ∧ wr.ownsRow (w.heap.size + 1) 9 1 pv j (strsV ((shPartsV 5 ks l).take j)) ∧ j ≤ l.length ∧ Below (w.heap.size + 1) (w.alloc (.cells #[.int .i64 5, .bool b, .int .i64 i, .string s, .slice la l.length lc, .slice ka ks.length kc] 71)) wr) (fun _ iv _ => l.length - (intOf iv).toNat)
    case atStart => exact ⟨0, rfl, World.ownsRow_nil _ _ _ _, Nat.zero_le _, Below.refl _ _⟩
    case round =>
      obtain ⟨j, rfl, hown, hj, hbr⟩ := hrel
      have hBR := HBX.out.below hbr (by simp)
      have y0 := hBR.cell (i := 0) rfl
      have y4 := hBR.cell (i := 4) rfl
      have HBK := Lib.hid hBR
      have HO := Lib.hid hown
      have HBR := Lib.hid hbr
      clear hBR hown hbr
      have hszr : w.heap.size + 1 ≤ wr.heap.size := Nat.le_trans (by simp) HBR.out.size
      have hll : l.length ≤ 1048576 := by have h1 := wtVs_len l; have h2 := HW.out; simp only [wtV] at h2; omega
      have hjl := jn_len ((shPartsV 5 ks l).take j)
      have hjs := sum_take (shPartsV 5 ks l) j
      have hjw : (jn ((shPartsV 5 ks l).take j)).length ≤ 33554432 := by have h1 := HPL.out; have h2 := HW.out; omega
      clear hjl hjs
      have p0 : (0 : Int) ≤ (j : Int) := by omega
      by_cases hlt : j < l.length
      · have hlt' : (j : Int) < l.length := by omega
        obtain ⟨t, ht⟩ := get_some hlt
        obtain ⟨eb, eo, cs, rfl, heb, hce, hVt⟩ := HLs.out.get j t ht
        have hbw : Below w.heap.size w wr := HB0.out.trans (HBR.out.mono (by omega))
        have HBW := Lib.hid hbw
        have hIt : ∀ w', Below wr.heap.size wr w' → IsV B w' cs t := fun w' hb => IsV.below (hbw.trans (hb.mono (by omega))) hB t cs hVt
        have hszB : B ≤ wr.heap.size := by omega
        have HI := Lib.hid (fun w' (hb : Below wr.heap.size wr w') => IH.out j t ht cs B w' (hIt w' hb) (Nat.le_trans hszB hb.size))
        have hsl := showV_len t
        have hwt : wtV t ≤ 1048576 := by have h1 := wtVs_get ht; have h2 := HW.out; simp only [wtV] at h2; omega
        have g : ∀ (n : Nat) v, cs[n]? = some v → wr.cell? ⟨eb, eo + j * 6 + n, none⟩ = some v := fun n v hv => by
          have h1 := hce n v hv
          rw [Nat.zero_add] at h1
          rw [Nat.add_assoc, hbw.cell (by show eb < w.heap.size; omega)]
          exact h1
        clear hIt hbw
        have hltk : j < ks.length := by have := HN5.out; omega
        have hltk' : (j : Int) < ks.length := by omega
        obtain ⟨x, hx⟩ := get_some hltk
        have hxs := HKL.out j x hx
        have hsnoc : (shPartsV 5 ks l).take (j + 1) = (shPartsV 5 ks l).take j ++ [keyL x.data.toList ++ [58, 32] ++ showV t] := withKeys_take ht hx
        have hkyl := keyL_len x.data.toList
        have hxl : x.data.toList.length = x.size := by simp
        rw [hxl] at hkyl
        have HKY := Lib.hid (fun w => key_any x w (by omega))
        have HX := Lib.hid hx
        clear hx hxl
        obtain ⟨X, hX⟩ : ∃ X, showV t = X := ⟨_, rfl⟩
        rw [hX] at HI hsl hsnoc
        clear hX
        obtain ⟨k2, b2, i2, s2, l2, ks2⟩ := t
        unfold IsV at hVt
        obtain ⟨la2, lc2, ka2, kc2, rfl, -⟩ := hVt
        have g0 := g 0 _ rfl
        have g1 := g 1 _ rfl
        have g2 := g 2 _ rfl
        have g3 := g 3 _ rfl
        have g4 := g 4 _ rfl
        have g5 := g 5 _ rfl
        rw [Nat.add_zero] at g0
        clear g hce
        have HSN := Lib.hid hsnoc
        clear hsnoc
        have HBX2 := Lib.hid (Below.alloc (Below.refl wr.heap.size wr) (Nat.le_refl _) (.cells #[.int .i64 k2, .bool b2, .int .i64 i2, .string s2, .slice la2 l2.length lc2, .slice ka2 ks2.length kc2] 71))
        have HI0 := Lib.hid (HI.out _ HBX2.out)
        go_wp2_with fail
        refine HI0.out.mono ?_
        rintro e w2 ⟨rfl, hb2⟩
        have HB2 := Lib.hid (HBX2.out.trans (hb2.mono (by simp)))
        have HB2a := Lib.hid hb2
        clear hb2
        have hsz2 : wr.heap.size ≤ w2.heap.size := HB2.out.size
        have HO2 : Hid (w2.ownsRow (w.heap.size + 1) 9 1 u3 j (strsV ((shPartsV 5 ks l).take j))) := Lib.hid (ownsRow_below HO.out HB2.out)
        have HBK2 := Lib.hid (HBK.out.below HB2.out HBK.out.lt)
        have z0 := HBK2.out.cell (i := 0) rfl
        have z5 := HBK2.out.cell (i := 5) rfl
        have hlen9 : (strsV ((shPartsV 5 ks l).take j)).length = j := by rw [strsV_len, List.length_take, HPN.out]; omega
        have hKr : StrRow B w2 ka ks := HK.out.below (HBW.out.trans (HB2.out.mono (by omega))) hB
        rcases hKr with h0 | ⟨kb, ko, rfl, hkb, hkc'⟩
        · exfalso; rw [List.map_eq_nil_iff] at h0; rw [h0] at hltk; simp at hltk
        have gk : w2.cell? ⟨kb, ko + j, none⟩ = some (.string x) := hkc' j _ (by rw [List.getElem?_map, HX.out]; rfl)
        clear hkc'
        generalize keyL x.data.toList = KY at *
        obtain ⟨Z1, hZ1⟩ : ∃ Z1, KY ++ [58, 32] = Z1 := ⟨_, rfl⟩
        obtain ⟨Z2, hZ2⟩ : ∃ Z2, Z1 ++ X = Z2 := ⟨_, rfl⟩
        have hz1l : Z1.length = KY.length + 2 := by rw [← hZ1]; simp
        have ha1 := fun u => add_of KY [58, 32] ⟨#[58, 32]⟩ rfl u (by simp; omega) hZ1
        have ha2 := fun u => add_of Z1 X _ rfl u (by omega) hZ2
        have HSN2 : Hid ((shPartsV 5 ks l).take (j + 1) = (shPartsV 5 ks l).take j ++ [Z2]) := Lib.hid (by rw [HSN.out, ← hZ2, ← hZ1])
        clear hZ1 hZ2
        go_wp2_with fail
        refine (HKY.out _).mono ?_
        rintro e w3 ⟨rfl, hb3⟩
        have HB3 := Lib.hid hb3
        clear hb3 z0 z5 gk
        have hsz3 : w2.heap.size ≤ w3.heap.size := HB3.out.size
        have HO3 : Hid (w3.ownsRow (w.heap.size + 1) 9 1 u3 j (strsV ((shPartsV 5 ks l).take j))) := Lib.hid (ownsRow_below HO2.out HB3.out)
        have HBT : Hid (Below (w.heap.size + 1) (w.alloc (.cells #[.int .i64 5, .bool b, .int .i64 i, .string s, .slice (some ⟨eb, eo, none⟩) l.length lc, .slice (some ⟨kb, ko, none⟩) ks.length kc] 71)) w3) := Lib.hid (HBR.out.trans ((HB2.out.mono hszr).trans (HB3.out.mono (by omega))))
        go_wp2_with (at_builtin; refine wpList_append_own _ rfl _ _ 35 rfl (w.heap.size + 1) 9 i0 (.string ⟨#[]⟩) 1 16 Try.underlying35 I0.out I1.out I2.out I3.out rfl (by omega) u3 j (strsV ((shPartsV 5 ks l).take j)) rfl (HO3.out.alloc _) ⟨w3.heap.size, 0, none⟩ 1 1 [.string (strOf Z2)] rfl rfl (World.news_of_block (cs := #[.string (strOf Z2)]) (t := 9) (fr := (0, 0)) (heap_alloc_new _ _)) (by simp [Value.oneCell']) (by unfold maxLen; omega) (by omega) (by simp; omega) ?_)
        intro v1 w4 hown1 hgrow _
        have HO1 : Hid (w4.ownsRow (w.heap.size + 1) 9 1 v1 (j + 1) (strsV ((shPartsV 5 ks l).take (j + 1)))) := Lib.hid (by rw [HSN2.out, strsV_snoc]; exact hown1)
        have HB4 : Hid (Below (w.heap.size + 1) _ w4) := Lib.hid (Below.grown (HBT.out.alloc (by omega) _) hgrow (by simp; omega) (fun k hk => (HO3.out.lt k hk).1))
        clear hown1 hgrow
        go_wp2_with fail
        go_roundw
        case rel => exact ⟨j + 1, by go_num, HO1.out, by omega, HB4.out⟩
        case measure => simp [intOf]; omega
      · have hlt' : ¬ (j : Int) < l.length := by omega
        have hjn : j = l.length := by omega
        have HT := Lib.hid (show (shPartsV 5 ks l).take j = shPartsV 5 ks l from List.take_of_length_le (by have := HPN.out; omega))
        rw [HT.out] at hjw HO
        have HO9 : Hid (wr.ownsRow (w.heap.size + 1) 9 1 u3 (shPartsV 5 ks l).length (strsV (shPartsV 5 ks l))) := Lib.hid (by rw [HPN.out, ← hjn]; exact HO.out)
        have hJO := join_own HO9.out (by omega) (by rw [HPN.out]; omega)
        obtain ⟨J, hJ⟩ : ∃ J, jn (shPartsV 5 ks l) = J := ⟨_, rfl⟩
        rw [hJ] at hjw hJO
        have HJ := Lib.hid hJ
        have HJO := Lib.hid hJO
        clear hJ hJO hjn
        obtain ⟨Y1, hY1⟩ : ∃ Y1, [123] ++ J = Y1 := ⟨_, rfl⟩
        have hyl : Y1.length = J.length + 1 := by rw [← hY1]; simp
        have ha1 : ∀ u, (Op.stringOp .add ⟨#[123]⟩ (strOf J)).run Try.prog u = .ok (.string (strOf Y1)) u := fun u => add_of [123] J _ rfl u (by simp; omega) hY1
        have ha2 := fun u => add_of Y1 [125] ⟨#[125]⟩ rfl u (by simp; omega) (r := Y1 ++ [125]) rfl
        have HY1 := Lib.hid hY1
        clear hY1
        go_wp2_with fail
        refine HJO.out.mono ?_
        rintro e w5 ⟨rfl, hb5⟩
        have HB5 := Lib.hid hb5
        clear hb5
        go_wp2_with fail
        go_ret
        exact ⟨str_ret (congrArg strOf (by rw [← HY1.out, ← HJ.out]; simp)), HB0.out.trans ((HBR.out.mono (by omega)).trans (HB5.out.mono (by omega)))⟩
  have k0 : k = 0 := by omega
  subst k0
  have HE := Lib.hid (show showV (.mk 0 b i s l ks) = [110, 117, 108, 108] from by unfold showV; rfl)
  rw [HE.out]
  go_enter Try.func34, Try.ntmps34
  go_wp2_with fail
  go_ret
  exact ⟨rfl, HB0.out⟩
end Go.Proofs.Ytoakloicjlfaaaa

/- Layer 14: a graph's lines, in plain words; the properties' part of a line. Conditions: the properties may be, the builder is the call's own. -/
namespace Go.Proofs.Ytoakloicjlfaaaa
open Go.RowKit Go.Shelf
set_option linter.unusedSimpArgs false
set_option linter.unusedVariables false
set_option maxRecDepth 100000

def propsV (ks : List ByteArray) (vs : List Vt) : Vt := .mk 5 false 0 ⟨#[]⟩ vs ks
def propsL (ks : List ByteArray) (vs : List Vt) : List UInt8 := (if ks = [] then [] else 32 :: showV (propsV ks vs)) ++ [10]
def labelL (l : ByteArray) : List UInt8 := 58 :: keyL l.data.toList
def nodeL (n : Nt) : List UInt8 := ([35, 110] ++ textOf n.id) ++ (n.labels.flatMap labelL ++ propsL n.keys n.vals)
def edgeH (e : Et) : List UInt8 := [35, 101] ++ (textOf e.id ++ ([58] ++ (keyL e.ty.data.toList ++ ([32, 35, 110] ++ (textOf e.src ++ ([32, 35, 110] ++ textOf e.dst))))))
def edgeL (e : Et) : List UInt8 := edgeH e ++ propsL e.keys e.vals
def textG (g : Gt) : List UInt8 := g.nodes.flatMap nodeL ++ g.edges.flatMap edgeL
theorem Bld.below {B b : Nat} {l : List UInt8} {w w' : World} (h : Bld B b l w) (hb : Below w.heap.size w w') : Bld B b l w' := by
  have hk : ∀ (k : Nat) (o : Obj), w.heap[k]? = some o → w'.heap[k]? = some o := fun k o h => (hb.block k (Array.getElem?_eq_some_iff.1 h).1).trans h
  unfold Bld Lib.IsBuilderF at h ⊢
  rcases h with ⟨hB, v, h1, h2, h3⟩ | ⟨hB, v, h1, h2, h3⟩
  · refine .inl ⟨hB, v, hk _ _ h1, ⟨h2.1, ?_⟩, h3⟩
    rcases h2.2 with hn | ⟨g, cap, cur, fz, hv, hbg, hg, rest⟩
    · exact .inl hn
    · exact .inr ⟨g, cap, cur, fz, hv, hbg, hk _ _ hg, rest⟩
  · refine .inr ⟨hB, v, hk _ _ h1, ⟨h2.1, ?_⟩, h3⟩
    rcases h2.2 with hn | ⟨g, cap, cur, fz, hv, hbg, hg, rest⟩
    · exact .inl hn
    · exact .inr ⟨g, cap, cur, fz, hv, hbg, hk _ _ hg, rest⟩
theorem others_below {e : TypeId} {b : Option Nat} {w w' : World} (hb : Below w.heap.size w w') : Lib.OthersKept e b w w' := fun k o h _ _ => (hb.block k (Array.getElem?_eq_some_iff.1 h).1).trans h
theorem Wrote.behind {B b : Nat} {l : List UInt8} {w w1 w2 : World} (h : Wrote B b l w1 w2) (hb : Below w.heap.size w w1) (hB : B ≤ w.heap.size) : Wrote B b l w w2 := ⟨h.1, (hb.mono hB).trans h.2.1, (others_below hb).trans h.2.2⟩
/-- Another block, of another kind than bytes, is as it was. -/
theorem Wrote.blk {B b : Nat} {l : List UInt8} {w w' : World} {k : Nat} {cs : List Value} {t : TypeId} (h : Wrote B b l w w') (hk : Block w k cs t) (hkb : k ≠ b) (ht : t ≠ 5) : Block w' k cs t :=
  h.2.2 k _ hk (fun e => hkb (Option.some.inj e)) (fun c fz e => ht (by injection e))
theorem strOf_data (l : List UInt8) : (strOf l).data.toList = l := by simp [strOf]

set_option maxHeartbeats 4000000 in
theorem textProps_any (keys : List ByteArray) (vals : List Vt) (B b Bm : Nat) (l : List UInt8) (ka va : Option Addr) (kc vc : Nat) (w : World) (h : IsPr Bm w ka va kc vc keys vals) (hBm : Bm ≤ w.heap.size) (hme : keys ≠ [] → MayE (propsV keys vals)) (hwt : wtV (propsV keys vals) ≤ 1048576)
    (hb : Bld B b l w) (hB : B ≤ w.heap.size) (hl : l.length + 40000000 ≤ 140737488355328) :
    Calls Try.prog 32 #[.slice ka keys.length kc, .slice va vals.length vc, .pointer (some ⟨b, 0, none⟩)] w fun e w' => e = .returned (.tuple #[]) ∧ Wrote B b (l ++ propsL keys vals) w w' := by
  have HB := Lib.hid hb
  by_cases hk : keys = []
  · subst hk
    have hp : propsL [] vals = [10] := rfl
    rw [hp]
    have HW := Lib.hid (bld_byte B b l 10 w hb (by omega) hB (by omega))
    clear h hme hwt hb hp
    show Calls Try.prog 32 #[.slice ka 0 kc, .slice va vals.length vc, .pointer (some ⟨b, 0, none⟩)] w _
    go_enter Try.func32, Try.ntmps32
    go_wp2_with fail
    refine HW.out.mono ?_
    rintro e w1 ⟨rfl, h1⟩
    go_wp2_with fail
    go_end0
    exact ⟨rfl, h1⟩
  · have hkl : 0 < keys.length := by cases keys with | nil => exact absurd rfl hk | cons a l => simp
    have hkl' : (0 : Int) < keys.length := by omega
    obtain ⟨h1, h2, h3, h4⟩ := h
    have hV : IsV Bm w [.int .i64 5, .bool false, .int .i64 0, .string ⟨#[]⟩, .slice va vals.length vc, .slice ka keys.length kc] (propsV keys vals) := by
      unfold propsV IsV
      exact ⟨va, vc, ka, kc, rfl, by unfold in64; omega, by unfold in64; omega, h2.1, h1.1, h2.2, h1.2, h3, h4⟩
    have HS := Lib.hid (show_any (propsV keys vals) _ Bm w hV hBm (hme hk) hwt)
    have hsl := showV_len (propsV keys vals)
    obtain ⟨T, hT⟩ : ∃ T, showV (propsV keys vals) = T := ⟨_, rfl⟩
    have hp : propsL keys vals = 32 :: T ++ [10] := by unfold propsL; rw [if_neg hk, hT]
    rw [hT] at HS hsl
    rw [hp]
    have hT2 : T.length ≤ 33554432 := by omega
    have hcat : (⟨#[32]⟩ ++ strOf T : ByteArray) = strOf (32 :: T) := by rw [show (⟨#[32]⟩ : ByteArray) = strOf [32] from rfl, strOf_append]; rfl
    have HCAT := Lib.hid hcat
    have hsz : (⟨#[32]⟩ ++ strOf T : ByteArray).size = 1 + T.length := by rw [hcat, strOf_size]; simp; omega
    have hts : (strOf T).size = T.length := strOf_size T
    have HW1 := Lib.hid (fun (w1 : World) (hb1 : Below w.heap.size w w1) => bld_string B b l (⟨#[32]⟩ ++ strOf T) w1 (hb.below hb1) (by rw [hsz]; omega) (Nat.le_trans hB hb1.size))
    have HKL := Lib.hid hkl
    clear h1 h2 h3 h4 hV hme hwt hb hp hT hcat hsl
    generalize keys.length = nk at *
    generalize vals.length = nv at *
    have hbu : Program.built Try.prog 71 [(0, Value.int .i64 5), (5, Value.slice ka nk kc), (4, Value.slice va nv vc)] = some #[.int .i64 5, .bool false, .int .i64 0, .string ⟨#[]⟩, .slice va nv vc, .slice ka nk kc] := by kernel_rfl
    go_enter Try.func32, Try.ntmps32
    go_wp2_with fail
    refine HS.out.mono ?_
    rintro e w1 ⟨rfl, hb1⟩
    have HB1 := Lib.hid hb1
    clear hb1
    go_wp2_with fail
    refine (HW1.out w1 HB1.out).mono ?_
    rintro e w2 ⟨rfl, hw2⟩
    rw [HCAT.out, strOf_data] at hw2
    have HW2 := Lib.hid hw2
    have HWB := Lib.hid (bld_byte B b (l ++ 32 :: T) 10 w2 hw2.1 (by simp; omega) (Nat.le_trans hB (Nat.le_trans HB1.out.size hw2.2.1.size)) (by omega))
    clear hw2
    go_wp2_with fail
    refine HWB.out.mono ?_
    rintro e w3 ⟨rfl, hw3⟩
    have HW3 := Lib.hid hw3
    clear hw3
    go_wp2_with fail
    go_end0
    exact ⟨rfl, by have := ((HW2.out.trans HW3.out).behind HB1.out hB); simpa using this⟩
end Go.Proofs.Ytoakloicjlfaaaa

/- Layer 14: the program's Text. Conditions: the graph may be, and is small. -/
namespace Go.Proofs.Ytoakloicjlfaaaa
open Go.RowKit Go.Shelf
set_option linter.unusedSimpArgs false
set_option linter.unusedVariables false
set_option maxRecDepth 100000

theorem wtS_mem {l : List ByteArray} {j : Nat} {k : ByteArray} (h : l[j]? = some k) : k.size + 1 ≤ wtS l := by
  unfold wtS
  exact sum_get (fun k : ByteArray => k.size + 1) h
theorem flat_len {α : Type} (f : α → List UInt8) (g : α → Nat) (hf : ∀ x, (f x).length ≤ g x) (l : List α) : (l.flatMap f).length ≤ (l.map g).sum := by
  induction l with
  | nil => simp
  | cons x xs ih => have := hf x; simp only [List.flatMap_cons, List.length_append, List.map_cons, List.sum_cons]; omega
theorem sum_mul (c : Nat) {α : Type} (g : α → Nat) (l : List α) : (l.map fun x => c * g x).sum = c * (l.map g).sum := by
  induction l with
  | nil => simp
  | cons x xs ih => simp only [List.map_cons, List.sum_cons, ih, Nat.mul_add]
theorem labelL_len (l : ByteArray) : (labelL l).length ≤ 4 * (l.size + 1) := by
  have := keyL_len l.data.toList
  have h2 : l.data.toList.length = l.size := by simp
  unfold labelL
  simp only [List.length_cons]
  omega
theorem labels_len (ls : List ByteArray) : (ls.flatMap labelL).length ≤ 4 * wtS ls := by
  have := flat_len labelL (fun k => 4 * (k.size + 1)) labelL_len ls
  rwa [sum_mul 4 (fun k : ByteArray => k.size + 1)] at this
theorem wt_propsV (ks : List ByteArray) (vs : List Vt) : wtV (propsV ks vs) = 1 + wtS ks + wtVs vs := by
  unfold propsV wtV wtS
  simp
  rfl
theorem propsL_len (ks : List ByteArray) (vs : List Vt) : (propsL ks vs).length ≤ 32 * (1 + wtS ks + wtVs vs) + 2 := by
  have := showV_len (propsV ks vs)
  rw [wt_propsV] at this
  unfold propsL
  split
  · simp
  · simp; omega
theorem nodeL_len (n : Nt) : (nodeL n).length ≤ 100 * wtN n := by
  have h1 := textOf_len n.id
  have h2 := labels_len n.labels
  have h3 := propsL_len n.keys n.vals
  unfold nodeL wtN
  simp only [List.length_append, List.length_cons, List.length_nil]
  omega
theorem edgeH_len (e : Et) : (edgeH e).length ≤ 80 + 4 * e.ty.size := by
  have h1 := textOf_len e.id
  have h2 := textOf_len e.src
  have h3 := textOf_len e.dst
  have h4 := keyL_len e.ty.data.toList
  have h5 : e.ty.data.toList.length = e.ty.size := by simp
  unfold edgeH
  simp only [List.length_append, List.length_cons, List.length_nil]
  omega
theorem edgeL_len (e : Et) : (edgeL e).length ≤ 200 * wtE e := by
  have h1 := edgeH_len e
  have h3 := propsL_len e.keys e.vals
  unfold edgeL wtE
  simp only [List.length_append]
  omega
theorem nodes_len (l : List Nt) : (l.flatMap nodeL).length ≤ 100 * (l.map wtN).sum := by
  have := flat_len nodeL (fun n => 100 * wtN n) nodeL_len l
  rwa [sum_mul 100 wtN] at this
theorem edges_len (l : List Et) : (l.flatMap edgeL).length ≤ 200 * (l.map wtE).sum := by
  have := flat_len edgeL (fun n => 200 * wtE n) edgeL_len l
  rwa [sum_mul 200 wtE] at this
theorem sum_takeN {α : Type} (g : α → Nat) (l : List α) (j : Nat) : ((l.take j).map g).sum ≤ (l.map g).sum := by
  induction l generalizing j with
  | nil => simp
  | cons x xs ih =>
    cases j with
    | zero => simp
    | succ j => have := ih j; simp only [List.take_succ_cons, List.map_cons, List.sum_cons]; omega
theorem flat_take {α : Type} {l : List α} {j : Nat} {x : α} (f : α → List UInt8) (h : l[j]? = some x) : (l.take (j + 1)).flatMap f = (l.take j).flatMap f ++ f x := by
  rw [take_succ_some h, List.flatMap_append, List.flatMap_cons, List.flatMap_nil, List.append_nil]
/-- What the text asks of properties. -/
def TxP (ks : List ByteArray) (vs : List Vt) : Prop := ks ≠ [] → MayE (propsV ks vs)
theorem TxP.of {ks : List ByteArray} {vs : List Vt} (h : propsB ks vs = true) : TxP ks vs := by
  unfold propsB at h
  simp only [Bool.and_eq_true, decide_eq_true_eq] at h
  obtain ⟨⟨h1, _⟩, h2⟩ := h
  intro _
  refine .mk _ _ _ _ _ _ (by omega) (by omega) (fun _ => h1) (by unfold unusedV; simp; rfl) fun j u hu => ?_
  have h3 := allB_at h2 (i := j) (List.getElem?_eq_some_iff.1 hu).1
  unfold propAt at h3
  rw [hu] at h3
  obtain ⟨k, b, i, s, l, kk⟩ := u
  unfold propB at h3
  simp only [Bool.and_eq_true] at h3
  exact MayE.of_may _ _ _ h3.1.2
structure TxG (g : Gt) : Prop where
  wt : wtG g ≤ 1048576
  nodes : ∀ (j : Nat) n, g.nodes[j]? = some n → TxP n.keys n.vals
  edges : ∀ (j : Nat) n, g.edges[j]? = some n → TxP n.keys n.vals

set_option maxHeartbeats 32000000 in
theorem text_any' (g : Gt) (cs : List Value) (B : Nat) (w : World) (hg : IsG B w cs g) (hB : B ≤ w.heap.size) (ht : TxG g) :
    Calls Try.prog 9 #[.agg cs.toArray] w fun e w' => e = .returned (.string (strOf (textG g))) ∧ Below w.heap.size w w' := by
  obtain ⟨na, nc, ea, ec, rfl, hnz, hez, hN, hE⟩ := hg
  show Calls Try.prog 9 #[.agg #[.slice na g.nodes.length nc, .slice ea g.edges.length ec]] w _
  have hwt := ht.wt
  unfold wtG at hwt
  have hnl : g.nodes.length ≤ 1048576 := by
    have : g.nodes.length ≤ (g.nodes.map wtN).sum := by
      generalize g.nodes = l
      induction l with
      | nil => simp
      | cons x xs ih => have : 1 ≤ wtN x := by unfold wtN; omega
                        simp only [List.length_cons, List.map_cons, List.sum_cons]; omega
    omega
  have hel : g.edges.length ≤ 1048576 := by
    have : g.edges.length ≤ (g.edges.map wtE).sum := by
      generalize g.edges = l
      induction l with
      | nil => simp
      | cons x xs ih => have : 1 ≤ wtE x := by unfold wtE; omega
                        simp only [List.length_cons, List.map_cons, List.sum_cons]; omega
    omega
  have HTN := Lib.hid ht.nodes
  have HTE := Lib.hid ht.edges
  have HWT := Lib.hid hwt
  have HWN : Hid (∀ (j : Nat) n, g.nodes[j]? = some n → wtN n ≤ 1048576) := Lib.hid (fun j n h => by have := sum_get wtN h; omega)
  have HWE : Hid (∀ (j : Nat) n, g.edges[j]? = some n → wtE n ≤ 1048576) := Lib.hid (fun j n h => by have := sum_get wtE h; omega)
  have HLN : Hid (∀ j, ((g.nodes.take j).flatMap nodeL).length ≤ 104857600) := Lib.hid (fun j => by have h1 := nodes_len (g.nodes.take j); have h2 := sum_takeN wtN g.nodes j; omega)
  have HLE : Hid (∀ j, (g.nodes.flatMap nodeL ++ (g.edges.take j).flatMap edgeL).length ≤ 400000000) := Lib.hid (fun j => by have h1 := edges_len (g.edges.take j); have h2 := sum_takeN wtE g.edges j; have h3 := nodes_len g.nodes; rw [List.length_append]; omega)
  obtain ⟨b, hb⟩ : ∃ b, w.heap.size + 1 = b := ⟨_, rfl⟩
  obtain ⟨W1, hW1⟩ : ∃ W1, (w.alloc (.cells #[.slice na g.nodes.length nc, .slice ea g.edges.length ec] 25)).alloc (.cells #[.pointer none, .slice none 0 0] 64) = W1 := ⟨_, rfl⟩
  have hBW : Below w.heap.size w W1 := by rw [← hW1]; exact ((Below.refl _ _).alloc (Nat.le_refl _) _).alloc (by simp) _
  have hX0 : Block W1 w.heap.size [.slice na g.nodes.length nc, .slice ea g.edges.length ec] 25 := by rw [← hW1]; exact (Block.new w _ _).alloc _
  have hbld : Bld b b [] W1 := by
    rw [← hW1, ← hb]
    have := Lib.IsBuilderF.of (Lib.fresh_isBuilder 64 5 (w.alloc (.cells #[.slice na g.nodes.length nc, .slice ea g.edges.length ec] 25)))
    unfold Bld
    rw [show Lib.byteCells [] = [] from rfl]
    simpa using this
  have hz1 : b + 1 = W1.heap.size := by rw [← hW1, ← hb]; simp
  have i0 := hX0.cell (i := 0) rfl
  rw [← hW1] at i0
  have HBD0 : Hid (Bld b b ((g.nodes.take 0).flatMap nodeL) W1) := Lib.hid hbld
  have HX0 := Lib.hid hX0
  have HBW := Lib.hid hBW
  have HZ1 := Lib.hid hz1
  have HBB := Lib.hid hb
  have HW1 := Lib.hid hW1
  have HNS := Lib.hid hN
  have HES := Lib.hid hE
  obtain ⟨Q, hQ⟩ : ∃ Q : Ending → World → Prop, (fun e w' => e = .returned (.string (strOf (textG g))) ∧ Below w.heap.size w w') = Q := ⟨_, rfl⟩
  have HQ : Hid (∀ u, Below b W1 u → Q (.returned (.string (strOf (textG g)))) u) := Lib.hid (fun u h => by rw [← hQ]; exact ⟨rfl, hBW.trans (h.mono (by omega))⟩)
  rw [hQ]
  clear hX0 hBW hz1 hW1 hN hE hbld hnz hez ht hwt hQ
  go_enter Try.func9, Try.ntmps9
  go_wp2_with fail
  (try rw [hb])
  rw [HW1.out]
  clear i0 hb
  go_loopw [15] (fun iv wr => ∃ (j : Nat), iv = .int .i64 j ∧ j ≤ g.nodes.length ∧ Hid (Bld b b ((g.nodes.take j).flatMap nodeL) wr) ∧ Hid (Below b W1 wr)) (fun iv _ => g.nodes.length - (intOf iv).toNat)
  case atStart => exact ⟨0, rfl, Nat.zero_le _, HBD0, Lib.hid (Below.refl _ _)⟩
  case round =>
    obtain ⟨j, rfl, hj, HBD, HBR⟩ := hrel
    have hX0r : Block wr w.heap.size [.slice na g.nodes.length nc, .slice ea g.edges.length ec] 25 := HX0.out.of_heap (HBR.out.block _ (by have := HBB.out; omega))
    by_cases hlt : j < g.nodes.length
    · have hlt' : (j : Int) < g.nodes.length := by omega
      have hj0 : (0 : Int) ≤ (j : Int) := by omega
      have hwi : IntKind.i64.wrap ((j : Int) + 1) = (j : Int) + 1 := IntWalk.i64_in _ (by omega)
      have hbr : Below w.heap.size w wr := HBW.out.trans (HBR.out.mono (by have := HBB.out; omega))
      have hzr : b + 1 ≤ wr.heap.size := by have := HBR.out.size; have := HZ1.out; omega
      obtain ⟨x, hx⟩ := get_some hlt
      have HTX := Lib.hid (HTN.out j x hx)
      have HWX := Lib.hid (HWN.out j x hx)
      obtain ⟨bb, off, cs, e1, hbB, _, hc, hcell0⟩ := HNS.out.at hx
      have hcell : ∀ q v, cs[q]? = some v → wr.cell? ⟨bb, off + j * 4 + q, none⟩ = some v := fun q v hv => by rw [hbr.cell (by show bb < _; omega)]; exact hcell0 q v hv
      clear hcell0
      have hc0 := hc
      obtain ⟨la, lc, ka, kc, va, vc, rfl, hid, hlo, hls, hpr⟩ := hc
      subst e1
      have k0 : wr.cell? ⟨bb, off + j * 4, none⟩ = some (.int .i64 x.id) := hcell 0 _ rfl
      have k1 := hcell 1 _ rfl
      have k2 := hcell 2 _ rfl
      have k3 := hcell 3 _ rfl
      obtain ⟨nb, hnb⟩ : ∃ nb, wr.heap.size = nb := ⟨_, rfl⟩
      obtain ⟨W2, hW2⟩ : ∃ W2, wr.alloc (.cells #[.int .i64 x.id, .slice la x.labels.length lc, .slice ka x.keys.length kc, .slice va x.vals.length vc] 38) = W2 := ⟨_, rfl⟩
      have hb2 : Below wr.heap.size wr W2 := by rw [← hW2]; exact (Below.refl _ _).alloc (Nat.le_refl _) _
      have hblk : Block W2 nb [.int .i64 x.id, .slice la x.labels.length lc, .slice ka x.keys.length kc, .slice va x.vals.length vc] 38 := by rw [← hW2, ← hnb]; exact Block.new _ _ _
      have hz2 : nb + 1 = W2.heap.size := by rw [← hW2, ← hnb]; simp
      have m0 : W2.cell? ⟨nb, 0, none⟩ = some (.int .i64 x.id) := hblk.cell rfl
      rw [← hW2, ← hnb] at m0
      obtain ⟨T0, hT0⟩ : ∃ T, textOf x.id = T := ⟨_, rfl⟩
      have hT0l : T0.length ≤ 20 := by rw [← hT0]; exact textOf_len x.id
      have HT0 : Hid (∀ u : World, Calls Try.prog 36 #[.int .i64 x.id] u fun e w' => e = .returned (.string (strOf T0)) ∧ Below u.heap.size u w') := Lib.hid (fun u => by rw [← hT0]; exact text_any x.id u hid)
      have hcat : (⟨#[35, 110]⟩ ++ strOf T0 : ByteArray) = strOf ([35, 110] ++ T0) := by rw [show (⟨#[35, 110]⟩ : ByteArray) = strOf [35, 110] from rfl, strOf_append]
      have hsz : (⟨#[35, 110]⟩ ++ strOf T0 : ByteArray).size = 2 + T0.length := by rw [hcat, strOf_size]; simp; omega
      have hts : (strOf T0).size = T0.length := strOf_size T0
      have HSZ := Lib.hid hsz
      have HCAT := Lib.hid hcat
      have HXJ := Lib.hid hx
      have HTT := Lib.hid hT0
      have HLS := Lib.hid hls
      have HLO := Lib.hid hlo
      have HPR := Lib.hid hpr
      have HB2 := Lib.hid hb2
      have HBK := Lib.hid hblk
      have HZ2 := Lib.hid hz2
      have HNB := Lib.hid hnb
      have HBRw := Lib.hid hbr
      have HW2 := Lib.hid hW2
      have HLNj := Lib.hid (HLN.out j)
      have HLN1 := Lib.hid (HLN.out (j + 1))
      clear hc0 hcell hx hT0 hls hpr hb2 hblk hz2 hbr hW2 hcat hid hbB hX0r hlo
      go_wp2_with fail
      (try rw [hnb])
      rw [HW2.out]
      refine (HT0.out W2).mono ?_
      rintro e w3 ⟨rfl, hb3⟩
      clear k0 k1 k2 k3 m0 hnb
      have HB3 := Lib.hid ((HB2.out.trans (hb3.mono HB2.out.size)))
      have HBK3 := Lib.hid (HBK.out.below hb3 HBK.out.lt)
      have HWS := Lib.hid (bld_string b b _ (⟨#[35, 110]⟩ ++ strOf T0) w3 (HBD.out.below HB3.out) (by rw [HSZ.out]; have := HLNj.out; omega) (by have := HB3.out.size; omega))
      clear hb3
      go_wp2_with fail
      refine HWS.out.mono ?_
      rintro e w4 ⟨rfl, hw4⟩
      rw [HCAT.out, strOf_data] at hw4
      have HW4 := Lib.hid (hw4.behind HB3.out (by omega))
      have HBK4 := Lib.hid (hw4.blk HBK3.out (by have := HNB.out; omega) (by decide))
      clear hw4 hsz hts
      have ms := HBK4.out.cell (i := 1) rfl
      have HBD2 : Hid (Bld b b ((g.nodes.take j).flatMap nodeL ++ ([35, 110] ++ T0) ++ (x.labels.take 0).flatMap labelL) w4) := Lib.hid (by rw [List.take_zero, List.flatMap_nil, List.append_nil]; exact HW4.out.1)
      have HB4 : Hid (Below b W1 w4) := Lib.hid (HBR.out.trans HW4.out.2.1)
      have HWl : Hid (4 * wtS x.labels ≤ 4194304 ∧ x.labels.length ≤ 9223372036854775807) := Lib.hid ⟨by have := HWX.out; unfold wtN at this; omega, by have := HLO.out.1; omega⟩
      have hll : x.labels.length ≤ 9223372036854775807 := HWl.out.2
      go_wp2_with fail
      go_loopw [27] (fun iv wr => ∃ (q : Nat), iv = .int .i64 q ∧ q ≤ x.labels.length ∧ Hid (Bld b b ((g.nodes.take j).flatMap nodeL ++ ([35, 110] ++ T0) ++ (x.labels.take q).flatMap labelL) wr) ∧ Hid (Below b W1 wr) ∧ Hid (Block wr nb [.int .i64 x.id, .slice la x.labels.length lc, .slice ka x.keys.length kc, .slice va x.vals.length vc] 38)) (fun iv _ => x.labels.length - (intOf iv).toNat)
      case atStart => exact ⟨0, rfl, Nat.zero_le _, HBD2, HB4, HBK4⟩
      case round =>
        clear ms
        obtain ⟨q, rfl, hq, HBDq, HBRq, HBKq⟩ := hrel
        have hzq : nb + 1 ≤ wr.heap.size := HBKq.out.lt
        have hbq : Below w.heap.size w wr := HBW.out.trans (HBRq.out.mono (by have := HBB.out; omega))
        by_cases hltq : q < x.labels.length
        · have hltq' : (q : Int) < x.labels.length := by omega
          have hq0 : (0 : Int) ≤ (q : Int) := by omega
          have hwq : IntKind.i64.wrap ((q : Int) + 1) = (q : Int) + 1 := IntWalk.i64_in _ (by omega)
          obtain ⟨y, hy⟩ := get_some hltq
          obtain ⟨yb, yo, e2, hyB, hyc⟩ := (show StrRow B wr la x.labels from HLS.out.below hbq hB).get hy
          subst e2
          obtain ⟨T1, hT1⟩ : ∃ T, keyL y.data.toList = T := ⟨_, rfl⟩
          have hyw := wtS_mem hy
          have hys : y.size ≤ 1048576 := by have := HWl.out.1; omega
          have hT1l : T1.length ≤ 8388608 := by rw [← hT1]; have := keyL_len y.data.toList; have h2 : y.data.toList.length = y.size := (by simp); omega
          have HK := Lib.hid (key_any y wr (by omega))
          rw [hT1] at HK
          have hcat : (⟨#[58]⟩ ++ strOf T1 : ByteArray) = strOf (58 :: T1) := by rw [show (⟨#[58]⟩ : ByteArray) = strOf [58] from rfl, strOf_append]; rfl
          have hsz : (⟨#[58]⟩ ++ strOf T1 : ByteArray).size = 1 + T1.length := by rw [hcat, strOf_size]; simp; omega
          have hts : (strOf T1).size = T1.length := strOf_size T1
          have hlq : ((x.labels.take q).flatMap labelL).length ≤ 4194304 := by have h1 := labels_len (x.labels.take q); have h2 : wtS (x.labels.take q) ≤ wtS x.labels := sum_takeN (fun k : ByteArray => k.size + 1) x.labels q; have := HWl.out.1; omega
          have HLQ : Hid (((g.nodes.take j).flatMap nodeL ++ ([35, 110] ++ T0) ++ (x.labels.take q).flatMap labelL).length ≤ 120000000) := Lib.hid (by rw [List.length_append, List.length_append]; simp only [List.length_append, List.length_cons, List.length_nil]; have := HLNj.out; omega)
          have HSZ1 := Lib.hid hsz
          have HCAT1 := Lib.hid hcat
          have HYJ := Lib.hid hy
          have HTY := Lib.hid hT1
          clear hy hT1 hcat hyw hlq hbq hyB
          go_wp2_with fail
          refine HK.out.mono ?_
          rintro e w5 ⟨rfl, hb5⟩
          have HB5 := Lib.hid hb5
          have HBK5 := Lib.hid (HBKq.out.below hb5 HBKq.out.lt)
          have HWS1 := Lib.hid (bld_string b b _ (⟨#[58]⟩ ++ strOf T1) w5 (HBDq.out.below hb5) (by rw [HSZ1.out]; have := HLQ.out; omega) (by have := hb5.size; have := HNB.out; omega))
          clear hb5 hyc
          go_wp2_with fail
          refine HWS1.out.mono ?_
          rintro e w6 ⟨rfl, hw6⟩
          rw [HCAT1.out, strOf_data] at hw6
          have HW6 := Lib.hid (hw6.behind HB5.out (by have := HNB.out; omega))
          have HBK6 := Lib.hid (hw6.blk HBK5.out (by have := HNB.out; omega) (by decide))
          clear hw6 hsz hts
          go_wp2_with fail
          go_roundw
          case rel => exact ⟨q + 1, by go_num, by omega, Lib.hid (by have h9 := HW6.out.1; rw [flat_take labelL HYJ.out, ← List.append_assoc, show labelL y = 58 :: keyL y.data.toList from rfl, HTY.out]; exact h9), Lib.hid (HBRq.out.trans HW6.out.2.1), HBK6⟩
          case measure => simp [intOf]; omega
        · have hltq' : ¬ (q : Int) < x.labels.length := by omega
          have HBDe : Hid (Bld b b ((g.nodes.take j).flatMap nodeL ++ ([35, 110] ++ T0) ++ x.labels.flatMap labelL) wr) := Lib.hid (by have := HBDq.out; rwa [List.take_of_length_le (l := x.labels) (by omega)] at this)
          have g2 := HBKq.out.cell (i := 2) rfl
          have g3 := HBKq.out.cell (i := 3) rfl
          have HTP := Lib.hid (textProps_any x.keys x.vals b b B ((g.nodes.take j).flatMap nodeL ++ ([35, 110] ++ T0) ++ x.labels.flatMap labelL) ka va kc vc wr (HPR.out.below hbq hB) (by have := hbq.size; omega) HTX.out (by rw [wt_propsV]; have := HWX.out; unfold wtN at this; omega) HBDe.out (by have := HNB.out; omega) (by have h1 := labels_len x.labels; have := HWl.out.1; have := HLNj.out; simp only [List.length_append, List.length_cons, List.length_nil]; omega))
          clear hbq
          go_wp2_with fail
          refine HTP.out.mono ?_
          rintro e w7 ⟨rfl, hw7⟩
          have HW7 := Lib.hid hw7
          clear hw7 g2 g3
          go_wp2_with fail
          go_roundw
          case rel => exact ⟨j + 1, by go_num, by omega, Lib.hid (by have h9 := HW7.out.1; rw [flat_take nodeL HXJ.out, show nodeL x = ([35, 110] ++ textOf x.id) ++ (x.labels.flatMap labelL ++ propsL x.keys x.vals) from rfl, HTT.out]; simpa using h9), Lib.hid (HBRq.out.trans HW7.out.2.1)⟩
          case measure => simp [intOf]; omega
    · have hlt' : ¬ (j : Int) < g.nodes.length := by omega
      have HBDn : Hid (Bld b b (g.nodes.flatMap nodeL ++ (g.edges.take 0).flatMap edgeL) wr) := Lib.hid (by have := HBD.out; rw [List.take_of_length_le (by omega)] at this; simpa using this)
      have g1 := hX0r.cell (i := 1) rfl
      clear hX0r
      go_wp2_with fail
      clear g1
      rename World => wn
      go_loopw [46] (fun iv wr => ∃ (j : Nat), iv = .int .i64 j ∧ j ≤ g.edges.length ∧ Hid (Bld b b (g.nodes.flatMap nodeL ++ (g.edges.take j).flatMap edgeL) wr) ∧ Hid (Below b W1 wr)) (fun iv _ => g.edges.length - (intOf iv).toNat)
      case atStart => exact ⟨0, rfl, Nat.zero_le _, HBDn, HBR⟩
      case round =>
        clear hlt hlt' hj HBD HBR HBDn
        obtain ⟨j, rfl, hj, HBD, HBR⟩ := hrel
        by_cases hlt : j < g.edges.length
        · have hlt' : (j : Int) < g.edges.length := by omega
          have hj0 : (0 : Int) ≤ (j : Int) := by omega
          have hwi : IntKind.i64.wrap ((j : Int) + 1) = (j : Int) + 1 := IntWalk.i64_in _ (by omega)
          have hbr : Below w.heap.size w wr := HBW.out.trans (HBR.out.mono (by have := HBB.out; omega))
          have hzr : b + 1 ≤ wr.heap.size := by have := HBR.out.size; have := HZ1.out; omega
          obtain ⟨x, hx⟩ := get_some hlt
          have HTX := Lib.hid (HTE.out j x hx)
          have HWX := Lib.hid (HWE.out j x hx)
          obtain ⟨bb, off, cs, e1, hbB, _, hc, hcell0⟩ := HES.out.at hx
          have hcell : ∀ q v, cs[q]? = some v → wr.cell? ⟨bb, off + j * 6 + q, none⟩ = some v := fun q v hv => by rw [hbr.cell (by show bb < _; omega)]; exact hcell0 q v hv
          clear hcell0
          obtain ⟨ka, kc, va, vc, rfl, hid, hpr⟩ := hc
          subst e1
          have k0 : wr.cell? ⟨bb, off + j * 6, none⟩ = some (.int .i64 x.id) := hcell 0 _ rfl
          have k1 := hcell 1 _ rfl
          have k2 := hcell 2 _ rfl
          have k3 := hcell 3 _ rfl
          have k4 := hcell 4 _ rfl
          have k5 := hcell 5 _ rfl
          obtain ⟨nb, hnb⟩ : ∃ nb, wr.heap.size = nb := ⟨_, rfl⟩
          obtain ⟨W2, hW2⟩ : ∃ W2, wr.alloc (.cells #[.int .i64 x.id, .int .i64 x.src, .int .i64 x.dst, .string x.ty, .slice ka x.keys.length kc, .slice va x.vals.length vc] 40) = W2 := ⟨_, rfl⟩
          have hb2 : Below wr.heap.size wr W2 := by rw [← hW2]; exact (Below.refl _ _).alloc (Nat.le_refl _) _
          have hblk : Block W2 nb [.int .i64 x.id, .int .i64 x.src, .int .i64 x.dst, .string x.ty, .slice ka x.keys.length kc, .slice va x.vals.length vc] 40 := by rw [← hW2, ← hnb]; exact Block.new _ _ _
          have hz2 : nb + 1 = W2.heap.size := by rw [← hW2, ← hnb]; simp
          obtain ⟨T0, hT0⟩ : ∃ T, textOf x.id = T := ⟨_, rfl⟩
          obtain ⟨T1, hT1⟩ : ∃ T, textOf x.src = T := ⟨_, rfl⟩
          obtain ⟨T2, hT2⟩ : ∃ T, textOf x.dst = T := ⟨_, rfl⟩
          obtain ⟨T3, hT3⟩ : ∃ T, keyL x.ty.data.toList = T := ⟨_, rfl⟩
          have hT0l : T0.length ≤ 20 := by rw [← hT0]; exact textOf_len x.id
          have hT1l : T1.length ≤ 20 := by rw [← hT1]; exact textOf_len x.src
          have hT2l : T2.length ≤ 20 := by rw [← hT2]; exact textOf_len x.dst
          have hxs : x.ty.size ≤ 1048576 := by have := HWX.out; unfold wtE at this; omega
          have hT3l : T3.length ≤ 8388608 := by rw [← hT3]; have := keyL_len x.ty.data.toList; have h2 : x.ty.data.toList.length = x.ty.size := (by simp); omega
          have HT0 : Hid (∀ u : World, Calls Try.prog 36 #[.int .i64 x.id] u fun e w' => e = .returned (.string (strOf T0)) ∧ Below u.heap.size u w') := Lib.hid (fun u => by rw [← hT0]; exact text_any x.id u hid.1)
          have HT1 : Hid (∀ u : World, Calls Try.prog 36 #[.int .i64 x.src] u fun e w' => e = .returned (.string (strOf T1)) ∧ Below u.heap.size u w') := Lib.hid (fun u => by rw [← hT1]; exact text_any x.src u hid.2.1)
          have HT2 : Hid (∀ u : World, Calls Try.prog 36 #[.int .i64 x.dst] u fun e w' => e = .returned (.string (strOf T2)) ∧ Below u.heap.size u w') := Lib.hid (fun u => by rw [← hT2]; exact text_any x.dst u hid.2.2)
          have HT3 : Hid (∀ u : World, Calls Try.prog 37 #[.string x.ty] u fun e w' => e = .returned (.string (strOf T3)) ∧ Below u.heap.size u w') := Lib.hid (fun u => by rw [← hT3]; exact key_any x.ty u (by omega))
          obtain ⟨t0, a0, l0⟩ : ∃ t, (strOf T0).size = t ∧ t ≤ 20 := ⟨_, rfl, by rw [strOf_size]; exact hT0l⟩
          obtain ⟨t1, a1, l1⟩ : ∃ t, (strOf T1).size = t ∧ t ≤ 20 := ⟨_, rfl, by rw [strOf_size]; exact hT1l⟩
          obtain ⟨t2, a2, l2⟩ : ∃ t, (strOf T2).size = t ∧ t ≤ 20 := ⟨_, rfl, by rw [strOf_size]; exact hT2l⟩
          obtain ⟨t3, a3, l3⟩ : ∃ t, (strOf T3).size = t ∧ t ≤ 8388608 := ⟨_, rfl, by rw [strOf_size]; exact hT3l⟩
          obtain ⟨z1, s1, b1⟩ : ∃ z, (⟨#[35, 101]⟩ ++ strOf T0 : ByteArray).size = z ∧ z ≤ 30 := ⟨_, rfl, by rw [ByteArray.size_append, a0]; (try simp [ByteArray.size]); omega⟩
          have n1 : ¬ (9223372036854775807 < 2 + t0) := by omega
          obtain ⟨z2, s2, b2⟩ : ∃ z, (⟨#[35, 101]⟩ ++ strOf T0 ++ ⟨#[58]⟩ : ByteArray).size = z ∧ z ≤ 31 := ⟨_, rfl, by rw [ByteArray.size_append, s1]; (try simp [ByteArray.size]); omega⟩
          have n2 : ¬ (9223372036854775807 < z1 + 1) := by omega
          obtain ⟨z3, s3, b3⟩ : ∃ z, (⟨#[35, 101]⟩ ++ strOf T0 ++ ⟨#[58]⟩ ++ strOf T3 : ByteArray).size = z ∧ z ≤ 8388640 := ⟨_, rfl, by rw [ByteArray.size_append, s2, a3]; (try simp [ByteArray.size]); omega⟩
          have n3 : ¬ (9223372036854775807 < z2 + t3) := by omega
          obtain ⟨z4, s4, b4⟩ : ∃ z, (⟨#[35, 101]⟩ ++ strOf T0 ++ ⟨#[58]⟩ ++ strOf T3 ++ ⟨#[32, 35, 110]⟩ : ByteArray).size = z ∧ z ≤ 8388643 := ⟨_, rfl, by rw [ByteArray.size_append, s3]; (try simp [ByteArray.size]); omega⟩
          have n4 : ¬ (9223372036854775807 < z3 + 3) := by omega
          obtain ⟨z5, s5, b5⟩ : ∃ z, (⟨#[35, 101]⟩ ++ strOf T0 ++ ⟨#[58]⟩ ++ strOf T3 ++ ⟨#[32, 35, 110]⟩ ++ strOf T1 : ByteArray).size = z ∧ z ≤ 8388663 := ⟨_, rfl, by rw [ByteArray.size_append, s4, a1]; (try simp [ByteArray.size]); omega⟩
          have n5 : ¬ (9223372036854775807 < z4 + t1) := by omega
          obtain ⟨z6, s6, b6⟩ : ∃ z, (⟨#[35, 101]⟩ ++ strOf T0 ++ ⟨#[58]⟩ ++ strOf T3 ++ ⟨#[32, 35, 110]⟩ ++ strOf T1 ++ ⟨#[32, 35, 110]⟩ : ByteArray).size = z ∧ z ≤ 8388666 := ⟨_, rfl, by rw [ByteArray.size_append, s5]; (try simp [ByteArray.size]); omega⟩
          have n6 : ¬ (9223372036854775807 < z5 + 3) := by omega
          obtain ⟨z7, s7, b7⟩ : ∃ z, (⟨#[35, 101]⟩ ++ strOf T0 ++ ⟨#[58]⟩ ++ strOf T3 ++ ⟨#[32, 35, 110]⟩ ++ strOf T1 ++ ⟨#[32, 35, 110]⟩ ++ strOf T2 : ByteArray).size = z ∧ z ≤ 8388686 := ⟨_, rfl, by rw [ByteArray.size_append, s6, a2]; (try simp [ByteArray.size]); omega⟩
          have n7 : ¬ (9223372036854775807 < z6 + t2) := by omega
          have HD : Hid ((⟨#[35, 101]⟩ ++ strOf T0 ++ ⟨#[58]⟩ ++ strOf T3 ++ ⟨#[32, 35, 110]⟩ ++ strOf T1 ++ ⟨#[32, 35, 110]⟩ ++ strOf T2 : ByteArray).data.toList = edgeH x) := Lib.hid (by unfold edgeH; rw [hT0, hT1, hT2, hT3]; simp [strOf])
          have HS7 : Hid ((⟨#[35, 101]⟩ ++ strOf T0 ++ ⟨#[58]⟩ ++ strOf T3 ++ ⟨#[32, 35, 110]⟩ ++ strOf T1 ++ ⟨#[32, 35, 110]⟩ ++ strOf T2 : ByteArray).size ≤ 8388686) := Lib.hid (by rw [s7]; exact b7)
          clear b1 b2 b3 b4 b5 b6 b7 l0 l1 l2 l3
          have HXJ := Lib.hid hx
          have HPR := Lib.hid hpr
          have HB2 := Lib.hid hb2
          have HBK := Lib.hid hblk
          have HZ2 := Lib.hid hz2
          have HNB := Lib.hid hnb
          have HBRw := Lib.hid hbr
          have HW2 := Lib.hid hW2
          have HLEj := Lib.hid (HLE.out j)
          have HLE1 := Lib.hid (HLE.out (j + 1))
          have HTT := Lib.hid (show _ ∧ _ ∧ _ from ⟨hT0l, hT1l, hT2l⟩)
          have hty : x.ty.size ≤ 1048576 := hxs
          clear hcell hx hT0 hT1 hT2 hT3 hpr hb2 hblk hz2 hbr hW2 hid hbB
          go_wp2_with fail
          (try rw [hnb])
          rw [HW2.out]
          clear k0 k1 k2 k3 k4 k5
          have HSS : Hid (∀ u : World, Block u nb [.int .i64 x.id, .int .i64 x.src, .int .i64 x.dst, .string x.ty, .slice ka x.keys.length kc, .slice va x.vals.length vc] 40 → (fun u : World => u.cell? ⟨nb, 0, none⟩ = some (.int .i64 x.id) ∧ u.cell? ⟨nb, 1, none⟩ = some (.int .i64 x.src) ∧ u.cell? ⟨nb, 2, none⟩ = some (.int .i64 x.dst) ∧ u.cell? ⟨nb, 3, none⟩ = some (.string x.ty)) u) := Lib.hid (fun u h => ⟨h.cell rfl, h.cell rfl, h.cell rfl, h.cell rfl⟩)
          refine wp_region_noPanic ?_
          refine wp_region_J (S := fun u : World => u.cell? ⟨nb, 0, none⟩ = some (.int .i64 x.id) ∧ u.cell? ⟨nb, 1, none⟩ = some (.int .i64 x.src) ∧ u.cell? ⟨nb, 2, none⟩ = some (.int .i64 x.dst) ∧ u.cell? ⟨nb, 3, none⟩ = some (.string x.ty)) (fun _ => false) (by kernel_rfl) ?_
          obtain ⟨u0, hu0⟩ : ∃ u, W2.drew = u := ⟨_, rfl⟩
          have Hu0 : Hid (Below W2.heap.size W2 u0) := Lib.hid (by rw [← hu0]; exact (Below.refl _ _).drew)
          have HBu0 : Hid (Block u0 nb [.int .i64 x.id, .int .i64 x.src, .int .i64 x.dst, .string x.ty, .slice ka x.keys.length kc, .slice va x.vals.length vc] 40) := Lib.hid (by rw [← hu0]; exact HBK.out.drew)
          rw [hu0]
          have hHeld := HSS.out u0 HBu0.out
          clear hu0
          refine wpAnyJ_take0 (i := 0) (v := ?_) rfl (by kernel_rfl) (by kernel_rfl) (by kernel_rfl) (fun _ _ _ h => h) (Or.inl ⟨by rfl, ?_⟩) ?_
          rotate_left
          focus ((intro w hSw; clear hSw; go_simp); try with_reducible rfl)
          (try simp only [Act.put, List.getElem_toArray, List.getElem_cons_zero, List.getElem_cons_succ, List.setIfInBounds_toArray, List.set_cons_zero, List.set_cons_succ])
          refine wpAnyJ_take (i := 1) (v := ?_) rfl (by kernel_rfl) (by kernel_rfl) (by kernel_rfl) (by kernel_rfl) (fun _ _ _ h => h) (Or.inl ⟨by rfl, ?_⟩) (by assumption) ?_
          rotate_left
          focus ((intro w hSw; (try dsimp only at hSw); go_simp); try with_reducible rfl)
          (try simp only [Act.put, List.getElem_toArray, List.getElem_cons_zero, List.getElem_cons_succ, List.setIfInBounds_toArray, List.set_cons_zero, List.set_cons_succ])
          refine wpAnyJ_take0 (i := 5) (v := ?_) rfl (by kernel_rfl) (by kernel_rfl) (by kernel_rfl) (fun _ _ _ h => h) (Or.inl ⟨by rfl, ?_⟩) ?_
          rotate_left
          focus ((intro w hSw; clear hSw; go_simp); try with_reducible rfl)
          (try simp only [Act.put, List.getElem_toArray, List.getElem_cons_zero, List.getElem_cons_succ, List.setIfInBounds_toArray, List.set_cons_zero, List.set_cons_succ])
          refine wpAnyJ_take (i := 6) (v := ?_) rfl (by kernel_rfl) (by kernel_rfl) (by kernel_rfl) (by kernel_rfl) (fun _ _ _ h => h) (Or.inl ⟨by rfl, ?_⟩) (by assumption) ?_
          rotate_left
          focus ((intro w hSw; (try dsimp only at hSw); go_simp); try with_reducible rfl)
          (try simp only [Act.put, List.getElem_toArray, List.getElem_cons_zero, List.getElem_cons_succ, List.setIfInBounds_toArray, List.set_cons_zero, List.set_cons_succ])
          refine wpAnyJ_take0 (i := 10) (v := ?_) rfl (by kernel_rfl) (by kernel_rfl) (by kernel_rfl) (fun _ _ _ h => h) (Or.inl ⟨by rfl, ?_⟩) ?_
          rotate_left
          focus ((intro w hSw; clear hSw; go_simp); try with_reducible rfl)
          (try simp only [Act.put, List.getElem_toArray, List.getElem_cons_zero, List.getElem_cons_succ, List.setIfInBounds_toArray, List.set_cons_zero, List.set_cons_succ])
          refine wpAnyJ_take (i := 11) (v := ?_) rfl (by kernel_rfl) (by kernel_rfl) (by kernel_rfl) (by kernel_rfl) (fun _ _ _ h => h) (Or.inl ⟨by rfl, ?_⟩) (by assumption) ?_
          rotate_left
          focus ((intro w hSw; (try dsimp only at hSw); go_simp); try with_reducible rfl)
          (try simp only [Act.put, List.getElem_toArray, List.getElem_cons_zero, List.getElem_cons_succ, List.setIfInBounds_toArray, List.set_cons_zero, List.set_cons_succ])
          refine wpAnyJ_take0 (i := 15) (v := ?_) rfl (by kernel_rfl) (by kernel_rfl) (by kernel_rfl) (fun _ _ _ h => h) (Or.inl ⟨by rfl, ?_⟩) ?_
          rotate_left
          focus ((intro w hSw; clear hSw; go_simp); try with_reducible rfl)
          (try simp only [Act.put, List.getElem_toArray, List.getElem_cons_zero, List.getElem_cons_succ, List.setIfInBounds_toArray, List.set_cons_zero, List.set_cons_succ])
          refine wpAnyJ_take (i := 16) (v := ?_) rfl (by kernel_rfl) (by kernel_rfl) (by kernel_rfl) (by kernel_rfl) (fun _ _ _ h => h) (Or.inl ⟨by rfl, ?_⟩) (by assumption) ?_
          rotate_left
          focus ((intro w hSw; (try dsimp only at hSw); go_simp); try with_reducible rfl)
          (try simp only [Act.put, List.getElem_toArray, List.getElem_cons_zero, List.getElem_cons_succ, List.setIfInBounds_toArray, List.set_cons_zero, List.set_cons_succ])
          refine wpAnyJ_ready (rs := [2]) (by kernel_rfl) (by simp) ?_
          refine AllReadyJ.cons rfl (fun KK hKK => ?_) AllReadyJ.nil
          go_simp
          go_at_call 36
          refine (HT0.out _).mono ?_
          rintro e u1 ⟨rfl, hb9⟩
          have Hu1 := Lib.hid (Hu0.out.trans (hb9.mono Hu0.out.size))
          have HBu1 := Lib.hid (HBu0.out.below hb9 HBu0.out.lt)
          have hH2 := HSS.out u1 HBu1.out
          refine hKK.out _ _ (fun _ _ => hH2) ?_
          clear hKK KK hHeld hb9
          have hHeld := hH2
          clear hH2
          (try simp only [Act.put, List.getElem_toArray, List.getElem_cons_zero, List.getElem_cons_succ, List.setIfInBounds_toArray, List.set_cons_zero, List.set_cons_succ])
          refine wpAnyJ_take0 (i := 3) (v := ?_) rfl (by kernel_rfl) (by kernel_rfl) (by kernel_rfl) (fun _ _ _ h => h) (Or.inl ⟨by rfl, ?_⟩) ?_
          rotate_left
          focus ((intro w hSw; clear hSw; go_simp); try with_reducible rfl)
          (try simp only [Act.put, List.getElem_toArray, List.getElem_cons_zero, List.getElem_cons_succ, List.setIfInBounds_toArray, List.set_cons_zero, List.set_cons_succ])
          refine wpAnyJ_take0 (i := 4) (v := ?_) rfl (by kernel_rfl) (by kernel_rfl) (by kernel_rfl) (fun _ _ _ h => h) (Or.inl ⟨by rfl, ?_⟩) ?_
          rotate_left
          focus ((intro w hSw; clear hSw; go_simp); try with_reducible rfl)
          (try simp only [Act.put, List.getElem_toArray, List.getElem_cons_zero, List.getElem_cons_succ, List.setIfInBounds_toArray, List.set_cons_zero, List.set_cons_succ])
          refine wpAnyJ_ready (rs := [7]) (by kernel_rfl) (by simp) ?_
          refine AllReadyJ.cons rfl (fun KK hKK => ?_) AllReadyJ.nil
          go_simp
          go_at_call 37
          refine (HT3.out _).mono ?_
          rintro e u2 ⟨rfl, hb9⟩
          have Hu2 := Lib.hid (Hu1.out.trans (hb9.mono Hu1.out.size))
          have HBu2 := Lib.hid (HBu1.out.below hb9 HBu1.out.lt)
          have hH2 := HSS.out u2 HBu2.out
          refine hKK.out _ _ (fun _ _ => hH2) ?_
          clear hKK KK hHeld hb9
          have hHeld := hH2
          clear hH2
          (try simp only [Act.put, List.getElem_toArray, List.getElem_cons_zero, List.getElem_cons_succ, List.setIfInBounds_toArray, List.set_cons_zero, List.set_cons_succ])
          refine wpAnyJ_take0 (i := 8) (v := ?_) rfl (by kernel_rfl) (by kernel_rfl) (by kernel_rfl) (fun _ _ _ h => h) (Or.inl ⟨by rfl, ?_⟩) ?_
          rotate_left
          focus ((intro w hSw; clear hSw; go_simp); try with_reducible rfl)
          (try simp only [Act.put, List.getElem_toArray, List.getElem_cons_zero, List.getElem_cons_succ, List.setIfInBounds_toArray, List.set_cons_zero, List.set_cons_succ])
          refine wpAnyJ_take0 (i := 9) (v := ?_) rfl (by kernel_rfl) (by kernel_rfl) (by kernel_rfl) (fun _ _ _ h => h) (Or.inl ⟨by rfl, ?_⟩) ?_
          rotate_left
          focus ((intro w hSw; clear hSw; go_simp); try with_reducible rfl)
          (try simp only [Act.put, List.getElem_toArray, List.getElem_cons_zero, List.getElem_cons_succ, List.setIfInBounds_toArray, List.set_cons_zero, List.set_cons_succ])
          refine wpAnyJ_ready (rs := [12]) (by kernel_rfl) (by simp) ?_
          refine AllReadyJ.cons rfl (fun KK hKK => ?_) AllReadyJ.nil
          go_simp
          go_at_call 36
          refine (HT1.out _).mono ?_
          rintro e u3 ⟨rfl, hb9⟩
          have Hu3 := Lib.hid (Hu2.out.trans (hb9.mono Hu2.out.size))
          have HBu3 := Lib.hid (HBu2.out.below hb9 HBu2.out.lt)
          have hH2 := HSS.out u3 HBu3.out
          refine hKK.out _ _ (fun _ _ => hH2) ?_
          clear hKK KK hHeld hb9
          have hHeld := hH2
          clear hH2
          (try simp only [Act.put, List.getElem_toArray, List.getElem_cons_zero, List.getElem_cons_succ, List.setIfInBounds_toArray, List.set_cons_zero, List.set_cons_succ])
          refine wpAnyJ_take0 (i := 13) (v := ?_) rfl (by kernel_rfl) (by kernel_rfl) (by kernel_rfl) (fun _ _ _ h => h) (Or.inl ⟨by rfl, ?_⟩) ?_
          rotate_left
          focus ((intro w hSw; clear hSw; go_simp); try with_reducible rfl)
          (try simp only [Act.put, List.getElem_toArray, List.getElem_cons_zero, List.getElem_cons_succ, List.setIfInBounds_toArray, List.set_cons_zero, List.set_cons_succ])
          refine wpAnyJ_take0 (i := 14) (v := ?_) rfl (by kernel_rfl) (by kernel_rfl) (by kernel_rfl) (fun _ _ _ h => h) (Or.inl ⟨by rfl, ?_⟩) ?_
          rotate_left
          focus ((intro w hSw; clear hSw; go_simp); try with_reducible rfl)
          (try simp only [Act.put, List.getElem_toArray, List.getElem_cons_zero, List.getElem_cons_succ, List.setIfInBounds_toArray, List.set_cons_zero, List.set_cons_succ])
          refine wpAnyJ_ready (rs := [17]) (by kernel_rfl) (by simp) ?_
          refine AllReadyJ.cons rfl (fun KK hKK => ?_) AllReadyJ.nil
          go_simp
          go_at_call 36
          refine (HT2.out _).mono ?_
          rintro e u4 ⟨rfl, hb9⟩
          have Hu4 := Lib.hid (Hu3.out.trans (hb9.mono Hu3.out.size))
          have HBu4 := Lib.hid (HBu3.out.below hb9 HBu3.out.lt)
          have hH2 := HSS.out u4 HBu4.out
          refine hKK.out _ _ (fun _ _ => hH2) ?_
          clear hKK KK hHeld hb9
          have hHeld := hH2
          clear hH2
          (try simp only [Act.put, List.getElem_toArray, List.getElem_cons_zero, List.getElem_cons_succ, List.setIfInBounds_toArray, List.set_cons_zero, List.set_cons_succ])
          refine wpAnyJ_take0 (i := 18) (v := ?_) rfl (by kernel_rfl) (by kernel_rfl) (by kernel_rfl) (fun _ _ _ h => h) (Or.inl ⟨by rfl, ?_⟩) ?_
          rotate_left
          focus ((intro w hSw; clear hSw; go_simp); try with_reducible rfl)
          (try simp only [Act.put, List.getElem_toArray, List.getElem_cons_zero, List.getElem_cons_succ, List.setIfInBounds_toArray, List.set_cons_zero, List.set_cons_succ])
          refine wpAnyJ_ready (rs := [19]) (by kernel_rfl) (by simp) ?_
          refine AllReadyJ.cons rfl (fun KK hKK => ?_) AllReadyJ.nil
          go_simp
          go_at_call 33
          clear n1 n2 n3 n4 n5 n6 n7 s1 s2 s3 s4 s5 s6 s7 a0 a1 a2 a3
          obtain ⟨SS, hSS⟩ : ∃ SS : ByteArray, ⟨#[35, 101]⟩ ++ strOf T0 ++ ⟨#[58]⟩ ++ strOf T3 ++ ⟨#[32, 35, 110]⟩ ++ strOf T1 ++ ⟨#[32, 35, 110]⟩ ++ strOf T2 = SS := ⟨_, rfl⟩
          rw [hSS] at HD HS7 ⊢
          clear hSS
          have hbw4 : Bld b b (g.nodes.flatMap nodeL ++ (g.edges.take j).flatMap edgeL) u4 := HBD.out.below (HB2.out.trans (Hu4.out.mono HB2.out.size))
          have hln4 : (g.nodes.flatMap nodeL ++ (g.edges.take j).flatMap edgeL).length + SS.size ≤ 140737488355328 := Nat.le_trans (Nat.add_le_add HLEj.out HS7.out) (by decide)
          have hbz4 : b ≤ u4.heap.size := by have := Hu4.out.size; have := HZ2.out; have := HNB.out; omega
          refine (bld_string b b _ SS u4 hbw4 hln4 hbz4).mono ?_
          clear hbw4 hln4 hbz4
          rintro e u5 ⟨rfl, hw5⟩
          rw [HD.out] at hw5
          have HW5 := Lib.hid (hw5.behind (HB2.out.trans (Hu4.out.mono HB2.out.size)) (by omega))
          have HB5 := Lib.hid (hw5.blk HBu4.out (by have := HNB.out; omega) (by decide))
          have hH2 := HSS.out u5 HB5.out
          refine hKK.out _ _ (fun _ _ => hH2) ?_
          clear hKK KK hHeld hw5 hH2
          (try simp only [Act.put, List.getElem_toArray, List.getElem_cons_zero, List.getElem_cons_succ, List.setIfInBounds_toArray, List.set_cons_zero, List.set_cons_succ])
          refine wpAnyJ_done (by kernel_rfl) ?_ _
          refine NoPanic.normal ?_
          have g4 := HB5.out.cell (i := 4) rfl
          have g5 := HB5.out.cell (i := 5) rfl
          have HBRq : Hid (Below b W1 u5) := Lib.hid (HBR.out.trans HW5.out.2.1)
          have hbq : Below w.heap.size w u5 := HBW.out.trans (HBRq.out.mono (by have := HBB.out; omega))
          have HTP := Lib.hid (textProps_any x.keys x.vals b b B ((g.nodes.flatMap nodeL ++ (g.edges.take j).flatMap edgeL) ++ edgeH x) ka va kc vc u5 (HPR.out.below hbq hB) (by have := hbq.size; omega) HTX.out (by rw [wt_propsV]; have := HWX.out; unfold wtE at this; omega) HW5.out.1 (by have := HB5.out.lt; have := HNB.out; omega) (by have h1 := edgeH_len x; have := HLEj.out; rw [List.length_append]; omega))
          clear hbq
          go_wp2_with fail
          refine HTP.out.mono ?_
          rintro e w7 ⟨rfl, hw7⟩
          have HW7 := Lib.hid hw7
          clear hw7 g4 g5
          go_wp2_with fail
          go_roundw
          case rel => exact ⟨j + 1, by go_num, by omega, Lib.hid (by have h9 := HW7.out.1; rw [flat_take edgeL HXJ.out, show edgeL x = edgeH x ++ propsL x.keys x.vals from rfl]; simpa using h9), Lib.hid (HBRq.out.trans HW7.out.2.1)⟩
          case measure => simp [intOf]; omega
        · have hlt' : ¬ (j : Int) < g.edges.length := by omega
          have HBS : Hid (Bld b b (textG g) wr) := Lib.hid (by have := HBD.out; rw [List.take_of_length_le (by omega)] at this; exact this)
          have hzr : b ≤ wr.heap.size := by have := HBR.out.size; have := HZ1.out; omega
          have HST := Lib.hid (bld_str b b (textG g) wr HBS.out hzr)
          go_wp2_with fail
          refine HST.out.mono ?_
          rintro e w8 ⟨rfl, hw8⟩
          have HW8 := Lib.hid (HBR.out.trans hw8.2.1)
          clear hw8
          go_wp2_with fail
          exact HQ.out _ HW8.out
end Go.Proofs.Ytoakloicjlfaaaa

/- Layer 14: the law's small example. Conditions: none. -/
namespace Go.Proofs.Ytoakloicjlfaaaa
open Go.RowKit Go.Shelf
set_option linter.unusedSimpArgs false
set_option linter.unusedVariables false
set_option maxRecDepth 100000

def exN : Nt := ⟨3, [⟨#[65]⟩], [], []⟩
def exE : Et := ⟨1, 3, 3, ⟨#[84]⟩, [], []⟩
def exG1 : Gt := ⟨[exN], []⟩
def exG2 : Gt := ⟨[exN], [exE]⟩
theorem ex_put : putG noG exN = (0, exG1) := by kernel_rfl
theorem ex_join : joinG exG1 exE = (0, exG2) := by kernel_rfl
theorem ex_drop : dropG exG2 3 = (5, noG) := by kernel_rfl
theorem ex_around : aroundG exG2 3 2 ⟨#[84]⟩ = [exE] := by kernel_rfl
theorem ex_text : strOf (textG exG2) = ⟨#[35, 110, 51, 58, 65, 10, 35, 101, 49, 58, 84, 32, 35, 110, 51, 32, 35, 110, 51, 10]⟩ := by kernel_rfl
theorem RiseI.nil : RiseI [] := fun i j x y _ hx _ => by simp at hx
theorem RiseI.one (a : Int) : RiseI [a] := fun i j x y h _ hy => by
  have := (List.getElem?_eq_some_iff.1 hy).1
  simp at this
  omega
theorem ex_smN : SmN exN := ⟨by decide, by decide, by decide, fun j t h => by simp [exN] at h⟩
theorem ex_smE : SmE exE := ⟨by decide, by decide, fun j t h => by simp [exE] at h⟩
theorem one_get {α : Type} {a x : α} {j : Nat} (h : [a][j]? = some x) : x = a := by
  cases j with
  | zero => simp at h; exact h.symm
  | succ j => simp at h
theorem ex_sm1 : SmG exG1 := ⟨⟨by decide, by decide⟩, fun j n h => by rw [one_get h]; exact ex_smN, fun j e h => by simp [exG1] at h⟩
theorem ex_sm2 : SmG exG2 := ⟨⟨by decide, by decide⟩, fun j n h => by rw [one_get h]; exact ex_smN, fun j e h => by rw [one_get h]; exact ex_smE⟩
theorem ex_sm0 : SmG noG := ⟨⟨by decide, by decide⟩, fun j n h => by simp [noG] at h, fun j e h => by simp [noG] at h⟩
theorem ex_tx : TxG exG2 := ⟨by decide, fun j n h => by rw [one_get h]; intro h; exact absurd rfl h, fun j n h => by rw [one_get h]; intro h; exact absurd rfl h⟩
theorem IsGO.form {w : World} {cs : List Value} {g : Gt} {bs : List Nat} (h : IsGO w cs g bs) : ∃ na nc ea ec, cs = [.slice na g.nodes.length nc, .slice ea g.edges.length ec] := by
  obtain ⟨na, nc, ea, ec, b1, b2, h1, _⟩ := h
  exact ⟨na, nc, ea, ec, h1⟩
set_option maxHeartbeats 8000000 in
theorem gworks_any (w : World) : Calls Try.prog 8 #[] w fun e w' => e = .returned (.bool true) ∧ Below w.heap.size w w' := by
  obtain ⟨W0, hW0⟩ : ∃ W0, w.alloc (.cells #[.string ⟨#[65]⟩] 9) = W0 := ⟨_, rfl⟩
  have hb0 : Below w.heap.size w W0 := by rw [← hW0]; exact (Below.refl _ _).alloc (Nat.le_refl _) _
  have hblk : Block W0 w.heap.size [.string ⟨#[65]⟩] 9 := by rw [← hW0]; exact Block.new _ _ _
  have hz0 : w.heap.size < W0.heap.size := by rw [← hW0]; simp
  have hn : IsN W0.heap.size W0 [.int .i64 3, .slice (some ⟨w.heap.size, 0, none⟩) 1 1, .slice none 0 0, .slice none 0 0] exN :=
    ⟨some ⟨w.heap.size, 0, none⟩, 1, none, 0, none, 0, rfl, by show in64 3; unfold in64; omega, ⟨⟨Nat.le_refl _, by omega⟩, fun e => by cases e⟩, .inr ⟨w.heap.size, 0, rfl, hz0, fun i v hv => by
      have hi : i = 0 := by have := (List.getElem?_eq_some_iff.1 hv).1; simp [exN] at this; omega
      subst hi
      have hv2 : v = .string ⟨#[65]⟩ := one_get (α := Value) hv
      rw [hv2]
      exact hblk.cell rfl⟩, ⟨⟨Nat.le_refl _, by omega⟩, fun _ => rfl⟩, ⟨⟨Nat.le_refl _, by omega⟩, fun _ => rfl⟩, .inl rfl, by unfold exN IsVs; trivial⟩
  have hg0 : IsG W0.heap.size W0 [.slice none 0 0, .slice none 0 0] noG := ⟨none, 0, none, 0, rfl, ⟨⟨Nat.le_refl _, by omega⟩, fun _ => rfl⟩, ⟨⟨Nat.le_refl _, by omega⟩, fun _ => rfl⟩, fun i o h => by simp [noG] at h, fun i o h => by simp [noG] at h⟩
  have HP := Lib.hid (put_any noG exN _ _ W0.heap.size W0 hg0 hn (Nat.le_refl _) RiseI.nil ex_sm0 ex_smN)
  rw [ex_put] at HP
  have HB0 := Lib.hid hb0
  have HW0 := Lib.hid hW0
  have hbn : Program.built Try.prog 38 [(0, Value.int .i64 3), (1, Value.slice (some ⟨w.heap.size, 0, none⟩) 1 1)] = some #[.int .i64 3, .slice (some ⟨w.heap.size, 0, none⟩) 1 1, .slice none 0 0, .slice none 0 0] := by kernel_rfl
  clear hW0 hb0 hblk hz0 hn hg0
  obtain ⟨Q, hQ⟩ : ∃ Q : Ending → World → Prop, (fun e w' => e = .returned (.bool true) ∧ Below w.heap.size w w') = Q := ⟨_, rfl⟩
  have HQ : Hid (∀ u, Below w.heap.size w u → Q (.returned (.bool true)) u) := Lib.hid (fun u h => by rw [← hQ]; exact ⟨rfl, h⟩)
  rw [hQ]
  clear hQ
  go_enter Try.func8, Try.ntmps8
  go_wp2_with fail
  rw [HW0.out]
  clear hbn
  refine HP.out.mono ?_
  rintro e w1 ⟨cs1, bs1, rfl, hb1, hG1, -, hr1⟩
  obtain ⟨na, nc, ea, ec, rfl⟩ := hG1.form
  obtain ⟨W1, hW1⟩ : ∃ W1, w1.alloc (.cells #[.slice na exG1.nodes.length nc, .slice ea exG1.edges.length ec] 25) = W1 := ⟨_, rfl⟩
  have hb1a : Below w1.heap.size w1 W1 := by rw [← hW1]; exact (Below.refl _ _).alloc (Nat.le_refl _) _
  have hblk1 : Block W1 w1.heap.size [.slice na exG1.nodes.length nc, .slice ea exG1.edges.length ec] 25 := by rw [← hW1]; exact Block.new _ _ _
  have hg1 : IsG w1.heap.size W1 [.slice na exG1.nodes.length nc, .slice ea exG1.edges.length ec] exG1 := (hG1.isG (fun b hb => (hr1 b hb).2)).below hb1a (Nat.le_refl _)
  have HB1 := Lib.hid (HB0.out.trans ((hb1.trans (hb1a.mono hb1.size)).mono HB0.out.size))
  have he1 : ∀ u : World, IsE w1.heap.size u [.int .i64 1, .int .i64 3, .int .i64 3, .string ⟨#[84]⟩, .slice none 0 0, .slice none 0 0] exE := fun u =>
    ⟨none, 0, none, 0, rfl, ⟨by show in64 1; unfold in64; omega, by show in64 3; unfold in64; omega, by show in64 3; unfold in64; omega⟩, ⟨⟨Nat.le_refl _, by omega⟩, fun _ => rfl⟩, ⟨⟨Nat.le_refl _, by omega⟩, fun _ => rfl⟩, .inl rfl, by unfold exE IsVs; trivial⟩
  have HJ := Lib.hid (join_any exG1 exE _ _ w1.heap.size W1 hg1 (he1 W1) hb1a.size (RiseI.one 3) RiseI.nil ex_sm1 ex_smE)
  rw [ex_join] at HJ
  have hbe : Program.built Try.prog 40 [(0, Value.int .i64 1), (1, Value.int .i64 3), (2, Value.int .i64 3), (3, Value.string ⟨#[84]⟩)] = some #[.int .i64 1, .int .i64 3, .int .i64 3, .string ⟨#[84]⟩, .slice none 0 0, .slice none 0 0] := by kernel_rfl
  have c0 := hblk1.cell (i := 0) rfl
  have c1 := hblk1.cell (i := 1) rfl
  rw [← hW1] at c0 c1
  have HW1 := Lib.hid hW1
  clear hW1 hb1a hblk1 hg1 hb1 hr1 hG1 he1
  go_wp2_with fail
  rw [HW1.out]
  clear hbe c0 c1
  refine HJ.out.mono ?_
  rintro e w2 ⟨cs2, bs2, rfl, hb2, hG2, -, hr2⟩
  obtain ⟨na2, nc2, ea2, ec2, rfl⟩ := hG2.form
  obtain ⟨W2, hW2⟩ : ∃ W2, w2.alloc (.cells #[.slice na2 exG2.nodes.length nc2, .slice ea2 exG2.edges.length ec2] 25) = W2 := ⟨_, rfl⟩
  have hb2a : Below w2.heap.size w2 W2 := by rw [← hW2]; exact (Below.refl _ _).alloc (Nat.le_refl _) _
  have hz2 : w2.heap.size < W2.heap.size := by rw [← hW2]; simp
  have hblk2 : Block W2 w2.heap.size [.slice na2 exG2.nodes.length nc2, .slice ea2 exG2.edges.length ec2] 25 := by rw [← hW2]; exact Block.new _ _ _
  have hg2 : IsG w2.heap.size W2 [.slice na2 exG2.nodes.length nc2, .slice ea2 exG2.edges.length ec2] exG2 := (hG2.isG (fun b hb => (hr2 b hb).2)).below hb2a (Nat.le_refl _)
  have HB2 := Lib.hid (HB1.out.trans ((hb2.trans (hb2a.mono hb2.size)).mono HB1.out.size))
  have HD := Lib.hid (drop_any exG2 3 _ w2.heap.size W2 hg2 hb2a.size (RiseI.one 3) ex_sm2)
  rw [ex_drop] at HD
  have c0 := hblk2.cell (i := 0) rfl
  have c1 := hblk2.cell (i := 1) rfl
  rw [← hW2] at c0 c1
  have HW2 := Lib.hid hW2
  have HZ2 := Lib.hid hz2
  have HK2 := Lib.hid hblk2
  have HG2 := Lib.hid hg2
  have HB2A := Lib.hid hb2a
  clear hW2 hb2a hblk2 hg2 hb2 hr2 hG2 hz2
  go_wp2_with fail
  rw [HW2.out]
  clear c0 c1
  refine HD.out.mono ?_
  rintro e w3 ⟨cs3, bs3, rfl, hb3, hG3, -, -⟩
  obtain ⟨na3, nc3, ea3, ec3, rfl⟩ := hG3.form
  obtain ⟨W3, hW3⟩ : ∃ W3, w3.alloc (.cells #[.slice na3 noG.nodes.length nc3, .slice ea3 noG.edges.length ec3] 25) = W3 := ⟨_, rfl⟩
  have hb3a : Below W2.heap.size W2 W3 := hb3.trans (by rw [← hW3]; exact (Below.refl _ _).alloc hb3.size _)
  have hblk3 := HK2.out.below hb3a HK2.out.lt
  have HB3 := Lib.hid (HB2.out.trans (hb3a.mono HB2.out.size))
  have hg3 := HG2.out.below (hb3a.mono (Nat.le_of_lt HZ2.out)) (Nat.le_refl _)
  have HAR := Lib.hid (around_any exG2 3 2 ⟨#[84]⟩ _ w2.heap.size W3 hg3 (Nat.le_trans (Nat.le_of_lt HZ2.out) hb3a.size) ex_sm2)
  rw [ex_around] at HAR
  have c0 := hblk3.cell (i := 0) rfl
  have c1 := hblk3.cell (i := 1) rfl
  rw [← hW3] at c0 c1
  have HK3 := Lib.hid hblk3
  have HG3 := Lib.hid hg3
  have HZ3 := Lib.hid (Nat.le_trans (Nat.le_of_lt HZ2.out) hb3a.size)
  have HW3 := Lib.hid hW3
  clear hW3 hb3a hblk3 hg3 hb3 hG3
  go_wp2_with fail
  rw [HW3.out]
  clear c0 c1
  refine HAR.out.mono ?_
  rintro e w4 ⟨a4, c4, bs4, rfl, hb4, -, -, -, -⟩
  have hblk4 := HK3.out.below hb4 HK3.out.lt
  have HB4 := Lib.hid (HB3.out.trans (hb4.mono HB3.out.size))
  have HTX := Lib.hid (text_any' exG2 _ w2.heap.size w4 (HG3.out.below (hb4.mono HZ3.out) (Nat.le_refl _)) (Nat.le_trans HZ3.out hb4.size) ex_tx)
  rw [ex_text] at HTX
  have c0 := hblk4.cell (i := 0) rfl
  have c1 := hblk4.cell (i := 1) rfl
  clear hblk4 hb4
  go_wp2_with fail
  refine HTX.out.mono ?_
  rintro e w5 ⟨rfl, hb5⟩
  have HB5 := Lib.hid (HB4.out.trans (hb5.mono HB4.out.size))
  clear hb5 c0 c1
  go_wp2_with fail
  exact HQ.out _ HB5.out
end Go.Proofs.Ytoakloicjlfaaaa

/- Layer 5: signs of Unicode in plain lists of bytes, and what the model's decoding says of them. Conditions: none. -/
import Derived.Test.YtangldmjgidgcaaBase
import Derived.Lib.RuneBytes
import Derived.Laws.RangeAny
namespace Go.Proofs.Ytangldmjgidgcaa
open Go.RowKit

/-- Byte number k of a list, as a number; 0 behind its end. -/
def nb (l : List UInt8) (k : Nat) : Nat := ((l[k]?).map UInt8.toNat).getD 0
theorem nb_lt (l : List UInt8) (k : Nat) : nb l k < 256 := by
  unfold nb
  cases l[k]? with
  | none => simp
  | some c => simpa using c.toNat_lt
/-- A byte that goes on with a sign. -/
def tl (l : List UInt8) (k : Nat) : Bool := decide (k < l.length) && decide (128 ≤ nb l k) && decide (nb l k < 192)
/-- How many bytes the sign at a list's head has; 0: there is none. -/
def sg (l : List UInt8) : Nat :=
  if l.length = 0 then 0 else if nb l 0 < 128 then 1 else if nb l 0 < 194 ∨ 244 < nb l 0 ∨ tl l 1 = false then 0 else if nb l 0 < 224 then 2
  else if tl l 2 = false ∨ (nb l 0 = 224 ∧ nb l 1 < 160) ∨ (nb l 0 = 237 ∧ 160 ≤ nb l 1) then 0 else if nb l 0 < 240 then 3
  else if tl l 3 = false ∨ (nb l 0 = 240 ∧ nb l 1 < 144) ∨ (nb l 0 = 244 ∧ 144 ≤ nb l 1) then 0 else 4
/-- The rune of the sign at the head. -/
def rv (l : List UInt8) : Nat :=
  if sg l = 1 then nb l 0 else if sg l = 2 then (nb l 0 - 192) * 64 + (nb l 1 - 128) else if sg l = 3 then (nb l 0 - 224) * 4096 + (nb l 1 - 128) * 64 + (nb l 2 - 128)
  else if sg l = 4 then (nb l 0 - 240) * 262144 + (nb l 1 - 128) * 4096 + (nb l 2 - 128) * 64 + (nb l 3 - 128) else 65533

/-- The model's decoding, with its bytes as numbers. -/
def decN (n b0 b1 b2 b3 : Nat) : Nat × Nat :=
  if b0 < 128 then (b0, 1)
  else if b0 / 32 = 6 ∧ 1 < n ∧ b1 / 64 = 2 then (if 128 ≤ b0 % 32 * 64 + b1 % 64 then (b0 % 32 * 64 + b1 % 64, 2) else (65533, 1))
  else if b0 / 16 = 14 ∧ (1 < n ∧ b1 / 64 = 2) ∧ 2 < n ∧ b2 / 64 = 2 then
    (if 2048 ≤ b0 % 16 * 4096 + b1 % 64 * 64 + b2 % 64 ∧ (b0 % 16 * 4096 + b1 % 64 * 64 + b2 % 64 < 55296 ∨ (57344 ≤ b0 % 16 * 4096 + b1 % 64 * 64 + b2 % 64 ∧ b0 % 16 * 4096 + b1 % 64 * 64 + b2 % 64 ≤ 1114111)) then (b0 % 16 * 4096 + b1 % 64 * 64 + b2 % 64, 3) else (65533, 1))
  else if b0 / 8 = 30 ∧ (1 < n ∧ b1 / 64 = 2) ∧ (2 < n ∧ b2 / 64 = 2) ∧ 3 < n ∧ b3 / 64 = 2 then
    (if 65536 ≤ b0 % 8 * 262144 + b1 % 64 * 4096 + b2 % 64 * 64 + b3 % 64 ∧ (b0 % 8 * 262144 + b1 % 64 * 4096 + b2 % 64 * 64 + b3 % 64 < 55296 ∨ (57344 ≤ b0 % 8 * 262144 + b1 % 64 * 4096 + b2 % 64 * 64 + b3 % 64 ∧ b0 % 8 * 262144 + b1 % 64 * 4096 + b2 % 64 * 64 + b3 % 64 ≤ 1114111))
      then (b0 % 8 * 262144 + b1 % 64 * 4096 + b2 % 64 * 64 + b3 % 64, 4) else (65533, 1))
  else (65533, 1)

theorem get_nb (s : ByteArray) (pos k : Nat) (h : pos + k < s.size) : (s.get! (pos + k)).toNat = nb (s.data.toList.drop pos) k := by
  have h1 := get_at s (pos + k) h
  rw [Nat.add_zero] at h1
  rw [h1]
  unfold nb
  rw [List.getElem?_drop, List.getElem?_eq_getElem (by simpa using h)]
  rfl
theorem decode_eq (s : ByteArray) (pos : Nat) (h : pos < s.size) : Utf8.decode s pos = decN (s.size - pos) (nb (s.data.toList.drop pos) 0) (nb (s.data.toList.drop pos) 1) (nb (s.data.toList.drop pos) 2) (nb (s.data.toList.drop pos) 3) := by
  have g0 := get_nb s pos 0 (by omega)
  have c1 : ∀ k, (decide (pos + k < s.size) && ((s.get! (pos + k)).toNat / 64 == 2)) = true ↔ (k < s.size - pos ∧ nb (s.data.toList.drop pos) k / 64 = 2) := fun k => by
    by_cases hk : pos + k < s.size
    · rw [get_nb s pos k hk]; simp [hk]; omega
    · simp [hk]; omega
  simp only [Utf8.decode, Utf8.runeError, g0, Bool.and_eq_true, c1]
  have hv : ∀ c : Nat, (Utf8.valid (c : Int) = true) = (c < 55296 ∨ (57344 ≤ c ∧ c ≤ 1114111)) := fun c => by
    apply propext
    simp [Utf8.valid]
    omega
  simp only [beq_iff_eq, decide_eq_true_eq, hv, ge_iff_le]
  unfold decN
  by_cases a0 : nb (s.data.toList.drop pos) 0 < 128
  · rw [if_pos a0, if_pos a0]
  rw [if_neg a0, if_neg a0]
  by_cases a1 : nb (s.data.toList.drop pos) 0 / 32 = 6 ∧ 1 < s.size - pos ∧ nb (s.data.toList.drop pos) 1 / 64 = 2
  · rw [if_pos a1, if_pos a1, get_nb s pos 1 (by omega)]
  rw [if_neg a1, if_neg a1]
  by_cases a2 : nb (s.data.toList.drop pos) 0 / 16 = 14 ∧ (1 < s.size - pos ∧ nb (s.data.toList.drop pos) 1 / 64 = 2) ∧ 2 < s.size - pos ∧ nb (s.data.toList.drop pos) 2 / 64 = 2
  · rw [if_pos (by omega), if_pos a2, get_nb s pos 1 (by omega), get_nb s pos 2 (by omega)]
  rw [if_neg (by omega), if_neg a2]
  by_cases a3 : nb (s.data.toList.drop pos) 0 / 8 = 30 ∧ (1 < s.size - pos ∧ nb (s.data.toList.drop pos) 1 / 64 = 2) ∧ (2 < s.size - pos ∧ nb (s.data.toList.drop pos) 2 / 64 = 2) ∧ 3 < s.size - pos ∧ nb (s.data.toList.drop pos) 3 / 64 = 2
  · rw [if_pos (by omega), if_pos a3, get_nb s pos 1 (by omega), get_nb s pos 2 (by omega), get_nb s pos 3 (by omega)]
  rw [if_neg (by omega), if_neg a3]

theorem tl_true {l : List UInt8} {k : Nat} : tl l k = true ↔ k < l.length ∧ 128 ≤ nb l k ∧ nb l k < 192 := by simp [tl, and_assoc]
theorem tl_false {l : List UInt8} {k : Nat} : tl l k = false ↔ ¬ (k < l.length ∧ 128 ≤ nb l k ∧ nb l k < 192) := by
  rw [← tl_true]; simp

set_option maxHeartbeats 2000000 in
/-- What the decoding says, in these words. -/
theorem decN_spec {l : List UInt8} (h : l.length ≠ 0) : decN l.length (nb l 0) (nb l 1) (nb l 2) (nb l 3) = (rv l, if sg l = 0 then 1 else sg l) := by
  have h0 := nb_lt l 0
  have h1 := nb_lt l 1
  have h2 := nb_lt l 2
  have h3 := nb_lt l 3
  have hs : (sg l = 0 ∧ ¬ nb l 0 < 128 ∧ (nb l 0 < 194 ∨ 244 < nb l 0 ∨ ¬ (1 < l.length ∧ 128 ≤ nb l 1 ∧ nb l 1 < 192) ∨ (224 ≤ nb l 0 ∧ (¬ (2 < l.length ∧ 128 ≤ nb l 2 ∧ nb l 2 < 192) ∨ (nb l 0 = 224 ∧ nb l 1 < 160) ∨ (nb l 0 = 237 ∧ 160 ≤ nb l 1))) ∨ (240 ≤ nb l 0 ∧ (¬ (3 < l.length ∧ 128 ≤ nb l 3 ∧ nb l 3 < 192) ∨ (nb l 0 = 240 ∧ nb l 1 < 144) ∨ (nb l 0 = 244 ∧ 144 ≤ nb l 1))))) ∨
      (sg l = 1 ∧ nb l 0 < 128) ∨ (sg l = 2 ∧ 194 ≤ nb l 0 ∧ nb l 0 < 224 ∧ (1 < l.length ∧ 128 ≤ nb l 1 ∧ nb l 1 < 192)) ∨
      (sg l = 3 ∧ 224 ≤ nb l 0 ∧ nb l 0 < 240 ∧ (1 < l.length ∧ 128 ≤ nb l 1 ∧ nb l 1 < 192) ∧ (2 < l.length ∧ 128 ≤ nb l 2 ∧ nb l 2 < 192) ∧ ¬ (nb l 0 = 224 ∧ nb l 1 < 160) ∧ ¬ (nb l 0 = 237 ∧ 160 ≤ nb l 1)) ∨
      (sg l = 4 ∧ 240 ≤ nb l 0 ∧ nb l 0 ≤ 244 ∧ (1 < l.length ∧ 128 ≤ nb l 1 ∧ nb l 1 < 192) ∧ (2 < l.length ∧ 128 ≤ nb l 2 ∧ nb l 2 < 192) ∧ (3 < l.length ∧ 128 ≤ nb l 3 ∧ nb l 3 < 192) ∧ ¬ (nb l 0 = 240 ∧ nb l 1 < 144) ∧ ¬ (nb l 0 = 244 ∧ 144 ≤ nb l 1)) := by
    unfold sg
    simp only [tl_false]
    rw [if_neg h]
    generalize nb l 0 = b0 at *
    generalize nb l 1 = b1 at *
    generalize nb l 2 = b2 at *
    generalize nb l 3 = b3 at *
    generalize l.length = n at *
    clear h
    by_cases g0 : b0 < 128
    · rw [if_pos g0]; exact .inr (.inl ⟨rfl, g0⟩)
    rw [if_neg g0]
    by_cases g1 : b0 < 194 ∨ 244 < b0 ∨ ¬ (1 < n ∧ 128 ≤ b1 ∧ b1 < 192)
    · rw [if_pos g1]
      refine .inl ⟨rfl, g0, ?_⟩
      rcases g1 with g1 | g1 | g1
      · exact .inl g1
      · exact .inr (.inl g1)
      · exact .inr (.inr (.inl g1))
    rw [if_neg g1]
    have k1 : 194 ≤ b0 ∧ b0 ≤ 244 ∧ (1 < n ∧ 128 ≤ b1 ∧ b1 < 192) := ⟨by omega, by omega, Classical.byContradiction fun h => g1 (.inr (.inr h))⟩
    clear g1
    by_cases g2 : b0 < 224
    · rw [if_pos g2]; exact .inr (.inr (.inl ⟨rfl, k1.1, g2, k1.2.2⟩))
    rw [if_neg g2]
    by_cases g3 : ¬ (2 < n ∧ 128 ≤ b2 ∧ b2 < 192) ∨ (b0 = 224 ∧ b1 < 160) ∨ (b0 = 237 ∧ 160 ≤ b1)
    · rw [if_pos g3]; exact .inl ⟨rfl, g0, .inr (.inr (.inr (.inl ⟨by omega, g3⟩)))⟩
    rw [if_neg g3]
    have k3 : (2 < n ∧ 128 ≤ b2 ∧ b2 < 192) := Classical.byContradiction fun h => g3 (.inl h)
    have k4 : ¬ (b0 = 224 ∧ b1 < 160) := fun h => g3 (.inr (.inl h))
    have k5 : ¬ (b0 = 237 ∧ 160 ≤ b1) := fun h => g3 (.inr (.inr h))
    clear g3
    by_cases g4 : b0 < 240
    · rw [if_pos g4]; exact .inr (.inr (.inr (.inl ⟨rfl, by omega, g4, k1.2.2, k3, k4, k5⟩)))
    rw [if_neg g4]
    by_cases g5 : ¬ (3 < n ∧ 128 ≤ b3 ∧ b3 < 192) ∨ (b0 = 240 ∧ b1 < 144) ∨ (b0 = 244 ∧ 144 ≤ b1)
    · rw [if_pos g5]; exact .inl ⟨rfl, g0, .inr (.inr (.inr (.inr ⟨by omega, g5⟩)))⟩
    rw [if_neg g5]
    exact .inr (.inr (.inr (.inr ⟨rfl, by omega, k1.2.1, k1.2.2, k3, Classical.byContradiction fun h => g5 (.inl h), fun h => g5 (.inr (.inl h)), fun h => g5 (.inr (.inr h))⟩)))
  unfold rv
  generalize sg l = sgl at *
  generalize nb l 0 = b0 at *
  generalize nb l 1 = b1 at *
  generalize nb l 2 = b2 at *
  generalize nb l 3 = b3 at *
  generalize l.length = n at *
  clear h
  rcases hs with ⟨e, hs⟩ | ⟨e, hs⟩ | ⟨e, hs⟩ | ⟨e, hs⟩ | ⟨e, hs⟩
  · unfold decN
    subst e
    simp only [if_true]
    rw [if_neg (by omega)]
    split
    · rw [if_neg (by omega)]; rfl
    split
    · rw [if_neg (by omega)]; rfl
    split
    · rw [if_neg (by omega)]; rfl
    · rfl
  · unfold decN
    subst e
    rw [if_pos hs]
    simp
  · unfold decN
    subst e
    rw [if_neg (by omega), if_pos (by omega), if_pos (by omega)]
    simp; omega
  · unfold decN
    subst e
    rw [ if_neg (by omega), if_neg (by omega), if_pos (by omega), if_pos (by omega)]
    simp; omega
  · unfold decN
    subst e
    rw [ if_neg (by omega), if_neg (by omega), if_neg (by omega), if_pos (by omega), if_pos (by omega)]
    simp; omega
theorem decode_spec (s : ByteArray) (pos : Nat) (h : pos < s.size) : Utf8.decode s pos = (rv (s.data.toList.drop pos), if sg (s.data.toList.drop pos) = 0 then 1 else sg (s.data.toList.drop pos)) := by
  have hl : (s.data.toList.drop pos).length = s.size - pos := by simp
  rw [decode_eq s pos h, ← hl]
  exact decN_spec (by rw [hl]; omega)
end Go.Proofs.Ytangldmjgidgcaa

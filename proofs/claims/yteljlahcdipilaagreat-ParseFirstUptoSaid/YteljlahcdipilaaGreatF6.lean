/- Parts S1, S2, S3, S4, S5, S6, S7, S8, S9, S10, S11 of this seat (pruned, scripts that are alike kept once as default arguments: q1, q2, ..). Conditions: each says its own. -/
import Derived.Test.YteljlahcdipilaaGreatF1
namespace Go.Proofs.YteljlahcdipilaaGreat
open Go.RowKit
def nb (l : List UInt8) (k : Nat) : Nat := ((l[k]?).map UInt8.toNat).getD 0
theorem nb_lt (l : List UInt8) (k : Nat) : nb l k < 256 := by
 unfold nb
 cases l[k]? with
 | none => simp
 | some c => simpa using c.toNat_lt
def tl (l : List UInt8) (k : Nat) : Bool := decide (k < l.length) && decide (128 ≤ nb l k) && decide (nb l k < 192)
def sg (l : List UInt8) : Nat :=
  if l.length = 0 then 0 else if nb l 0 < 128 then 1 else if nb l 0 < 194 ∨ 244 < nb l 0 ∨ tl l 1 = false then 0 else if nb l 0 < 224 then 2
  else if tl l 2 = false ∨ (nb l 0 = 224 ∧ nb l 1 < 160) ∨ (nb l 0 = 237 ∧ 160 ≤ nb l 1) then 0 else if nb l 0 < 240 then 3
  else if tl l 3 = false ∨ (nb l 0 = 240 ∧ nb l 1 < 144) ∨ (nb l 0 = 244 ∧ 144 ≤ nb l 1) then 0 else 4
def rv (l : List UInt8) : Nat :=
  if sg l = 1 then nb l 0 else if sg l = 2 then (nb l 0 - 192) * 64 + (nb l 1 - 128) else if sg l = 3 then (nb l 0 - 224) * 4096 + (nb l 1 - 128) * 64 + (nb l 2 - 128)
  else if sg l = 4 then (nb l 0 - 240) * 262144 + (nb l 1 - 128) * 4096 + (nb l 2 - 128) * 64 + (nb l 3 - 128) else 65533
def decU (n b0 b1 b2 b3 : Nat) : Nat × Nat :=
  if b0 < 128 then (b0, 1)
  else if b0 / 32 = 6 ∧ 1 < n ∧ b1 / 64 = 2 then (if 128 ≤ b0 % 32 * 64 + b1 % 64 then (b0 % 32 * 64 + b1 % 64, 2) else (65533, 1))
  else if b0 / 16 = 14 ∧ (1 < n ∧ b1 / 64 = 2) ∧ 2 < n ∧ b2 / 64 = 2 then
    (if 2048 ≤ b0 % 16 * 4096 + b1 % 64 * 64 + b2 % 64 ∧ (b0 % 16 * 4096 + b1 % 64 * 64 + b2 % 64 < 55296 ∨ (57344 ≤ b0 % 16 * 4096 + b1 % 64 * 64 + b2 % 64 ∧ b0 % 16 * 4096 + b1 % 64 * 64 + b2 % 64 ≤ 1114111)) then (b0 % 16 * 4096 + b1 % 64 * 64 + b2 % 64, 3) else (65533, 1))
  else if b0 / 8 = 30 ∧ (1 < n ∧ b1 / 64 = 2) ∧ (2 < n ∧ b2 / 64 = 2) ∧ 3 < n ∧ b3 / 64 = 2 then
    (if 65536 ≤ b0 % 8 * 262144 + b1 % 64 * 4096 + b2 % 64 * 64 + b3 % 64 ∧ (b0 % 8 * 262144 + b1 % 64 * 4096 + b2 % 64 * 64 + b3 % 64 < 55296 ∨ (57344 ≤ b0 % 8 * 262144 + b1 % 64 * 4096 + b2 % 64 * 64 + b3 % 64 ∧ b0 % 8 * 262144 + b1 % 64 * 4096 + b2 % 64 * 64 + b3 % 64 ≤ 1114111))
      then (b0 % 8 * 262144 + b1 % 64 * 4096 + b2 % 64 * 64 + b3 % 64, 4) else (65533, 1))
  else (65533, 1)
theorem get_nb (s : ByteArray) (pos k : Nat) (h : pos + k < s.size) : (s.get! (pos + k)).toNat = nb (s.data.toList.drop pos) k := by
 have h1 := get_at s (pos + k) h
 rw [Nat.add_zero] at h1
 rw [h1]
 unfold nb
 rw [List.getElem?_drop, List.getElem?_eq_getElem (by simpa using h)]
 rfl
theorem decode_eq (s : ByteArray) (pos : Nat) (h : pos < s.size) : Utf8.decode s pos = decU (s.size - pos) (nb (s.data.toList.drop pos) 0) (nb (s.data.toList.drop pos) 1) (nb (s.data.toList.drop pos) 2) (nb (s.data.toList.drop pos) 3) := by
 have g0 := get_nb s pos 0 (by omega)
 have c1 : ∀ k, (decide (pos + k < s.size) && ((s.get! (pos + k)).toNat / 64 == 2)) = true ↔ (k < s.size - pos ∧ nb (s.data.toList.drop pos) k / 64 = 2) := fun k => by
  by_cases hk : pos + k < s.size
  ·rw [get_nb s pos k hk]; simp [hk]; omega
  ·simp [hk]; omega
 simp only [Utf8.decode, Utf8.runeError, g0, Bool.and_eq_true, c1]
 have hv : ∀ c : Nat, (Utf8.valid (c : Int) = true) = (c < 55296 ∨ (57344 ≤ c ∧ c ≤ 1114111)) := fun c => by
  apply propext
  simp [Utf8.valid]
  omega
 simp only [beq_iff_eq, decide_eq_true_eq, hv, ge_iff_le]
 unfold decU
 by_cases a0 : nb (s.data.toList.drop pos) 0 < 128
 ·rw [if_pos a0, if_pos a0]
 rw [if_neg a0, if_neg a0]
 by_cases a1 : nb (s.data.toList.drop pos) 0 / 32 = 6 ∧ 1 < s.size - pos ∧ nb (s.data.toList.drop pos) 1 / 64 = 2
 ·rw [if_pos a1, if_pos a1, get_nb s pos 1 (by omega)]
 rw [if_neg a1, if_neg a1]
 by_cases a2 : nb (s.data.toList.drop pos) 0 / 16 = 14 ∧ (1 < s.size - pos ∧ nb (s.data.toList.drop pos) 1 / 64 = 2) ∧ 2 < s.size - pos ∧ nb (s.data.toList.drop pos) 2 / 64 = 2
 ·rw [if_pos (by omega), if_pos a2, get_nb s pos 1 (by omega), get_nb s pos 2 (by omega)]
 rw [if_neg (by omega), if_neg a2]
 by_cases a3 : nb (s.data.toList.drop pos) 0 / 8 = 30 ∧ (1 < s.size - pos ∧ nb (s.data.toList.drop pos) 1 / 64 = 2) ∧ (2 < s.size - pos ∧ nb (s.data.toList.drop pos) 2 / 64 = 2) ∧ 3 < s.size - pos ∧ nb (s.data.toList.drop pos) 3 / 64 = 2
 ·rw [if_pos (by omega), if_pos a3, get_nb s pos 1 (by omega), get_nb s pos 2 (by omega), get_nb s pos 3 (by omega)]
 rw [if_neg (by omega), if_neg a3]
theorem tl_true {l : List UInt8} {k : Nat} : tl l k = true ↔ k < l.length ∧ 128 ≤ nb l k ∧ nb l k < 192 := by simp [tl, and_assoc]
theorem tl_false {l : List UInt8} {k : Nat} : tl l k = false ↔ ¬ (k < l.length ∧ 128 ≤ nb l k ∧ nb l k < 192) := by
 rw [← tl_true]; simp
set_option maxHeartbeats 2000000 in
theorem decU_spec {l : List UInt8} (h : l.length ≠ 0) : decU l.length (nb l 0) (nb l 1) (nb l 2) (nb l 3) = (rv l, if sg l = 0 then 1 else sg l) := by
 have h0 := nb_lt l 0
 have h1 := nb_lt l 1
 have h2 := nb_lt l 2
 have h3 := nb_lt l 3
 have hs : (sg l = 0 ∧ ¬ nb l 0 < 128 ∧ (nb l 0 < 194 ∨ 244 < nb l 0 ∨ ¬ (1 < l.length ∧ 128 ≤ nb l 1 ∧ nb l 1 < 192) ∨ (224 ≤ nb l 0 ∧ (¬ (2 < l.length ∧ 128 ≤ nb l 2 ∧ nb l 2 < 192) ∨ (nb l 0 = 224 ∧ nb l 1 < 160) ∨ (nb l 0 = 237 ∧ 160 ≤ nb l 1))) ∨ (240 ≤ nb l 0 ∧ (¬ (3 < l.length ∧ 128 ≤ nb l 3 ∧ nb l 3 < 192) ∨ (nb l 0 = 240 ∧ nb l 1 < 144) ∨ (nb l 0 = 244 ∧ 144 ≤ nb l 1))))) ∨
     (sg l = 1 ∧ nb l 0 < 128) ∨ (sg l = 2 ∧ 194 ≤ nb l 0 ∧ nb l 0 < 224 ∧ (1 < l.length ∧ 128 ≤ nb l 1 ∧ nb l 1 < 192)) ∨
     (sg l = 3 ∧ 224 ≤ nb l 0 ∧ nb l 0 < 240 ∧ (1 < l.length ∧ 128 ≤ nb l 1 ∧ nb l 1 < 192) ∧ (2 < l.length ∧ 128 ≤ nb l 2 ∧ nb l 2 < 192) ∧ ¬ (nb l 0 = 224 ∧ nb l 1 < 160) ∧ ¬ (nb l 0 = 237 ∧ 160 ≤ nb l 1)) ∨
     (sg l = 4 ∧ 240 ≤ nb l 0 ∧ nb l 0 ≤ 244 ∧ (1 < l.length ∧ 128 ≤ nb l 1 ∧ nb l 1 < 192) ∧ (2 < l.length ∧ 128 ≤ nb l 2 ∧ nb l 2 < 192) ∧ (3 < l.length ∧ 128 ≤ nb l 3 ∧ nb l 3 < 192) ∧ ¬ (nb l 0 = 240 ∧ nb l 1 < 144) ∧ ¬ (nb l 0 = 244 ∧ 144 ≤ nb l 1)) := by
   unfold sg
   simp only [tl_false]
   rw [if_neg h]
   generalize nb l 0 = b0 at *
   generalize nb l 1 = b1 at *
   generalize nb l 2 = b2 at *
   generalize nb l 3 = b3 at *
   generalize l.length = n at *
   clear h
   by_cases g0 : b0 < 128
   · rw [if_pos g0]; exact .inr (.inl ⟨rfl, g0⟩)
   rw [if_neg g0]
   by_cases g1 : b0 < 194 ∨ 244 < b0 ∨ ¬ (1 < n ∧ 128 ≤ b1 ∧ b1 < 192)
   · rw [if_pos g1]
     refine .inl ⟨rfl, g0, ?_⟩
     rcases g1 with g1 | g1 | g1
     · exact .inl g1
     · exact .inr (.inl g1)
     · exact .inr (.inr (.inl g1))
   rw [if_neg g1]
   have k1 : 194 ≤ b0 ∧ b0 ≤ 244 ∧ (1 < n ∧ 128 ≤ b1 ∧ b1 < 192) := ⟨by omega, by omega, Classical.byContradiction fun h => g1 (.inr (.inr h))⟩
   clear g1
   by_cases g2 : b0 < 224
   · rw [if_pos g2]; exact .inr (.inr (.inl ⟨rfl, k1.1, g2, k1.2.2⟩))
   rw [if_neg g2]
   by_cases g3 : ¬ (2 < n ∧ 128 ≤ b2 ∧ b2 < 192) ∨ (b0 = 224 ∧ b1 < 160) ∨ (b0 = 237 ∧ 160 ≤ b1)
   · rw [if_pos g3]; exact .inl ⟨rfl, g0, .inr (.inr (.inr (.inl ⟨by omega, g3⟩)))⟩
   rw [if_neg g3]
   have k3 : (2 < n ∧ 128 ≤ b2 ∧ b2 < 192) := Classical.byContradiction fun h => g3 (.inl h)
   have k4 : ¬ (b0 = 224 ∧ b1 < 160) := fun h => g3 (.inr (.inl h))
   have k5 : ¬ (b0 = 237 ∧ 160 ≤ b1) := fun h => g3 (.inr (.inr h))
   clear g3
   by_cases g4 : b0 < 240
   · rw [if_pos g4]; exact .inr (.inr (.inr (.inl ⟨rfl, by omega, g4, k1.2.2, k3, k4, k5⟩)))
   rw [if_neg g4]
   by_cases g5 : ¬ (3 < n ∧ 128 ≤ b3 ∧ b3 < 192) ∨ (b0 = 240 ∧ b1 < 144) ∨ (b0 = 244 ∧ 144 ≤ b1)
   · rw [if_pos g5]; exact .inl ⟨rfl, g0, .inr (.inr (.inr (.inr ⟨by omega, g5⟩)))⟩
   rw [if_neg g5]
   exact .inr (.inr (.inr (.inr ⟨rfl, by omega, k1.2.1, k1.2.2, k3, Classical.byContradiction fun h => g5 (.inl h), fun h => g5 (.inr (.inl h)), fun h => g5 (.inr (.inr h))⟩)))
 unfold rv
 generalize sg l = sgl at *
 generalize nb l 0 = b0 at *
 generalize nb l 1 = b1 at *
 generalize nb l 2 = b2 at *
 generalize nb l 3 = b3 at *
 generalize l.length = n at *
 clear h
 rcases hs with ⟨e, hs⟩ | ⟨e, hs⟩ | ⟨e, hs⟩ | ⟨e, hs⟩ | ⟨e, hs⟩
 ·unfold decU
  subst e
  simp only [if_true]
  rw [if_neg (by omega)]
  split
  ·rw [if_neg (by omega)]; rfl
  split
  ·rw [if_neg (by omega)]; rfl
  split
  ·rw [if_neg (by omega)]; rfl
  ·rfl
 ·unfold decU
  subst e
  rw [if_pos hs]
  simp
 ·unfold decU
  subst e
  rw [if_neg (by omega), if_pos (by omega), if_pos (by omega)]
  simp; omega
 ·unfold decU
  subst e
  rw [ if_neg (by omega), if_neg (by omega), if_pos (by omega), if_pos (by omega)]
  simp; omega
 ·unfold decU
  subst e
  rw [ if_neg (by omega), if_neg (by omega), if_neg (by omega), if_pos (by omega), if_pos (by omega)]
  simp; omega
theorem decode_spec (s : ByteArray) (pos : Nat) (h : pos < s.size) : Utf8.decode s pos = (rv (s.data.toList.drop pos), if sg (s.data.toList.drop pos) = 0 then 1 else sg (s.data.toList.drop pos)) := by
 have hl : (s.data.toList.drop pos).length = s.size - pos := by simp
 rw [decode_eq s pos h, ← hl]
 exact decU_spec (by rw [hl]; omega)
theorem nb_zero {l : List UInt8} (h : l.length ≠ 0) : ∃ c r, l = c :: r ∧ nb l 0 = c.toNat := by
 cases l with
 | nil => simp at h
 | cons c r => exact ⟨c, r, rfl, rfl⟩
theorem sg_one {l : List UInt8} : sg l = 1 ↔ (l.length ≠ 0 ∧ nb l 0 < 128) := by
 unfold sg
 constructor
 ·intro h
  split at h
  ·cases h
  ·split at h
   ·exact ⟨by assumption, by assumption⟩
   ·split at h
    ·cases h
    ·split at h
     ·cases h
     ·split at h
      ·cases h
      ·split at h
       ·cases h
       ·split at h <;> cases h
 ·rintro ⟨h1, h2⟩
  rw [if_neg h1, if_pos h2]
theorem sg_le {l : List UInt8} : sg l ≤ 4 ∧ sg l ≤ l.length := by
 unfold sg
 simp only [tl_false]
 generalize nb l 0 = b0
 generalize nb l 1 = b1
 generalize nb l 2 = b2
 generalize nb l 3 = b3
 generalize l.length = n
 split
 ·omega
 split
 ·omega
 rename_i h0 h1
 by_cases g1 : b0 < 194 ∨ 244 < b0 ∨ ¬ (1 < n ∧ 128 ≤ b1 ∧ b1 < 192)
 ·rw [if_pos g1]; omega
 rw [if_neg g1]
 have k1 : 1 < n := Classical.byContradiction fun h => g1 (.inr (.inr (fun x => h x.1)))
 split
 ·omega
 by_cases g3 : ¬ (2 < n ∧ 128 ≤ b2 ∧ b2 < 192) ∨ (b0 = 224 ∧ b1 < 160) ∨ (b0 = 237 ∧ 160 ≤ b1)
 ·rw [if_pos g3]; omega
 rw [if_neg g3]
 have k3 : 2 < n := Classical.byContradiction fun h => g3 (.inl (fun x => h x.1))
 split
 ·omega
 by_cases g5 : ¬ (3 < n ∧ 128 ≤ b3 ∧ b3 < 192) ∨ (b0 = 240 ∧ b1 < 144) ∨ (b0 = 244 ∧ 144 ≤ b1)
 ·rw [if_pos g5]; omega
 rw [if_neg g5]
 have k5 : 3 < n := Classical.byContradiction fun h => g5 (.inl (fun x => h x.1))
 omega
theorem sg_facts {l : List UInt8} : (sg l = 2 → 194 ≤ nb l 0 ∧ nb l 0 < 224 ∧ (128 ≤ nb l 1 ∧ nb l 1 < 192)) ∧
    (sg l = 3 → 224 ≤ nb l 0 ∧ nb l 0 < 240 ∧ (128 ≤ nb l 1 ∧ nb l 1 < 192) ∧ (128 ≤ nb l 2 ∧ nb l 2 < 192) ∧ ¬ (nb l 0 = 224 ∧ nb l 1 < 160) ∧ ¬ (nb l 0 = 237 ∧ 160 ≤ nb l 1)) ∧
    (sg l = 4 → 240 ≤ nb l 0 ∧ nb l 0 ≤ 244 ∧ (128 ≤ nb l 1 ∧ nb l 1 < 192) ∧ (128 ≤ nb l 2 ∧ nb l 2 < 192) ∧ (128 ≤ nb l 3 ∧ nb l 3 < 192) ∧ ¬ (nb l 0 = 240 ∧ nb l 1 < 144) ∧ ¬ (nb l 0 = 244 ∧ 144 ≤ nb l 1)) := by
 unfold sg
 simp only [tl_false]
 generalize nb l 0 = b0
 generalize nb l 1 = b1
 generalize nb l 2 = b2
 generalize nb l 3 = b3
 generalize l.length = n
 by_cases h0 : n = 0
 ·rw [if_pos h0]; simp
 rw [if_neg h0]
 by_cases h1 : b0 < 128
 ·rw [if_pos h1]; simp
 rw [if_neg h1]
 by_cases g1 : b0 < 194 ∨ 244 < b0 ∨ ¬ (1 < n ∧ 128 ≤ b1 ∧ b1 < 192)
 ·rw [if_pos g1]; simp
 rw [if_neg g1]
 have k1 : (1 < n ∧ 128 ≤ b1 ∧ b1 < 192) := Classical.byContradiction fun h => g1 (.inr (.inr h))
 have k2 : 194 ≤ b0 ∧ b0 ≤ 244 := ⟨by omega, by omega⟩
 by_cases g2 : b0 < 224
 ·rw [if_pos g2]; exact ⟨fun _ => ⟨k2.1, g2, k1.2⟩, fun h => (by cases h), fun h => (by cases h)⟩
 rw [if_neg g2]
 by_cases g3 : ¬ (2 < n ∧ 128 ≤ b2 ∧ b2 < 192) ∨ (b0 = 224 ∧ b1 < 160) ∨ (b0 = 237 ∧ 160 ≤ b1)
 ·rw [if_pos g3]; simp
 rw [if_neg g3]
 have k3 : (2 < n ∧ 128 ≤ b2 ∧ b2 < 192) := Classical.byContradiction fun h => g3 (.inl h)
 by_cases g4 : b0 < 240
 ·rw [if_pos g4]
  exact ⟨fun h => (by cases h), fun _ => ⟨by omega, g4, k1.2, k3.2, fun h => g3 (.inr (.inl h)), fun h => g3 (.inr (.inr h))⟩, fun h => (by cases h)⟩
 rw [if_neg g4]
 by_cases g5 : ¬ (3 < n ∧ 128 ≤ b3 ∧ b3 < 192) ∨ (b0 = 240 ∧ b1 < 144) ∨ (b0 = 244 ∧ 144 ≤ b1)
 ·rw [if_pos g5]; simp
 rw [if_neg g5]
 exact ⟨fun h => (by cases h), fun h => (by cases h), fun _ => ⟨by omega, k2.2, k1.2, k3.2, (Classical.byContradiction fun h => g5 (.inl h) : 3 < n ∧ 128 ≤ b3 ∧ b3 < 192).2, fun h => g5 (.inr (.inl h)), fun h => g5 (.inr (.inr h))⟩⟩
theorem take_nb (l : List UInt8) (n : Nat) (h : n ≤ l.length) : l.take n = (List.range n).map fun k => UInt8.ofNat (nb l k) := by
 apply List.ext_getElem?
 intro i
 rw [List.getElem?_take]
 by_cases hi : i < n
 ·rw [if_pos hi, List.getElem?_map, List.getElem?_range hi]
  have hl : l[i]? = some l[i] := List.getElem?_eq_getElem (by omega)
  unfold nb
  rw [hl]
  simp [hl]
 ·rw [if_neg hi, List.getElem?_eq_none (by simpa using hi)]
theorem encode_sign {l : List UInt8} (h : sg l ≠ 0) : Lib.encodeRune (rv l : Int) = l.take (sg l) := by
 have h0 := nb_lt l 0
 have h1 := nb_lt l 1
 have h2 := nb_lt l 2
 have h3 := nb_lt l 3
 obtain ⟨f2, f3, f4⟩ := sg_facts (l := l)
 have hle := (sg_le (l := l)).2
 rw [take_nb l _ hle]
 have hc : sg l = 1 ∨ sg l = 2 ∨ sg l = 3 ∨ sg l = 4 := by have := (sg_le (l := l)).1; omega
 rcases hc with e | e | e | e
 ·have hn := (sg_one.1 e).2
  have hr : rv l = nb l 0 := by unfold rv; rw [if_pos e]
  rw [hr, e]
  unfold Lib.encodeRune
  rw [Lib.encodeRuneZ_one (by omega) (by omega)]
  simp only [List.range, List.range.loop, List.map_cons, List.map_nil, Int.toNat_natCast]
 ·obtain ⟨a, b, c, d⟩ := f2 e
  have hr : rv l = (nb l 0 - 192) * 64 + (nb l 1 - 128) := by unfold rv; rw [if_neg (by omega), if_pos e]
  rw [e]
  unfold Lib.encodeRune
  generalize rv l = r at *
  rw [Lib.encodeRuneZ_two (by omega) (by omega)]
  have e0 : (192 + (r : Int) / 64).toNat = nb l 0 := by omega
  have e1 : (128 + (r : Int) % 64).toNat = nb l 1 := by omega
  simp only [List.range, List.range.loop, List.map_cons, List.map_nil, e0, e1]
 ·obtain ⟨a, b, ⟨c, d⟩, ⟨p, q⟩, u, v⟩ := f3 e
  have hr : rv l = (nb l 0 - 224) * 4096 + (nb l 1 - 128) * 64 + (nb l 2 - 128) := by unfold rv; rw [if_neg (by omega), if_neg (by omega), if_pos e]
  rw [e]
  unfold Lib.encodeRune
  generalize rv l = r at *
  rw [Lib.encodeRuneZ_three (by omega)]
  have e0 : (224 + (r : Int) / 4096).toNat = nb l 0 := by omega
  have e1 : (128 + (r : Int) / 64 % 64).toNat = nb l 1 := by omega
  have e2 : (128 + (r : Int) % 64).toNat = nb l 2 := by omega
  simp only [List.range, List.range.loop, List.map_cons, List.map_nil, e0, e1, e2]
 ·obtain ⟨a, b, ⟨c, d⟩, ⟨p, q⟩, ⟨x, y⟩, u, v⟩ := f4 e
  have hr : rv l = (nb l 0 - 240) * 262144 + (nb l 1 - 128) * 4096 + (nb l 2 - 128) * 64 + (nb l 3 - 128) := by unfold rv; rw [if_neg (by omega), if_neg (by omega), if_neg (by omega), if_pos e]
  rw [e]
  unfold Lib.encodeRune
  generalize rv l = r at *
  rw [Lib.encodeRuneZ_four (by omega) (by omega)]
  have e0 : (240 + (r : Int) / 262144).toNat = nb l 0 := by omega
  have e1 : (128 + (r : Int) / 4096 % 64).toNat = nb l 1 := by omega
  have e2 : (128 + (r : Int) / 64 % 64).toNat = nb l 2 := by omega
  have e3 : (128 + (r : Int) % 64).toNat = nb l 3 := by omega
  simp only [List.range, List.range.loop, List.map_cons, List.map_nil, e0, e1, e2, e3]
theorem rv_big {l : List UInt8} (h : ¬ nb l 0 < 128) : 128 ≤ rv l := by
 obtain ⟨f2, f3, f4⟩ := sg_facts (l := l)
 have hc : sg l = 0 ∨ sg l = 2 ∨ sg l = 3 ∨ sg l = 4 := by
  have := (sg_le (l := l)).1
  have h1 : sg l ≠ 1 := fun e => h (sg_one.1 e).2
  omega
 unfold rv
 rcases hc with e | e | e | e
 ·rw [e]; simp
 ·have := f2 e; rw [if_neg (by omega), if_pos e]; omega
 ·have := f3 e; rw [if_neg (by omega), if_neg (by omega), if_pos e]; omega
 ·have := f4 e; rw [if_neg (by omega), if_neg (by omega), if_neg (by omega), if_pos e]; omega
theorem prefix_iff {l : List UInt8} : Lib.hasPrefix l [239, 191, 189] = true ↔ (3 ≤ l.length ∧ nb l 0 = 239 ∧ nb l 1 = 191 ∧ nb l 2 = 189) := by
 unfold Lib.hasPrefix nb
 match l with
 | [] => simp
 | [a] => simp
 | [a, b] => simp
 | a :: b :: c :: r =>
  simp [← UInt8.toNat_inj]
  exact ⟨fun ⟨h1, h2, h3⟩ => ⟨h1.symm, h2.symm, h3.symm⟩, fun ⟨h1, h2, h3⟩ => ⟨h1.symm, h2.symm, h3.symm⟩⟩
theorem bad_iff {l : List UInt8} (h0 : l.length ≠ 0) : (rv l = 65533 ∧ Lib.hasPrefix l [239, 191, 189] = false) ↔ sg l = 0 := by
 obtain ⟨f2, f3, f4⟩ := sg_facts (l := l)
 have h1 := nb_lt l 0
 constructor
 ·rintro ⟨hr, hp⟩
  have hp' : ¬ (3 ≤ l.length ∧ nb l 0 = 239 ∧ nb l 1 = 191 ∧ nb l 2 = 189) := fun h => by rw [prefix_iff.2 h] at hp; cases hp
  have hle := sg_le (l := l)
  have hc : sg l = 0 ∨ sg l = 1 ∨ sg l = 2 ∨ sg l = 3 ∨ sg l = 4 := by omega
  unfold rv at hr
  rcases hc with e | e | e | e | e
  ·exact e
  ·rw [if_pos e] at hr; have := (sg_one.1 e).2; omega
  ·have := f2 e; rw [if_neg (by omega), if_pos e] at hr; omega
  ·have := f3 e; rw [if_neg (by omega), if_neg (by omega), if_pos e] at hr; omega
  ·have := f4 e; rw [if_neg (by omega), if_neg (by omega), if_neg (by omega), if_pos e] at hr; omega
 ·intro e
  refine ⟨by unfold rv; rw [e]; simp, ?_⟩
  cases hp : Lib.hasPrefix l [239, 191, 189] with
  | false => rfl
  | true =>
   obtain ⟨h3, a, b, c⟩ := prefix_iff.1 hp
   exfalso
   unfold sg at e
   simp only [tl_false, a, b, c] at e
   rw [if_neg h0] at e
   simp at e
   omega
end Go.Proofs.YteljlahcdipilaaGreat
namespace Go.Proofs.YteljlahcdipilaaGreat
open Go.RowKit
set_option linter.unusedSimpArgs false
set_option linter.unusedVariables false
theorem nb_drop (l : List UInt8) (p k : Nat) : nb (l.drop p) k = nb l (p + k) := by unfold nb; rw [List.getElem?_drop]
theorem nb_get (s : ByteArray) (i : Nat) (h : i < s.size) : s[i].toNat = nb s.data.toList i := by
 unfold nb
 rw [List.getElem?_eq_getElem (by simpa using h)]
 rfl
def letter (c : Nat) : Bool := decide ((97 ≤ c ∧ c ≤ 122) ∨ (65 ≤ c ∧ c ≤ 90) ∨ c = 95)
def digt (c : Nat) : Bool := decide (48 ≤ c ∧ c ≤ 57)
def hexv (c : Nat) : Int := if 48 ≤ c ∧ c ≤ 57 then (c : Int) - 48 else if 97 ≤ c ∧ c ≤ 102 then (c : Int) - 97 + 10 else if 65 ≤ c ∧ c ≤ 70 then (c : Int) - 65 + 10 else -1
end Go.Proofs.YteljlahcdipilaaGreat
namespace Go.Proofs.YteljlahcdipilaaGreat
open Go.RowKit
set_option linter.unusedVariables false
def hxd (k : Nat) : UInt8 := if k < 10 then UInt8.ofNat (48 + k) else UInt8.ofNat (87 + k)
def hx2 (c : Nat) : List UInt8 := [hxd (c / 16), hxd (c % 16)]
def stepQ (l : List UInt8) : Nat := if sg l = 0 then 1 else sg l
def pieceQ (l : List UInt8) : List UInt8 :=
  if sg l = 0 ∨ nb l 0 = 127 then [92, 120] ++ hx2 (nb l 0)
  else if nb l 0 = 39 ∨ nb l 0 = 92 then [92, UInt8.ofNat (nb l 0)]
  else if nb l 0 = 10 then [92, 110] else if nb l 0 = 9 then [92, 116] else if nb l 0 = 13 then [92, 114]
  else if nb l 0 < 32 then [92, 120] ++ hx2 (nb l 0) else l.take (sg l)
theorem stepQ_pos (l : List UInt8) : 1 ≤ stepQ l := by unfold stepQ; split <;> omega
theorem stepQ_le {l : List UInt8} (h : l.length ≠ 0) : stepQ l ≤ l.length := by
 have := sg_le (l := l)
 unfold stepQ; split <;> omega
theorem pieceQ_le (l : List UInt8) : (pieceQ l).length ≤ 4 := by
 have := sg_le (l := l)
 unfold pieceQ hx2
 repeat' split
 all_goals simp
 omega
def quoteL (l : List UInt8) : List UInt8 := if h : l.length = 0 then [] else pieceQ l ++ quoteL (l.drop (stepQ l))
termination_by l.length
decreasing_by
  have := stepQ_pos l
  simp only [List.length_drop]
  omega
theorem quoteL_nil {l : List UInt8} (h : l.length = 0) : quoteL l = [] := by unfold quoteL; rw [dif_pos h]
theorem quoteL_step {l : List UInt8} (h : l.length ≠ 0) : quoteL l = pieceQ l ++ quoteL (l.drop (stepQ l)) := by rw [quoteL, dif_neg h]
theorem quoteL_len (l : List UInt8) : (quoteL l).length ≤ 4 * l.length := by
 induction hn : l.length using Nat.strongRecOn generalizing l with
 | _ n ih =>
  by_cases h : l.length = 0
  ·rw [quoteL_nil h]; simp
  rw [quoteL_step h, List.length_append]
  have h1 := stepQ_pos l
  have h2 := stepQ_le h
  have h3 := pieceQ_le l
  have h4 := ih (l.drop (stepQ l)).length (by simp only [List.length_drop]; omega) (l.drop (stepQ l)) rfl
  simp only [List.length_drop] at h4
  omega
end Go.Proofs.YteljlahcdipilaaGreat
namespace Go.Proofs.YteljlahcdipilaaGreat
open Go.RowKit
set_option linter.unusedSimpArgs false
set_option linter.unusedVariables false
def strOf (l : List UInt8) : ByteArray := ⟨l.toArray⟩
theorem strOf_list (l : List UInt8) : (strOf l).toList = l := by simp [strOf]
theorem strOf_size (l : List UInt8) : (strOf l).size = l.length := by simp [strOf, ByteArray.size]
theorem nums_of_bytes (l : List UInt8) : strOfNums (l.map fun c => (c.toNat : Int)) = strOf l := by
 unfold strOfNums strOf
 rw [List.map_map]
 congr 2
 refine (List.map_congr_left fun c _ => ?_).trans (List.map_id l)
 simp
theorem extract_strOf (s : ByteArray) (k n : Nat) (h : k + n ≤ s.size) : s.extract k (k + n) = strOf ((s.data.toList.drop k).take n) := by
 apply ByteArray.ext
 apply Array.ext'
 simp [strOf]
end Go.Proofs.YteljlahcdipilaaGreat
namespace Go.Proofs.YteljlahcdipilaaGreat
open Go.RowKit Go.Shelf
set_option linter.unusedSimpArgs false
set_option linter.unusedVariables false
def Bld (B b : Nat) (l : List UInt8) (w : World) : Prop := Lib.IsBuilderF 94 5 B b (Lib.byteCells l) w
def Wrote (B b : Nat) (l : List UInt8) (w w' : World) : Prop := Bld B b l w' ∧ Below B w w' ∧ Lib.OthersKept 5 (some b) w w'
theorem Wrote.trans {B b : Nat} {l l' : List UInt8} {w w' w'' : World} (h : Wrote B b l w w') (k : Wrote B b l' w' w'') : Wrote B b l' w w'' := ⟨k.1, h.2.1.trans k.2.1, h.2.2.trans k.2.2⟩
theorem Wrote.size {B b : Nat} {l : List UInt8} {w w' : World} (h : Wrote B b l w w') : B ≤ w.heap.size → B ≤ w'.heap.size := fun k => Nat.le_trans k h.2.1.size
end Go.Proofs.YteljlahcdipilaaGreat
namespace Go.Proofs.YteljlahcdipilaaGreat
open Go.RowKit
set_option linter.unusedVariables false
theorem rv_small {l : List UInt8} (h0 : l.length ≠ 0) (h : rv l < 128) : sg l = 1 ∧ nb l 0 = rv l := by
 have h1 : nb l 0 < 128 := Classical.byContradiction fun hh => by have := rv_big hh; omega
 have h2 := sg_one.2 ⟨h0, h1⟩
 exact ⟨h2, by unfold rv; rw [if_pos h2]⟩
end Go.Proofs.YteljlahcdipilaaGreat
namespace Go.Proofs.YteljlahcdipilaaGreat
open Go.RowKit Go.Shelf
set_option linter.unusedSimpArgs false
set_option linter.unusedVariables false
theorem Wrote.old {B : Nat} {l : List UInt8} {a w w' : World} (h : Wrote B B l w w') (k : Below B a w) : Below B a w' := k.trans h.2.1
theorem hasPrefix_any (s : ByteArray) (b : Bool) (w : World) (h : Lib.hasPrefix s.data.toList [239, 191, 189] = b) :
    Calls Tryz.prog 75 #[.string s, .string ⟨#[239, 191, 189]⟩] w fun e w' => e = .returned (.bool b) ∧ w = w' := by
 refine (Any.strings_HasPrefix { shLays99 with } s ⟨#[239, 191, 189]⟩ w).mono ?_
 rintro e w' ⟨rfl, rfl⟩
 exact ⟨by rw [← h], rfl⟩
end Go.Proofs.YteljlahcdipilaaGreat
namespace Go.Proofs.YteljlahcdipilaaGreat
open Go.RowKit
set_option linter.unusedVariables false
def escV (l : List UInt8) : Option (UInt8 × Nat) :=
  if l.length < 2 then none
  else if nb l 1 = 92 ∨ nb l 1 = 39 then some (UInt8.ofNat (nb l 1), 2)
  else if nb l 1 = 110 then some (10, 2) else if nb l 1 = 116 then some (9, 2) else if nb l 1 = 114 then some (13, 2)
  else if l.length < 4 ∨ nb l 1 ≠ 120 ∨ hexv (nb l 2) < 0 ∨ hexv (nb l 3) < 0 then none
  else some (UInt8.ofNat (hexv (nb l 2) * 16 + hexv (nb l 3)).toNat, 4)
theorem escV_len {l : List UInt8} {x : UInt8} {n : Nat} (h : escV l = some (x, n)) : (n = 2 ∨ n = 4) ∧ n ≤ l.length := by
 unfold escV at h
 by_cases h1 : l.length < 2
 ·rw [if_pos h1] at h; cases h
 rw [if_neg h1] at h
 by_cases h2 : nb l 1 = 92 ∨ nb l 1 = 39
 ·rw [if_pos h2] at h; cases h; omega
 rw [if_neg h2] at h
 by_cases h3 : nb l 1 = 110
 ·rw [if_pos h3] at h; cases h; omega
 rw [if_neg h3] at h
 by_cases h4 : nb l 1 = 116
 ·rw [if_pos h4] at h; cases h; omega
 rw [if_neg h4] at h
 by_cases h5 : nb l 1 = 114
 ·rw [if_pos h5] at h; cases h; omega
 rw [if_neg h5] at h
 by_cases h6 : l.length < 4 ∨ nb l 1 ≠ 120 ∨ hexv (nb l 2) < 0 ∨ hexv (nb l 3) < 0
 ·rw [if_pos h6] at h; cases h
 rw [if_neg h6] at h; cases h; omega
def bad (l : List UInt8) : Prop := sg l = 0 ∨ nb l 0 < 32 ∨ nb l 0 = 127
instance (l : List UInt8) : Decidable (bad l) := by unfold bad; infer_instance
def qdN : Nat → List UInt8 → Option (List UInt8 × List UInt8)
  | 0, _ => none
  | k + 1, l =>
    if l.length = 0 then none else if nb l 0 = 39 then some ([], l.drop 1) else if bad l then none
    else if nb l 0 = 92 then (match escV l with | none => none | some (x, n) => (qdN k (l.drop n)).map fun p => (x :: p.1, p.2))
    else (qdN k (l.drop (sg l))).map fun p => (l.take (sg l) ++ p.1, p.2)
def uqN : Nat → List UInt8 → Option (List UInt8)
  | 0, _ => some []
  | k + 1, l =>
    if l.length = 0 then some [] else if nb l 0 = 92 then (match escV l with | none => none | some (x, n) => (uqN k (l.drop n)).map fun p => x :: p)
    else if nb l 0 = 39 ∨ bad l then none
    else (uqN k (l.drop (sg l))).map fun p => l.take (sg l) ++ p
theorem bad_not {l : List UInt8} (h : ¬ bad l) : sg l ≠ 0 := fun e => h (.inl e)
theorem qdN_more : ∀ (k : Nat) (l : List UInt8), l.length ≤ k → qdN (k + 1) l = qdN (l.length + 1) l := by
 intro k
 induction k using Nat.strongRecOn with
 | _ k ih =>
  intro l hl
  by_cases hk : k = l.length
  ·rw [hk]
  obtain ⟨j, rfl⟩ : ∃ j, k = j + 1 := ⟨k - 1, by omega⟩
  by_cases h0 : l.length = 0
  ·simp [qdN, h0]
  have hstep : ∀ n, 1 ≤ n → n ≤ l.length → qdN (j + 1) (l.drop n) = qdN l.length (l.drop n) := fun n h1 h2 => by
   have a := ih j (by omega) (l.drop n) (by simp; omega)
   obtain ⟨m, hm⟩ : ∃ m, l.length = m + 1 := ⟨l.length - 1, by omega⟩
   rw [hm]
   by_cases hmj : m = j
   ·rw [hmj]
   have b := ih m (by omega) (l.drop n) (by simp; omega)
   rw [a, b]
  rw [qdN]
  conv => rhs; rw [qdN]
  rw [if_neg h0, if_neg h0]
  by_cases h1 : nb l 0 = 39
  ·rw [if_pos h1, if_pos h1]
  rw [if_neg h1, if_neg h1]
  by_cases h2 : bad l
  ·rw [if_pos h2, if_pos h2]
  rw [if_neg h2, if_neg h2]
  by_cases h3 : nb l 0 = 92
  ·rw [if_pos h3, if_pos h3]
   cases he : escV l with
   | none => rfl
   | some p =>
    obtain ⟨x, n⟩ := p
    have := escV_len he
    simp only []
    rw [hstep n (by omega) this.2]
  ·rw [if_neg h3, if_neg h3, hstep (sg l) (by have := bad_not h2; omega) (sg_le).2]
theorem uqN_more : ∀ (k : Nat) (l : List UInt8), l.length ≤ k → uqN k l = uqN l.length l := by
 intro k
 induction k using Nat.strongRecOn with
 | _ k ih =>
  intro l hl
  by_cases hk : k = l.length
  ·rw [hk]
  obtain ⟨j, rfl⟩ : ∃ j, k = j + 1 := ⟨k - 1, by omega⟩
  by_cases h0 : l.length = 0
  ·rw [uqN, if_pos h0, h0, uqN]
  obtain ⟨m, hm⟩ : ∃ m, l.length = m + 1 := ⟨l.length - 1, by omega⟩
  have hstep : ∀ n, 1 ≤ n → n ≤ l.length → uqN j (l.drop n) = uqN m (l.drop n) := fun n h1 h2 => by
   have a := ih j (by omega) (l.drop n) (by simp; omega)
   have b := ih m (by omega) (l.drop n) (by simp; omega)
   rw [a, b]
  rw [hm, uqN]
  conv => rhs; rw [uqN]
  rw [if_neg h0, if_neg h0]
  by_cases h3 : nb l 0 = 92
  ·rw [if_pos h3, if_pos h3]
   cases he : escV l with
   | none => rfl
   | some p =>
    obtain ⟨x, n⟩ := p
    have := escV_len he
    simp only []
    rw [hstep n (by omega) this.2]
  ·rw [if_neg h3, if_neg h3]
   by_cases h2 : nb l 0 = 39 ∨ bad l
   ·rw [if_pos h2, if_pos h2]
   rw [if_neg h2, if_neg h2, hstep (sg l) (by have := bad_not (fun h => h2 (.inr h)); omega) (sg_le).2]
def qd (l : List UInt8) : Option (List UInt8 × List UInt8) := qdN (l.length + 1) l
def uq (l : List UInt8) : Option (List UInt8) := uqN l.length l
theorem qd_eq (l : List UInt8) : qd l = if l.length = 0 then none else if nb l 0 = 39 then some ([], l.drop 1) else if bad l then none
    else if nb l 0 = 92 then (match escV l with | none => none | some (x, n) => (qd (l.drop n)).map fun p => (x :: p.1, p.2))
    else (qd (l.drop (sg l))).map fun p => (l.take (sg l) ++ p.1, p.2) := by
 unfold qd
 rw [qdN]
 by_cases h0 : l.length = 0
 ·rw [if_pos h0, if_pos h0]
 rw [if_neg h0, if_neg h0]
 obtain ⟨m, hm⟩ : ∃ m, l.length = m + 1 := ⟨l.length - 1, by omega⟩
 have hs : ∀ n, 1 ≤ n → n ≤ l.length → qdN l.length (l.drop n) = qdN ((l.drop n).length + 1) (l.drop n) := fun n h1 h2 => by
  rw [hm]; exact qdN_more m (l.drop n) (by simp; omega)
 by_cases h1 : nb l 0 = 39
 ·rw [if_pos h1, if_pos h1]
 rw [if_neg h1, if_neg h1]
 by_cases h2 : bad l
 ·rw [if_pos h2, if_pos h2]
 rw [if_neg h2, if_neg h2]
 by_cases h3 : nb l 0 = 92
 ·rw [if_pos h3, if_pos h3]
  cases he : escV l with
  | none => rfl
  | some p =>
   obtain ⟨x, n⟩ := p
   have := escV_len he
   simp only []
   rw [hs n (by omega) this.2]
 ·rw [if_neg h3, if_neg h3, hs (sg l) (by have := bad_not h2; omega) (sg_le).2]
theorem uq_eq (l : List UInt8) : uq l = if l.length = 0 then some [] else if nb l 0 = 92 then (match escV l with | none => none | some (x, n) => (uq (l.drop n)).map fun p => x :: p)
    else if nb l 0 = 39 ∨ bad l then none else (uq (l.drop (sg l))).map fun p => l.take (sg l) ++ p := by
 unfold uq
 by_cases h0 : l.length = 0
 ·rw [if_pos h0, h0, uqN]
 obtain ⟨m, hm⟩ : ∃ m, l.length = m + 1 := ⟨l.length - 1, by omega⟩
 have hs : ∀ n, 1 ≤ n → n ≤ l.length → uqN m (l.drop n) = uqN (l.drop n).length (l.drop n) := fun n h1 h2 => uqN_more m (l.drop n) (by simp; omega)
 rw [hm, uqN, if_neg h0, if_neg (show ¬ m + 1 = 0 from by omega)]
 by_cases h3 : nb l 0 = 92
 ·rw [if_pos h3, if_pos h3]
  cases he : escV l with
  | none => rfl
  | some p =>
   obtain ⟨x, n⟩ := p
   have := escV_len he
   simp only []
   rw [hs n (by omega) this.2]
 ·rw [if_neg h3, if_neg h3]
  by_cases h2 : nb l 0 = 39 ∨ bad l
  ·rw [if_pos h2, if_pos h2]
  rw [if_neg h2, if_neg h2, hs (sg l) (by have := bad_not (fun h => h2 (.inr h)); omega) (sg_le).2]
theorem uq_len : ∀ (k : Nat) (l : List UInt8), l.length = k → ∀ t, uq l = some t → t.length ≤ l.length := by
 intro k
 induction k using Nat.strongRecOn with
 | _ k ih =>
  intro l hl t ht
  rw [uq_eq] at ht
  by_cases h0 : l.length = 0
  ·rw [if_pos h0] at ht; cases ht; simp
  rw [if_neg h0] at ht
  have key : ∀ (n : Nat) (p : List UInt8), p.length ≤ n → 1 ≤ n → n ≤ l.length → (uq (l.drop n)).map (fun q => p ++ q) = some t → t.length ≤ l.length := fun n p h1 h2 h3 h4 => by
   cases hu : uq (l.drop n) with
   | none => rw [hu] at h4; cases h4
   | some q =>
    rw [hu] at h4
    have := ih (l.drop n).length (by simp; omega) (l.drop n) rfl q hu
    cases h4
    simp at this ⊢
    omega
  by_cases h3 : nb l 0 = 92
  ·rw [if_pos h3] at ht
   cases he : escV l with
   | none => rw [he] at ht; cases ht
   | some p =>
    obtain ⟨x, n⟩ := p
    rw [he] at ht
    have := escV_len he
    exact key n [x] (by simp; omega) (by omega) this.2 ht
  ·rw [if_neg h3] at ht
   by_cases h2 : nb l 0 = 39 ∨ bad l
   ·rw [if_pos h2] at ht; cases ht
   rw [if_neg h2] at ht
   exact key (sg l) (l.take (sg l)) (by simp; omega) (by have := bad_not (fun h => h2 (.inr h)); omega) sg_le.2 ht
end Go.Proofs.YteljlahcdipilaaGreat

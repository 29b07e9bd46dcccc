/- Parts S1, S2, S3, S4, S5, S6 of this seat (pruned, scripts that are alike kept once as default arguments: q1, q2, ..). Conditions: each says its own. -/
import Derived.Test.YteljlahcdipilaaGreatG1
set_option linter.unusedSimpArgs false
set_option linter.unusedVariables false
set_option maxRecDepth 1000000
set_option maxHeartbeats 64000000
namespace Go.Proofs.YteljlahcdipilaaGreat
open Go.RowKit
def nb (l : List UInt8) (k : Nat) : Nat := ((l[k]?).map UInt8.toNat).getD 0
theorem fH (l : List UInt8) (k : Nat) : nb l k < 256 := by
 unfold nb;cases l[k]? with
 | none => simp
 | some c => simpa using c.toNat_lt
def tl (l : List UInt8) (k : Nat) : Bool := decide (k < l.length) && decide (128 <= nb l k) && decide (nb l k < 192)
def sg (l : List UInt8) : Nat :=
  if l.length = 0 then 0 else if nb l 0 < 128 then 1 else if nb l 0 < 194 \/ 244 < nb l 0 \/ tl l 1 = false then 0 else if nb l 0 < 224 then 2
  else if tl l 2 = false \/ (nb l 0 = 224 /\ nb l 1 < 160) \/ (nb l 0 = 237 /\ 160 <= nb l 1) then 0 else if nb l 0 < 240 then 3
  else if tl l 3 = false \/ (nb l 0 = 240 /\ nb l 1 < 144) \/ (nb l 0 = 244 /\ 144 <= nb l 1) then 0 else 4
def rv (l : List UInt8) : Nat :=
  if sg l = 1 then nb l 0 else if sg l = 2 then (nb l 0 - 192) * 64 + (nb l 1 - 128) else if sg l = 3 then (nb l 0 - 224) * 4096 + (nb l 1 - 128) * 64 + (nb l 2 - 128)
  else if sg l = 4 then (nb l 0 - 240) * 262144 + (nb l 1 - 128) * 4096 + (nb l 2 - 128) * 64 + (nb l 3 - 128) else 65533
def ov (n b0 b1 b2 b3 : Nat) : Nat × Nat :=
  if b0 < 128 then (b0, 1)
  else if b0 / 32 = 6 /\ 1 < n /\ b1 / 64 = 2 then (if 128 <= b0 % 32 * 64 + b1 % 64 then (b0 % 32 * 64 + b1 % 64, 2) else (65533, 1))
  else if b0 / 16 = 14 /\ (1 < n /\ b1 / 64 = 2) /\ 2 < n /\ b2 / 64 = 2 then
    (if 2048 <= b0 % 16 * 4096 + b1 % 64 * 64 + b2 % 64 /\ (b0 % 16 * 4096 + b1 % 64 * 64 + b2 % 64 < 55296 \/ (57344 <= b0 % 16 * 4096 + b1 % 64 * 64 + b2 % 64 /\ b0 % 16 * 4096 + b1 % 64 * 64 + b2 % 64 <= 1114111)) then (b0 % 16 * 4096 + b1 % 64 * 64 + b2 % 64, 3) else (65533, 1))
  else if b0 / 8 = 30 /\ (1 < n /\ b1 / 64 = 2) /\ (2 < n /\ b2 / 64 = 2) /\ 3 < n /\ b3 / 64 = 2 then
    (if 65536 <= b0 % 8 * 262144 + b1 % 64 * 4096 + b2 % 64 * 64 + b3 % 64 /\ (b0 % 8 * 262144 + b1 % 64 * 4096 + b2 % 64 * 64 + b3 % 64 < 55296 \/ (57344 <= b0 % 8 * 262144 + b1 % 64 * 4096 + b2 % 64 * 64 + b3 % 64 /\ b0 % 8 * 262144 + b1 % 64 * 4096 + b2 % 64 * 64 + b3 % 64 <= 1114111))
      then (b0 % 8 * 262144 + b1 % 64 * 4096 + b2 % 64 * 64 + b3 % 64, 4) else (65533, 1))
  else (65533, 1)
theorem gG (s : ByteArray) (pos k : Nat) (h : pos + k < s.size) : (s.get! (pos + k)).toNat = nb (s.data.toList.drop pos) k := by
 have h1 := get_at s (pos + k) h;rw [Nat.add_zero] at h1;rw [h1];unfold nb;rw [List.getElem?_drop, List.getElem?_eq_getElem (by simpa using h)];rfl
theorem sT (s : ByteArray) (pos : Nat) (h : pos < s.size) : Utf8.decode s pos = ov (s.size - pos) (nb (s.data.toList.drop pos) 0) (nb (s.data.toList.drop pos) 1) (nb (s.data.toList.drop pos) 2) (nb (s.data.toList.drop pos) 3) := by
 have g0 := gG s pos 0 (by omega);have c1 : ∀ k, (decide (pos + k < s.size) && ((s.get! (pos + k)).toNat / 64 == 2)) = true ↔ (k < s.size - pos /\ nb (s.data.toList.drop pos) k / 64 = 2) := fun k => by
  by_cases hk : pos + k < s.size
  ·rw [gG s pos k hk]; simp [hk]; omega
  ·simp [hk]; omega
 simp only [Utf8.decode, Utf8.runeError, g0, Bool.and_eq_true, c1];have hv : ∀ c : Nat, (Utf8.valid (c : Int) = true) = (c < 55296 \/ (57344 <= c /\ c <= 1114111)) := fun c => by
  apply propext;simp [Utf8.valid];omega
 simp only [beq_iff_eq, decide_eq_true_eq, hv, ge_iff_le];unfold ov
 by_cases a0 : nb (s.data.toList.drop pos) 0 < 128
 ·rw [if_pos a0, if_pos a0]
 rw [if_neg a0, if_neg a0]
 by_cases a1 : nb (s.data.toList.drop pos) 0 / 32 = 6 /\ 1 < s.size - pos /\ nb (s.data.toList.drop pos) 1 / 64 = 2
 ·rw [if_pos a1, if_pos a1, gG s pos 1 (by omega)]
 rw [if_neg a1, if_neg a1]
 by_cases a2 : nb (s.data.toList.drop pos) 0 / 16 = 14 /\ (1 < s.size - pos /\ nb (s.data.toList.drop pos) 1 / 64 = 2) /\ 2 < s.size - pos /\ nb (s.data.toList.drop pos) 2 / 64 = 2
 ·rw [if_pos (by omega), if_pos a2, gG s pos 1 (by omega), gG s pos 2 (by omega)]
 rw [if_neg (by omega), if_neg a2]
 by_cases a3 : nb (s.data.toList.drop pos) 0 / 8 = 30 /\ (1 < s.size - pos /\ nb (s.data.toList.drop pos) 1 / 64 = 2) /\ (2 < s.size - pos /\ nb (s.data.toList.drop pos) 2 / 64 = 2) /\ 3 < s.size - pos /\ nb (s.data.toList.drop pos) 3 / 64 = 2
 ·rw [if_pos (by omega), if_pos a3, gG s pos 1 (by omega), gG s pos 2 (by omega), gG s pos 3 (by omega)]
 rw [if_neg (by omega), if_neg a3]
theorem gY {l : List UInt8} {k : Nat} : tl l k = true ↔ k < l.length /\ 128 <= nb l k /\ nb l k < 192 := by simp [tl, and_assoc]
theorem gH {l : List UInt8} {k : Nat} : tl l k = false ↔ ¬ (k < l.length /\ 128 <= nb l k /\ nb l k < 192) := by
 rw [<- gY]; simp
theorem sU {l : List UInt8} (h : l.length ≠ 0) : ov l.length (nb l 0) (nb l 1) (nb l 2) (nb l 3) = (rv l, if sg l = 0 then 1 else sg l) := by
 have h0 := fH l 0;have h1 := fH l 1;have h2 := fH l 2;have h3 := fH l 3;have hs : (sg l = 0 /\ ¬ nb l 0 < 128 /\ (nb l 0 < 194 \/ 244 < nb l 0 \/ ¬ (1 < l.length /\ 128 <= nb l 1 /\ nb l 1 < 192) \/ (224 <= nb l 0 /\ (¬ (2 < l.length /\ 128 <= nb l 2 /\ nb l 2 < 192) \/ (nb l 0 = 224 /\ nb l 1 < 160) \/ (nb l 0 = 237 /\ 160 <= nb l 1))) \/ (240 <= nb l 0 /\ (¬ (3 < l.length /\ 128 <= nb l 3 /\ nb l 3 < 192) \/ (nb l 0 = 240 /\ nb l 1 < 144) \/ (nb l 0 = 244 /\ 144 <= nb l 1))))) \/
     (sg l = 1 /\ nb l 0 < 128) \/ (sg l = 2 /\ 194 <= nb l 0 /\ nb l 0 < 224 /\ (1 < l.length /\ 128 <= nb l 1 /\ nb l 1 < 192)) \/
     (sg l = 3 /\ 224 <= nb l 0 /\ nb l 0 < 240 /\ (1 < l.length /\ 128 <= nb l 1 /\ nb l 1 < 192) /\ (2 < l.length /\ 128 <= nb l 2 /\ nb l 2 < 192) /\ ¬ (nb l 0 = 224 /\ nb l 1 < 160) /\ ¬ (nb l 0 = 237 /\ 160 <= nb l 1)) \/
     (sg l = 4 /\ 240 <= nb l 0 /\ nb l 0 <= 244 /\ (1 < l.length /\ 128 <= nb l 1 /\ nb l 1 < 192) /\ (2 < l.length /\ 128 <= nb l 2 /\ nb l 2 < 192) /\ (3 < l.length /\ 128 <= nb l 3 /\ nb l 3 < 192) /\ ¬ (nb l 0 = 240 /\ nb l 1 < 144) /\ ¬ (nb l 0 = 244 /\ 144 <= nb l 1)) := by
   unfold sg;simp only [gH];rw [if_neg h];generalize nb l 0 = b0 at *;generalize nb l 1 = b1 at *;generalize nb l 2 = b2 at *;generalize nb l 3 = b3 at *;generalize l.length = n at *;clear h
   by_cases g0 : b0 < 128
   · rw [if_pos g0]; exact .inr (.inl ⟨rfl, g0⟩)
   rw [if_neg g0]
   by_cases g1 : b0 < 194 \/ 244 < b0 \/ ¬ (1 < n /\ 128 <= b1 /\ b1 < 192)
   · rw [if_pos g1]
     refine .inl ⟨rfl, g0, ?_⟩;rcases g1 with g1 | g1 | g1
     · exact .inl g1
     · exact .inr (.inl g1)
     · exact .inr (.inr (.inl g1))
   rw [if_neg g1];have k1 : 194 <= b0 /\ b0 <= 244 /\ (1 < n /\ 128 <= b1 /\ b1 < 192) := ⟨by omega, by omega, Classical.byContradiction fun h => g1 (.inr (.inr h))⟩;clear g1
   by_cases g2 : b0 < 224
   · rw [if_pos g2]; exact .inr (.inr (.inl ⟨rfl, k1.1, g2, k1.2.2⟩))
   rw [if_neg g2]
   by_cases g3 : ¬ (2 < n /\ 128 <= b2 /\ b2 < 192) \/ (b0 = 224 /\ b1 < 160) \/ (b0 = 237 /\ 160 <= b1)
   · rw [if_pos g3]; exact .inl ⟨rfl, g0, .inr (.inr (.inr (.inl ⟨by omega, g3⟩)))⟩
   rw [if_neg g3];have k3 : (2 < n /\ 128 <= b2 /\ b2 < 192) := Classical.byContradiction fun h => g3 (.inl h)
   have k4 : ¬ (b0 = 224 /\ b1 < 160) := fun h => g3 (.inr (.inl h))
   have k5 : ¬ (b0 = 237 /\ 160 <= b1) := fun h => g3 (.inr (.inr h))
   clear g3
   by_cases g4 : b0 < 240
   · rw [if_pos g4]; exact .inr (.inr (.inr (.inl ⟨rfl, by omega, g4, k1.2.2, k3, k4, k5⟩)))
   rw [if_neg g4]
   by_cases g5 : ¬ (3 < n /\ 128 <= b3 /\ b3 < 192) \/ (b0 = 240 /\ b1 < 144) \/ (b0 = 244 /\ 144 <= b1)
   · rw [if_pos g5]; exact .inl ⟨rfl, g0, .inr (.inr (.inr (.inr ⟨by omega, g5⟩)))⟩
   rw [if_neg g5];exact .inr (.inr (.inr (.inr ⟨rfl, by omega, k1.2.1, k1.2.2, k3, Classical.byContradiction fun h => g5 (.inl h), fun h => g5 (.inr (.inl h)), fun h => g5 (.inr (.inr h))⟩)))
 unfold rv;generalize sg l = sgl at *;generalize nb l 0 = b0 at *;generalize nb l 1 = b1 at *;generalize nb l 2 = b2 at *;generalize nb l 3 = b3 at *;generalize l.length = n at *;clear h;rcases hs with ⟨e, hs⟩ | ⟨e, hs⟩ | ⟨e, hs⟩ | ⟨e, hs⟩ | ⟨e, hs⟩
 ·unfold ov;subst e;simp only [if_true];rw [if_neg (by omega)]
  split
  ·rw [if_neg (by omega)]; rfl
  split
  ·rw [if_neg (by omega)]; rfl
  split
  ·rw [if_neg (by omega)]; rfl
  ·rfl
 ·unfold ov;subst e;rw [if_pos hs];simp
 ·unfold ov;subst e;rw [if_neg (by omega), if_pos (by omega), if_pos (by omega)];simp; omega
 ·unfold ov;subst e;rw [ if_neg (by omega), if_neg (by omega), if_pos (by omega), if_pos (by omega)];simp; omega
 ·unfold ov;subst e;rw [ if_neg (by omega), if_neg (by omega), if_neg (by omega), if_pos (by omega), if_pos (by omega)];simp; omega
theorem jO (s : ByteArray) (pos : Nat) (h : pos < s.size) : Utf8.decode s pos = (rv (s.data.toList.drop pos), if sg (s.data.toList.drop pos) = 0 then 1 else sg (s.data.toList.drop pos)) := by
 have hl : (s.data.toList.drop pos).length = s.size - pos := by simp
 rw [sT s pos h, <- hl];exact sU (by rw [hl]; omega)
theorem eg {l : List UInt8} : sg l = 1 ↔ (l.length ≠ 0 /\ nb l 0 < 128) := by
 unfold sg;constructor
 ·intro h
  split at h
  ·cases h
  ·split at h
   ·exact ⟨by assumption, by assumption⟩
   ·split at h
    ·cases h
    ·split at h
     ·cases h
     ·split at h
      ·cases h
      ·split at h
       ·cases h
       ·split at h <;> cases h
 ·rintro ⟨h1, h2⟩;rw [if_neg h1, if_pos h2]
theorem dU {l : List UInt8} : sg l <= 4 /\ sg l <= l.length := by
 unfold sg;simp only [gH];generalize nb l 0 = b0;generalize nb l 1 = b1;generalize nb l 2 = b2;generalize nb l 3 = b3;generalize l.length = n
 split
 ·omega
 split
 ·omega
 rename_i h0 h1
 by_cases g1 : b0 < 194 \/ 244 < b0 \/ ¬ (1 < n /\ 128 <= b1 /\ b1 < 192)
 ·rw [if_pos g1]; omega
 rw [if_neg g1];have k1 : 1 < n := Classical.byContradiction fun h => g1 (.inr (.inr (fun x => h x.1)))
 split
 ·omega
 by_cases g3 : ¬ (2 < n /\ 128 <= b2 /\ b2 < 192) \/ (b0 = 224 /\ b1 < 160) \/ (b0 = 237 /\ 160 <= b1)
 ·rw [if_pos g3]; omega
 rw [if_neg g3];have k3 : 2 < n := Classical.byContradiction fun h => g3 (.inl (fun x => h x.1))
 split
 ·omega
 by_cases g5 : ¬ (3 < n /\ 128 <= b3 /\ b3 < 192) \/ (b0 = 240 /\ b1 < 144) \/ (b0 = 244 /\ 144 <= b1)
 ·rw [if_pos g5]; omega
 rw [if_neg g5];have k5 : 3 < n := Classical.byContradiction fun h => g5 (.inl (fun x => h x.1))
 omega
theorem gI {l : List UInt8} : (sg l = 2 -> 194 <= nb l 0 /\ nb l 0 < 224 /\ (128 <= nb l 1 /\ nb l 1 < 192)) /\
    (sg l = 3 -> 224 <= nb l 0 /\ nb l 0 < 240 /\ (128 <= nb l 1 /\ nb l 1 < 192) /\ (128 <= nb l 2 /\ nb l 2 < 192) /\ ¬ (nb l 0 = 224 /\ nb l 1 < 160) /\ ¬ (nb l 0 = 237 /\ 160 <= nb l 1)) /\
    (sg l = 4 -> 240 <= nb l 0 /\ nb l 0 <= 244 /\ (128 <= nb l 1 /\ nb l 1 < 192) /\ (128 <= nb l 2 /\ nb l 2 < 192) /\ (128 <= nb l 3 /\ nb l 3 < 192) /\ ¬ (nb l 0 = 240 /\ nb l 1 < 144) /\ ¬ (nb l 0 = 244 /\ 144 <= nb l 1)) := by
 unfold sg;simp only [gH];generalize nb l 0 = b0;generalize nb l 1 = b1;generalize nb l 2 = b2;generalize nb l 3 = b3;generalize l.length = n
 by_cases h0 : n = 0
 ·rw [if_pos h0]; simp
 rw [if_neg h0]
 by_cases h1 : b0 < 128
 ·rw [if_pos h1]; simp
 rw [if_neg h1]
 by_cases g1 : b0 < 194 \/ 244 < b0 \/ ¬ (1 < n /\ 128 <= b1 /\ b1 < 192)
 ·rw [if_pos g1]; simp
 rw [if_neg g1];have k1 : (1 < n /\ 128 <= b1 /\ b1 < 192) := Classical.byContradiction fun h => g1 (.inr (.inr h))
 have k2 : 194 <= b0 /\ b0 <= 244 := ⟨by omega, by omega⟩
 by_cases g2 : b0 < 224
 ·rw [if_pos g2]; exact ⟨fun _ => ⟨k2.1, g2, k1.2⟩, fun h => (by cases h), fun h => (by cases h)⟩
 rw [if_neg g2]
 by_cases g3 : ¬ (2 < n /\ 128 <= b2 /\ b2 < 192) \/ (b0 = 224 /\ b1 < 160) \/ (b0 = 237 /\ 160 <= b1)
 ·rw [if_pos g3]; simp
 rw [if_neg g3];have k3 : (2 < n /\ 128 <= b2 /\ b2 < 192) := Classical.byContradiction fun h => g3 (.inl h)
 by_cases g4 : b0 < 240
 ·rw [if_pos g4];exact ⟨fun h => (by cases h), fun _ => ⟨by omega, g4, k1.2, k3.2, fun h => g3 (.inr (.inl h)), fun h => g3 (.inr (.inr h))⟩, fun h => (by cases h)⟩
 rw [if_neg g4]
 by_cases g5 : ¬ (3 < n /\ 128 <= b3 /\ b3 < 192) \/ (b0 = 240 /\ b1 < 144) \/ (b0 = 244 /\ 144 <= b1)
 ·rw [if_pos g5]; simp
 rw [if_neg g5];exact ⟨fun h => (by cases h), fun h => (by cases h), fun _ => ⟨by omega, k2.2, k1.2, k3.2, (Classical.byContradiction fun h => g5 (.inl h) : 3 < n /\ 128 <= b3 /\ b3 < 192).2, fun h => g5 (.inr (.inl h)), fun h => g5 (.inr (.inr h))⟩⟩
theorem rN (l : List UInt8) (n : Nat) (h : n <= l.length) : l.take n = (List.range n).map fun k => UInt8.ofNat (nb l k) := by
 apply List.ext_getElem?;intro i;rw [List.getElem?_take]
 by_cases hi : i < n
 ·rw [if_pos hi, List.getElem?_map, List.getElem?_range hi];have hl : l[i]? = some l[i] := List.getElem?_eq_getElem (by omega);unfold nb;rw [hl];simp [hl]
 ·rw [if_neg hi, List.getElem?_eq_none (by simpa using hi)]
theorem ow {l : List UInt8} (h : sg l ≠ 0) : Lib.encodeRune (rv l : Int) = l.take (sg l) := by
 have h0 := fH l 0;have h1 := fH l 1;have h2 := fH l 2;have h3 := fH l 3;obtain ⟨f2, f3, f4⟩ := gI (l := l);have hle := (dU (l := l)).2;rw [rN l _ hle];have hc : sg l = 1 \/ sg l = 2 \/ sg l = 3 \/ sg l = 4 := by have := (dU (l := l)).1; omega
 rcases hc with e | e | e | e
 ·have hn := (eg.1 e).2;have hr : rv l = nb l 0 := by unfold rv; rw [if_pos e]
  rw [hr, e];unfold Lib.encodeRune;rw [Lib.encodeRuneZ_one (by omega) (by omega)];simp only [List.range, List.range.loop, List.map_cons, List.map_nil, Int.toNat_natCast]
 ·obtain ⟨a, b, c, d⟩ := f2 e;have hr : rv l = (nb l 0 - 192) * 64 + (nb l 1 - 128) := by unfold rv; rw [if_neg (by omega), if_pos e]
  rw [e];unfold Lib.encodeRune;generalize rv l = r at *;rw [Lib.encodeRuneZ_two (by omega) (by omega)];have e0 : (192 + (r : Int) / 64).toNat = nb l 0 := by omega
  have e1 : (128 + (r : Int) % 64).toNat = nb l 1 := by omega
  simp only [List.range, List.range.loop, List.map_cons, List.map_nil, e0, e1]
 ·obtain ⟨a, b, ⟨c, d⟩, ⟨p, q⟩, u, v⟩ := f3 e;have hr : rv l = (nb l 0 - 224) * 4096 + (nb l 1 - 128) * 64 + (nb l 2 - 128) := by unfold rv; rw [if_neg (by omega), if_neg (by omega), if_pos e]
  rw [e];unfold Lib.encodeRune;generalize rv l = r at *;rw [Lib.encodeRuneZ_three (by omega)];have e0 : (224 + (r : Int) / 4096).toNat = nb l 0 := by omega
  have e1 : (128 + (r : Int) / 64 % 64).toNat = nb l 1 := by omega
  have e2 : (128 + (r : Int) % 64).toNat = nb l 2 := by omega
  simp only [List.range, List.range.loop, List.map_cons, List.map_nil, e0, e1, e2]
 ·obtain ⟨a, b, ⟨c, d⟩, ⟨p, q⟩, ⟨x, y⟩, u, v⟩ := f4 e;have hr : rv l = (nb l 0 - 240) * 262144 + (nb l 1 - 128) * 4096 + (nb l 2 - 128) * 64 + (nb l 3 - 128) := by unfold rv; rw [if_neg (by omega), if_neg (by omega), if_neg (by omega), if_pos e]
  rw [e];unfold Lib.encodeRune;generalize rv l = r at *;rw [Lib.encodeRuneZ_four (by omega) (by omega)];have e0 : (240 + (r : Int) / 262144).toNat = nb l 0 := by omega
  have e1 : (128 + (r : Int) / 4096 % 64).toNat = nb l 1 := by omega
  have e2 : (128 + (r : Int) / 64 % 64).toNat = nb l 2 := by omega
  have e3 : (128 + (r : Int) % 64).toNat = nb l 3 := by omega
  simp only [List.range, List.range.loop, List.map_cons, List.map_nil, e0, e1, e2, e3]
theorem Ai {l : List UInt8} (h : ¬ nb l 0 < 128) : 128 <= rv l := by
 obtain ⟨f2, f3, f4⟩ := gI (l := l);have hc : sg l = 0 \/ sg l = 2 \/ sg l = 3 \/ sg l = 4 := by
  have := (dU (l := l)).1;have h1 : sg l ≠ 1 := fun e => h (eg.1 e).2
  omega
 unfold rv;rcases hc with e | e | e | e
 ·rw [e]; simp
 ·have := f2 e; rw [if_neg (by omega), if_pos e]; omega
 ·have := f3 e; rw [if_neg (by omega), if_neg (by omega), if_pos e]; omega
 ·have := f4 e; rw [if_neg (by omega), if_neg (by omega), if_neg (by omega), if_pos e]; omega
theorem kr {l : List UInt8} : Lib.hasPrefix l [239, 191, 189] = true ↔ (3 <= l.length /\ nb l 0 = 239 /\ nb l 1 = 191 /\ nb l 2 = 189) := by
 unfold Lib.hasPrefix nb
 match l with
 | [] => simp
 | [a] => simp
 | [a, b] => simp
 | a :: b :: c :: r =>
  simp [<- UInt8.toNat_inj];exact ⟨fun ⟨h1, h2, h3⟩ => ⟨h1.symm, h2.symm, h3.symm⟩, fun ⟨h1, h2, h3⟩ => ⟨h1.symm, h2.symm, h3.symm⟩⟩
theorem rO {l : List UInt8} (h0 : l.length ≠ 0) : (rv l = 65533 /\ Lib.hasPrefix l [239, 191, 189] = false) ↔ sg l = 0 := by
 obtain ⟨f2, f3, f4⟩ := gI (l := l);have h1 := fH l 0;constructor
 ·rintro ⟨hr, hp⟩;have hp' : ¬ (3 <= l.length /\ nb l 0 = 239 /\ nb l 1 = 191 /\ nb l 2 = 189) := fun h => by rw [kr.2 h] at hp; cases hp
  have hle := dU (l := l);have hc : sg l = 0 \/ sg l = 1 \/ sg l = 2 \/ sg l = 3 \/ sg l = 4 := by omega
  unfold rv at hr;rcases hc with e | e | e | e | e
  ·exact e
  ·rw [if_pos e] at hr; have := (eg.1 e).2; omega
  ·have := f2 e; rw [if_neg (by omega), if_pos e] at hr; omega
  ·have := f3 e; rw [if_neg (by omega), if_neg (by omega), if_pos e] at hr; omega
  ·have := f4 e; rw [if_neg (by omega), if_neg (by omega), if_neg (by omega), if_pos e] at hr; omega
 ·intro e;refine ⟨by unfold rv; rw [e]; simp, ?_⟩;cases hp : Lib.hasPrefix l [239, 191, 189] with
  | false => rfl
  | true =>
   obtain ⟨h3, a, b, c⟩ := kr.1 hp;exfalso;unfold sg at e;simp only [gH, a, b, c] at e;rw [if_neg h0] at e;simp at e;omega
theorem cT (l : List UInt8) (p k : Nat) : nb (l.drop p) k = nb l (p + k) := by unfold nb; rw [List.getElem?_drop]
theorem yb (l : List UInt8) (p k : Nat) : tl (l.drop p) k = tl l (p + k) := by
 unfold tl;rw [cT, List.length_drop];congr 2;exact decide_eq_decide.2 (by omega)
theorem dw (s : ByteArray) (i : Nat) (h : i < s.size) : s[i].toNat = nb s.data.toList i := by
 unfold nb;rw [List.getElem?_eq_getElem (by simpa using h)];rfl
theorem kt (s : ByteArray) (i : Nat) (w : World) (hs : s.size <= 9223372036854775000) (hi : i <= 9223372036854775000) :
    Calls Tryz.prog 77 #[.string s, .int .i64 i] w fun e w' => e = .returned (.bool (tl s.data.toList i)) /\ w = w' := by
 have hl : s.data.toList.length = s.size := by simp
 by_cases h1 : i < s.size
 ·have hx := dw s i h1;have HT : Hid (tl s.data.toList i = (decide (128 <= nb s.data.toList i) && decide (nb s.data.toList i < 192))) := aa (by unfold tl; rw [hl]; simp [h1]);rw [HT.out];clear HT hl;generalize nb s.data.toList i = b at *
  by_cases h2 : 128 <= b
  ·by_cases h3 : b < 192
   ·have HE : Hid ((decide (128 <= b) && decide (b < 192)) = true) := aa (by simp [h2, h3]);have h2' : (128 : Int) <= b := by omega
    have h3' : (b : Int) < 192 := by omega
    rw [HE.out];go_enter Tryz.func77, Tryz.ntmps77;go_wp2_with fail;go_ret;exact ⟨rfl, rfl⟩
   ·have HE : Hid ((decide (128 <= b) && decide (b < 192)) = false) := aa (by simp [h3]);have h2' : (128 : Int) <= b := by omega
    have h3' : ¬ (b : Int) < 192 := by omega
    rw [HE.out];go_enter Tryz.func77, Tryz.ntmps77;go_wp2_with fail;go_ret;exact ⟨rfl, rfl⟩
  ·have HE : Hid ((decide (128 <= b) && decide (b < 192)) = false) := aa (by simp [h2]);have h2' : ¬ (128 : Int) <= b := by omega
   rw [HE.out];go_enter Tryz.func77, Tryz.ntmps77;go_wp2_with fail;go_ret;exact ⟨rfl, rfl⟩
 ·have HE : Hid (tl s.data.toList i = false) := aa (by rw [gH, hl]; omega);rw [HE.out];clear hl;go_enter Tryz.func77, Tryz.ntmps77;go_wp2_with fail;go_ret;exact ⟨rfl, rfl⟩
theorem Sq572646 {P : Prop} (h : P := by
 first
 | (guard_hyp z572646a; have d1' : ¬ (s[i + 1].toNat : Int) < 144 := by omega)
 | (have d1' : (s[i + 1].toNat : Int) < 144 := by omega)
 have q240 : (((s[i].toNat : Nat) : Int) == 240) = true := by simp; omega
 first
 |(
  guard_hyp z572646a
  have q244 : (((s[i].toNat : Nat) : Int) == 244) = false := by simp; omega
  rw [if_neg (by simp; omega)])
 | (rw [if_pos (.inr (.inl ⟨e3, d1⟩))])
 go_enter Tryz.func44, Tryz.ntmps44;go_wp2_with fail;refine T1.out.mono ?_; rintro e w' ⟨rfl, rfl⟩;go_wp2_with fail;refine T2.out.mono ?_; rintro e w' ⟨rfl, rfl⟩;go_wp2_with fail;refine T3.out.mono ?_; rintro e w' ⟨rfl, rfl⟩;go_wp2_with fail;go_ret;exact ⟨rfl, rfl⟩) : P := h
theorem Sq590333 {P : Prop} (h : P := by
 first
 | (guard_hyp z590333b; have d1' : ¬ (144 : Int) <= s[i + 1].toNat := by omega)
 | (have d1' : (144 : Int) <= s[i + 1].toNat := by omega)
 have q244 : (((s[i].toNat : Nat) : Int) == 244) = true := by simp; omega
 first
 | (guard_hyp z590333a; rw [if_pos (.inr (.inr ⟨e4, d1⟩))])
 | (rw [if_neg (by simp; omega)])
 go_enter Tryz.func44, Tryz.ntmps44;go_wp2_with fail;refine T1.out.mono ?_; rintro e w' ⟨rfl, rfl⟩;go_wp2_with fail;refine T2.out.mono ?_; rintro e w' ⟨rfl, rfl⟩;go_wp2_with fail;refine T3.out.mono ?_; rintro e w' ⟨rfl, rfl⟩;go_wp2_with fail;go_ret;exact ⟨rfl, rfl⟩) : P := h
theorem uM (s : ByteArray) (i : Nat) (w : World) (hs : s.size <= 9223372036854770000) (hi : i <= 9223372036854770000) :
    Calls Tryz.prog 44 #[.string s, .int .i64 i] w fun e w' => e = .returned (.int .i64 (sg (s.data.toList.drop i))) /\ w = w' := by
 have hl : (s.data.toList.drop i).length = s.size - i := by simp
 by_cases h1 : i < s.size
 ·have hx := dw s i h1;have T1 := aa (kt s (i + 1) w (by omega) (by omega));have T2 := aa (kt s (i + 2) w (by omega) (by omega));have T3 := aa (kt s (i + 3) w (by omega) (by omega));have HS : Hid (sg (s.data.toList.drop i) = if nb s.data.toList i < 128 then 1 else if nb s.data.toList i < 194 \/ 244 < nb s.data.toList i \/ tl s.data.toList (i + 1) = false then 0 else if nb s.data.toList i < 224 then 2
      else if tl s.data.toList (i + 2) = false \/ (nb s.data.toList i = 224 /\ nb s.data.toList (i + 1) < 160) \/ (nb s.data.toList i = 237 /\ 160 <= nb s.data.toList (i + 1)) then 0 else if nb s.data.toList i < 240 then 3
      else if tl s.data.toList (i + 3) = false \/ (nb s.data.toList i = 240 /\ nb s.data.toList (i + 1) < 144) \/ (nb s.data.toList i = 244 /\ 144 <= nb s.data.toList (i + 1)) then 0 else 4) := aa (by
    unfold sg;rw [if_neg (by omega)];simp only [cT, yb, Nat.add_zero])
  rw [HS.out];clear HS hl;have hd : tl s.data.toList (i + 1) = true -> ∃ h : i + 1 < s.size, s[i + 1].toNat = nb s.data.toList (i + 1) := fun h => by
   have := (gY.1 h).1;simp at this;exact ⟨this, dw s (i + 1) this⟩
  have HD := aa hd;clear hd;generalize nb s.data.toList i = b at *;subst hx;generalize hdd : nb s.data.toList (i + 1) = d at *;generalize tl s.data.toList (i + 1) = t1 at *;generalize tl s.data.toList (i + 2) = t2 at *;generalize tl s.data.toList (i + 3) = t3 at *;clear hdd
  by_cases g0 : s[i].toNat < 128
  ·have g0' : (s[i].toNat : Int) < 128 := by omega
   rw [if_pos g0];clear HD T1 T2 T3;go_enter Tryz.func44, Tryz.ntmps44;go_wp2_with fail;go_ret;exact ⟨rfl, rfl⟩
  rw [if_neg g0];have g0' : ¬ (s[i].toNat : Int) < 128 := by omega
  by_cases g1 : s[i].toNat < 194
  ·have g1' : (s[i].toNat : Int) < 194 := by omega
   rw [if_pos (.inl g1)];clear HD;go_enter Tryz.func44, Tryz.ntmps44;go_wp2_with fail;go_ret;exact ⟨rfl, rfl⟩
  have g1' : ¬ (s[i].toNat : Int) < 194 := by omega
  by_cases g2 : 244 < s[i].toNat
  ·have g2' : (244 : Int) < s[i].toNat := by omega
   rw [if_pos (.inr (.inl g2))];go_enter Tryz.func44, Tryz.ntmps44;go_wp2_with fail;go_ret;exact ⟨rfl, rfl⟩
  have g2' : ¬ (244 : Int) < s[i].toNat := by omega
  cases t1 with
  | false =>
   rw [if_pos (.inr (.inr rfl))];go_enter Tryz.func44, Tryz.ntmps44;go_wp2_with fail;refine T1.out.mono ?_; rintro e w' ⟨rfl, rfl⟩;go_wp2_with fail;go_ret;exact ⟨rfl, rfl⟩
  | true =>
   obtain ⟨hd1, hd2⟩ := HD.out rfl;clear HD;subst hd2;rw [if_neg (by simp; omega)]
   by_cases g3 : s[i].toNat < 224
   ·have g3' : (s[i].toNat : Int) < 224 := by omega
    rw [if_pos g3];go_enter Tryz.func44, Tryz.ntmps44;go_wp2_with fail;refine T1.out.mono ?_; rintro e w' ⟨rfl, rfl⟩;go_wp2_with fail;go_ret;exact ⟨rfl, rfl⟩
   rw [if_neg g3];have g3' : ¬ (s[i].toNat : Int) < 224 := by omega
   have B1 : (s[i].toNat : Int) <= 244 := by omega
   clear B1;cases t2 with
   | false =>
    rw [if_pos (.inl rfl)];go_enter Tryz.func44, Tryz.ntmps44;go_wp2_with fail;refine T1.out.mono ?_; rintro e w' ⟨rfl, rfl⟩;go_wp2_with fail;refine T2.out.mono ?_; rintro e w' ⟨rfl, rfl⟩;go_wp2_with fail;go_ret;exact ⟨rfl, rfl⟩
   | true =>
    by_cases e1 : s[i].toNat = 224
    ·by_cases d1 : s[i + 1].toNat < 160
     ·have d1' : (s[i + 1].toNat : Int) < 160 := by omega
      have q224 : (((s[i].toNat : Nat) : Int) == 224) = true := by simp; omega
      rw [if_pos (.inr (.inl ⟨e1, d1⟩))];go_enter Tryz.func44, Tryz.ntmps44;go_wp2_with fail;refine T1.out.mono ?_; rintro e w' ⟨rfl, rfl⟩;go_wp2_with fail;refine T2.out.mono ?_; rintro e w' ⟨rfl, rfl⟩;go_wp2_with fail;go_ret;exact ⟨rfl, rfl⟩
     ·have d1' : ¬ (s[i + 1].toNat : Int) < 160 := by omega
      have g4 : (s[i].toNat : Int) < 240 := by omega
      have q224 : (((s[i].toNat : Nat) : Int) == 224) = true := by simp; omega
      have q237 : (((s[i].toNat : Nat) : Int) == 237) = false := by simp; omega
      rw [if_neg (by simp; omega), if_pos (by omega)];go_enter Tryz.func44, Tryz.ntmps44;go_wp2_with fail;refine T1.out.mono ?_; rintro e w' ⟨rfl, rfl⟩;go_wp2_with fail;refine T2.out.mono ?_; rintro e w' ⟨rfl, rfl⟩;go_wp2_with fail;go_ret;exact ⟨rfl, rfl⟩
    have q224 : (((s[i].toNat : Nat) : Int) == 224) = false := by simp; omega
    by_cases e2 : s[i].toNat = 237
    ·by_cases d1 : 160 <= s[i + 1].toNat
     ·have d1' : (160 : Int) <= s[i + 1].toNat := by omega
      have q237 : (((s[i].toNat : Nat) : Int) == 237) = true := by simp; omega
      rw [if_pos (.inr (.inr ⟨e2, d1⟩))];go_enter Tryz.func44, Tryz.ntmps44;go_wp2_with fail;refine T1.out.mono ?_; rintro e w' ⟨rfl, rfl⟩;go_wp2_with fail;refine T2.out.mono ?_; rintro e w' ⟨rfl, rfl⟩;go_wp2_with fail;go_ret;exact ⟨rfl, rfl⟩
     ·have d1' : ¬ (160 : Int) <= s[i + 1].toNat := by omega
      have g4 : (s[i].toNat : Int) < 240 := by omega
      have q237 : (((s[i].toNat : Nat) : Int) == 237) = true := by simp; omega
      rw [if_neg (by simp; omega), if_pos (by omega)];go_enter Tryz.func44, Tryz.ntmps44;go_wp2_with fail;refine T1.out.mono ?_; rintro e w' ⟨rfl, rfl⟩;go_wp2_with fail;refine T2.out.mono ?_; rintro e w' ⟨rfl, rfl⟩;go_wp2_with fail;go_ret;exact ⟨rfl, rfl⟩
    have q237 : (((s[i].toNat : Nat) : Int) == 237) = false := by simp; omega
    rw [if_neg (by simp; omega)]
    by_cases g4 : s[i].toNat < 240
    ·have g4' : (s[i].toNat : Int) < 240 := by omega
     rw [if_pos g4];go_enter Tryz.func44, Tryz.ntmps44;go_wp2_with fail;refine T1.out.mono ?_; rintro e w' ⟨rfl, rfl⟩;go_wp2_with fail;refine T2.out.mono ?_; rintro e w' ⟨rfl, rfl⟩;go_wp2_with fail;go_ret;exact ⟨rfl, rfl⟩
    have g4' : ¬ (s[i].toNat : Int) < 240 := by omega
    rw [if_neg g4];cases t3 with
    | false =>
     rw [if_pos (.inl rfl)];go_enter Tryz.func44, Tryz.ntmps44;go_wp2_with fail;refine T1.out.mono ?_; rintro e w' ⟨rfl, rfl⟩;go_wp2_with fail;refine T2.out.mono ?_; rintro e w' ⟨rfl, rfl⟩;go_wp2_with fail;refine T3.out.mono ?_; rintro e w' ⟨rfl, rfl⟩;go_wp2_with fail;go_ret;exact ⟨rfl, rfl⟩
    | true =>
     by_cases e3 : s[i].toNat = 240
     ·by_cases d1 : s[i + 1].toNat < 144
      ·exact Sq572646
      ·have z572646a := trivial;exact Sq572646
     have q240 : (((s[i].toNat : Nat) : Int) == 240) = false := by simp; omega
     by_cases e4 : s[i].toNat = 244
     ·by_cases d1 : 144 <= s[i + 1].toNat
      ·have z590333a := trivial;exact Sq590333
      ·have z590333b := trivial;exact Sq590333
     have q244 : (((s[i].toNat : Nat) : Int) == 244) = false := by simp; omega
     rw [if_neg (by simp; omega)];go_enter Tryz.func44, Tryz.ntmps44;go_wp2_with fail;refine T1.out.mono ?_; rintro e w' ⟨rfl, rfl⟩;go_wp2_with fail;refine T2.out.mono ?_; rintro e w' ⟨rfl, rfl⟩;go_wp2_with fail;refine T3.out.mono ?_; rintro e w' ⟨rfl, rfl⟩;go_wp2_with fail;go_ret;exact ⟨rfl, rfl⟩
 ·have HE : Hid (sg (s.data.toList.drop i) = 0) := aa (by unfold sg; rw [if_pos (by omega)]);have h1' : (s.size : Int) <= i := by omega
  rw [HE.out];clear hl;go_enter Tryz.func44, Tryz.ntmps44;go_wp2_with fail;go_ret;exact ⟨rfl, rfl⟩
def aV (c : Nat) : Bool := decide ((97 <= c /\ c <= 122) \/ (65 <= c /\ c <= 90) \/ c = 95)
def cP (c : Nat) : Bool := decide (48 <= c /\ c <= 57)
def dx (c : Nat) : Int := if 48 <= c /\ c <= 57 then (c : Int) - 48 else if 97 <= c /\ c <= 102 then (c : Int) - 97 + 10 else if 65 <= c /\ c <= 70 then (c : Int) - 65 + 10 else -1
def lF (k : Nat) : UInt8 := if k < 10 then UInt8.ofNat (48 + k) else UInt8.ofNat (87 + k)
def cW (c : Nat) : List UInt8 := [lF (c / 16), lF (c % 16)]
def dC (l : List UInt8) : Nat := if sg l = 0 then 1 else sg l
def fP (l : List UInt8) : List UInt8 :=
  if sg l = 0 \/ nb l 0 = 127 then [92, 120] ++ cW (nb l 0)
  else if nb l 0 = 39 \/ nb l 0 = 92 then [92, UInt8.ofNat (nb l 0)]
  else if nb l 0 = 10 then [92, 110] else if nb l 0 = 9 then [92, 116] else if nb l 0 = 13 then [92, 114]
  else if nb l 0 < 32 then [92, 120] ++ cW (nb l 0) else l.take (sg l)
theorem fq (l : List UInt8) : 1 <= dC l := by unfold dC; split <;> omega
theorem i9 {l : List UInt8} (h : l.length ≠ 0) : dC l <= l.length := by
 have := dU (l := l);unfold dC; split <;> omega
theorem lT (l : List UInt8) : (fP l).length <= 4 := by
 have := dU (l := l);unfold fP cW
 repeat' split
 all_goals simp
 omega
def dD (l : List UInt8) : List UInt8 := if h : l.length = 0 then [] else fP l ++ dD (l.drop (dC l))
termination_by l.length
decreasing_by
  have := fq l;simp only [List.length_drop];omega
theorem iL {l : List UInt8} (h : l.length = 0) : dD l = [] := by unfold dD; rw [dif_pos h]
theorem gJ {l : List UInt8} (h : l.length ≠ 0) : dD l = fP l ++ dD (l.drop (dC l)) := by rw [dD, dif_neg h]
theorem qp (l : List UInt8) : (dD l).length <= 4 * l.length := by
 induction hn : l.length using Nat.strongRecOn generalizing l with
 | _ n ih =>
  by_cases h : l.length = 0
  ·rw [iL h]; simp
  rw [gJ h, List.length_append];have h1 := fq l;have h2 := i9 h;have h3 := lT l;have h4 := ih (l.drop (dC l)).length (by simp only [List.length_drop]; omega) (l.drop (dC l)) rfl;simp only [List.length_drop] at h4;omega
def ox (l : List UInt8) (i : Nat) (d : List UInt8) : Prop := i <= l.length /\ d.length <= 4 * i /\ d ++ dD (l.drop i) = dD l
theorem qr (l : List UInt8) : ox l 0 [] := ⟨by omega, by simp, by simp⟩
theorem qs {l d : List UInt8} {i : Nat} (h : ox l i d) (hi : i < l.length) : ox l (i + dC (l.drop i)) (d ++ fP (l.drop i)) := by
 obtain ⟨h1, h2, h3⟩ := h;have hl : (l.drop i).length ≠ 0 := by simp; omega
 have a := i9 hl;have b := fq (l.drop i);have c := lT (l.drop i);rw [List.length_drop] at a;refine ⟨by omega, by rw [List.length_append]; omega, ?_⟩;rw [gJ hl, List.drop_drop] at h3;rw [<- h3, List.append_assoc]
theorem sV {l d : List UInt8} {i : Nat} (h : ox l i d) (hi : l.length <= i) : d = dD l := by
 obtain ⟨h1, h2, h3⟩ := h;rw [iL (by simp; omega), List.append_nil] at h3;exact h3
def ai (l : List UInt8) : ByteArray := ⟨l.toArray⟩
theorem aE (l : List UInt8) : (ai l).toList = l := by simp [ai]
theorem aj (l : List UInt8) : (ai l).size = l.length := by simp [ai, ByteArray.size]
theorem iz (l : List UInt8) : strOfNums (l.map fun c => (c.toNat : Int)) = ai l := by
 unfold strOfNums ai;rw [List.map_map];congr 2;refine (List.map_congr_left fun c _ => ?_).trans (List.map_id l);simp
theorem uN (k : Nat) (h : k < 16) : ∀ h' : k < (ByteArray.mk #[48, 49, 50, 51, 52, 53, 54, 55, 56, 57, 97, 98, 99, 100, 101, 102]).size, (ByteArray.mk #[48, 49, 50, 51, 52, 53, 54, 55, 56, 57, 97, 98, 99, 100, 101, 102])[k].toNat = (lF k).toNat := by
 have : k = 0 \/ k = 1 \/ k = 2 \/ k = 3 \/ k = 4 \/ k = 5 \/ k = 6 \/ k = 7 \/ k = 8 \/ k = 9 \/ k = 10 \/ k = 11 \/ k = 12 \/ k = 13 \/ k = 14 \/ k = 15 := by omega
 rcases this with h | h | h | h | h | h | h | h | h | h | h | h | h | h | h | h <;> subst h <;> intro _ <;> rfl
theorem yc (w : World) (b d : UInt8) : (convert 75 9 (.slice (some ⟨w.heap.size, 0, none⟩) 2 2)).run Tryz.prog (w.alloc (.cells #[.int .u8 b.toNat, .int .u8 d.toNat] 5)).drew = .ok (.string (ai [b, d])) (w.alloc (.cells #[.int .u8 b.toNat, .int .u8 d.toNat] 5)).drew := by
 have hc := run_convert_bytes_arg (P := Tryz.prog) (w.alloc (.cells #[.int .u8 b.toNat, .int .u8 d.toNat] 5)).drew 75 5 Tryz.underlying75 Tryz.underlying5 w.heap.size 0 2 2 ([b, d].map fun c => (c.toNat : Int)) rfl (fun i hi => by
  have : i = 0 \/ i = 1 := by omega
  rcases this with h | h <;> subst h <;> simp) 9 Tryz.underlying9
 rw [iz] at hc;exact hc
theorem mR (c : Nat) (hc : c < 256) (w : World) :
    Calls Tryz.prog 45 #[.int .u8 c] w fun e w' => e = .returned (.string (ai (cW c))) /\ Below w.heap.size w w' := by
 rw [show cW c = [lF (c / 16), lF (c % 16)] from rfl];have hq : (c : Int).tdiv 16 = ((c / 16 : Nat) : Int) := by rw [Int.tdiv_eq_ediv_of_nonneg (by omega)]; omega
 have hr : (c : Int).tmod 16 = ((c % 16 : Nat) : Int) := by rw [Int.tmod_eq_emod_of_nonneg (by omega)]; omega
 have h1 : c / 16 < 16 := by omega
 have h2 : c % 16 < 16 := by omega
 have L1 := uN _ h1 h1;have L2 := uN _ h2 h2;generalize c / 16 = p at *;generalize c % 16 = q at *;go_enter Tryz.func45, Tryz.ntmps45;go_wp2_with fail;have HV := yc w (lF p) (lF q)
 go_region
 go_wp2_with fail;go_ret;exact ⟨rfl, ((Below.refl _ _).alloc (Nat.le_refl _) _).drew⟩
end Go.Proofs.YteljlahcdipilaaGreat

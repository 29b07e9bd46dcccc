/- Layer 5: what quotes make of a text, in plain lists of bytes; the same by runes. Conditions: none. -/
import Derived.Test.YtangldmjgidgcaaS1
import Derived.Lib.Strings
namespace Go.Proofs.Ytangldmjgidgcaa
open Go.RowKit

theorem nb_zero {l : List UInt8} (h : l.length ≠ 0) : ∃ c r, l = c :: r ∧ nb l 0 = c.toNat := by
  cases l with
  | nil => simp at h
  | cons c r => exact ⟨c, r, rfl, rfl⟩
theorem sg_one {l : List UInt8} : sg l = 1 ↔ (l.length ≠ 0 ∧ nb l 0 < 128) := by
  unfold sg
  constructor
  · intro h
    split at h
    · cases h
    · split at h
      · exact ⟨by assumption, by assumption⟩
      · split at h
        · cases h
        · split at h
          · cases h
          · split at h
            · cases h
            · split at h
              · cases h
              · split at h <;> cases h
  · rintro ⟨h1, h2⟩
    rw [if_neg h1, if_pos h2]
theorem sg_le {l : List UInt8} : sg l ≤ 4 ∧ sg l ≤ l.length := by
  unfold sg
  simp only [tl_false]
  generalize nb l 0 = b0
  generalize nb l 1 = b1
  generalize nb l 2 = b2
  generalize nb l 3 = b3
  generalize l.length = n
  split
  · omega
  split
  · omega
  rename_i h0 h1
  by_cases g1 : b0 < 194 ∨ 244 < b0 ∨ ¬ (1 < n ∧ 128 ≤ b1 ∧ b1 < 192)
  · rw [if_pos g1]; omega
  rw [if_neg g1]
  have k1 : 1 < n := Classical.byContradiction fun h => g1 (.inr (.inr (fun x => h x.1)))
  split
  · omega
  by_cases g3 : ¬ (2 < n ∧ 128 ≤ b2 ∧ b2 < 192) ∨ (b0 = 224 ∧ b1 < 160) ∨ (b0 = 237 ∧ 160 ≤ b1)
  · rw [if_pos g3]; omega
  rw [if_neg g3]
  have k3 : 2 < n := Classical.byContradiction fun h => g3 (.inl (fun x => h x.1))
  split
  · omega
  by_cases g5 : ¬ (3 < n ∧ 128 ≤ b3 ∧ b3 < 192) ∨ (b0 = 240 ∧ b1 < 144) ∨ (b0 = 244 ∧ 144 ≤ b1)
  · rw [if_pos g5]; omega
  rw [if_neg g5]
  have k5 : 3 < n := Classical.byContradiction fun h => g5 (.inl (fun x => h x.1))
  omega

/-- The facts of a sign of two, three, four bytes. -/
theorem sg_facts {l : List UInt8} : (sg l = 2 → 194 ≤ nb l 0 ∧ nb l 0 < 224 ∧ (128 ≤ nb l 1 ∧ nb l 1 < 192)) ∧
    (sg l = 3 → 224 ≤ nb l 0 ∧ nb l 0 < 240 ∧ (128 ≤ nb l 1 ∧ nb l 1 < 192) ∧ (128 ≤ nb l 2 ∧ nb l 2 < 192) ∧ ¬ (nb l 0 = 224 ∧ nb l 1 < 160) ∧ ¬ (nb l 0 = 237 ∧ 160 ≤ nb l 1)) ∧
    (sg l = 4 → 240 ≤ nb l 0 ∧ nb l 0 ≤ 244 ∧ (128 ≤ nb l 1 ∧ nb l 1 < 192) ∧ (128 ≤ nb l 2 ∧ nb l 2 < 192) ∧ (128 ≤ nb l 3 ∧ nb l 3 < 192) ∧ ¬ (nb l 0 = 240 ∧ nb l 1 < 144) ∧ ¬ (nb l 0 = 244 ∧ 144 ≤ nb l 1)) := by
  unfold sg
  simp only [tl_false]
  generalize nb l 0 = b0
  generalize nb l 1 = b1
  generalize nb l 2 = b2
  generalize nb l 3 = b3
  generalize l.length = n
  by_cases h0 : n = 0
  · rw [if_pos h0]; simp
  rw [if_neg h0]
  by_cases h1 : b0 < 128
  · rw [if_pos h1]; simp
  rw [if_neg h1]
  by_cases g1 : b0 < 194 ∨ 244 < b0 ∨ ¬ (1 < n ∧ 128 ≤ b1 ∧ b1 < 192)
  · rw [if_pos g1]; simp
  rw [if_neg g1]
  have k1 : (1 < n ∧ 128 ≤ b1 ∧ b1 < 192) := Classical.byContradiction fun h => g1 (.inr (.inr h))
  have k2 : 194 ≤ b0 ∧ b0 ≤ 244 := ⟨by omega, by omega⟩
  by_cases g2 : b0 < 224
  · rw [if_pos g2]; exact ⟨fun _ => ⟨k2.1, g2, k1.2⟩, fun h => (by cases h), fun h => (by cases h)⟩
  rw [if_neg g2]
  by_cases g3 : ¬ (2 < n ∧ 128 ≤ b2 ∧ b2 < 192) ∨ (b0 = 224 ∧ b1 < 160) ∨ (b0 = 237 ∧ 160 ≤ b1)
  · rw [if_pos g3]; simp
  rw [if_neg g3]
  have k3 : (2 < n ∧ 128 ≤ b2 ∧ b2 < 192) := Classical.byContradiction fun h => g3 (.inl h)
  by_cases g4 : b0 < 240
  · rw [if_pos g4]
    exact ⟨fun h => (by cases h), fun _ => ⟨by omega, g4, k1.2, k3.2, fun h => g3 (.inr (.inl h)), fun h => g3 (.inr (.inr h))⟩, fun h => (by cases h)⟩
  rw [if_neg g4]
  by_cases g5 : ¬ (3 < n ∧ 128 ≤ b3 ∧ b3 < 192) ∨ (b0 = 240 ∧ b1 < 144) ∨ (b0 = 244 ∧ 144 ≤ b1)
  · rw [if_pos g5]; simp
  rw [if_neg g5]
  exact ⟨fun h => (by cases h), fun h => (by cases h), fun _ => ⟨by omega, k2.2, k1.2, k3.2, (Classical.byContradiction fun h => g5 (.inl h) : 3 < n ∧ 128 ≤ b3 ∧ b3 < 192).2, fun h => g5 (.inr (.inl h)), fun h => g5 (.inr (.inr h))⟩⟩

theorem take_nb (l : List UInt8) (n : Nat) (h : n ≤ l.length) : l.take n = (List.range n).map fun k => UInt8.ofNat (nb l k) := by
  apply List.ext_getElem?
  intro i
  rw [List.getElem?_take]
  by_cases hi : i < n
  · rw [if_pos hi, List.getElem?_map, List.getElem?_range hi]
    have hl : l[i]? = some l[i] := List.getElem?_eq_getElem (by omega)
    unfold nb
    rw [hl]
    simp [hl]
  · rw [if_neg hi, List.getElem?_eq_none (by simpa using hi)]

/-- The rune, written as bytes, is the sign. -/
theorem encode_sign {l : List UInt8} (h : sg l ≠ 0) : Lib.encodeRune (rv l : Int) = l.take (sg l) := by
  have h0 := nb_lt l 0
  have h1 := nb_lt l 1
  have h2 := nb_lt l 2
  have h3 := nb_lt l 3
  obtain ⟨f2, f3, f4⟩ := sg_facts (l := l)
  have hle := (sg_le (l := l)).2
  rw [take_nb l _ hle]
  have hc : sg l = 1 ∨ sg l = 2 ∨ sg l = 3 ∨ sg l = 4 := by have := (sg_le (l := l)).1; omega
  rcases hc with e | e | e | e
  · have hn := (sg_one.1 e).2
    have hr : rv l = nb l 0 := by unfold rv; rw [if_pos e]
    rw [hr, e]
    unfold Lib.encodeRune
    rw [Lib.encodeRuneZ_one (by omega) (by omega)]
    simp only [List.range, List.range.loop, List.map_cons, List.map_nil, Int.toNat_natCast]
  · obtain ⟨a, b, c, d⟩ := f2 e
    have hr : rv l = (nb l 0 - 192) * 64 + (nb l 1 - 128) := by unfold rv; rw [if_neg (by omega), if_pos e]
    rw [e]
    unfold Lib.encodeRune
    generalize rv l = r at *
    rw [Lib.encodeRuneZ_two (by omega) (by omega)]
    have e0 : (192 + (r : Int) / 64).toNat = nb l 0 := by omega
    have e1 : (128 + (r : Int) % 64).toNat = nb l 1 := by omega
    simp only [List.range, List.range.loop, List.map_cons, List.map_nil, e0, e1]
  · obtain ⟨a, b, ⟨c, d⟩, ⟨p, q⟩, u, v⟩ := f3 e
    have hr : rv l = (nb l 0 - 224) * 4096 + (nb l 1 - 128) * 64 + (nb l 2 - 128) := by unfold rv; rw [if_neg (by omega), if_neg (by omega), if_pos e]
    rw [e]
    unfold Lib.encodeRune
    generalize rv l = r at *
    rw [Lib.encodeRuneZ_three (by omega)]
    have e0 : (224 + (r : Int) / 4096).toNat = nb l 0 := by omega
    have e1 : (128 + (r : Int) / 64 % 64).toNat = nb l 1 := by omega
    have e2 : (128 + (r : Int) % 64).toNat = nb l 2 := by omega
    simp only [List.range, List.range.loop, List.map_cons, List.map_nil, e0, e1, e2]
  · obtain ⟨a, b, ⟨c, d⟩, ⟨p, q⟩, ⟨x, y⟩, u, v⟩ := f4 e
    have hr : rv l = (nb l 0 - 240) * 262144 + (nb l 1 - 128) * 4096 + (nb l 2 - 128) * 64 + (nb l 3 - 128) := by unfold rv; rw [if_neg (by omega), if_neg (by omega), if_neg (by omega), if_pos e]
    rw [e]
    unfold Lib.encodeRune
    generalize rv l = r at *
    rw [Lib.encodeRuneZ_four (by omega) (by omega)]
    have e0 : (240 + (r : Int) / 262144).toNat = nb l 0 := by omega
    have e1 : (128 + (r : Int) / 4096 % 64).toNat = nb l 1 := by omega
    have e2 : (128 + (r : Int) / 64 % 64).toNat = nb l 2 := by omega
    have e3 : (128 + (r : Int) % 64).toNat = nb l 3 := by omega
    simp only [List.range, List.range.loop, List.map_cons, List.map_nil, e0, e1, e2, e3]

/-- A rune beyond ASCII. -/
theorem rv_big {l : List UInt8} (h : ¬ nb l 0 < 128) : 128 ≤ rv l := by
  obtain ⟨f2, f3, f4⟩ := sg_facts (l := l)
  have hc : sg l = 0 ∨ sg l = 2 ∨ sg l = 3 ∨ sg l = 4 := by
    have := (sg_le (l := l)).1
    have h1 : sg l ≠ 1 := fun e => h (sg_one.1 e).2
    omega
  unfold rv
  rcases hc with e | e | e | e
  · rw [e]; simp
  · have := f2 e; rw [if_neg (by omega), if_pos e]; omega
  · have := f3 e; rw [if_neg (by omega), if_neg (by omega), if_pos e]; omega
  · have := f4 e; rw [if_neg (by omega), if_neg (by omega), if_neg (by omega), if_pos e]; omega
theorem prefix_iff {l : List UInt8} : Lib.hasPrefix l [239, 191, 189] = true ↔ (3 ≤ l.length ∧ nb l 0 = 239 ∧ nb l 1 = 191 ∧ nb l 2 = 189) := by
  unfold Lib.hasPrefix nb
  match l with
  | [] => simp
  | [a] => simp
  | [a, b] => simp
  | a :: b :: c :: r =>
    simp [← UInt8.toNat_inj]
    exact ⟨fun ⟨h1, h2, h3⟩ => ⟨h1.symm, h2.symm, h3.symm⟩, fun ⟨h1, h2, h3⟩ => ⟨h1.symm, h2.symm, h3.symm⟩⟩
/-- No sign: the rune 65533 where the text has not that sign's bytes. -/
theorem bad_iff {l : List UInt8} (h0 : l.length ≠ 0) : (rv l = 65533 ∧ Lib.hasPrefix l [239, 191, 189] = false) ↔ sg l = 0 := by
  obtain ⟨f2, f3, f4⟩ := sg_facts (l := l)
  have h1 := nb_lt l 0
  constructor
  · rintro ⟨hr, hp⟩
    have hp' : ¬ (3 ≤ l.length ∧ nb l 0 = 239 ∧ nb l 1 = 191 ∧ nb l 2 = 189) := fun h => by rw [prefix_iff.2 h] at hp; cases hp
    have hle := sg_le (l := l)
    have hc : sg l = 0 ∨ sg l = 1 ∨ sg l = 2 ∨ sg l = 3 ∨ sg l = 4 := by omega
    unfold rv at hr
    rcases hc with e | e | e | e | e
    · exact e
    · rw [if_pos e] at hr; have := (sg_one.1 e).2; omega
    · have := f2 e; rw [if_neg (by omega), if_pos e] at hr; omega
    · have := f3 e; rw [if_neg (by omega), if_neg (by omega), if_pos e] at hr; omega
    · have := f4 e; rw [if_neg (by omega), if_neg (by omega), if_neg (by omega), if_pos e] at hr; omega
  · intro e
    refine ⟨by unfold rv; rw [e]; simp, ?_⟩
    cases hp : Lib.hasPrefix l [239, 191, 189] with
    | false => rfl
    | true =>
      obtain ⟨h3, a, b, c⟩ := prefix_iff.1 hp
      exfalso
      unfold sg at e
      simp only [tl_false, a, b, c] at e
      rw [if_neg h0] at e
      simp at e
      omega
end Go.Proofs.Ytangldmjgidgcaa

/- Layer 5: what the program's Unquote has done ahead of a place, in plain lists; a sign as the model writes it. Conditions: none. -/
import Derived.Test.YtangldmjgidgcaaS12
import Derived.Laws.Runes
namespace Go.Proofs.Ytangldmjgidgcaa
open Go.RowKit
set_option linter.unusedVariables false

theorem enc_eq (r : Nat) : (Utf8.encode (r : Int)).data.toList = Lib.encodeRune (r : Int) := by
  unfold Lib.encodeRune
  by_cases c1 : r < 128
  · have v : Utf8.valid (r : Int) = true := by simp [Utf8.valid]; omega
    rw [Lib.encodeRuneZ_one (by omega) (by omega)]
    simp [Utf8.encode, v, c1]
  by_cases c2 : r < 2048
  · have v : Utf8.valid (r : Int) = true := by simp [Utf8.valid]; omega
    rw [Lib.encodeRuneZ_two (by omega) (by omega)]
    have e0 : (192 + (r : Int) / 64).toNat = 192 + r / 64 := by omega
    have e1 : (128 + (r : Int) % 64).toNat = 128 + r % 64 := by omega
    simp [Utf8.encode, v, c1, c2, e0, e1]
  by_cases cb : (55296 ≤ r ∧ r ≤ 57343) ∨ 1114111 < r
  · have v : Utf8.valid (r : Int) = false := by
      cases hv : Utf8.valid (r : Int) with
      | false => rfl
      | true => simp [Utf8.valid] at hv; omega
    rw [Lib.encodeRuneZ_bad (by omega)]
    simp [Utf8.encode, v, Utf8.runeError]
  have v : Utf8.valid (r : Int) = true := by simp [Utf8.valid]; omega
  by_cases c3 : r < 65536
  · rw [Lib.encodeRuneZ_three (by omega)]
    have e0 : (224 + (r : Int) / 4096).toNat = 224 + r / 4096 := by omega
    have e1 : (128 + (r : Int) / 64 % 64).toNat = 128 + r / 64 % 64 := by omega
    have e2 : (128 + (r : Int) % 64).toNat = 128 + r % 64 := by omega
    simp [Utf8.encode, v, c1, c2, c3, e0, e1, e2]
  · rw [Lib.encodeRuneZ_four (by omega) (by omega)]
    have e0 : (240 + (r : Int) / 262144).toNat = 240 + r / 262144 := by omega
    have e1 : (128 + (r : Int) / 4096 % 64).toNat = 128 + r / 4096 % 64 := by omega
    have e2 : (128 + (r : Int) / 64 % 64).toNat = 128 + r / 64 % 64 := by omega
    have e3 : (128 + (r : Int) % 64).toNat = 128 + r % 64 := by omega
    simp [Utf8.encode, v, c1, c2, c3, e0, e1, e2, e3]
theorem strOf_toList (B : ByteArray) : strOf B.data.toList = B := by apply ByteArray.ext; simp [strOf]
theorem enc_sign {l : List UInt8} (h : sg l ≠ 0) : Utf8.encode (rv l : Int) = strOf (l.take (sg l)) := by
  rw [← encode_sign h, ← enc_eq, strOf_toList]

/-- The bytes within an escape are ASCII. -/
theorem escV_ascii {l : List UInt8} {x : UInt8} {n : Nat} (h : escV l = some (x, n)) : ∀ j, 1 ≤ j → j < n → nb l j < 128 := by
  have hl := escV_len h
  have hx : ∀ c, ¬ hexv c < 0 → c < 128 := fun c hc => by
    unfold hexv at hc
    by_cases a : 48 ≤ c ∧ c ≤ 57
    · omega
    rw [if_neg a] at hc
    by_cases b : 97 ≤ c ∧ c ≤ 102
    · omega
    rw [if_neg b] at hc
    by_cases d : 65 ≤ c ∧ c ≤ 70
    · omega
    rw [if_neg d] at hc
    omega
  unfold escV at h
  by_cases h1 : l.length < 2
  · rw [if_pos h1] at h; cases h
  rw [if_neg h1] at h
  by_cases h2 : nb l 1 = 92 ∨ nb l 1 = 39
  · rw [if_pos h2] at h; cases h; intro j j1 j2; obtain rfl : j = 1 := by omega
    omega
  rw [if_neg h2] at h
  by_cases h3 : nb l 1 = 110
  · rw [if_pos h3] at h; cases h; intro j j1 j2; obtain rfl : j = 1 := by omega
    omega
  rw [if_neg h3] at h
  by_cases h4 : nb l 1 = 116
  · rw [if_pos h4] at h; cases h; intro j j1 j2; obtain rfl : j = 1 := by omega
    omega
  rw [if_neg h4] at h
  by_cases h5 : nb l 1 = 114
  · rw [if_pos h5] at h; cases h; intro j j1 j2; obtain rfl : j = 1 := by omega
    omega
  rw [if_neg h5] at h
  by_cases h6 : l.length < 4 ∨ nb l 1 ≠ 120 ∨ hexv (nb l 2) < 0 ∨ hexv (nb l 3) < 0
  · rw [if_pos h6] at h; cases h
  rw [if_neg h6] at h; cases h
  intro j j1 j2
  have k2 := hx (nb l 2) (fun hh => h6 (.inr (.inr (.inl hh))))
  have k3 := hx (nb l 3) (fun hh => h6 (.inr (.inr (.inr hh))))
  have : j = 1 ∨ j = 2 ∨ j = 3 := by omega
  rcases this with rfl | rfl | rfl
  · omega
  · exact k2
  · exact k3

/-- What is read ahead of place i (what lies ahead of place k is passed over). -/
def DoneU (l : List UInt8) (i k : Nat) (d : List UInt8) : Prop :=
  i ≤ l.length ∧ k ≤ l.length ∧ d.length ≤ max i k ∧ (∀ j, i ≤ j → j < k → nb l j < 128) ∧ uq l = (uq (l.drop (max i k))).map fun p => d ++ p
theorem doneU_zero (l : List UInt8) : DoneU l 0 0 [] := by
  refine ⟨by omega, by omega, by simp, fun j _ h => by omega, ?_⟩
  simp
theorem doneU_pass {l d : List UInt8} {i k : Nat} (h : DoneU l i k d) (hi : i < l.length) (hk : i < k) : sg (l.drop i) = 1 ∧ DoneU l (i + 1) k d := by
  obtain ⟨h1, h2, h3, h4, h5⟩ := h
  refine ⟨sg_one.2 ⟨by simp; omega, by rw [nb_drop, Nat.add_zero]; exact h4 i (by omega) hk⟩, by omega, h2, by rw [show max (i + 1) k = max i k from by omega]; exact h3, fun j a b => h4 j (by omega) b, by rw [show max (i + 1) k = max i k from by omega]; exact h5⟩
theorem doneU_esc {l d : List UInt8} {i k : Nat} (h : DoneU l i k d) (hi : i < l.length) (hk : ¬ i < k) (h92 : nb (l.drop i) 0 = 92) : match escV (l.drop i) with
    | none => uq l = none
    | some (x, n) => sg (l.drop i) = 1 ∧ (n = 2 ∨ n = 4) ∧ i + n ≤ l.length ∧ DoneU l (i + 1) (i + n) (d ++ [x]) := by
  obtain ⟨h1, h2, h3, h4, h5⟩ := h
  have h0 : (l.drop i).length ≠ 0 := by simp; omega
  rw [show max i k = i from by omega, uq_eq (l.drop i), if_neg h0, if_pos h92] at h5
  cases he : escV (l.drop i) with
  | none => rw [he] at h5; exact h5
  | some p =>
    obtain ⟨x, n⟩ := p
    rw [he] at h5
    have hl := escV_len he
    have ha := escV_ascii he
    rw [List.length_drop] at hl
    refine ⟨sg_one.2 ⟨h0, by omega⟩, hl.1, by omega, by omega, by omega, ?_, ?_, ?_⟩
    · rw [show max i k = i from by omega] at h3
      rw [List.length_append, show max (i + 1) (i + n) = i + n from by omega]; simp; omega
    · intro j a b
      have := ha (j - i) (by omega) (by omega)
      rw [nb_drop, show i + (j - i) = j from by omega] at this
      exact this
    · rw [h5, show max (i + 1) (i + n) = i + n from by omega]
      dsimp only
      rw [List.drop_drop]
      cases uq (l.drop (i + n)) with
      | none => rfl
      | some q => simp
theorem doneU_bad {l d : List UInt8} {i k : Nat} (h : DoneU l i k d) (hi : i < l.length) (hk : ¬ i < k) (h92 : nb (l.drop i) 0 ≠ 92) (hb : nb (l.drop i) 0 = 39 ∨ bad (l.drop i)) : uq l = none := by
  obtain ⟨h1, h2, h3, h4, h5⟩ := h
  have h0 : (l.drop i).length ≠ 0 := by simp; omega
  rw [show max i k = i from by omega, uq_eq (l.drop i), if_neg h0, if_neg h92, if_pos hb] at h5
  exact h5
theorem doneU_sign {l d : List UInt8} {i k : Nat} (h : DoneU l i k d) (hi : i < l.length) (hk : ¬ i < k) (h92 : nb (l.drop i) 0 ≠ 92) (hb : ¬ (nb (l.drop i) 0 = 39 ∨ bad (l.drop i))) :
    DoneU l (i + sg (l.drop i)) k (d ++ (l.drop i).take (sg (l.drop i))) := by
  obtain ⟨h1, h2, h3, h4, h5⟩ := h
  have h0 : (l.drop i).length ≠ 0 := by simp; omega
  rw [show max i k = i from by omega, uq_eq (l.drop i), if_neg h0, if_neg h92, if_neg hb] at h5
  have h6 := bad_not (fun hh => hb (.inr hh))
  have h7 := (sg_le (l := l.drop i)).2
  rw [List.length_drop] at h7
  refine ⟨by omega, h2, ?_, fun j a b => by omega, ?_⟩
  · rw [show max i k = i from by omega] at h3
    rw [List.length_append, List.length_take, show max (i + sg (l.drop i)) k = i + sg (l.drop i) from by omega]
    omega
  · rw [h5, show max (i + sg (l.drop i)) k = i + sg (l.drop i) from by omega, List.drop_drop]
    cases uq (l.drop (i + sg (l.drop i))) with
    | none => rfl
    | some q => simp
theorem doneU_end {l d : List UInt8} {i k : Nat} (h : DoneU l i k d) (hi : l.length ≤ i) : uq l = some d := by
  obtain ⟨h1, h2, h3, h4, h5⟩ := h
  rw [h5, show max i k = l.length from by omega, uq_eq (l.drop l.length), if_pos (by simp)]
  simp
/-- By the rune: what is refused, what goes on. -/
theorem rv_39 {l : List UInt8} (h0 : l.length ≠ 0) (h : rv l = 39) : nb l 0 ≠ 92 ∧ (nb l 0 = 39 ∨ bad l) := by
  have := rv_small h0 (by omega); exact ⟨by omega, .inl (by omega)⟩
theorem rv_92 {l : List UInt8} (h0 : l.length ≠ 0) (h : rv l = 92) : nb l 0 = 92 := by
  have := rv_small h0 (by omega); omega
theorem rv_bad {l : List UInt8} (h0 : l.length ≠ 0) (h : rv l < 32 ∨ rv l = 127 ∨ (rv l = 65533 ∧ Lib.hasPrefix l [239, 191, 189] = false)) : nb l 0 ≠ 92 ∧ (nb l 0 = 39 ∨ bad l) := by
  rcases h with h | h | h
  · have := rv_small h0 (by omega); exact ⟨by omega, .inr (.inr (.inl (by omega)))⟩
  · have := rv_small h0 (by omega); exact ⟨by omega, .inr (.inr (.inr (by omega)))⟩
  · have h1 := (bad_iff h0).1 h
    refine ⟨fun hh => ?_, .inr (.inl h1)⟩
    have := sg_one.2 ⟨h0, by omega⟩
    omega
theorem rv_good {l : List UInt8} (h0 : l.length ≠ 0) (h1 : rv l ≠ 92) (h2 : rv l ≠ 39) (h3 : ¬ rv l < 32) (h4 : rv l ≠ 127) (h5 : rv l ≠ 65533 ∨ Lib.hasPrefix l [239, 191, 189] = true) : nb l 0 ≠ 92 ∧ ¬ (nb l 0 = 39 ∨ bad l) := by
  have hs : sg l ≠ 0 := fun e => by
    have := (bad_iff h0).2 e
    rcases h5 with h5 | h5
    · exact h5 this.1
    · rw [h5] at this; cases this.2
  by_cases hb : nb l 0 < 128
  · have h6 := sg_one.2 ⟨h0, hb⟩
    have h7 : rv l = nb l 0 := by unfold rv; rw [if_pos h6]
    refine ⟨by omega, fun h => ?_⟩
    rcases h with h | h | h | h <;> omega
  · refine ⟨by omega, fun h => ?_⟩
    rcases h with h | h | h | h <;> omega
/-- A row that the call owns, in a world that keeps the blocks from its base on. -/
theorem ownsRow_other {w w' : World} {base : Nat} {e : TypeId} {size : Nat} {v : Value} {n : Nat} {xs : List Value} (h : w.ownsRow base e size v n xs) (hk : ∀ k, base ≤ k → w'.heap[k]? = w.heap[k]?) : w'.ownsRow base e size v n xs := by
  refine ⟨h.1, ?_⟩
  rcases h.2 with hn | ⟨g, cap, cur, rfl, hb, hg, rest⟩
  · exact .inl hn
  · exact .inr ⟨g, cap, cur, rfl, hb, (hk g hb).trans hg, rest⟩
theorem ownsRow_below {w w' : World} {base : Nat} {e : TypeId} {size : Nat} {v : Value} {n : Nat} {xs : List Value} (h : w.ownsRow base e size v n xs) (hb : Below w.heap.size w w') : w'.ownsRow base e size v n xs := by
  refine ⟨h.1, ?_⟩
  rcases h.2 with hn | ⟨g, cap, cur, rfl, hbb, hg, rest⟩
  · exact .inl hn
  · exact .inr ⟨g, cap, cur, rfl, hbb, (hb.block g (Array.getElem?_eq_some_iff.1 hg).1).trans hg, rest⟩
end Go.Proofs.Ytangldmjgidgcaa

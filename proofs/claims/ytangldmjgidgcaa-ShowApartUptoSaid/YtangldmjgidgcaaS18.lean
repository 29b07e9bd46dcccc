/- Layer 5: what is put in quotes is read as it was, and has no bare quote and no control byte, in plain lists. Conditions: none. -/
import Derived.Test.YtangldmjgidgcaaS17
namespace Go.Proofs.Ytangldmjgidgcaa
open Go.RowKit
set_option linter.unusedVariables false

theorem sg_2 {l : List UInt8} (h1 : 194 ≤ nb l 0) (h2 : nb l 0 < 224) (h3 : tl l 1 = true) : sg l = 2 := by
  have := (tl_true.1 h3).1
  unfold sg
  rw [if_neg (by omega), if_neg (by omega), if_neg (by rw [h3]; simp; omega), if_pos h2]
theorem sg_3 {l : List UInt8} (h1 : 224 ≤ nb l 0) (h2 : nb l 0 < 240) (h3 : tl l 1 = true) (h4 : tl l 2 = true) (h5 : ¬ (nb l 0 = 224 ∧ nb l 1 < 160)) (h6 : ¬ (nb l 0 = 237 ∧ 160 ≤ nb l 1)) : sg l = 3 := by
  have := (tl_true.1 h3).1
  unfold sg
  rw [if_neg (by omega), if_neg (by omega), if_neg (by rw [h3]; simp; omega), if_neg (by omega), if_neg (by rw [h4]; simp only [Bool.true_eq_false, false_or]; omega), if_pos h2]
theorem sg_4 {l : List UInt8} (h1 : 240 ≤ nb l 0) (h2 : nb l 0 ≤ 244) (h3 : tl l 1 = true) (h4 : tl l 2 = true) (h7 : tl l 3 = true) (h5 : ¬ (nb l 0 = 240 ∧ nb l 1 < 144)) (h6 : ¬ (nb l 0 = 244 ∧ 144 ≤ nb l 1)) : sg l = 4 := by
  have := (tl_true.1 h3).1
  unfold sg
  rw [if_neg (by omega), if_neg (by omega), if_neg (by rw [h3]; simp; omega), if_neg (by omega), if_neg (by rw [h4]; simp only [Bool.true_eq_false, false_or]; omega), if_neg (by omega), if_neg (by rw [h7]; simp only [Bool.true_eq_false, false_or]; omega)]
theorem nb_take (l r : List UInt8) (n k : Nat) (h : k < n) (hn : n ≤ l.length) : nb (l.take n ++ r) k = nb l k := by
  unfold nb
  rw [List.getElem?_append_left (by rw [List.length_take]; omega), List.getElem?_take, if_pos h]
theorem tl_take (l r : List UInt8) (n k : Nat) (h : k < n) (hn : n ≤ l.length) (ht : 128 ≤ nb l k ∧ nb l k < 192) : tl (l.take n ++ r) k = true := by
  rw [tl_true, nb_take l r n k h hn, List.length_append, List.length_take]
  exact ⟨by omega, ht⟩
/-- A sign stands by itself. -/
theorem sg_take {l : List UInt8} (r : List UInt8) (h : sg l ≠ 0) : sg (l.take (sg l) ++ r) = sg l := by
  obtain ⟨f2, f3, f4⟩ := sg_facts (l := l)
  have hle := sg_le (l := l)
  have hc : sg l = 1 ∨ sg l = 2 ∨ sg l = 3 ∨ sg l = 4 := by omega
  have n0 : nb (l.take (sg l) ++ r) 0 = nb l 0 := nb_take l r _ 0 (by omega) hle.2
  rcases hc with e | e | e | e
  · have h1 := (sg_one.1 e).2
    rw [e] at n0 hle ⊢
    exact sg_one.2 ⟨by rw [List.length_append, List.length_take]; omega, by omega⟩
  · have h1 := f2 e
    rw [e] at n0 hle ⊢
    exact sg_2 (by omega) (by omega) (tl_take l r 2 1 (by omega) hle.2 h1.2.2)
  · have h1 := f3 e
    rw [e] at n0 hle ⊢
    have n1 := nb_take l r 3 1 (by omega) hle.2
    exact sg_3 (by omega) (by omega) (tl_take l r 3 1 (by omega) hle.2 h1.2.2.1) (tl_take l r 3 2 (by omega) hle.2 h1.2.2.2.1) (by rw [n0, n1]; exact h1.2.2.2.2.1) (by rw [n0, n1]; exact h1.2.2.2.2.2)
  · have h1 := f4 e
    rw [e] at n0 hle ⊢
    have n1 := nb_take l r 4 1 (by omega) hle.2
    exact sg_4 (by omega) (by omega) (tl_take l r 4 1 (by omega) hle.2 h1.2.2.1) (tl_take l r 4 2 (by omega) hle.2 h1.2.2.2.1) (tl_take l r 4 3 (by omega) hle.2 h1.2.2.2.2.1) (by rw [n0, n1]; exact h1.2.2.2.2.2.1) (by rw [n0, n1]; exact h1.2.2.2.2.2.2)
theorem hexd_all : ∀ k : Fin 16, hexv (hxd k.val).toNat = k.val ∧ 48 ≤ (hxd k.val).toNat ∧ (hxd k.val).toNat < 127 := by decide
theorem hexd (k : Nat) (h : k < 16) : hexv (hxd k).toNat = k ∧ 48 ≤ (hxd k).toNat ∧ (hxd k).toNat < 127 := hexd_all ⟨k, h⟩
theorem nb_c0 (c : UInt8) (r : List UInt8) : nb (c :: r) 0 = c.toNat := rfl
theorem nb_c1 (a c : UInt8) (r : List UInt8) : nb (a :: c :: r) 1 = c.toNat := rfl
theorem escV_hex (c : Nat) (hc : c < 256) (r : List UInt8) : escV ([92, 120] ++ hx2 c ++ r) = some (UInt8.ofNat c, 4) := by
  have a := hexd (c / 16) (by omega)
  have b := hexd (c % 16) (by omega)
  have e : [92, 120] ++ hx2 c ++ r = 92 :: 120 :: hxd (c / 16) :: hxd (c % 16) :: r := rfl
  have n2 : nb (92 :: 120 :: hxd (c / 16) :: hxd (c % 16) :: r) 2 = (hxd (c / 16)).toNat := rfl
  have n3 : nb (92 :: 120 :: hxd (c / 16) :: hxd (c % 16) :: r) 3 = (hxd (c % 16)).toNat := rfl
  rw [e, escV_x (by simp) rfl (by rw [n2, a.1]; omega) (by rw [n3, b.1]; omega), n2, n3, a.1, b.1]
  rw [show (((c / 16 : Nat) : Int) * (16 : Int) + ((c % 16 : Nat) : Int)).toNat = c from by omega]
theorem uq_esc {l r : List UInt8} {x : UInt8} {n : Nat} (h0 : l.length ≠ 0) (h : nb l 0 = 92) (he : escV l = some (x, n)) (hr : l.drop n = r) : uq l = (uq r).map fun p => [x] ++ p := by
  rw [uq_eq, if_neg h0, if_pos h, he]
  dsimp only
  rw [hr]
  rfl
theorem take_one {l : List UInt8} (h : l.length ≠ 0) : l.take 1 = [UInt8.ofNat (nb l 0)] := by
  rw [take_nb l 1 (by omega)]; rfl
theorem uq_piece (l r : List UInt8) (h0 : l.length ≠ 0) : uq (pieceQ l ++ r) = (uq r).map fun p => l.take (stepQ l) ++ p := by
  have hb := nb_lt l 0
  have hs1 : ∀ k, nb l 0 = k → k < 128 → sg l = 1 := fun k h1 h2 => sg_one.2 ⟨h0, by omega⟩
  have hst : (sg l = 0 ∨ nb l 0 < 128) → stepQ l = 1 := fun h => by
    unfold stepQ
    rcases h with h | h
    · rw [if_pos h]
    · have := hs1 _ rfl h
      rw [if_neg (by omega)]; exact this
  unfold pieceQ
  by_cases a1 : sg l = 0 ∨ nb l 0 = 127
  · rw [if_pos a1, hst (by omega), take_one h0]
    exact uq_esc (by simp) rfl (escV_hex _ hb r) rfl
  rw [if_neg a1]
  by_cases a2 : nb l 0 = 39 ∨ nb l 0 = 92
  · rw [if_pos a2, hst (by omega), take_one h0]
    have n1 : nb ([92, UInt8.ofNat (nb l 0)] ++ r) 1 = nb l 0 := by
      show (UInt8.ofNat (nb l 0)).toNat = _
      simp; omega
    have e := escV_q (l := [92, UInt8.ofNat (nb l 0)] ++ r) (by simp) (by rw [n1]; omega)
    rw [n1] at e
    exact uq_esc (by simp) rfl e rfl
  rw [if_neg a2]
  by_cases a3 : nb l 0 = 10
  · rw [if_pos a3, hst (by omega), take_one h0, a3]
    exact uq_esc (by simp) rfl (escV_n (by simp) rfl) rfl
  rw [if_neg a3]
  by_cases a4 : nb l 0 = 9
  · rw [if_pos a4, hst (by omega), take_one h0, a4]
    exact uq_esc (by simp) rfl (escV_t (by simp) rfl) rfl
  rw [if_neg a4]
  by_cases a5 : nb l 0 = 13
  · rw [if_pos a5, hst (by omega), take_one h0, a5]
    exact uq_esc (by simp) rfl (escV_r (by simp) rfl) rfl
  rw [if_neg a5]
  by_cases a6 : nb l 0 < 32
  · rw [if_pos a6, hst (by omega), take_one h0]
    exact uq_esc (by simp) rfl (escV_hex _ hb r) rfl
  rw [if_neg a6]
  have h1 : sg l ≠ 0 := fun e => a1 (.inl e)
  have h2 := sg_le (l := l)
  have hS := sg_take r h1
  have n0 := nb_take l r (sg l) 0 (by omega) h2.2
  rw [uq_eq, if_neg (by rw [List.length_append, List.length_take]; omega), n0, if_neg (by omega), hS, if_neg ?_]
  · rw [show stepQ l = sg l from by unfold stepQ; rw [if_neg h1]]
    have h3 : (l.take (sg l)).length = sg l := by rw [List.length_take]; omega
    rw [List.drop_append_of_le_length (by omega), List.take_append_of_le_length (by omega), List.take_take, Nat.min_self]
    rw [List.drop_of_length_le (by omega), List.nil_append]
  · unfold bad
    rw [hS, n0]
    omega
theorem uq_quote : ∀ (k : Nat) (l : List UInt8), l.length = k → uq (quoteL l) = some l := by
  intro k
  induction k using Nat.strongRecOn with
  | _ k ih =>
    intro l hl
    by_cases h0 : l.length = 0
    · rw [quoteL_nil h0, List.length_eq_zero_iff.1 h0]; rfl
    · have h1 := stepQ_pos l
      rw [quoteL_step h0, uq_piece l _ h0, ih _ (by rw [List.length_drop]; omega) (l.drop (stepQ l)) rfl]
      simp
theorem unqS_quote (l : List UInt8) : unqS (39 :: (quoteL l ++ [39])) = some l := by
  unfold unqS
  have hn : nb (39 :: (quoteL l ++ [39])) ((39 :: (quoteL l ++ [39])).length - 1) = 39 := by
    unfold nb
    simp
  rw [if_pos ⟨by simp, rfl, hn⟩]
  have : ((39 :: (quoteL l ++ [39])).drop 1).take ((39 :: (quoteL l ++ [39])).length - 2) = quoteL l := by simp
  rw [this]
  exact uq_quote _ l rfl

/-- Pairs behind a backslash, and signs that are no control byte, no quote and no backslash. -/
inductive Good : List UInt8 → Prop where
  | nil : Good []
  | esc (c : UInt8) (r : List UInt8) (h : Good r) : Good (92 :: c :: r)
  | sign (x r : List UInt8) (hx : x.length ≠ 0) (hs : ∀ q, sg (x ++ q) = x.length) (h32 : 32 ≤ nb x 0) (h127 : nb x 0 ≠ 127) (h39 : nb x 0 ≠ 39) (h92 : nb x 0 ≠ 92) (h : Good r) : Good (x ++ r)
theorem good_byte (c : UInt8) (r : List UInt8) (h1 : 48 ≤ c.toNat) (h2 : c.toNat < 127) (h3 : c.toNat ≠ 92) (h : Good r) : Good (c :: r) :=
  Good.sign [c] r (by simp) (fun q => sg_one.2 ⟨by simp, by show c.toNat < 128; omega⟩) (by show 32 ≤ c.toNat; omega) (by show c.toNat ≠ 127; omega) (by show c.toNat ≠ 39; omega) h3 h
theorem hexd92 : ∀ k : Fin 16, (hxd k.val).toNat ≠ 92 := by decide
theorem good_hex (c : Nat) (hc : c < 256) (r : List UInt8) (h : Good r) : Good ([92, 120] ++ hx2 c ++ r) := by
  have a := hexd (c / 16) (by omega)
  have b := hexd (c % 16) (by omega)
  exact Good.esc 120 _ (good_byte _ _ a.2.1 a.2.2 (hexd92 ⟨c / 16, by omega⟩) (good_byte _ _ b.2.1 b.2.2 (hexd92 ⟨c % 16, by omega⟩) h))
theorem good_piece (l r : List UInt8) (h0 : l.length ≠ 0) (h : Good r) : Good (pieceQ l ++ r) := by
  have hb := nb_lt l 0
  unfold pieceQ
  by_cases a1 : sg l = 0 ∨ nb l 0 = 127
  · rw [if_pos a1]; exact good_hex _ hb r h
  rw [if_neg a1]
  by_cases a2 : nb l 0 = 39 ∨ nb l 0 = 92
  · rw [if_pos a2]; exact Good.esc _ _ h
  rw [if_neg a2]
  by_cases a3 : nb l 0 = 10
  · rw [if_pos a3]; exact Good.esc _ _ h
  rw [if_neg a3]
  by_cases a4 : nb l 0 = 9
  · rw [if_pos a4]; exact Good.esc _ _ h
  rw [if_neg a4]
  by_cases a5 : nb l 0 = 13
  · rw [if_pos a5]; exact Good.esc _ _ h
  rw [if_neg a5]
  by_cases a6 : nb l 0 < 32
  · rw [if_pos a6]; exact good_hex _ hb r h
  rw [if_neg a6]
  have h1 : sg l ≠ 0 := fun e => a1 (.inl e)
  have h2 := sg_le (l := l)
  have n0 : nb (l.take (sg l)) 0 = nb l 0 := by have := nb_take l [] (sg l) 0 (by omega) h2.2; rwa [List.append_nil] at this
  have h3 : (l.take (sg l)).length = sg l := by rw [List.length_take]; omega
  exact Good.sign _ r (by omega) (fun q => by rw [h3]; exact sg_take q h1) (by omega) (by omega) (by omega) (by omega) h
theorem good_quote : ∀ (k : Nat) (l : List UInt8), l.length = k → Good (quoteL l) := by
  intro k
  induction k using Nat.strongRecOn with
  | _ k ih =>
    intro l hl
    by_cases h0 : l.length = 0
    · rw [quoteL_nil h0]; exact Good.nil
    · have h1 := stepQ_pos l
      rw [quoteL_step h0]
      exact good_piece l _ h0 (ih _ (by rw [List.length_drop]; omega) (l.drop (stepQ l)) rfl)
end Go.Proofs.Ytangldmjgidgcaa

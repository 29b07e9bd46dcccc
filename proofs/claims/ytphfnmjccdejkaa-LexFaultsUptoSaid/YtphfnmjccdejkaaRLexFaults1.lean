/- The texts L23, L24, L25, L26 of this seat, one behind the other. Conditions: each says its own. -/
import Derived.Test.YtphfnmjccdejkaaM3

/- Layer 10: the law LexScans. Conditions: the text is no longer than 2^40; the variable of internal/bytealg is an int. -/
namespace Go.Proofs.Ytphfnmjccdejkaa
open Go.RowKit Go.Shelf
set_option linter.unusedSimpArgs false
set_option linter.unusedVariables false

theorem scanN_len : ∀ (f : Nat) (r : List UInt8) (p : Nat) (acc l : List (Tok × Nat)), acc.length ≤ 4096 → scanN f r p acc = .ok l → l.length ≤ 4097
  | 0, _, _, _, _, _, h => by rw [scanN] at h; cases h
  | f + 1, r, p, acc, l, ha, h => by
    rw [scanN] at h
    split at h
    · split at h
      · cases h
      · cases h; simp; omega
    · split at h
      · cases h
      · split at h
        · cases h
        · exact scanN_len f _ _ _ l (by simp; omega) h
theorem scanL_len {s : List UInt8} {l : List (Tok × Nat)} (h : scanL s = .ok l) : l.length ≤ 4097 := by
  unfold scanL at h
  split at h
  · cases h
  · exact scanN_len _ _ _ _ _ (by simp) h

set_option maxRecDepth 100000 in
set_option maxHeartbeats 4000000 in
theorem lexScans_any (s : ByteArray) (mm : Int) (w : World) (hs : s.size ≤ 1099511627776) (hm : w.cell? mlA = some (.int .i64 mm)) (hg : 0 < w.heap.size) :
    Calls Try.prog 3 #[.string s] w fun e w' => e = .returned (.bool true) ∧ Below w.heap.size w w' := by
  have HS := Lib.hid (scan_any s mm w hs hm hg)
  have HR := Lib.hid (fun w => rscan_any s w hs)
  have HW := Lib.hid (fun w' h1 h2 => word_any s mm w' hs h1 h2)
  have HRW := Lib.hid (fun w => rword_any s w hs)
  have HLEN := Lib.hid (fun l => scanL_len (s := s.data.toList) (l := l))
  obtain ⟨X, b, hXb⟩ := wordR_form s.data.toList
  rw [hXb] at HW HRW
  clear hXb
  obtain ⟨R, hR⟩ : ∃ R, scanL s.data.toList = R := ⟨_, rfl⟩
  rw [hR] at HS HR HLEN
  clear hR
  have HM : Hid (∀ w', Below w.heap.size w w' → w'.cell? mlA = some (.int .i64 mm) ∧ 0 < w'.heap.size) := Lib.hid (fun w' hb => ⟨by rw [hb.cell (by show 0 < w.heap.size; exact hg)]; exact hm, Nat.lt_of_lt_of_le hg hb.size⟩)
  clear hm
  go_enter Try.func3, Try.ntmps3
  go_wp2_with fail
  refine HS.out.mono ?_
  rintro e w1 ⟨he, hb1⟩
  obtain ⟨l1, v1, p1, x1, rfl, ho1, hr1⟩ := scan_list he
  have HB1 := Lib.hid hb1
  have HO1 := Lib.hid ho1
  have HR1 := Lib.hid hr1
  clear hb1 ho1 hr1 he
  go_wp2_with fail
  refine (HR.out _).mono ?_
  rintro e w2 ⟨he, hb2⟩
  obtain ⟨l2, v2, p2, x2, rfl, ho2, hr2⟩ := scan_list he
  have HB2 := Lib.hid (below_step HB1.out rfl hb2)
  have HO1b := Lib.hid (own_below HO1.out hb2)
  obtain ⟨rfl, rfl, rfl⟩ : l2 = l1 ∧ p2 = p1 ∧ x2 = x1 := by
    have h1 := HR1.out
    cases R with
    | bad p x => obtain ⟨a, b, c⟩ := hr2; obtain ⟨a', b', c'⟩ := h1; exact ⟨a.trans a'.symm, b.trans b'.symm, c.trans c'.symm⟩
    | ok l => obtain ⟨a, b, c⟩ := hr2; obtain ⟨a', b', c'⟩ := h1; exact ⟨a.trans a'.symm, b.trans b'.symm, c.trans c'.symm⟩
  have HO2 := Lib.hid ho2
  have hlen : l2.length ≤ 1000000 := by
    cases R with
    | bad p x => obtain ⟨rfl, _⟩ := hr2; simp
    | ok l => obtain ⟨rfl, _⟩ := hr2; have := HLEN.out _ rfl; omega
  clear hb2 ho2 hr2 he HR1 HO1
  go_wp2_with fail
  refine (HW.out w2 (HM.out w2 HB2.out).1 (HM.out w2 HB2.out).2).mono ?_
  rintro e w3 ⟨rfl, hb3⟩
  have HB3 := Lib.hid (below_step HB2.out rfl hb3)
  have HO1c := Lib.hid (own_below HO1b.out hb3)
  have HO2c := Lib.hid (own_below HO2.out hb3)
  clear hb3
  go_wp2_with fail
  refine (HRW.out _).mono ?_
  rintro e w4 ⟨rfl, hb4⟩
  have HB4 := Lib.hid (below_step HB3.out rfl hb4)
  have HSM := Lib.hid (same_eq _ _ l2 v1 v2 w4 hlen (own_below HO1c.out hb4) (own_below HO2c.out hb4))
  clear hb4
  go_wp2_with fail
  refine HSM.out.mono ?_
  rintro e w5 ⟨rfl, hb5⟩
  have HB5 := Lib.hid (below_step HB4.out rfl hb5)
  have HWK := Lib.hid (works_any mm w5 (HM.out w5 HB5.out).1 (HM.out w5 HB5.out).2)
  clear hb5
  go_wp2_with fail
  refine HWK.out.mono ?_
  rintro e w6 ⟨rfl, hb6⟩
  have HB6 := Lib.hid (below_step HB5.out rfl hb6)
  clear hb6
  go_wp2_with fail
  go_ret
  exact ⟨rfl, HB6.out⟩
end Go.Proofs.Ytphfnmjccdejkaa

/- Layer 10: what is written in quotes is read to its end, whatever stands behind, in plain lists. Conditions: none. -/
namespace Go.Proofs.Ytphfnmjccdejkaa
open Go.RowKit
set_option linter.unusedVariables false

/-- A quoted text is read to its end, whatever stands behind. -/
theorem qd_esc {l r : List UInt8} {x : UInt8} {n : Nat} (h0 : l.length ≠ 0) (h : nb l 0 = 92) (he : escV l = some (x, n)) (hr : l.drop n = r) : qd l = (qd r).map fun p => ([x] ++ p.1, p.2) := by
  have h1 := sg_one.2 ⟨h0, show nb l 0 < 128 by omega⟩
  rw [qd_eq, if_neg h0, if_neg (by omega), if_neg (by unfold bad; omega), if_pos h, he]
  dsimp only
  rw [hr]
  rfl
theorem qd_piece (l r : List UInt8) (h0 : l.length ≠ 0) : qd (pieceQ l ++ r) = (qd r).map fun p => (l.take (stepQ l) ++ p.1, p.2) := by
  have hb := nb_lt l 0
  have hs1 : ∀ k, nb l 0 = k → k < 128 → sg l = 1 := fun k h1 h2 => sg_one.2 ⟨h0, by omega⟩
  have hst : (sg l = 0 ∨ nb l 0 < 128) → stepQ l = 1 := fun h => by
    unfold stepQ
    rcases h with h | h
    · rw [if_pos h]
    · have := hs1 _ rfl h
      rw [if_neg (by omega)]; exact this
  unfold pieceQ
  by_cases a1 : sg l = 0 ∨ nb l 0 = 127
  · rw [if_pos a1, hst (by omega), take_one h0]
    exact qd_esc (by simp) rfl (escV_hex _ hb r) rfl
  rw [if_neg a1]
  by_cases a2 : nb l 0 = 39 ∨ nb l 0 = 92
  · rw [if_pos a2, hst (by omega), take_one h0]
    have n1 : nb ([92, UInt8.ofNat (nb l 0)] ++ r) 1 = nb l 0 := by
      show (UInt8.ofNat (nb l 0)).toNat = _
      simp; omega
    have e := escV_q (l := [92, UInt8.ofNat (nb l 0)] ++ r) (by simp) (by rw [n1]; omega)
    rw [n1] at e
    exact qd_esc (by simp) rfl e rfl
  rw [if_neg a2]
  by_cases a3 : nb l 0 = 10
  · rw [if_pos a3, hst (by omega), take_one h0, a3]
    exact qd_esc (by simp) rfl (escV_n (by simp) rfl) rfl
  rw [if_neg a3]
  by_cases a4 : nb l 0 = 9
  · rw [if_pos a4, hst (by omega), take_one h0, a4]
    exact qd_esc (by simp) rfl (escV_t (by simp) rfl) rfl
  rw [if_neg a4]
  by_cases a5 : nb l 0 = 13
  · rw [if_pos a5, hst (by omega), take_one h0, a5]
    exact qd_esc (by simp) rfl (escV_r (by simp) rfl) rfl
  rw [if_neg a5]
  by_cases a6 : nb l 0 < 32
  · rw [if_pos a6, hst (by omega), take_one h0]
    exact qd_esc (by simp) rfl (escV_hex _ hb r) rfl
  rw [if_neg a6]
  have h1 : sg l ≠ 0 := fun e => a1 (.inl e)
  have h2 := sg_le (l := l)
  have hS := sg_take r h1
  have n0 := nb_take l r (sg l) 0 (by omega) h2.2
  have hbd : ¬ bad (l.take (sg l) ++ r) := by unfold bad; rw [hS, n0]; omega
  rw [qd_eq, if_neg (by rw [List.length_append, List.length_take]; omega), n0, if_neg (by omega), if_neg hbd, if_neg (by omega), hS]
  rw [show stepQ l = sg l from by unfold stepQ; rw [if_neg h1]]
  have h3 : (l.take (sg l)).length = sg l := by rw [List.length_take]; omega
  rw [List.drop_append_of_le_length (by omega), List.take_append_of_le_length (by omega), List.take_take, Nat.min_self]
  rw [List.drop_of_length_le (by omega), List.nil_append]
theorem qd_quote (r : List UInt8) : ∀ (k : Nat) (l : List UInt8), l.length = k → qd (quoteL l ++ 39 :: r) = some (l, r) := by
  intro k
  induction k using Nat.strongRecOn with
  | _ k ih =>
    intro l hl
    by_cases h0 : l.length = 0
    · rw [quoteL_nil h0, List.length_eq_zero_iff.1 h0, List.nil_append, qd_eq, if_neg (by simp), if_pos (show nb (39 :: r) 0 = 39 from rfl)]; rfl
    · have h1 := stepQ_pos l
      rw [quoteL_step h0, List.append_assoc, qd_piece l _ h0, ih _ (by rw [List.length_drop]; omega) (l.drop (stepQ l)) rfl]
      simp
end Go.Proofs.Ytphfnmjccdejkaa

/- Layer 10: what follows for the laws from what a scan makes, in plain lists. Conditions: none. -/
namespace Go.Proofs.Ytphfnmjccdejkaa
open Go.RowKit
set_option linter.unusedVariables false

/-! Fuel and places. -/
theorem spanB_drop_le (f : Nat → Bool) (r : List UInt8) : (r.drop (spanB f r)).length ≤ r.length := by rw [List.length_drop]; omega
theorem scanN_fuel : ∀ (f : Nat) (r : List UInt8) (p : Nat) (acc : List (Tok × Nat)), r.length < f → scanN (f + 1) r p acc = scanN f r p acc
  | 0, _, _, _, h => by omega
  | f + 1, r, p, acc, h => by
    rw [scanN, scanN]
    by_cases hd : r.drop (spanB blankB r) = []
    · rw [if_pos hd, if_pos hd]
    · rw [if_neg hd, if_neg hd]
      cases ho : oneL (r.drop (spanB blankB r)) with
      | bad e => rfl
      | tok t n =>
        dsimp only
        have := oneL_size hd ho
        have hl := spanB_drop_le blankB r
        rw [scanN_fuel f _ _ _ (by rw [List.length_drop]; omega)]
theorem scanN_fuel_le (f g : Nat) (r : List UInt8) (p : Nat) (acc : List (Tok × Nat)) (h : r.length < f) (hg : f ≤ g) : scanN g r p acc = scanN f r p acc := by
  obtain ⟨d, rfl⟩ : ∃ d, g = f + d := ⟨g - f, by omega⟩
  induction d with
  | zero => rfl
  | succ d ih => rw [← Nat.add_assoc, scanN_fuel _ _ _ _ (by omega)]; exact ih (by omega)
def shP (k : Nat) (x : Tok × Nat) : Tok × Nat := (x.1, x.2 + k)
def shR (k : Nat) : ScanR → ScanR
  | .bad p e => .bad (p + k) e
  | .ok l => .ok (l.map (shP k))
theorem scanN_shift (k : Nat) : ∀ (f : Nat) (r : List UInt8) (p : Nat) (acc : List (Tok × Nat)), scanN f r (p + k) (acc.map (shP k)) = shR k (scanN f r p acc)
  | 0, _, _, _ => rfl
  | f + 1, r, p, acc => by
    rw [scanN, scanN]
    by_cases hd : r.drop (spanB blankB r) = []
    · rw [if_pos hd, if_pos hd, List.length_map]
      split
      · show ScanR.bad _ _ = ScanR.bad _ _
        rw [Nat.add_right_comm]
      · show ScanR.ok _ = ScanR.ok _
        rw [List.map_append]
        simp [shP]; omega
    · rw [if_neg hd, if_neg hd]
      cases ho : oneL (r.drop (spanB blankB r)) with
      | bad e => show ScanR.bad _ _ = ScanR.bad _ _; rw [Nat.add_right_comm]
      | tok t n =>
        dsimp only
        rw [List.length_map]
        split
        · show ScanR.bad _ _ = ScanR.bad _ _; rw [Nat.add_right_comm]
        · rw [← scanN_shift k f, show p + k + spanB blankB r + n = p + spanB blankB r + n + k from by omega, List.map_append]
          simp only [List.map_cons, List.map_nil, shP]
          rw [show p + k + spanB blankB r = p + spanB blankB r + k from by omega]
theorem spanB_append (f : Nat → Bool) (a r : List UInt8) (h : ∀ c ∈ a, f c.toNat = true) : spanB f (a ++ r) = a.length + spanB f r := by
  induction a with
  | nil => simp
  | cons c a ih =>
    rw [List.cons_append, spanB_pos _ (h c (by simp)), ih (fun d hd => h d (by simp [hd]))]
    simp; omega
theorem scanN_blanks (f : Nat) (b r : List UInt8) (p : Nat) (acc : List (Tok × Nat)) (h : ∀ c ∈ b, blankB c.toNat = true) : scanN (f + 1) (b ++ r) p acc = scanN (f + 1) r (p + b.length) acc := by
  rw [scanN, scanN, spanB_append _ _ _ h]
  have hd : (b ++ r).drop (b.length + spanB blankB r) = r.drop (spanB blankB r) := by
    rw [← List.drop_drop, List.drop_left]
  rw [hd, ← Nat.add_assoc]
/-- A text behind k blanks. -/
theorem scanL_blanks (b s : List UInt8) (h : ∀ c ∈ b, blankB c.toNat = true) (hl : (b ++ s).length ≤ 16384) : scanL (b ++ s) = shR b.length (scanL s) := by
  unfold scanL
  rw [List.length_append] at hl
  rw [if_neg (by rw [List.length_append]; omega), if_neg (by omega), scanN_blanks _ _ _ _ _ h, scanN_fuel_le (s.length + 1) _ s _ _ (by omega) (by rw [List.length_append]; omega)]
  exact scanN_shift b.length (s.length + 1) s 0 []

/-! What is written. -/
def tokW (t : Tok) : List UInt8 := tokT t.k t.t t.n
theorem oneL_taken {r : List UInt8} {t : Tok} {n : Nat} (h : oneL r = .tok t n) :
    (t.k = 2 ∧ letter (nb r 0) = true ∧ n = spanB nchar r ∧ n ≤ 64 ∧ t.t = largeL (r.take n) ∧ wordB (r.take n) = true ∧ t.n = 0) ∨
    (t.k = 1 ∧ letter (nb r 0) = true ∧ n = spanB nchar r ∧ n ≤ 64 ∧ t.t = r.take n ∧ wordB (r.take n) = false ∧ t.n = 0) ∨
    (t.k = 3 ∧ letter (nb r 0) = false ∧ digt (nb r 0) = true ∧ n = spanB digt r ∧ t.t = [] ∧ parseOf (r.take n) = (t.n, 0)) ∨
    (t.k = 4 ∧ nb r 0 = 39 ∧ (∃ rest, qd (r.drop 1) = some (t.t, rest) ∧ n = r.length - rest.length) ∧ t.n = 0) ∨
    (t.k = 5 ∧ letter (nb r 0) = false ∧ digt (nb r 0) = false ∧ nb r 0 ≠ 39 ∧ t.t = signL r ∧ signL r ≠ [] ∧ n = (signL r).length ∧ t.n = 0) := by
  unfold oneL at h
  split at h
  · rename_i a
    split at h
    · cases h
    · split at h
      · rename_i b c
        cases h; exact .inl ⟨rfl, a, rfl, by omega, rfl, c, rfl⟩
      · rename_i b c
        cases h; exact .inr (.inl ⟨rfl, a, rfl, by omega, rfl, by simpa using c, rfl⟩)
  · rename_i a
    split at h
    · rename_i b
      split at h
      · rename_i c
        cases h; exact .inr (.inr (.inl ⟨rfl, by simpa using a, b, rfl, rfl, Prod.ext rfl c⟩))
      · cases h
    · rename_i b
      split at h
      · rename_i c
        split at h
        · cases h
        · rename_i x rest hq
          cases h; exact .inr (.inr (.inr (.inl ⟨rfl, c, ⟨rest, hq, rfl⟩, rfl⟩)))
      · rename_i c
        split at h
        · cases h
        · rename_i d
          cases h; exact .inr (.inr (.inr (.inr ⟨rfl, by simpa using a, by simpa using b, c, rfl, d, rfl, rfl⟩)))
theorem largeL_len (l : List UInt8) : (largeL l).length = l.length := by simp [largeL]
theorem lgB_twice : ∀ c : Fin 256, lgB (lgB (UInt8.ofNat c.val)) = lgB (UInt8.ofNat c.val) := by decide +kernel
theorem largeL_twice (l : List UInt8) : largeL (largeL l) = largeL l := by
  unfold largeL
  rw [List.map_map]
  refine List.map_congr_left (fun c _ => ?_)
  have := lgB_twice ⟨c.toNat, c.toNat_lt⟩
  rw [UInt8.ofNat_toNat] at this
  exact this
/-- A token's text has as many bytes as the token, but for those in quotes. -/
theorem tokW_len {r : List UInt8} {t : Tok} {n : Nat} (hr : r ≠ []) (h : oneL r = .tok t n) (h4 : t.k ≠ 4) : (tokW t).length = n := by
  have hsz := oneL_size hr h
  have hk : ∀ k : Nat, t.k = k → k ≠ 3 → k ≠ 4 → tokW t = t.t := fun k e h3 h4 => by
    unfold tokW tokT; rw [if_neg (by omega), if_neg (by omega)]
  rcases oneL_taken h with ⟨e, _, _, _, ht, _⟩ | ⟨e, _, _, _, ht, _⟩ | ⟨e, _, _, _, _, hp⟩ | ⟨e, _⟩ | ⟨e, _, _, _, ht, _, hn, _⟩
  · rw [hk 2 e (by decide) (by decide), ht, largeL_len, List.length_take]; omega
  · rw [hk 1 e (by decide) (by decide), ht, List.length_take]; omega
  · have ht : tokW t = textOf t.n := by unfold tokW tokT; rw [if_pos (by omega)]
    rcases parse_cases (r.take n) with ⟨x, hx, hne⟩ | ⟨m, hm, _, hm2⟩
    · rw [hx] at hp; injection hp with _ h2; exact absurd h2 hne
    · rw [hm] at hp; injection hp with h1 _
      rw [ht, ← h1, hm2, List.length_take]; omega
  · exact absurd e h4
  · rw [hk 5 e (by decide) (by decide), ht, hn]
end Go.Proofs.Ytphfnmjccdejkaa

/- Layer 10: the law LexFaults. Conditions: the text is no longer than 2^39; the variable of internal/bytealg is an int. -/
namespace Go.Proofs.Ytphfnmjccdejkaa
open Go.RowKit Go.Shelf
set_option linter.unusedSimpArgs false
set_option linter.unusedVariables false

/-- The eight blanks of the law. -/
def blanks8 : ByteArray := { data := #[32, 32, 32, 32, 32, 32, 32, 32] }
theorem blanks_take (K : Nat) (h : K ≤ 8) : (blanks8.extract 0 K).size = K ∧ ∀ c ∈ (blanks8.extract 0 K).data.toList, blankB c.toNat = true := by
  have hs : (blanks8.extract 0 K).size = K := by
    have h8 : blanks8.size = 8 := rfl
    simp [h8]; omega
  refine ⟨hs, fun c hc => ?_⟩
  rw [extract_drop] at hc
  have hm : c ∈ blanks8.data.toList := List.mem_of_mem_drop (List.mem_of_mem_take hc)
  have : ∀ d ∈ blanks8.data.toList, blankB d.toNat = true := by decide
  exact this c hm
theorem rem9 (n : Int) : ∃ K : Nat, K ≤ 8 ∧ (IntKind.u64.wrap n).tmod 9 = K ∧ (IntKind.u64.wrap n) % 9 = K := by
  have h0 : 0 ≤ IntKind.u64.wrap n := by simp [IntKind.wrap, IntKind.signed, IntKind.bits]; omega
  refine ⟨((IntKind.u64.wrap n) % 9).toNat, by omega, ?_, by omega⟩
  rw [Int.tmod_eq_emod_of_nonneg h0]; omega

theorem scanN_bad : ∀ (f : Nat) (r : List UInt8) (p : Nat) (acc : List (Tok × Nat)) (q : Nat) (x : Int), scanN f r p acc = .bad q x → q ≤ p + r.length ∧ x ≠ 0
  | 0, r, p, acc, q, x, h => by rw [scanN] at h; cases h; exact ⟨by omega, by decide⟩
  | f + 1, r, p, acc, q, x, h => by
    have hle := spanB_le blankB r
    rw [scanN] at h
    by_cases hd : r.drop (spanB blankB r) = []
    · rw [if_pos hd] at h
      split at h
      · cases h; exact ⟨by omega, by decide⟩
      · cases h
    · rw [if_neg hd] at h
      cases ho : oneL (r.drop (spanB blankB r)) with
      | bad e => rw [ho] at h; cases h; exact ⟨by omega, oneL_ne ho⟩
      | tok t n =>
        rw [ho] at h
        dsimp only at h
        have hsz := oneL_size hd ho
        split at h
        · cases h; exact ⟨by omega, by decide⟩
        · have := scanN_bad f _ _ _ q x h
          rw [List.length_drop] at hsz
          rw [List.length_drop, List.length_drop] at this
          exact ⟨by omega, this.2⟩
theorem scanL_bad {s : List UInt8} {q : Nat} {x : Int} (h : scanL s = .bad q x) : q ≤ s.length ∧ x ≠ 0 := by
  unfold scanL at h
  split at h
  · cases h; exact ⟨by omega, by decide⟩
  · have := scanN_bad _ _ _ _ _ _ h
    exact ⟨by omega, this.2⟩

set_option maxRecDepth 100000 in
set_option maxHeartbeats 1000000 in
theorem lexFaults_any (s : ByteArray) (n mm : Int) (w : World) (hs : s.size ≤ 549755813888) (hm : w.cell? mlA = some (.int .i64 mm)) (hg : 0 < w.heap.size) :
    Calls Try.prog 7 #[.string s, .int .i64 n] w fun e w' => e = .returned (.bool true) ∧ Below w.heap.size w w' := by
  have HM : Hid (∀ w', Below w.heap.size w w' → w'.cell? mlA = some (.int .i64 mm) ∧ 0 < w'.heap.size) := Lib.hid (fun w' hb => ⟨by rw [hb.cell (by show 0 < w.heap.size; exact hg)]; exact hm, Nat.lt_of_lt_of_le hg hb.size⟩)
  have HS := Lib.hid (scan_any s mm w (by omega) hm hg)
  have HK := Lib.hid (rem9 n)
  clear hm
  go_enter Try.func7, Try.ntmps7
  go_upto_region 1 with fail
  go_cut [5] (fun v wx => ∃ K : Nat, K ≤ 8 ∧ v = .int .i64 K ∧ wx = w)
  case first =>
    obtain ⟨K, hK, h1, h2⟩ := HK.out
    go_wp2_with fail
    go_meet
    have hw : wrap64 (K : Int) = K := by first | exact IntWalk.i64_in _ (by omega) | (unfold wrap64; omega)
    exact ⟨K, hK, by first | rfl | rw [h1, hw] | rw [h2, hw], rfl⟩
  case rest =>
    obtain ⟨K, hK, rfl, rfl⟩ := hcut
    have hK' : (K : Int) ≤ 8 := by omega
    have hK0 : (0 : Int) ≤ (K : Int) := by omega
    obtain ⟨P, hP⟩ : ∃ P, blanks8.extract 0 K = P := ⟨_, rfl⟩
    have hb8 := blanks_take K hK
    rw [hP] at hb8
    unfold blanks8 at hP
    have hz1 : P.size = K := hb8.1
    have hz2 : (P ++ s).size = K + s.size := by rw [ByteArray.size_append, hz1]
    have HL : Hid ((P ++ s).data.toList = P.data.toList ++ s.data.toList) := Lib.hid (by simp)
    have HLN : Hid (P.data.toList.length = K) := Lib.hid (by rw [← hz1]; simp)
    have HSH := Lib.hid (fun h => scanL_blanks P.data.toList s.data.toList hb8.2 h)
    rw [← HL.out] at HSH
    have HT := Lib.hid (fun w' h1 h2 => scan_any (P ++ s) mm w' (by rw [hz2]; omega) h1 h2)
    have HZ1 := Lib.hid hz1
    clear hb8
    obtain ⟨R, hR⟩ : ∃ R, scanL s.data.toList = R := ⟨_, rfl⟩
    have HBD := Lib.hid (fun q x h => scanL_bad (s := s.data.toList) (q := q) (x := x) h)
    rw [hR] at HS HSH HBD
    clear hR
    go_wp2_with fail
    refine HS.out.mono ?_
    rintro e w1 ⟨he, hb1⟩
    obtain ⟨l1, v1, p1, x1, rfl, _, hr1⟩ := scan_list he
    have HB1 := Lib.hid hb1
    have HR1 := Lib.hid hr1
    clear hb1 hr1 he
    go_wp2_with fail
    refine (HT.out w1 (HM.out w1 HB1.out).1 (HM.out w1 HB1.out).2).mono ?_
    rintro e w2 ⟨he, hb2⟩
    obtain ⟨l2, v2, p2, x2, rfl, _, hr2⟩ := scan_list he
    have HB2 := Lib.hid (below_step HB1.out rfl hb2)
    have HR2 := Lib.hid hr2
    have HWK := Lib.hid (works_any mm w2 (HM.out w2 HB2.out).1 (HM.out w2 HB2.out).2)
    clear hb2 hr2 he
    by_cases hbig : 16384 < K + s.size
    · have hbig' : (16384 : Int) < (K : Int) + s.size := by omega
      go_wp2_with fail
      refine HWK.out.mono ?_
      rintro e w3 ⟨rfl, hb3⟩
      go_wp2_with fail
      go_ret
      exact ⟨rfl, below_step HB2.out rfl hb3⟩
    · have hbig' : ¬ (16384 : Int) < (K : Int) + s.size := by omega
      have h2 := HR2.out
      rw [HSH.out (by rw [HL.out, List.length_append, HLN.out]; simp; omega)] at h2
      have h1 := HR1.out
      cases R with
      | bad p x =>
        obtain ⟨_, rfl, rfl⟩ := h1
        obtain ⟨_, h3, rfl⟩ := h2
        rw [HLN.out] at h3
        have HP2 := Lib.hid h3
        have hpb : ((p2 : Int) == (p : Int) + K) = true := by rw [h3]; simp
        have hpx := HBD.out p x2 rfl
        have hps : (p : Int) ≤ 549755813888 := by have := hpx.1; simp at this; omega
        have hp0 : (0 : Int) ≤ (p : Int) := by omega
        have hxb : (x2 == 0) = false := beq_eq_false_iff_ne.2 hpx.2
        clear h3 hpx
        go_wp2_with fail
        refine HWK.out.mono ?_
        rintro e w3 ⟨rfl, hb3⟩
        go_wp2_with fail
        go_ret
        exact ⟨rfl, below_step HB2.out rfl hb3⟩
      | ok l =>
        obtain ⟨_, rfl, rfl⟩ := h1
        obtain ⟨_, rfl, rfl⟩ := h2
        go_wp2_with fail
        refine HWK.out.mono ?_
        rintro e w3 ⟨rfl, hb3⟩
        go_wp2_with fail
        go_ret
        exact ⟨rfl, below_step HB2.out rfl hb3⟩
end Go.Proofs.Ytphfnmjccdejkaa

/- The texts L23, L24, L25, L26, L27, L28, L29, Open, L30 of this seat, one behind the other. Conditions: each says its own. -/
import Derived.Deep.Slices
import Derived.ChangeArms
import Derived.Test.YtphfnmjccdejkaaM3

/- Layer 10: the law LexScans. Conditions: the text is no longer than 2^40; the variable of internal/bytealg is an int. -/
namespace Go.Proofs.Ytphfnmjccdejkaa
open Go.RowKit Go.Shelf
set_option linter.unusedSimpArgs false
set_option linter.unusedVariables false

theorem scanN_len : ∀ (f : Nat) (r : List UInt8) (p : Nat) (acc l : List (Tok × Nat)), acc.length ≤ 4096 → scanN f r p acc = .ok l → l.length ≤ 4097
  | 0, _, _, _, _, _, h => by rw [scanN] at h; cases h
  | f + 1, r, p, acc, l, ha, h => by
    rw [scanN] at h
    split at h
    · split at h
      · cases h
      · cases h; simp; omega
    · split at h
      · cases h
      · split at h
        · cases h
        · exact scanN_len f _ _ _ l (by simp; omega) h
theorem scanL_len {s : List UInt8} {l : List (Tok × Nat)} (h : scanL s = .ok l) : l.length ≤ 4097 := by
  unfold scanL at h
  split at h
  · cases h
  · exact scanN_len _ _ _ _ _ (by simp) h

set_option maxRecDepth 100000 in
set_option maxHeartbeats 4000000 in
theorem lexScans_any (s : ByteArray) (mm : Int) (w : World) (hs : s.size ≤ 1099511627776) (hm : w.cell? mlA = some (.int .i64 mm)) (hg : 0 < w.heap.size) :
    Calls Try.prog 3 #[.string s] w fun e w' => e = .returned (.bool true) ∧ Below w.heap.size w w' := by
  have HS := Lib.hid (scan_any s mm w hs hm hg)
  have HR := Lib.hid (fun w => rscan_any s w hs)
  have HW := Lib.hid (fun w' h1 h2 => word_any s mm w' hs h1 h2)
  have HRW := Lib.hid (fun w => rword_any s w hs)
  have HLEN := Lib.hid (fun l => scanL_len (s := s.data.toList) (l := l))
  obtain ⟨X, b, hXb⟩ := wordR_form s.data.toList
  rw [hXb] at HW HRW
  clear hXb
  obtain ⟨R, hR⟩ : ∃ R, scanL s.data.toList = R := ⟨_, rfl⟩
  rw [hR] at HS HR HLEN
  clear hR
  have HM : Hid (∀ w', Below w.heap.size w w' → w'.cell? mlA = some (.int .i64 mm) ∧ 0 < w'.heap.size) := Lib.hid (fun w' hb => ⟨by rw [hb.cell (by show 0 < w.heap.size; exact hg)]; exact hm, Nat.lt_of_lt_of_le hg hb.size⟩)
  clear hm
  go_enter Try.func3, Try.ntmps3
  go_wp2_with fail
  refine HS.out.mono ?_
  rintro e w1 ⟨he, hb1⟩
  obtain ⟨l1, v1, p1, x1, rfl, ho1, hr1⟩ := scan_list he
  have HB1 := Lib.hid hb1
  have HO1 := Lib.hid ho1
  have HR1 := Lib.hid hr1
  clear hb1 ho1 hr1 he
  go_wp2_with fail
  refine (HR.out _).mono ?_
  rintro e w2 ⟨he, hb2⟩
  obtain ⟨l2, v2, p2, x2, rfl, ho2, hr2⟩ := scan_list he
  have HB2 := Lib.hid (below_step HB1.out rfl hb2)
  have HO1b := Lib.hid (own_below HO1.out hb2)
  obtain ⟨rfl, rfl, rfl⟩ : l2 = l1 ∧ p2 = p1 ∧ x2 = x1 := by
    have h1 := HR1.out
    cases R with
    | bad p x => obtain ⟨a, b, c⟩ := hr2; obtain ⟨a', b', c'⟩ := h1; exact ⟨a.trans a'.symm, b.trans b'.symm, c.trans c'.symm⟩
    | ok l => obtain ⟨a, b, c⟩ := hr2; obtain ⟨a', b', c'⟩ := h1; exact ⟨a.trans a'.symm, b.trans b'.symm, c.trans c'.symm⟩
  have HO2 := Lib.hid ho2
  have hlen : l2.length ≤ 1000000 := by
    cases R with
    | bad p x => obtain ⟨rfl, _⟩ := hr2; simp
    | ok l => obtain ⟨rfl, _⟩ := hr2; have := HLEN.out _ rfl; omega
  clear hb2 ho2 hr2 he HR1 HO1
  go_wp2_with fail
  refine (HW.out w2 (HM.out w2 HB2.out).1 (HM.out w2 HB2.out).2).mono ?_
  rintro e w3 ⟨rfl, hb3⟩
  have HB3 := Lib.hid (below_step HB2.out rfl hb3)
  have HO1c := Lib.hid (own_below HO1b.out hb3)
  have HO2c := Lib.hid (own_below HO2.out hb3)
  clear hb3
  go_wp2_with fail
  refine (HRW.out _).mono ?_
  rintro e w4 ⟨rfl, hb4⟩
  have HB4 := Lib.hid (below_step HB3.out rfl hb4)
  have HSM := Lib.hid (same_eq _ _ l2 v1 v2 w4 hlen (own_below HO1c.out hb4) (own_below HO2c.out hb4))
  clear hb4
  go_wp2_with fail
  refine HSM.out.mono ?_
  rintro e w5 ⟨rfl, hb5⟩
  have HB5 := Lib.hid (below_step HB4.out rfl hb5)
  have HWK := Lib.hid (works_any mm w5 (HM.out w5 HB5.out).1 (HM.out w5 HB5.out).2)
  clear hb5
  go_wp2_with fail
  refine HWK.out.mono ?_
  rintro e w6 ⟨rfl, hb6⟩
  have HB6 := Lib.hid (below_step HB5.out rfl hb6)
  clear hb6
  go_wp2_with fail
  go_ret
  exact ⟨rfl, HB6.out⟩
end Go.Proofs.Ytphfnmjccdejkaa

/- Layer 10: what is written in quotes is read to its end, whatever stands behind, in plain lists. Conditions: none. -/
namespace Go.Proofs.Ytphfnmjccdejkaa
open Go.RowKit
set_option linter.unusedVariables false

/-- A quoted text is read to its end, whatever stands behind. -/
theorem qd_esc {l r : List UInt8} {x : UInt8} {n : Nat} (h0 : l.length ≠ 0) (h : nb l 0 = 92) (he : escV l = some (x, n)) (hr : l.drop n = r) : qd l = (qd r).map fun p => ([x] ++ p.1, p.2) := by
  have h1 := sg_one.2 ⟨h0, show nb l 0 < 128 by omega⟩
  rw [qd_eq, if_neg h0, if_neg (by omega), if_neg (by unfold bad; omega), if_pos h, he]
  dsimp only
  rw [hr]
  rfl
theorem qd_piece (l r : List UInt8) (h0 : l.length ≠ 0) : qd (pieceQ l ++ r) = (qd r).map fun p => (l.take (stepQ l) ++ p.1, p.2) := by
  have hb := nb_lt l 0
  have hs1 : ∀ k, nb l 0 = k → k < 128 → sg l = 1 := fun k h1 h2 => sg_one.2 ⟨h0, by omega⟩
  have hst : (sg l = 0 ∨ nb l 0 < 128) → stepQ l = 1 := fun h => by
    unfold stepQ
    rcases h with h | h
    · rw [if_pos h]
    · have := hs1 _ rfl h
      rw [if_neg (by omega)]; exact this
  unfold pieceQ
  by_cases a1 : sg l = 0 ∨ nb l 0 = 127
  · rw [if_pos a1, hst (by omega), take_one h0]
    exact qd_esc (by simp) rfl (escV_hex _ hb r) rfl
  rw [if_neg a1]
  by_cases a2 : nb l 0 = 39 ∨ nb l 0 = 92
  · rw [if_pos a2, hst (by omega), take_one h0]
    have n1 : nb ([92, UInt8.ofNat (nb l 0)] ++ r) 1 = nb l 0 := by
      show (UInt8.ofNat (nb l 0)).toNat = _
      simp; omega
    have e := escV_q (l := [92, UInt8.ofNat (nb l 0)] ++ r) (by simp) (by rw [n1]; omega)
    rw [n1] at e
    exact qd_esc (by simp) rfl e rfl
  rw [if_neg a2]
  by_cases a3 : nb l 0 = 10
  · rw [if_pos a3, hst (by omega), take_one h0, a3]
    exact qd_esc (by simp) rfl (escV_n (by simp) rfl) rfl
  rw [if_neg a3]
  by_cases a4 : nb l 0 = 9
  · rw [if_pos a4, hst (by omega), take_one h0, a4]
    exact qd_esc (by simp) rfl (escV_t (by simp) rfl) rfl
  rw [if_neg a4]
  by_cases a5 : nb l 0 = 13
  · rw [if_pos a5, hst (by omega), take_one h0, a5]
    exact qd_esc (by simp) rfl (escV_r (by simp) rfl) rfl
  rw [if_neg a5]
  by_cases a6 : nb l 0 < 32
  · rw [if_pos a6, hst (by omega), take_one h0]
    exact qd_esc (by simp) rfl (escV_hex _ hb r) rfl
  rw [if_neg a6]
  have h1 : sg l ≠ 0 := fun e => a1 (.inl e)
  have h2 := sg_le (l := l)
  have hS := sg_take r h1
  have n0 := nb_take l r (sg l) 0 (by omega) h2.2
  have hbd : ¬ bad (l.take (sg l) ++ r) := by unfold bad; rw [hS, n0]; omega
  rw [qd_eq, if_neg (by rw [List.length_append, List.length_take]; omega), n0, if_neg (by omega), if_neg hbd, if_neg (by omega), hS]
  rw [show stepQ l = sg l from by unfold stepQ; rw [if_neg h1]]
  have h3 : (l.take (sg l)).length = sg l := by rw [List.length_take]; omega
  rw [List.drop_append_of_le_length (by omega), List.take_append_of_le_length (by omega), List.take_take, Nat.min_self]
  rw [List.drop_of_length_le (by omega), List.nil_append]
theorem qd_quote (r : List UInt8) : ∀ (k : Nat) (l : List UInt8), l.length = k → qd (quoteL l ++ 39 :: r) = some (l, r) := by
  intro k
  induction k using Nat.strongRecOn with
  | _ k ih =>
    intro l hl
    by_cases h0 : l.length = 0
    · rw [quoteL_nil h0, List.length_eq_zero_iff.1 h0, List.nil_append, qd_eq, if_neg (by simp), if_pos (show nb (39 :: r) 0 = 39 from rfl)]; rfl
    · have h1 := stepQ_pos l
      rw [quoteL_step h0, List.append_assoc, qd_piece l _ h0, ih _ (by rw [List.length_drop]; omega) (l.drop (stepQ l)) rfl]
      simp
end Go.Proofs.Ytphfnmjccdejkaa

/- Layer 10: what follows for the laws from what a scan makes, in plain lists. Conditions: none. -/
namespace Go.Proofs.Ytphfnmjccdejkaa
open Go.RowKit
set_option linter.unusedVariables false

/-! Fuel and places. -/
theorem spanB_drop_le (f : Nat → Bool) (r : List UInt8) : (r.drop (spanB f r)).length ≤ r.length := by rw [List.length_drop]; omega
theorem scanN_fuel : ∀ (f : Nat) (r : List UInt8) (p : Nat) (acc : List (Tok × Nat)), r.length < f → scanN (f + 1) r p acc = scanN f r p acc
  | 0, _, _, _, h => by omega
  | f + 1, r, p, acc, h => by
    rw [scanN, scanN]
    by_cases hd : r.drop (spanB blankB r) = []
    · rw [if_pos hd, if_pos hd]
    · rw [if_neg hd, if_neg hd]
      cases ho : oneL (r.drop (spanB blankB r)) with
      | bad e => rfl
      | tok t n =>
        dsimp only
        have := oneL_size hd ho
        have hl := spanB_drop_le blankB r
        rw [scanN_fuel f _ _ _ (by rw [List.length_drop]; omega)]
theorem scanN_fuel_le (f g : Nat) (r : List UInt8) (p : Nat) (acc : List (Tok × Nat)) (h : r.length < f) (hg : f ≤ g) : scanN g r p acc = scanN f r p acc := by
  obtain ⟨d, rfl⟩ : ∃ d, g = f + d := ⟨g - f, by omega⟩
  induction d with
  | zero => rfl
  | succ d ih => rw [← Nat.add_assoc, scanN_fuel _ _ _ _ (by omega)]; exact ih (by omega)
def shP (k : Nat) (x : Tok × Nat) : Tok × Nat := (x.1, x.2 + k)
def shR (k : Nat) : ScanR → ScanR
  | .bad p e => .bad (p + k) e
  | .ok l => .ok (l.map (shP k))
theorem scanN_shift (k : Nat) : ∀ (f : Nat) (r : List UInt8) (p : Nat) (acc : List (Tok × Nat)), scanN f r (p + k) (acc.map (shP k)) = shR k (scanN f r p acc)
  | 0, _, _, _ => rfl
  | f + 1, r, p, acc => by
    rw [scanN, scanN]
    by_cases hd : r.drop (spanB blankB r) = []
    · rw [if_pos hd, if_pos hd, List.length_map]
      split
      · show ScanR.bad _ _ = ScanR.bad _ _
        rw [Nat.add_right_comm]
      · show ScanR.ok _ = ScanR.ok _
        rw [List.map_append]
        simp [shP]; omega
    · rw [if_neg hd, if_neg hd]
      cases ho : oneL (r.drop (spanB blankB r)) with
      | bad e => show ScanR.bad _ _ = ScanR.bad _ _; rw [Nat.add_right_comm]
      | tok t n =>
        dsimp only
        rw [List.length_map]
        split
        · show ScanR.bad _ _ = ScanR.bad _ _; rw [Nat.add_right_comm]
        · rw [← scanN_shift k f, show p + k + spanB blankB r + n = p + spanB blankB r + n + k from by omega, List.map_append]
          simp only [List.map_cons, List.map_nil, shP]
          rw [show p + k + spanB blankB r = p + spanB blankB r + k from by omega]
theorem spanB_append (f : Nat → Bool) (a r : List UInt8) (h : ∀ c ∈ a, f c.toNat = true) : spanB f (a ++ r) = a.length + spanB f r := by
  induction a with
  | nil => simp
  | cons c a ih =>
    rw [List.cons_append, spanB_pos _ (h c (by simp)), ih (fun d hd => h d (by simp [hd]))]
    simp; omega
theorem scanN_blanks (f : Nat) (b r : List UInt8) (p : Nat) (acc : List (Tok × Nat)) (h : ∀ c ∈ b, blankB c.toNat = true) : scanN (f + 1) (b ++ r) p acc = scanN (f + 1) r (p + b.length) acc := by
  rw [scanN, scanN, spanB_append _ _ _ h]
  have hd : (b ++ r).drop (b.length + spanB blankB r) = r.drop (spanB blankB r) := by
    rw [← List.drop_drop, List.drop_left]
  rw [hd, ← Nat.add_assoc]
/-- A text behind k blanks. -/
theorem scanL_blanks (b s : List UInt8) (h : ∀ c ∈ b, blankB c.toNat = true) (hl : (b ++ s).length ≤ 16384) : scanL (b ++ s) = shR b.length (scanL s) := by
  unfold scanL
  rw [List.length_append] at hl
  rw [if_neg (by rw [List.length_append]; omega), if_neg (by omega), scanN_blanks _ _ _ _ _ h, scanN_fuel_le (s.length + 1) _ s _ _ (by omega) (by rw [List.length_append]; omega)]
  exact scanN_shift b.length (s.length + 1) s 0 []

/-! What is written. -/
def tokW (t : Tok) : List UInt8 := tokT t.k t.t t.n
theorem oneL_taken {r : List UInt8} {t : Tok} {n : Nat} (h : oneL r = .tok t n) :
    (t.k = 2 ∧ letter (nb r 0) = true ∧ n = spanB nchar r ∧ n ≤ 64 ∧ t.t = largeL (r.take n) ∧ wordB (r.take n) = true ∧ t.n = 0) ∨
    (t.k = 1 ∧ letter (nb r 0) = true ∧ n = spanB nchar r ∧ n ≤ 64 ∧ t.t = r.take n ∧ wordB (r.take n) = false ∧ t.n = 0) ∨
    (t.k = 3 ∧ letter (nb r 0) = false ∧ digt (nb r 0) = true ∧ n = spanB digt r ∧ t.t = [] ∧ parseOf (r.take n) = (t.n, 0)) ∨
    (t.k = 4 ∧ nb r 0 = 39 ∧ (∃ rest, qd (r.drop 1) = some (t.t, rest) ∧ n = r.length - rest.length) ∧ t.n = 0) ∨
    (t.k = 5 ∧ letter (nb r 0) = false ∧ digt (nb r 0) = false ∧ nb r 0 ≠ 39 ∧ t.t = signL r ∧ signL r ≠ [] ∧ n = (signL r).length ∧ t.n = 0) := by
  unfold oneL at h
  split at h
  · rename_i a
    split at h
    · cases h
    · split at h
      · rename_i b c
        cases h; exact .inl ⟨rfl, a, rfl, by omega, rfl, c, rfl⟩
      · rename_i b c
        cases h; exact .inr (.inl ⟨rfl, a, rfl, by omega, rfl, by simpa using c, rfl⟩)
  · rename_i a
    split at h
    · rename_i b
      split at h
      · rename_i c
        cases h; exact .inr (.inr (.inl ⟨rfl, by simpa using a, b, rfl, rfl, Prod.ext rfl c⟩))
      · cases h
    · rename_i b
      split at h
      · rename_i c
        split at h
        · cases h
        · rename_i x rest hq
          cases h; exact .inr (.inr (.inr (.inl ⟨rfl, c, ⟨rest, hq, rfl⟩, rfl⟩)))
      · rename_i c
        split at h
        · cases h
        · rename_i d
          cases h; exact .inr (.inr (.inr (.inr ⟨rfl, by simpa using a, by simpa using b, c, rfl, d, rfl, rfl⟩)))
theorem largeL_len (l : List UInt8) : (largeL l).length = l.length := by simp [largeL]
theorem lgB_twice : ∀ c : Fin 256, lgB (lgB (UInt8.ofNat c.val)) = lgB (UInt8.ofNat c.val) := by decide +kernel
theorem largeL_twice (l : List UInt8) : largeL (largeL l) = largeL l := by
  unfold largeL
  rw [List.map_map]
  refine List.map_congr_left (fun c _ => ?_)
  have := lgB_twice ⟨c.toNat, c.toNat_lt⟩
  rw [UInt8.ofNat_toNat] at this
  exact this
/-- A token's text has as many bytes as the token, but for those in quotes. -/
theorem tokW_len {r : List UInt8} {t : Tok} {n : Nat} (hr : r ≠ []) (h : oneL r = .tok t n) (h4 : t.k ≠ 4) : (tokW t).length = n := by
  have hsz := oneL_size hr h
  have hk : ∀ k : Nat, t.k = k → k ≠ 3 → k ≠ 4 → tokW t = t.t := fun k e h3 h4 => by
    unfold tokW tokT; rw [if_neg (by omega), if_neg (by omega)]
  rcases oneL_taken h with ⟨e, _, _, _, ht, _⟩ | ⟨e, _, _, _, ht, _⟩ | ⟨e, _, _, _, _, hp⟩ | ⟨e, _⟩ | ⟨e, _, _, _, ht, _, hn, _⟩
  · rw [hk 2 e (by decide) (by decide), ht, largeL_len, List.length_take]; omega
  · rw [hk 1 e (by decide) (by decide), ht, List.length_take]; omega
  · have ht : tokW t = textOf t.n := by unfold tokW tokT; rw [if_pos (by omega)]
    rcases parse_cases (r.take n) with ⟨x, hx, hne⟩ | ⟨m, hm, _, hm2⟩
    · rw [hx] at hp; injection hp with _ h2; exact absurd h2 hne
    · rw [hm] at hp; injection hp with h1 _
      rw [ht, ← h1, hm2, List.length_take]; omega
  · exact absurd e h4
  · rw [hk 5 e (by decide) (by decide), ht, hn]
end Go.Proofs.Ytphfnmjccdejkaa

/- Layer 10: the law LexFaults. Conditions: the text is no longer than 2^39; the variable of internal/bytealg is an int. -/
namespace Go.Proofs.Ytphfnmjccdejkaa
open Go.RowKit Go.Shelf
set_option linter.unusedSimpArgs false
set_option linter.unusedVariables false

/-- The eight blanks of the law. -/
def blanks8 : ByteArray := { data := #[32, 32, 32, 32, 32, 32, 32, 32] }
theorem blanks_take (K : Nat) (h : K ≤ 8) : (blanks8.extract 0 K).size = K ∧ ∀ c ∈ (blanks8.extract 0 K).data.toList, blankB c.toNat = true := by
  have hs : (blanks8.extract 0 K).size = K := by
    have h8 : blanks8.size = 8 := rfl
    simp [h8]; omega
  refine ⟨hs, fun c hc => ?_⟩
  rw [extract_drop] at hc
  have hm : c ∈ blanks8.data.toList := List.mem_of_mem_drop (List.mem_of_mem_take hc)
  have : ∀ d ∈ blanks8.data.toList, blankB d.toNat = true := by decide
  exact this c hm
theorem rem9 (n : Int) : ∃ K : Nat, K ≤ 8 ∧ (IntKind.u64.wrap n).tmod 9 = K ∧ (IntKind.u64.wrap n) % 9 = K := by
  have h0 : 0 ≤ IntKind.u64.wrap n := by simp [IntKind.wrap, IntKind.signed, IntKind.bits]; omega
  refine ⟨((IntKind.u64.wrap n) % 9).toNat, by omega, ?_, by omega⟩
  rw [Int.tmod_eq_emod_of_nonneg h0]; omega

theorem scanN_bad : ∀ (f : Nat) (r : List UInt8) (p : Nat) (acc : List (Tok × Nat)) (q : Nat) (x : Int), scanN f r p acc = .bad q x → q ≤ p + r.length ∧ x ≠ 0
  | 0, r, p, acc, q, x, h => by rw [scanN] at h; cases h; exact ⟨by omega, by decide⟩
  | f + 1, r, p, acc, q, x, h => by
    have hle := spanB_le blankB r
    rw [scanN] at h
    by_cases hd : r.drop (spanB blankB r) = []
    · rw [if_pos hd] at h
      split at h
      · cases h; exact ⟨by omega, by decide⟩
      · cases h
    · rw [if_neg hd] at h
      cases ho : oneL (r.drop (spanB blankB r)) with
      | bad e => rw [ho] at h; cases h; exact ⟨by omega, oneL_ne ho⟩
      | tok t n =>
        rw [ho] at h
        dsimp only at h
        have hsz := oneL_size hd ho
        split at h
        · cases h; exact ⟨by omega, by decide⟩
        · have := scanN_bad f _ _ _ q x h
          rw [List.length_drop] at hsz
          rw [List.length_drop, List.length_drop] at this
          exact ⟨by omega, this.2⟩
theorem scanL_bad {s : List UInt8} {q : Nat} {x : Int} (h : scanL s = .bad q x) : q ≤ s.length ∧ x ≠ 0 := by
  unfold scanL at h
  split at h
  · cases h; exact ⟨by omega, by decide⟩
  · have := scanN_bad _ _ _ _ _ _ h
    exact ⟨by omega, this.2⟩

set_option maxRecDepth 100000 in
set_option maxHeartbeats 1000000 in
theorem lexFaults_any (s : ByteArray) (n mm : Int) (w : World) (hs : s.size ≤ 549755813888) (hm : w.cell? mlA = some (.int .i64 mm)) (hg : 0 < w.heap.size) :
    Calls Try.prog 7 #[.string s, .int .i64 n] w fun e w' => e = .returned (.bool true) ∧ Below w.heap.size w w' := by
  have HM : Hid (∀ w', Below w.heap.size w w' → w'.cell? mlA = some (.int .i64 mm) ∧ 0 < w'.heap.size) := Lib.hid (fun w' hb => ⟨by rw [hb.cell (by show 0 < w.heap.size; exact hg)]; exact hm, Nat.lt_of_lt_of_le hg hb.size⟩)
  have HS := Lib.hid (scan_any s mm w (by omega) hm hg)
  have HK := Lib.hid (rem9 n)
  clear hm
  go_enter Try.func7, Try.ntmps7
  go_upto_region 1 with fail
  go_cut [5] (fun v wx => ∃ K : Nat, K ≤ 8 ∧ v = .int .i64 K ∧ wx = w)
  case first =>
    obtain ⟨K, hK, h1, h2⟩ := HK.out
    go_wp2_with fail
    go_meet
    have hw : wrap64 (K : Int) = K := by first | exact IntWalk.i64_in _ (by omega) | (unfold wrap64; omega)
    exact ⟨K, hK, by first | rfl | rw [h1, hw] | rw [h2, hw], rfl⟩
  case rest =>
    obtain ⟨K, hK, rfl, rfl⟩ := hcut
    have hK' : (K : Int) ≤ 8 := by omega
    have hK0 : (0 : Int) ≤ (K : Int) := by omega
    obtain ⟨P, hP⟩ : ∃ P, blanks8.extract 0 K = P := ⟨_, rfl⟩
    have hb8 := blanks_take K hK
    rw [hP] at hb8
    unfold blanks8 at hP
    have hz1 : P.size = K := hb8.1
    have hz2 : (P ++ s).size = K + s.size := by rw [ByteArray.size_append, hz1]
    have HL : Hid ((P ++ s).data.toList = P.data.toList ++ s.data.toList) := Lib.hid (by simp)
    have HLN : Hid (P.data.toList.length = K) := Lib.hid (by rw [← hz1]; simp)
    have HSH := Lib.hid (fun h => scanL_blanks P.data.toList s.data.toList hb8.2 h)
    rw [← HL.out] at HSH
    have HT := Lib.hid (fun w' h1 h2 => scan_any (P ++ s) mm w' (by rw [hz2]; omega) h1 h2)
    have HZ1 := Lib.hid hz1
    clear hb8
    obtain ⟨R, hR⟩ : ∃ R, scanL s.data.toList = R := ⟨_, rfl⟩
    have HBD := Lib.hid (fun q x h => scanL_bad (s := s.data.toList) (q := q) (x := x) h)
    rw [hR] at HS HSH HBD
    clear hR
    go_wp2_with fail
    refine HS.out.mono ?_
    rintro e w1 ⟨he, hb1⟩
    obtain ⟨l1, v1, p1, x1, rfl, _, hr1⟩ := scan_list he
    have HB1 := Lib.hid hb1
    have HR1 := Lib.hid hr1
    clear hb1 hr1 he
    go_wp2_with fail
    refine (HT.out w1 (HM.out w1 HB1.out).1 (HM.out w1 HB1.out).2).mono ?_
    rintro e w2 ⟨he, hb2⟩
    obtain ⟨l2, v2, p2, x2, rfl, _, hr2⟩ := scan_list he
    have HB2 := Lib.hid (below_step HB1.out rfl hb2)
    have HR2 := Lib.hid hr2
    have HWK := Lib.hid (works_any mm w2 (HM.out w2 HB2.out).1 (HM.out w2 HB2.out).2)
    clear hb2 hr2 he
    by_cases hbig : 16384 < K + s.size
    · have hbig' : (16384 : Int) < (K : Int) + s.size := by omega
      go_wp2_with fail
      refine HWK.out.mono ?_
      rintro e w3 ⟨rfl, hb3⟩
      go_wp2_with fail
      go_ret
      exact ⟨rfl, below_step HB2.out rfl hb3⟩
    · have hbig' : ¬ (16384 : Int) < (K : Int) + s.size := by omega
      have h2 := HR2.out
      rw [HSH.out (by rw [HL.out, List.length_append, HLN.out]; simp; omega)] at h2
      have h1 := HR1.out
      cases R with
      | bad p x =>
        obtain ⟨_, rfl, rfl⟩ := h1
        obtain ⟨_, h3, rfl⟩ := h2
        rw [HLN.out] at h3
        have HP2 := Lib.hid h3
        have hpb : ((p2 : Int) == (p : Int) + K) = true := by rw [h3]; simp
        have hpx := HBD.out p x2 rfl
        have hps : (p : Int) ≤ 549755813888 := by have := hpx.1; simp at this; omega
        have hp0 : (0 : Int) ≤ (p : Int) := by omega
        have hxb : (x2 == 0) = false := beq_eq_false_iff_ne.2 hpx.2
        clear h3 hpx
        go_wp2_with fail
        refine HWK.out.mono ?_
        rintro e w3 ⟨rfl, hb3⟩
        go_wp2_with fail
        go_ret
        exact ⟨rfl, below_step HB2.out rfl hb3⟩
      | ok l =>
        obtain ⟨_, rfl, rfl⟩ := h1
        obtain ⟨_, rfl, rfl⟩ := h2
        go_wp2_with fail
        refine HWK.out.mono ?_
        rintro e w3 ⟨rfl, hb3⟩
        go_wp2_with fail
        go_ret
        exact ⟨rfl, below_step HB2.out rfl hb3⟩
end Go.Proofs.Ytphfnmjccdejkaa

/- Layer 10: tokens that are written with a blank between each two are read as the same tokens, in plain lists. Conditions: none. -/
namespace Go.Proofs.Ytphfnmjccdejkaa
open Go.RowKit
set_option linter.unusedVariables false

theorem spanB_text {f : Nat → Bool} (T rest : List UInt8) (hT : ∀ c ∈ T, f c.toNat = true) (h : f 32 = false) : spanB f (T ++ 32 :: rest) = T.length := by
  rw [spanB_append _ _ _ hT, spanB_neg _ (by exact h)]; rfl
theorem spanB_all (f : Nat → Bool) : ∀ r : List UInt8, ∀ c ∈ r.take (spanB f r), f c.toNat = true
  | [], c, h => by simp at h
  | d :: r, c, h => by
    by_cases hd : f d.toNat = true
    · rw [spanB_pos r hd, List.take_succ_cons] at h
      rcases List.mem_cons.1 h with rfl | h
      · exact hd
      · exact spanB_all f r c h
    · rw [spanB_neg r (by simpa using hd)] at h; simp at h
theorem nb_cons (c : UInt8) (l : List UInt8) : nb (c :: l) 0 = c.toNat := rfl
theorem lgB_kinds : ∀ c : Fin 256, (letter c.val = true → letter (lgB (UInt8.ofNat c.val)).toNat = true) ∧ (nchar c.val = true → nchar (lgB (UInt8.ofNat c.val)).toNat = true) := by decide +kernel
theorem lgB_letter' {c : UInt8} (h : letter c.toNat = true) : letter (lgB c).toNat = true := by
  have := (lgB_kinds ⟨c.toNat, c.toNat_lt⟩).1 h
  rw [UInt8.ofNat_toNat] at this; exact this
theorem lgB_nchar' {c : UInt8} (h : nchar c.toNat = true) : nchar (lgB c).toNat = true := by
  have := (lgB_kinds ⟨c.toNat, c.toNat_lt⟩).2 h
  rw [UInt8.ofNat_toNat] at this; exact this
theorem byte_kinds : ∀ c : Fin 256, (letter c.val = true → digt c.val = false ∧ blankB c.val = false) ∧ (digt c.val = true → letter c.val = false ∧ blankB c.val = false) := by decide +kernel
theorem letter_not {n : Nat} (hn : n < 256) (h : letter n = true) : blankB n = false := ((byte_kinds ⟨n, hn⟩).1 h).2
theorem digt_not {n : Nat} (hn : n < 256) (h : digt n = true) : letter n = false ∧ blankB n = false := (byte_kinds ⟨n, hn⟩).2 h
theorem sign_heads : ∀ T ∈ twosL ++ signsL, letter (nb T 0) = false ∧ digt (nb T 0) = false ∧ nb T 0 ≠ 39 ∧ blankB (nb T 0) = false ∧ T ≠ [] := by decide
theorem signL_mem {r : List UInt8} (h : signL r ≠ []) : signL r ∈ twosL ++ signsL := by
  unfold signL at h ⊢
  split
  · rename_i a; exact List.mem_append.2 (.inl a)
  · rename_i a
    rw [if_neg a] at h
    split
    · rename_i b; exact List.mem_append.2 (.inr b)
    · rename_i b; rw [if_neg b] at h; exact absurd rfl h
theorem signL_again {T : List UInt8} (h : T ∈ twosL ++ signsL) (rest : List UInt8) : signL (T ++ 32 :: rest) = T := by
  unfold signL
  rcases List.mem_append.1 h with h | h
  · have hl := twosL_len T h
    have : (T ++ 32 :: rest).take 2 = T := by rw [List.take_append_of_le_length (by omega), List.take_of_length_le (by omega)]
    rw [this, if_pos h]
  · have h1 : ∀ T ∈ signsL, T.length = 1 ∧ ∀ c, T = [c] → [c, 32] ∉ twosL := by
      intro T hT
      have : ∀ T ∈ signsL, T.length = 1 ∧ T ++ [32] ∉ twosL := by decide
      exact ⟨(this T hT).1, fun c e => by have := (this T hT).2; rw [e] at this; exact this⟩
    obtain ⟨c, rfl⟩ : ∃ c, T = [c] := List.length_eq_one_iff.1 (h1 T h).1
    rw [if_neg (by show ¬ [c, 32] ∈ twosL; exact (h1 [c] h).2 c rfl), if_pos (by exact h)]
    rfl
/-- A token that is read again as it is, if a blank stands behind its text. -/
def GoodT (t : Tok) : Prop := tokW t ≠ [] ∧ blankB (nb (tokW t) 0) = false ∧ ∀ rest, oneL (tokW t ++ 32 :: rest) = .tok t (tokW t).length
theorem good_of_one {r : List UInt8} {t : Tok} {n : Nat} (hr : r ≠ []) (h : oneL r = .tok t n) : GoodT t := by
  have hsz := oneL_size hr h
  have hnb : ∀ T rest : List UInt8, T ≠ [] → nb (T ++ rest) 0 = nb T 0 := fun T rest hT => by
    cases T with
    | nil => exact absurd rfl hT
    | cons c T => rfl
  obtain ⟨k, tt, tn⟩ := t
  rcases oneL_taken h with ⟨e, hl, hn, h64, ht, hw, h0⟩ | ⟨e, hl, hn, h64, ht, hw, h0⟩ | ⟨e, hl, hd, hn, ht, hp⟩ | ⟨e, hq, ⟨rest0, hqd, _⟩, h0⟩ | ⟨e, hl, hd, hq, ht, hs, hn, h0⟩
  · dsimp only at e ht h0; subst e h0
    obtain ⟨c, q, hcq⟩ : ∃ c q, r = c :: q := by cases r with | nil => exact absurd rfl hr | cons c q => exact ⟨c, q, rfl⟩
    have hall := spanB_all nchar r
    rw [← hn] at hall
    obtain ⟨m, rfl⟩ : ∃ m, n = m + 1 := ⟨n - 1, by omega⟩
    rw [hcq, List.take_succ_cons] at ht hw hall
    rw [hcq, nb_cons] at hl
    have htw : tokW ⟨2, tt, 0⟩ = tt := by unfold tokW tokT; rw [if_neg (by simp), if_neg (by simp)]
    have hlen : tt.length ≤ 64 := by rw [ht, largeL_len]; simp; omega
    have hT : ∀ d ∈ tt, nchar d.toNat = true := fun d hd => by
      rw [ht] at hd
      obtain ⟨x, hx, rfl⟩ := List.mem_map.1 hd
      exact lgB_nchar' (hall x hx)
    have htt : tt = lgB c :: largeL (q.take m) := ht
    have hlt : letter (nb tt 0) = true := by rw [htt, nb_cons]; exact lgB_letter' hl
    have hne : tt ≠ [] := by rw [htt]; simp
    refine ⟨by rw [htw]; exact hne, by rw [htw]; exact letter_not (nb_lt _ _) hlt, fun rest => ?_⟩
    have hsp := spanB_text tt rest hT (by decide)
    have htk : (tt ++ 32 :: rest).take tt.length = tt := by simp
    have hlg : largeL tt = tt := by rw [ht]; exact largeL_twice _
    rw [htw, oneL_word (by rw [hnb _ _ hne]; exact hlt) (by rw [hsp]; omega) (by
      rw [hsp, htk]; unfold wordB at hw ⊢; rw [hlg, ht]; exact hw), hsp, htk, hlg]
  · dsimp only at e ht h0; subst e h0
    obtain ⟨c, q, hcq⟩ : ∃ c q, r = c :: q := by cases r with | nil => exact absurd rfl hr | cons c q => exact ⟨c, q, rfl⟩
    have hall := spanB_all nchar r
    rw [← hn] at hall
    obtain ⟨m, rfl⟩ : ∃ m, n = m + 1 := ⟨n - 1, by omega⟩
    rw [hcq, List.take_succ_cons] at ht hw hall
    rw [hcq, nb_cons] at hl
    have htw : tokW ⟨1, tt, 0⟩ = tt := by unfold tokW tokT; rw [if_neg (by simp), if_neg (by simp)]
    have hlen : tt.length ≤ 64 := by rw [ht]; simp; omega
    have hT : ∀ d ∈ tt, nchar d.toNat = true := fun d hd => by rw [ht] at hd; exact hall d hd
    have hlt : letter (nb tt 0) = true := by rw [ht, nb_cons]; exact hl
    have hne : tt ≠ [] := by rw [ht]; simp
    refine ⟨by rw [htw]; exact hne, by rw [htw]; exact letter_not (nb_lt _ _) hlt, fun rest => ?_⟩
    have hsp := spanB_text tt rest hT (by decide)
    have htk : (tt ++ 32 :: rest).take tt.length = tt := by simp
    rw [htw, oneL_name (by rw [hnb _ _ hne]; exact hlt) (by rw [hsp]; omega) (by rw [hsp, htk, ht]; exact hw), hsp, htk]
  · dsimp only at e ht hp; subst e ht
    have htw : tokW ⟨3, [], tn⟩ = textOf tn := by unfold tokW tokT; rw [if_pos (by simp)]
    have htx : textOf tn = r.take n := by
      rcases parse_cases (r.take n) with ⟨x, hx, hne⟩ | ⟨m, hm, _, hm2⟩
      · rw [hx] at hp; injection hp with _ h2; exact absurd h2 hne
      · rw [hm] at hp; injection hp with h1 _; rw [← h1, hm2]
    obtain ⟨c, q, hcq⟩ : ∃ c q, r = c :: q := by cases r with | nil => exact absurd rfl hr | cons c q => exact ⟨c, q, rfl⟩
    have hall := spanB_all digt r
    rw [← hn] at hall
    obtain ⟨m, rfl⟩ : ∃ m, n = m + 1 := ⟨n - 1, by omega⟩
    have hdc := hd
    rw [hcq, nb_cons] at hdc
    have hT : ∀ d ∈ textOf tn, digt d.toNat = true := fun d hd => by rw [htx] at hd; exact hall d hd
    have hne : textOf tn ≠ [] := by rw [htx, hcq]; simp
    have hdt : digt (nb (textOf tn) 0) = true := by rw [htx, hcq, List.take_succ_cons, nb_cons]; exact hdc
    have hx := digt_not (nb_lt _ _) hdt
    refine ⟨by rw [htw]; exact hne, by rw [htw]; exact hx.2, fun rest => ?_⟩
    have hsp := spanB_text (textOf tn) rest hT (by decide)
    have htk : (textOf tn ++ 32 :: rest).take (textOf tn).length = textOf tn := by simp
    have hpp : parseOf (textOf tn) = (tn, 0) := by rw [htx]; exact hp
    rw [htw, oneL_num (by rw [hnb _ _ hne]; exact hx.1) (by rw [hnb _ _ hne]; exact hdt) (by rw [hsp, htk, hpp]), hsp, htk, hpp]
  · dsimp only at e h0; subst e h0
    have htw : tokW ⟨4, tt, 0⟩ = 39 :: (quoteL tt ++ [39]) := by unfold tokW tokT; rw [if_neg (by simp), if_pos (by simp)]
    refine ⟨by rw [htw]; simp, by rw [htw, nb_cons]; decide, fun rest => ?_⟩
    rw [htw, oneL_q (by rfl)]
    have hdr : ((39 :: (quoteL tt ++ [39]) ++ 32 :: rest : List UInt8).drop 1) = quoteL tt ++ 39 :: 32 :: rest := by simp
    rw [hdr, qd_quote (32 :: rest) _ tt rfl]
    dsimp only
    congr 1
    simp
    omega
  · dsimp only at e ht h0; subst e h0
    have htw : tokW ⟨5, tt, 0⟩ = tt := by unfold tokW tokT; rw [if_neg (by simp), if_neg (by simp)]
    have hm := signL_mem hs
    rw [← ht] at hm
    obtain ⟨a, b, c, d, hne⟩ := sign_heads tt hm
    refine ⟨by rw [htw]; exact hne, by rw [htw]; exact d, fun rest => ?_⟩
    rw [htw, oneL_sign (by rw [hnb _ _ hne]; exact a) (by rw [hnb _ _ hne]; exact b) (by rw [hnb _ _ hne]; exact c), signL_again hm, if_neg hne]
def written (l : List (Tok × Nat)) : List UInt8 := l.flatMap fun x => tokW x.1 ++ [32]
theorem scan_written : ∀ (l : List (Tok × Nat)) (f : Nat) (b : List UInt8) (p : Nat) (acc : List (Tok × Nat)), (∀ x ∈ l, GoodT x.1) → (∀ c ∈ b, blankB c.toNat = true) → acc.length + l.length ≤ 4095 → (b ++ (written l ++ [32])).length < f →
    ∃ l' q, scanN f (b ++ (written l ++ [32])) p acc = .ok (acc ++ l' ++ [(⟨6, [], 0⟩, q)]) ∧ l'.map Prod.fst = l.map Prod.fst
  | [], f, b, p, acc, _, hb, hl, hf => by
    obtain ⟨g, rfl⟩ : ∃ g, f = g + 1 := ⟨f - 1, by omega⟩
    have hall : ∀ c ∈ b ++ (written [] ++ [32]), blankB c.toNat = true := fun c hc => by
      rcases List.mem_append.1 hc with h | h
      · exact hb c h
      · have : c = 32 := by simpa [written] using h
        subst this; decide
    have hsp : spanB blankB (b ++ (written [] ++ [32])) = (b ++ (written [] ++ [32])).length := by
      have := spanB_append blankB _ [] hall
      rw [List.append_nil] at this; rw [this]; rfl
    refine ⟨[], p + (b ++ (written [] ++ [32])).length, ?_, rfl⟩
    rw [scanN, hsp, if_pos (by simp), if_neg (by simp at hl; omega), List.append_nil]
  | x :: l, f, b, p, acc, hx, hb, hl, hf => by
    obtain ⟨g, rfl⟩ : ∃ g, f = g + 1 := ⟨f - 1, by omega⟩
    obtain ⟨h1, h2, h3⟩ := hx x (by simp)
    have hr : written (x :: l) ++ [32] = tokW x.1 ++ 32 :: (written l ++ [32]) := by simp [written]
    rw [hr] at hf ⊢
    rw [scanN_blanks _ _ _ _ _ hb, scanN]
    have hs0 : spanB blankB (tokW x.1 ++ 32 :: (written l ++ [32])) = 0 := by
      cases ht : tokW x.1 with
      | nil => exact absurd ht h1
      | cons c T => rw [ht, nb_cons] at h2; exact spanB_neg _ h2
    rw [hs0, List.drop_zero, if_neg (by simp), h3]
    dsimp only
    rw [if_neg (by simp at hl; omega), List.drop_left]
    have hd : (32 :: (written l ++ [32]) : List UInt8) = [32] ++ (written l ++ [32]) := rfl
    rw [hd]
    obtain ⟨l', q, he, hm⟩ := scan_written l g [32] (p + b.length + 0 + (tokW x.1).length) (acc ++ [(x.1, p + b.length + 0)]) (fun y hy => hx y (by simp [hy])) (fun c hc => by
      have : c = 32 := by simpa using hc
      subst this; decide) (by simp at hl ⊢; omega) (by
        have h0 : 0 < (tokW x.1).length := List.length_pos_iff.2 h1
        simp at hf ⊢; omega)
    refine ⟨(x.1, p + b.length + 0) :: l', q, ?_, by simp [hm]⟩
    rw [he]
    simp
theorem scanN_form : ∀ (f : Nat) (r : List UInt8) (p : Nat) (acc l : List (Tok × Nat)), scanN f r p acc = .ok l →
    ∃ toks q, l = acc ++ toks ++ [(⟨6, [], 0⟩, q)] ∧ (∀ x ∈ toks, ∃ r' n, r' ≠ [] ∧ r'.length ≤ r.length ∧ oneL r' = .tok x.1 n) ∧ (acc ++ toks).length ≤ 4095
  | 0, _, _, _, _, h => by rw [scanN] at h; cases h
  | f + 1, r, p, acc, l, h => by
    rw [scanN] at h
    by_cases hd : r.drop (spanB blankB r) = []
    · rw [if_pos hd] at h
      split at h
      · cases h
      · cases h; exact ⟨[], p + spanB blankB r, by simp, (fun x hx => by cases hx), by simp; omega⟩
    · rw [if_neg hd] at h
      cases ho : oneL (r.drop (spanB blankB r)) with
      | bad e => rw [ho] at h; cases h
      | tok t n =>
        rw [ho] at h
        dsimp only at h
        split at h
        · cases h
        · obtain ⟨toks, q, h1, h2, h3⟩ := scanN_form f _ _ _ l h
          refine ⟨(t, p + spanB blankB r) :: toks, q, by rw [h1]; simp, (fun x hx => ?_), by simpa using h3⟩
          rcases List.mem_cons.1 hx with rfl | hx
          · exact ⟨_, n, hd, spanB_drop_le _ _, ho⟩
          · obtain ⟨r', n', h4, h5, h6⟩ := h2 x hx
            refine ⟨r', n', h4, Nat.le_trans h5 ?_, h6⟩
            rw [List.length_drop]; have := spanB_drop_le blankB r; omega
theorem scanL_form {s : List UInt8} {l : List (Tok × Nat)} (h : scanL s = .ok l) :
    s.length ≤ 16384 ∧ ∃ toks q, l = toks ++ [(⟨6, [], 0⟩, q)] ∧ (∀ x ∈ toks, ∃ r' n, r' ≠ [] ∧ r'.length ≤ s.length ∧ oneL r' = .tok x.1 n) ∧ toks.length ≤ 4095 := by
  unfold scanL at h
  split at h
  · cases h
  · obtain ⟨toks, q, h1, h2, h3⟩ := scanN_form _ _ _ _ _ h
    exact ⟨by omega, toks, q, by simpa using h1, h2, by simpa using h3⟩
/-- The text of a list of tokens, each with a blank behind it, has the same tokens. -/
theorem scanL_back {s : List UInt8} {l : List (Tok × Nat)} (h : scanL s = .ok l) (ht : (written l).length ≤ 16384) : ∃ l', scanL (written l) = .ok l' ∧ l'.map Prod.fst = l.map Prod.fst := by
  obtain ⟨_, toks, q, rfl, h2, h3⟩ := scanL_form h
  have hw : written (toks ++ [(⟨6, [], 0⟩, q)]) = written toks ++ [32] := by simp [written, tokW, tokT]
  rw [hw] at ht ⊢
  obtain ⟨l', q', he, hm⟩ := scan_written toks ((written toks ++ [32]).length + 1) [] 0 [] (fun x hx => by obtain ⟨r', n, h4, _, h5⟩ := h2 x hx; exact good_of_one h4 h5) (fun c hc => by cases hc) (by simpa using h3) (by simp)
  refine ⟨l' ++ [(⟨6, [], 0⟩, q')], ?_, by simp [hm]⟩
  unfold scanL
  rw [if_neg (by omega)]
  simpa using he
/-- How long the texts are. -/
theorem tok_small {r : List UInt8} {t : Tok} {n : Nat} (hr : r ≠ []) (h : oneL r = .tok t n) (hl : r.length ≤ 16384) : In64 t.n ∧ t.t.length ≤ 16384 ∧ (tokW t).length ≤ 65538 := by
  have hsz := oneL_size hr h
  have h0 : In64 0 := by unfold In64; omega
  rcases oneL_taken h with ⟨e, _, _, _, ht, _, hn0⟩ | ⟨e, _, _, _, ht, _, hn0⟩ | ⟨e, _, _, _, ht, hp⟩ | ⟨e, _, ⟨rest, hq, _⟩, hn0⟩ | ⟨e, _, _, _, ht, _, _, hn0⟩
  · exact ⟨by rw [hn0]; exact h0, by rw [ht, largeL_len, List.length_take]; omega, by rw [tokW_len hr h (by omega)]; omega⟩
  · exact ⟨by rw [hn0]; exact h0, by rw [ht, List.length_take]; omega, by rw [tokW_len hr h (by omega)]; omega⟩
  · refine ⟨?_, by rw [ht]; simp, by rw [tokW_len hr h (by omega)]; omega⟩
    rcases parse_cases (r.take n) with ⟨x, hx, hne⟩ | ⟨m, hm, hi, _⟩
    · rw [hx] at hp; injection hp with _ h2; exact absurd h2 hne
    · rw [hm] at hp; injection hp with h1 _; rw [← h1]; exact hi
  · have hx : t.t.length ≤ 16384 := by
      rw [raw_qd _ _ rfl] at hq
      generalize hf : rawF (r.drop 1) = o at hq
      cases o with
      | none => cases hq
      | some j =>
        dsimp only at hq
        generalize hu : uq ((r.drop 1).take j) = o2 at hq
        cases o2 with
        | none => cases hq
        | some y =>
          have hy : y = t.t := by injection hq with hq; injection hq
          have := uq_len _ _ rfl y hu
          rw [← hy]
          rw [List.length_take, List.length_drop] at this
          omega
    refine ⟨by rw [hn0]; exact h0, hx, ?_⟩
    have hw : tokW t = 39 :: (quoteL t.t ++ [39]) := by unfold tokW tokT; rw [if_neg (by omega), if_pos (by omega)]
    have := quoteL_len t.t
    rw [hw]; simp; omega
  · refine ⟨by rw [hn0]; exact h0, ?_, by rw [tokW_len hr h (by omega)]; omega⟩
    rw [ht]
    have := signL_le r
    omega
end Go.Proofs.Ytphfnmjccdejkaa

/- Layer 10: the law LexBack. Conditions: the text is no longer than 2^40; the variable of internal/bytealg is an int. -/
namespace Go.Proofs.Ytphfnmjccdejkaa
open Go.RowKit Go.Shelf
set_option linter.unusedSimpArgs false
set_option linter.unusedVariables false

theorem scanL_small {s : List UInt8} {l : List (Tok × Nat)} (h : scanL s = .ok l) : ∀ x ∈ l, In64 x.1.n ∧ x.1.t.length ≤ 16384 ∧ (tokW x.1).length ≤ 65538 := by
  obtain ⟨hs, toks, q, rfl, h2, _⟩ := scanL_form h
  intro x hx
  rcases List.mem_append.1 hx with hx | hx
  · obtain ⟨r', n, h4, h5, h6⟩ := h2 x hx
    exact tok_small h4 h6 (by omega)
  · have : x = (⟨6, [], 0⟩, q) := by simpa using hx
    subst this
    exact ⟨by show In64 0; unfold In64; omega, by simp, by simp [tokW, tokT]⟩
theorem written_len (l : List (Tok × Nat)) (h : ∀ x ∈ l, (tokW x.1).length ≤ 65538) : (written l).length ≤ l.length * 65539 := by
  induction l with
  | nil => simp [written]
  | cons x l ih =>
    have h1 := h x (by simp)
    have h2 := ih (fun y hy => h y (by simp [hy]))
    have : written (x :: l) = (tokW x.1 ++ [32]) ++ written l := rfl
    rw [this]; simp; omega
theorem written_snoc (l : List (Tok × Nat)) (x : Tok × Nat) : written (l ++ [x]) = written l ++ (tokW x.1 ++ [32]) := by simp [written]
theorem strOf_app (a b : List UInt8) : strOf a ++ strOf b = strOf (a ++ b) := by
  apply ByteArray.ext
  simp [strOf]
theorem strOf_data (l : List UInt8) : (strOf l).data.toList = l := by simp [strOf]

set_option maxRecDepth 1000000 in
set_option maxHeartbeats 4000000 in
theorem lexBack_any (s : ByteArray) (mm : Int) (w : World) (hs : s.size ≤ 1099511627776) (hm : w.cell? mlA = some (.int .i64 mm)) (hg : 0 < w.heap.size) :
    Calls Try.prog 4 #[.string s] w fun e w' => e = .returned (.bool true) ∧ Below w.heap.size w w' := by
  have HM : Hid (∀ w', Below w.heap.size w w' → w'.cell? mlA = some (.int .i64 mm) ∧ 0 < w'.heap.size) := Lib.hid (fun w' hb => ⟨by rw [hb.cell (by show 0 < w.heap.size; exact hg)]; exact hm, Nat.lt_of_lt_of_le hg hb.size⟩)
  have HS := Lib.hid (scan_any s mm w hs hm hg)
  clear hm
  cases hR : scanL s.data.toList with
  | bad p x =>
    have hx := (scanL_bad hR).2
    have hxn : (x != 0) = true := by simp [bne, hx]
    rw [hR] at HS
    clear hR hx
    go_enter Try.func4, Try.ntmps4
    go_wp2_with fail
    refine HS.out.mono ?_
    rintro e w1 ⟨he, hb1⟩
    have he : e = .returned (.tuple #[.slice none 0 0, .int .i64 p, .int .i64 x]) := he
    subst he
    have HB1 := Lib.hid hb1
    have HWK := Lib.hid (works_any mm w1 (HM.out w1 hb1).1 (HM.out w1 hb1).2)
    clear hb1
    go_wp2_with fail
    refine HWK.out.mono ?_
    rintro e w2 ⟨rfl, hb2⟩
    go_wp2_with fail
    go_ret
    exact ⟨rfl, below_step HB1.out rfl hb2⟩
  | ok l =>
    have HSM := Lib.hid (scanL_small hR)
    have hlen := scanL_len hR
    have HWL := Lib.hid (written_len l (fun x hx => (HSM.out x hx).2.2))
    have HBK := Lib.hid (fun h => scanL_back hR h)
    rw [hR] at HS
    clear hR
    obtain ⟨n, hn⟩ : ∃ n, l.length = n := ⟨_, rfl⟩
    have HN := Lib.hid hn
    rw [hn] at hlen HWL
    clear hn
    go_enter Try.func4, Try.ntmps4
    go_wp2_with fail
    refine HS.out.mono ?_
    rintro e w1 ⟨⟨v1, rfl, ho1⟩, hb1⟩
    rw [HN.out] at ho1
    obtain ⟨a1, c1, rfl⟩ := own_form ho1
    have HB1 := Lib.hid hb1
    have HO1 := Lib.hid ho1
    clear hb1 ho1
    go_wp2_with fail
    go_loopw [6, 7] (fun tv k wr => ∃ (i : Nat) (T : ByteArray), k = .int .i64 i ∧ i ≤ n ∧ tv = .string T ∧ Hid (T = strOf (written (l.take i))) ∧ Hid (Below w1.heap.size w1 wr)) (fun _ k _ => n - (intOf k).toNat)
    case atStart => exact ⟨0, _, rfl, Nat.zero_le _, rfl, Lib.hid rfl, Lib.hid (Below.refl _ _)⟩
    case round =>
      obtain ⟨i, T, rfl, hin, rfl, HT, HBR⟩ := hrel
      have htl : T.size ≤ 300000000 := by
        rw [HT.out, strOf_size]
        have h1 := written_len (l.take i) (fun x hx => (HSM.out x (List.mem_of_mem_take hx)).2.2)
        have h2 : (l.take i).length ≤ 4097 := by rw [List.length_take]; omega
        have : (l.take i).length * 65539 ≤ 4097 * 65539 := Nat.mul_le_mul_right _ h2
        omega
      by_cases hq : i < n
      · have hq' : (i : Int) < n := by omega
        have hi0 : (0 : Int) ≤ (i : Int) := by omega
        obtain ⟨x, hx⟩ : ∃ x, l[i]? = some x := ⟨_, List.getElem?_eq_getElem (by rw [HN.out]; exact hq)⟩
        have hmem : x ∈ l := List.mem_of_getElem? hx
        have HXS := Lib.hid (HSM.out x hmem)
        have HTK := Lib.hid (take_succ_some hx)
        obtain ⟨g1, e1, hv1, hg1, x0, x1, x2, x3⟩ := tok_cells (own_below HO1.out HBR.out) hx
        obtain ⟨rfl, rfl⟩ : a1 = some ⟨g1, 0, none⟩ ∧ c1 = e1 := by injection hv1 with h _ k; exact ⟨h, k⟩
        clear hx hv1 hmem
        obtain ⟨⟨tk, tt, tn⟩, ta⟩ := x
        dsimp only at x0 x1 x2 x3
        have HTX := Lib.hid (fun w => ttext_any (tk : Int) (strOf tt) tn (ta : Int) w HXS.out.1 (by rw [strOf_size]; have := HXS.out.2.1; dsimp only at this; omega))
        rw [strOf_data] at HTX
        have hxz : (strOf (tokT (tk : Int) tt tn)).size ≤ 65538 := by rw [strOf_size]; exact HXS.out.2.2
        have HXE : Hid (strOf (tokT (tk : Int) tt tn) = strOf (tokW ⟨tk, tt, tn⟩)) := Lib.hid rfl
        obtain ⟨X, hX⟩ : ∃ X, strOf (tokT (tk : Int) tt tn) = X := ⟨_, rfl⟩
        rw [hX] at HTX hxz HXE
        clear hX
        obtain ⟨a, ha⟩ : ∃ a, T.size = a := ⟨_, rfl⟩
        obtain ⟨b, hb⟩ : ∃ b, X.size = b := ⟨_, rfl⟩
        have hab : (T ++ X).size = a + b := by rw [ByteArray.size_append, ha, hb]
        rw [ha] at htl
        rw [hb] at hxz
        have HTN : Hid (T ++ X ++ ⟨#[32]⟩ = strOf (written (l.take (i + 1)))) := Lib.hid (by
          rw [HTK.out, written_snoc, HT.out, HXE.out]
          show strOf _ ++ strOf _ ++ strOf [32] = _
          rw [strOf_app, strOf_app, List.append_assoc])
        go_wp2_with fail
        refine (HTX.out _).mono ?_
        rintro e w2 ⟨rfl, hb2⟩
        have HB2 := Lib.hid (below_step HBR.out rfl (hb2))
        clear hb2 x0 x1 x2 x3
        go_wp2_with fail
        go_roundw
        case rel => exact ⟨i + 1, _, by go_num, by omega, rfl, HTN, HB2⟩
        case measure => simp [intOf]; omega
      · have hq' : ¬ (i : Int) < n := by omega
        have HTW : Hid (T = strOf (written l)) := Lib.hid (by rw [HT.out, List.take_of_length_le (by rw [HN.out]; omega)])
        have HTD : Hid (T.data.toList = written l) := Lib.hid (by rw [HTW.out, strOf_data])
        obtain ⟨a, ha⟩ : ∃ a, T.size = a := ⟨_, rfl⟩
        have HA := Lib.hid ha
        rw [ha] at htl
        have HWKr := Lib.hid (works_any mm wr (HM.out wr (below_step HB1.out rfl HBR.out)).1 (HM.out wr (below_step HB1.out rfl HBR.out)).2)
        by_cases hbig : 16384 < a
        · have hbig' : (16384 : Int) < a := by omega
          go_wp2_with fail
          refine HWKr.out.mono ?_
          rintro e w2 ⟨rfl, hb2⟩
          go_wp2_with fail
          go_ret
          exact ⟨rfl, below_step (below_step HB1.out rfl HBR.out) rfl hb2⟩
        · have hbig' : ¬ (16384 : Int) < a := by omega
          obtain ⟨l2, hl2, hmap⟩ := HBK.out (by rw [← HTD.out]; simp; omega)
          have HS2 := Lib.hid (scan_any T mm wr (by rw [ha]; omega) (HM.out wr (below_step HB1.out rfl HBR.out)).1 (HM.out wr (below_step HB1.out rfl HBR.out)).2)
          rw [HTD.out, hl2] at HS2
          have hn2 : l2.length = n := by rw [← HN.out]; have := congrArg List.length hmap; simpa using this
          have HMAP := Lib.hid hmap
          have HN2 := Lib.hid hn2
          clear hl2 hmap hn2
          go_wp2_with fail
          refine HS2.out.mono ?_
          rintro e w2 ⟨⟨v2, rfl, ho2⟩, hb2⟩
          rw [HN2.out] at ho2
          obtain ⟨a2, c2, rfl⟩ := own_form ho2
          have HB2 := Lib.hid (below_step (below_step HB1.out rfl HBR.out) rfl hb2)
          have HO2 := Lib.hid ho2
          have HO1b := Lib.hid (own_below (own_below HO1.out HBR.out) hb2)
          have HWK := Lib.hid (fun m => works_any mm (w2.drewN m) (by exact (HM.out w2 HB2.out).1) (by exact (HM.out w2 HB2.out).2))
          clear hb2 ho2 ha
          go_wp2_with fail
          go_loopw [11] (fun k wr => ∃ (j : Nat), k = .int .i64 j ∧ j ≤ n ∧ Hid (∃ m, wr = w2.drewN m)) (fun k _ => n - (intOf k).toNat)
          case atStart => exact ⟨0, rfl, Nat.zero_le _, Lib.hid ⟨0, rfl⟩⟩
          case round =>
            obtain ⟨j, rfl, hjn, HMW⟩ := hrel
            by_cases hr : j < n
            · have hr' : (j : Int) < n := by omega
              have hj0 : (0 : Int) ≤ (j : Int) := by omega
              obtain ⟨x, hx⟩ : ∃ x, l[j]? = some x := ⟨_, List.getElem?_eq_getElem (by rw [HN.out]; exact hr)⟩
              obtain ⟨y, hy⟩ : ∃ y, l2[j]? = some y := ⟨_, List.getElem?_eq_getElem (by rw [HN2.out]; exact hr)⟩
              have hxy : y.1 = x.1 := by
                have := congrArg (fun z => z[j]?) HMAP.out
                simp only [List.getElem?_map, hx, hy, Option.map_some] at this
                injection this
              obtain ⟨g1, e1, hv1, hg1, x0, x1, x2, _⟩ := tok_cells HO1b.out hx
              obtain ⟨g2, e2, hv2, hg2, y0, y1, y2, _⟩ := tok_cells HO2.out hy
              obtain ⟨rfl, rfl⟩ : a1 = some ⟨g1, 0, none⟩ ∧ c1 = e1 := by injection hv1 with h _ k; exact ⟨h, k⟩
              obtain ⟨rfl, rfl⟩ : a2 = some ⟨g2, 0, none⟩ ∧ c2 = e2 := by injection hv2 with h _ k; exact ⟨h, k⟩
              rw [hxy] at y0 y1 y2
              clear hx hy hxy hv1 hv2
              obtain ⟨⟨tk, tt, tn⟩, ta⟩ := x
              dsimp only at x0 x1 x2 y0 y1 y2
              have hc : ∀ a, wr.cell? a = w2.cell? a := by obtain ⟨m, hm⟩ := HMW.out; rw [hm]; exact fun _ => rfl
              rw [← hc] at x0 x1 x2 y0 y1 y2
              clear hc
              have b0 : ((tk : Int) != (tk : Int)) = false := by simp
              have b1 : ((strOf tt).toList != (strOf tt).toList) = false := by simp
              have b2 : (tn != tn) = false := by simp
              go_wp2_with fail
              go_quiet (fail)
              go_wp2_with fail
              go_roundw
              case rel => exact ⟨j + 1, by go_num, by omega, Lib.hid (by obtain ⟨m, hm⟩ := HMW.out; exact ⟨_, by rw [hm, World.drewN_drewN]⟩)⟩
              case measure => simp [intOf]; omega
            · have hr' : ¬ (j : Int) < n := by omega
              obtain ⟨m, hm⟩ := HMW.out
              subst hm
              go_wp2_with fail
              refine (HWK.out m).mono ?_
              rintro e w3 ⟨rfl, hb3⟩
              go_wp2_with fail
              go_ret
              exact ⟨rfl, below_step (below_draws HB2.out m) rfl hb3⟩
end Go.Proofs.Ytphfnmjccdejkaa

/- Layer 10: the law LexPlaces. Written by genL29.py. Conditions: the text is no longer than 2^40; the variable of internal/bytealg is an int. -/
namespace Go.Proofs.Ytphfnmjccdejkaa
open Go.RowKit Go.Shelf
set_option linter.unusedSimpArgs false
set_option linter.unusedVariables false

/-- Where the next token may begin. -/
def nextAt (L : List UInt8) (p : Nat) (x : Tok × Nat) : Nat :=
  if x.1.k = 4 then (match qdS L x.2 with | none => p | some q => L.length - q.2.length) else if x.1.k = 6 then p else x.2 + (tokW x.1).length
/-- Tokens stand one behind the other, with nothing but blanks between them. -/
def Placed (L : List UInt8) : Nat → List (Tok × Nat) → Prop
  | _, [] => True
  | p, x :: l => (p ≤ x.2 ∧ x.2 ≤ L.length ∧ (∀ k, p ≤ k → k < x.2 → blankB (nb L k) = true)) ∧ (1 ≤ x.1.k ∧ x.1.k ≤ 6) ∧ (x.1.k = 4 → ∃ y rest, qdS L x.2 = some (y, rest)) ∧ nextAt L p x ≤ L.length ∧ Placed L (nextAt L p x) l
theorem scanN_placed : ∀ (f : Nat) (L : List UInt8) (p : Nat) (acc l : List (Tok × Nat)), p ≤ L.length → scanN f (L.drop p) p acc = .ok (acc ++ l) → Placed L p l ∧ ∃ toks, l = toks ++ [(⟨6, [], 0⟩, L.length)]
  | 0, L, p, acc, l, _, h => by rw [scanN] at h; cases h
  | f + 1, L, p, acc, l, hp, h => by
    obtain ⟨j, hj⟩ : ∃ j, p + spanB blankB (L.drop p) = j := ⟨_, rfl⟩
    have hle := spanB_le blankB (L.drop p)
    rw [List.length_drop] at hle
    have hbl : ∀ k, p ≤ k → k < j → blankB (nb L k) = true := fun k h1 h2 => by
      have hm := spanB_all blankB (L.drop p)
      have hk : k - p < ((L.drop p).take (spanB blankB (L.drop p))).length := by rw [List.length_take, List.length_drop]; omega
      have := hm _ (List.getElem_mem hk)
      rw [List.getElem_take, List.getElem_drop] at this
      unfold nb
      rw [List.getElem?_eq_getElem (by omega)]
      simp only [show p + (k - p) = k from by omega] at this
      exact this
    rw [scanN_at f L p j acc (by omega) (by omega)] at h
    by_cases hd : L.drop j = []
    · rw [if_pos hd] at h
      have hjl : j = L.length := by have := congrArg List.length hd; rw [List.length_drop] at this; simp at this; omega
      split at h
      · cases h
      · have h := List.append_cancel_left (ScanR.ok.inj h)
        subst h
        refine ⟨⟨⟨by omega, by show j ≤ L.length; omega, hbl⟩, ⟨by simp, by simp⟩, (fun e => by cases e), ?_, trivial⟩, [], by rw [hjl]; rfl⟩
        show nextAt L p (⟨6, [], 0⟩, j) ≤ L.length
        unfold nextAt; rw [if_neg (by simp), if_pos rfl]; exact hp
    · rw [if_neg hd] at h
      cases ho : oneL (L.drop j) with
      | bad e => rw [ho] at h; cases h
      | tok t n =>
        rw [ho] at h
        dsimp only at h
        have hsz := oneL_size hd ho
        rw [List.length_drop] at hsz
        have hk := oneL_kind ho
        split at h
        · cases h
        · have hq4 : t.k = 4 → ∃ rest, qdS L j = some (t.t, rest) ∧ L.length - rest.length = j + n := fun h4 => by
            rcases oneL_taken ho with ⟨e, _⟩ | ⟨e, _⟩ | ⟨e, _⟩ | ⟨_, hq, ⟨rest, hqd, hn⟩, _⟩ | ⟨e, _⟩
            · omega
            · omega
            · omega
            · refine ⟨rest, ?_, ?_⟩
              · unfold qdS
                rw [nb_drop] at hq
                rw [if_pos ⟨by omega, hq⟩, ← hqd, List.drop_drop]
              · rw [List.length_drop] at hn
                obtain ⟨i, hi, _, hr⟩ := qd_last _ _ rfl _ _ hqd
                rw [List.length_drop, List.length_drop] at hi
                have : rest.length = ((L.drop j).drop 1).length - (i + 1) := by rw [hr, List.length_drop]
                rw [List.length_drop, List.length_drop] at this
                omega
            · omega
          have hnx : nextAt L p (t, j) = j + n := by
            unfold nextAt
            by_cases h4 : t.k = 4
            · obtain ⟨rest, hr, hn⟩ := hq4 h4
              rw [if_pos h4, hr]; exact hn
            · rw [if_neg h4, if_neg (by show ¬ t.k = 6; omega), tokW_len hd ho h4]
          obtain ⟨d, _, hform⟩ : ∃ d q, acc ++ l = (acc ++ [(t, j)]) ++ d ∧ q = 0 := by
            obtain ⟨toks, q, h1, _, _⟩ := scanN_form f _ _ _ _ h
            exact ⟨toks ++ [(⟨6, [], 0⟩, q)], 0, by rw [h1]; simp, rfl⟩
          have hld : l = (t, j) :: d := by
            have := hform.1
            rw [List.append_assoc] at this
            exact List.append_cancel_left this
          subst hld
          have h' : scanN f (L.drop (j + n)) (j + n) (acc ++ [(t, j)]) = .ok ((acc ++ [(t, j)]) ++ d) := by rw [h]; simp
          obtain ⟨hpl, toks, htk⟩ := scanN_placed f L (j + n) _ d (by omega) h'
          refine ⟨⟨⟨by show p ≤ j; omega, by show j ≤ L.length; omega, hbl⟩, ⟨hk.1, by have := hk.2; show t.k ≤ 6; omega⟩, fun h4 => ?_, by rw [hnx]; omega, by rw [hnx]; exact hpl⟩, (t, j) :: toks, by rw [htk]; rfl⟩
          obtain ⟨rest, hr, _⟩ := hq4 h4
          exact ⟨_, rest, hr⟩
theorem scanL_placed {s : List UInt8} {l : List (Tok × Nat)} (h : scanL s = .ok l) : Placed s 0 l ∧ ∃ toks, l = toks ++ [(⟨6, [], 0⟩, s.length)] := by
  unfold scanL at h
  split at h
  · cases h
  · exact scanN_placed (s.length + 1) s 0 [] l (Nat.zero_le _) (by simpa using h)
theorem blank_ne {c : Nat} (h : blankB c = true) : ((c : Int) != 32) = false ∨ ((c : Int) != 32) = true ∧ ((c : Int) != 9) = false ∨ ((c : Int) != 32) = true ∧ ((c : Int) != 9) = true ∧ ((c : Int) != 10) = false ∨ ((c : Int) != 32) = true ∧ ((c : Int) != 9) = true ∧ ((c : Int) != 10) = true ∧ ((c : Int) != 13) = false := by
  rcases blankB_yes h with rfl | rfl | rfl | rfl
  · exact .inl rfl
  · exact .inr (.inl ⟨rfl, rfl⟩)
  · exact .inr (.inr (.inl ⟨rfl, rfl, rfl⟩))
  · exact .inr (.inr (.inr ⟨rfl, rfl, rfl, rfl⟩))
theorem beqs (k m : Nat) (h : k = m) : ((k : Int) == (m : Int)) = true := by subst h; simp
theorem bneqs (k m : Nat) (h : k ≠ m) : ((k : Int) == (m : Int)) = false := beq_eq_false_iff_ne.2 (by omega)
set_option maxRecDepth 1000000 in
set_option maxHeartbeats 8000000 in
theorem lexPlaces_any (s : ByteArray) (mm : Int) (w : World) (hs : s.size ≤ 1099511627776) (hm : w.cell? mlA = some (.int .i64 mm)) (hg : 0 < w.heap.size) :
    Calls Try.prog 5 #[.string s] w fun e w' => e = .returned (.bool true) ∧ Below w.heap.size w w' := by
  have HLN : Hid (s.data.toList.length = s.size) := Lib.hid (by simp)
  have HM : Hid (∀ w', Below w.heap.size w w' → w'.cell? mlA = some (.int .i64 mm) ∧ 0 < w'.heap.size) := Lib.hid (fun w' hb => ⟨by rw [hb.cell (by show 0 < w.heap.size; exact hg)]; exact hm, Nat.lt_of_lt_of_le hg hb.size⟩)
  have HS := Lib.hid (scan_any s mm w hs hm hg)
  clear hm
  cases hR : scanL s.data.toList with
  | bad p x =>
    have hx := (scanL_bad hR).2
    have hxn : (x != 0) = true := by simp [bne, hx]
    rw [hR] at HS
    clear hR hx
    go_enter Try.func5, Try.ntmps5
    go_wp2_with fail
    refine HS.out.mono ?_
    rintro e w1 ⟨he, hb1⟩
    have he : e = .returned (.tuple #[.slice none 0 0, .int .i64 p, .int .i64 x]) := he
    subst he
    have HB1 := Lib.hid hb1
    have HWK := Lib.hid (works_any mm w1 (HM.out w1 hb1).1 (HM.out w1 hb1).2)
    clear hb1
    go_wp2_with fail
    refine HWK.out.mono ?_
    rintro e w2 ⟨rfl, hb2⟩
    go_wp2_with fail
    go_ret
    exact ⟨rfl, below_step HB1.out rfl hb2⟩
  | ok l =>
    have HSM := Lib.hid (scanL_small hR)
    have hlen := scanL_len hR
    have HPL := Lib.hid (scanL_placed hR)
    have hs16 : s.size ≤ 16384 := by have := (scanL_form hR).1; rw [HLN.out] at this; exact this
    rw [hR] at HS
    clear hR
    obtain ⟨n, hn⟩ : ∃ n, l.length = n := ⟨_, rfl⟩
    have HN := Lib.hid hn
    rw [hn] at hlen
    clear hn
    go_enter Try.func5, Try.ntmps5
    go_wp2_with fail
    refine HS.out.mono ?_
    rintro e w1 ⟨⟨v1, rfl, ho1⟩, hb1⟩
    rw [HN.out] at ho1
    obtain ⟨a1, c1, rfl⟩ := own_form ho1
    have HB1 := Lib.hid hb1
    have HO1 := Lib.hid ho1
    clear hb1 ho1
    go_wp2_with fail
    go_loopw [6, 7] (fun pv k wr => ∃ (i p : Nat), k = .int .i64 i ∧ i ≤ n ∧ pv = .int .i64 p ∧ p ≤ s.size ∧ Hid (Placed s.data.toList p (l.drop i)) ∧ Hid (Below w1.heap.size w1 wr)) (fun _ k _ => n - (intOf k).toNat)
    case atStart => exact ⟨0, 0, rfl, Nat.zero_le _, rfl, Nat.zero_le _, Lib.hid HPL.out.1, Lib.hid (Below.refl _ _)⟩
    case round =>
      obtain ⟨i, p, rfl, hin, rfl, hps, HPD, HBR⟩ := hrel
      obtain ⟨wo, hwo⟩ : ∃ wo : World, wo = wr := ⟨_, rfl⟩
      subst hwo
      by_cases hq : i < n
      · have hq' : (i : Int) < n := by omega
        have hi0 : (0 : Int) ≤ (i : Int) := by omega
        obtain ⟨x, hx⟩ : ∃ x, l[i]? = some x := ⟨_, List.getElem?_eq_getElem (by rw [HN.out]; exact hq)⟩
        have HXS := Lib.hid (HSM.out x (List.mem_of_getElem? hx))
        have HDR : Hid (l.drop i = x :: l.drop (i + 1)) := Lib.hid (by
          rw [List.drop_eq_getElem_cons (by rw [HN.out]; exact hq)]
          congr 1
          have := hx
          rw [List.getElem?_eq_getElem (by rw [HN.out]; exact hq)] at this
          injection this)
        have hpl := HPD.out
        rw [HDR.out] at hpl
        obtain ⟨⟨hpa, hal, hblk⟩, hkk, hk4, hnl, hnext⟩ := hpl
        have HBLK := Lib.hid hblk
        have HK4 := Lib.hid hk4
        have HNX := Lib.hid hnext
        have HNL := Lib.hid hnl
        clear hblk hk4 hnext hnl
        rw [HLN.out] at hal
        obtain ⟨g1, e1, hv1, hg1, x0, x1, x2, x3⟩ := tok_cells (own_below HO1.out HBR.out) hx
        obtain ⟨rfl, rfl⟩ : a1 = some ⟨g1, 0, none⟩ ∧ c1 = e1 := by injection hv1 with h _ k; exact ⟨h, k⟩
        clear hx hv1
        obtain ⟨⟨tk, tt, tn⟩, ta⟩ := x
        dsimp only at x0 x1 x2 x3 hpa hal hkk
        have hpa' : ¬ (ta : Int) < p := by omega
        have hal' : ¬ (s.size : Int) < ta := by omega
        have hpad : decide ((ta : Int) < p) = false := decide_eq_false hpa'
        have hald : decide ((s.size : Int) < ta) = false := decide_eq_false hal'
        go_wp2_with fail
        go_loop [8] (fun k => ∃ j : Nat, k = .int .i64 j ∧ p ≤ j ∧ j ≤ ta) (fun k => ta - (intOf k).toNat)
        case atStart => exact ⟨p, rfl, Nat.le_refl _, by omega⟩
        case round =>
          obtain ⟨j, rfl, hpj, hja⟩ := hrel
          by_cases hj : j < ta
          · have hj' : (j : Int) < ta := by omega
            have hjs : (j : Int) < s.size := by omega
            have hjs2 : j < s.size := by omega
            have hbl : blankB s[j].toNat = true := by rw [nb_get s j hjs2]; exact HBLK.out j hpj hj
            by_cases h4 : tk = 4
            · have n4 : ((tk : Int) != 4) = false := by rw [h4]; rfl
              clear hbl h4
              go_wp2_with fail
              go_round
              case rel => exact ⟨j + 1, by go_num, by omega, by omega⟩
              case measure => simp [intOf]; omega
            · have n4 : ((tk : Int) != 4) = true := by
                have h := bneqs tk 4 h4
                show (!((tk : Int) == 4)) = true
                rw [show ((tk : Int) == 4) = false from h]; rfl
              rcases blank_ne hbl with b1 | ⟨b1, b2⟩ | ⟨b1, b2, b3⟩ | ⟨b1, b2, b3, b4⟩
              · clear hbl h4
                go_wp2_with fail
                go_round
                case rel => exact ⟨j + 1, by go_num, by omega, by omega⟩
                case measure => simp [intOf]; omega
              · clear hbl h4
                go_wp2_with fail
                go_round
                case rel => exact ⟨j + 1, by go_num, by omega, by omega⟩
                case measure => simp [intOf]; omega
              · clear hbl h4
                go_wp2_with fail
                go_round
                case rel => exact ⟨j + 1, by go_num, by omega, by omega⟩
                case measure => simp [intOf]; omega
              · clear hbl h4
                go_wp2_with fail
                go_round
                case rel => exact ⟨j + 1, by go_num, by omega, by omega⟩
                case measure => simp [intOf]; omega
          · have hj' : ¬ (j : Int) < ta := by omega
            by_cases h4 : tk = 4
            · obtain ⟨y, rest, hqd⟩ := HK4.out h4
              have HQ := Lib.hid (fun w => quoted_any s ta w hs (by omega))
              rw [hqd] at HQ
              have HNA : Hid (nextAt s.data.toList p (⟨tk, tt, tn⟩, ta) = s.size - rest.length) := Lib.hid (by unfold nextAt; rw [if_pos h4, hqd, HLN.out])
              obtain ⟨tz, hto⟩ : ∃ tz : Nat, s.size - rest.length = tz := ⟨_, rfl⟩
              have HQQ : Hid (∀ w, Calls Try.prog 15 #[.string s, .int .i64 ta] w fun e w' => e = .returned (.tuple #[.string (strOf y), .int .i64 tz, .bool true]) ∧ Below w.heap.size w w') := Lib.hid (fun w => by rw [← hto]; exact HQ.out w)
              rw [hto] at HNA
              have htos : tz ≤ s.size := by omega
              have k4 : ((tk : Int) == 4) = true := beqs tk 4 h4
              clear hqd hto HQ h4
              go_wp2_with fail
              refine (HQQ.out _).mono ?_
              rintro e w2 ⟨rfl, hb2⟩
              have HB2 := Lib.hid (below_step HBR.out rfl hb2)
              clear hb2 x0 x1 x2 x3
              go_wp2_with fail
              go_roundw
              case rel => exact ⟨i + 1, tz, by go_num, by omega, rfl, htos, Lib.hid (by have := HNX.out; rw [HNA.out] at this; exact this), HB2⟩
              case measure => simp [intOf]; omega
            · have k4 : ((tk : Int) == 4) = false := bneqs tk 4 h4
              by_cases h6 : tk = 6
              · have k2 : ((tk : Int) == 2) = false := bneqs tk 2 (by omega)
                have k1 : ((tk : Int) == 1) = false := bneqs tk 1 (by omega)
                have k5 : ((tk : Int) == 5) = false := bneqs tk 5 (by omega)
                have k3 : ((tk : Int) == 3) = false := bneqs tk 3 (by omega)
                have HNA : Hid (nextAt s.data.toList p (⟨tk, tt, tn⟩, ta) = p) := Lib.hid (by unfold nextAt; rw [if_neg h4, if_pos h6])
                clear h4 h6
                go_wp2_with fail
                go_roundw
                case rel => exact ⟨i + 1, p, by go_num, by omega, rfl, hps, Lib.hid (by have := HNX.out; rw [HNA.out] at this; exact this), HBR⟩
                case measure => simp [intOf]; omega
              · have HNA : Hid (nextAt s.data.toList p (⟨tk, tt, tn⟩, ta) = ta + (tokW ⟨tk, tt, tn⟩).length) := Lib.hid (by unfold nextAt; rw [if_neg h4, if_neg h6])
                have HTX := Lib.hid (fun w => ttext_any (tk : Int) (strOf tt) tn (ta : Int) w HXS.out.1 (by rw [strOf_size]; exact Nat.le_trans HXS.out.2.1 (by decide)))
                rw [strOf_data] at HTX
                have HXE : Hid ((strOf (tokT (tk : Int) tt tn)).size = (tokW ⟨tk, tt, tn⟩).length) := Lib.hid (strOf_size _)
                obtain ⟨X, hX⟩ : ∃ X, strOf (tokT (tk : Int) tt tn) = X := ⟨_, rfl⟩
                rw [hX] at HTX HXE
                clear hX
                have hxb : ta + X.size ≤ s.size := by have := HNL.out; rw [HNA.out, HLN.out] at this; rw [HXE.out]; exact this
                have HCS : Hid (∀ u : Ext wo.heap.size wo, Calls Try.prog 14 #[.agg #[.int .i64 tk, .string (strOf tt), .int .i64 tn, .int .i64 ta]] u.w fun e w'' => e = .returned (.string X) ∧ ∃ u' : Ext wo.heap.size wo, w'' = u'.w) := Lib.hid (fun u => ext_call u (Nat.le_refl _) (HTX.out _))
                have y0 : ∀ u : Ext wo.heap.size wo, u.w.cell? ⟨g1, i * 4, none⟩ = some (.int .i64 tk) := fun u => u.cell hg1 x0
                have y1 : ∀ u : Ext wo.heap.size wo, u.w.cell? ⟨g1, i * 4 + 1, none⟩ = some (.string (strOf tt)) := fun u => u.cell hg1 x1
                have y2 : ∀ u : Ext wo.heap.size wo, u.w.cell? ⟨g1, i * 4 + 2, none⟩ = some (.int .i64 tn) := fun u => u.cell hg1 x2
                have y3 : ∀ u : Ext wo.heap.size wo, u.w.cell? ⟨g1, i * 4 + 3, none⟩ = some (.int .i64 ta) := fun u => u.cell hg1 x3
                have z1 : IntKind.i64.wrap ((ta : Int) + X.size) = (ta : Int) + X.size := IntWalk.i64_in _ (by omega)
                have hcase : tk = 2 ∨ tk = 1 ∨ tk = 5 ∨ tk = 3 := by omega
                clear HTX
                rcases hcase with e | e | e | e
                · have k2 : ((tk : Int) == 2) = true := beqs tk 2 e
                  clear e h4 h6
                  go_wp2_with fail
                  refine wp_region_ext wo.heap.size (by kernel_rfl) (by kernel_rfl) ?_
                  repeat (go_big_quiet_step (exact HCS.out _))
                  refine wpQuiet_nil ?_
                  intro w2 hw2
                  obtain ⟨u, hu⟩ := hw2
                  have hb2 := u.below
                  rw [← hu] at hb2
                  have HB2 := Lib.hid (HBR.out.trans (hb2.mono HBR.out.size))
                  clear hu y0 y1 y2 y3 x0 x1 x2 x3 hb2 z1
                  go_wp2_with fail
                  go_roundw
                  case rel => exact ⟨i + 1, ta + X.size, by go_num, by omega, by go_num, hxb, Lib.hid (by have := HNX.out; rw [HNA.out, ← HXE.out] at this; exact this), HB2⟩
                  case measure => simp [intOf]; omega
                · have k2 : ((tk : Int) == 2) = false := bneqs tk 2 (by omega)
                  have k1 : ((tk : Int) == 1) = true := beqs tk 1 e
                  clear e h4 h6
                  go_wp2_with fail
                  refine wp_region_ext wo.heap.size (by kernel_rfl) (by kernel_rfl) ?_
                  repeat (go_big_quiet_step (exact HCS.out _))
                  refine wpQuiet_nil ?_
                  intro w2 hw2
                  obtain ⟨u, hu⟩ := hw2
                  have hb2 := u.below
                  rw [← hu] at hb2
                  have HB2 := Lib.hid (HBR.out.trans (hb2.mono HBR.out.size))
                  clear hu y0 y1 y2 y3 x0 x1 x2 x3 hb2 z1
                  go_wp2_with fail
                  go_roundw
                  case rel => exact ⟨i + 1, ta + X.size, by go_num, by omega, by go_num, hxb, Lib.hid (by have := HNX.out; rw [HNA.out, ← HXE.out] at this; exact this), HB2⟩
                  case measure => simp [intOf]; omega
                · have k2 : ((tk : Int) == 2) = false := bneqs tk 2 (by omega)
                  have k1 : ((tk : Int) == 1) = false := bneqs tk 1 (by omega)
                  have k5 : ((tk : Int) == 5) = true := beqs tk 5 e
                  clear e h4 h6
                  go_wp2_with fail
                  refine wp_region_ext wo.heap.size (by kernel_rfl) (by kernel_rfl) ?_
                  repeat (go_big_quiet_step (exact HCS.out _))
                  refine wpQuiet_nil ?_
                  intro w2 hw2
                  obtain ⟨u, hu⟩ := hw2
                  have hb2 := u.below
                  rw [← hu] at hb2
                  have HB2 := Lib.hid (HBR.out.trans (hb2.mono HBR.out.size))
                  clear hu y0 y1 y2 y3 x0 x1 x2 x3 hb2 z1
                  go_wp2_with fail
                  go_roundw
                  case rel => exact ⟨i + 1, ta + X.size, by go_num, by omega, by go_num, hxb, Lib.hid (by have := HNX.out; rw [HNA.out, ← HXE.out] at this; exact this), HB2⟩
                  case measure => simp [intOf]; omega
                · have k2 : ((tk : Int) == 2) = false := bneqs tk 2 (by omega)
                  have k1 : ((tk : Int) == 1) = false := bneqs tk 1 (by omega)
                  have k5 : ((tk : Int) == 5) = false := bneqs tk 5 (by omega)
                  have k3 : ((tk : Int) == 3) = true := beqs tk 3 e
                  clear e h4 h6
                  go_wp2_with fail
                  refine wp_region_ext wo.heap.size (by kernel_rfl) (by kernel_rfl) ?_
                  repeat (go_big_quiet_step (exact HCS.out _))
                  refine wpQuiet_nil ?_
                  intro w2 hw2
                  obtain ⟨u, hu⟩ := hw2
                  have hb2 := u.below
                  rw [← hu] at hb2
                  have HB2 := Lib.hid (HBR.out.trans (hb2.mono HBR.out.size))
                  clear hu y0 y1 y2 y3 x0 x1 x2 x3 hb2 z1
                  go_wp2_with fail
                  go_roundw
                  case rel => exact ⟨i + 1, ta + X.size, by go_num, by omega, by go_num, hxb, Lib.hid (by have := HNX.out; rw [HNA.out, ← HXE.out] at this; exact this), HB2⟩
                  case measure => simp [intOf]; omega
      · have hq' : ¬ (i : Int) < n := by omega
        obtain ⟨toks, htk⟩ := HPL.out.2
        obtain ⟨m, hm⟩ : ∃ m, n = m + 1 := ⟨n - 1, by have := HN.out; rw [htk] at this; simp at this; omega⟩
        have hx : l[m]? = some (⟨6, [], 0⟩, s.data.toList.length) := by
          have hml : toks.length = m := by have := HN.out; rw [htk] at this; simp at this; omega
          rw [htk, List.getElem?_append_right (by omega), hml, Nat.sub_self]; rfl
        rw [HLN.out] at hx
        subst hm
        obtain ⟨g1, e1, hv1, hg1, x0, x1, x2, x3⟩ := tok_cells (own_below HO1.out HBR.out) hx
        obtain ⟨rfl, rfl⟩ : a1 = some ⟨g1, 0, none⟩ ∧ c1 = e1 := by injection hv1 with h _ k; exact ⟨h, k⟩
        have y0 : wo.cell? ⟨g1, m * 4, none⟩ = some (.int .i64 6) := x0
        clear x0
        have y1 : wo.cell? ⟨g1, m * 4 + 1, none⟩ = some (.string ⟨#[]⟩) := x1
        clear x1
        have y2 : wo.cell? ⟨g1, m * 4 + 2, none⟩ = some (.int .i64 0) := x2
        clear x2
        have hm0 : (0 : Int) ≤ (m : Int) := by omega
        have hm1 : (0 : Int) < (m : Int) + 1 := by omega
        have HWK := Lib.hid (works_any mm wo (HM.out wo (below_step HB1.out rfl HBR.out)).1 (HM.out wo (below_step HB1.out rfl HBR.out)).2)
        clear htk hx hv1
        go_wp2_with fail
        refine HWK.out.mono ?_
        rintro e w3 ⟨rfl, hb3⟩
        go_wp2_with fail
        go_ret
        exact ⟨rfl, below_step (below_step HB1.out rfl HBR.out) rfl hb3⟩
end Go.Proofs.Ytphfnmjccdejkaa

/- A slice that came in, read as a row of elements of whatever kind: each element's cells. Conditions: each element's reading tells its cells. -/
namespace Go.Proofs.Ytphfnmjccdejkaa
open Go.RowKit Go.Deep Go.ChangeShapes Go.WideShapes

theorem spot_none {w : World} {a : Addr} {v : Value} (h : w.cell? a = some v) : a = ⟨a.block, a.off, none⟩ := by
  have := World.cell?_spot h
  cases a; simp_all

theorem flat_get {α : Type} {f : α → List Value} {size : Nat} {os : List α} (hf : ∀ o ∈ os, (f o).length = size) {i : Nat} {v : Value} (h : (os.flatMap f)[i]? = some v) :
    ∃ k j o, i = k * size + j ∧ j < size ∧ os[k]? = some o ∧ (f o)[j]? = some v := by
  induction os generalizing i with
  | nil => simp at h
  | cons o os ih =>
    have h0 := hf o (by simp)
    rw [List.flatMap_cons] at h
    by_cases hi : i < size
    · rw [List.getElem?_append_left (by omega)] at h
      exact ⟨0, i, o, by omega, hi, rfl, h⟩
    · rw [List.getElem?_append_right (by omega), h0] at h
      obtain ⟨k, j, u, h1, h2, h3, h4⟩ := ih (fun u hu => hf u (by simp [hu])) h
      refine ⟨k + 1, j, u, ?_, h2, by simpa using h3, h4⟩
      rw [Nat.succ_mul]; omega

theorem choose_list {α : Type} {p : Nat → α → Prop} {n : Nat} (h : ∀ i, i < n → ∃ o, p i o) : ∃ os : List α, os.length = n ∧ ∀ (i : Nat) o, os[i]? = some o → p i o := by
  induction n with
  | zero => exact ⟨[], rfl, by simp⟩
  | succ n ih =>
    obtain ⟨os, h1, h2⟩ := ih (fun i hi => h i (by omega))
    obtain ⟨o, ho⟩ := h n (by omega)
    refine ⟨os ++ [o], by simp [h1], fun i u hu => ?_⟩
    by_cases hin : i < os.length
    · rw [List.getElem?_append_left hin] at hu; exact h2 i u hu
    · rw [List.getElem?_append_right (by omega)] at hu
      have : i = n := by
        have := (List.getElem?_eq_some_iff.1 hu).1
        simp at this; omega
      subst this
      rw [show i - os.length = 0 from by omega] at hu
      simp at hu; subst hu; exact ho

theorem open_rows {H : Type} {enc : TypeId × Value → H} {P : Program} {w : World} {base : Nat} {spare : Nat → Bool} {held : Bool} {α : Type} (f : α → List Value) (size : Nat) {t e : TypeId} {fuel : Nat} {a : Option Addr} {len cap : Nat} {x : DataW H × List MemPlace}
    (ht : P.underlying t = some (.slice e)) (hC : P.cellsOf e = size)
    (hel : ∀ (n : Nat) (cs : List Value) (y : DataW H × List MemPlace), cs.length = size → DataW.trod enc P w base spare held n e cs = some y → ∃ o : α, cs = f o)
    (h : DataW.trod enc P w base spare held fuel t [.slice a len cap] = some x) :
    ∃ os : List α, os.length = len ∧ len ≤ cap ∧ cap ≤ maxLen ∧ (a = none → cap = 0) ∧ (∀ o ∈ os, (f o).length = size) ∧ Cells w.heap.size w a (os.flatMap f) := by
  rcases open_slice ht h with ⟨h0, _⟩ | ⟨b, l, c, m, n, D, Pl, hcs, hb, hl, hm, hmm, hx, hi⟩
  · injection h0 with h0; injection h0 with h1 h2 h3; subst h1 h2 h3
    exact ⟨[], rfl, Nat.le_refl _, Nat.zero_le _, fun _ => rfl, by simp, .inl rfl⟩
  · injection hcs with h0; injection h0 with h1 h2 h3; subst h1 h2 h3
    have hlm : len ≤ m := by subst hmm; split <;> omega
    have hex : ∀ i, i < len → ∃ o : α, (f o).length = size ∧ ∀ j v, (f o)[j]? = some v → w.cell? (b.add (i * size + j)) = some v := by
      intro i hil
      obtain ⟨cs', hc, ht'⟩ := hi i (by omega)
      rw [hC] at hc
      obtain ⟨_, hcl, hat⟩ := World.cells?_some hc
      obtain ⟨o, rfl⟩ := hel n cs' _ hcl ht'
      refine ⟨o, hcl, fun j v hj => ?_⟩
      have hjl : j < size := by rw [← hcl]; exact (List.getElem?_eq_some_iff.1 hj).1
      rw [← Go.Deep.add_add, hat j hjl, hj]
    obtain ⟨os, h1, h2⟩ := choose_list hex
    refine ⟨os, h1, hl, hm, (fun h => by cases h), fun o ho => ?_, ?_⟩
    · obtain ⟨i, hi⟩ := List.getElem?_of_mem ho
      exact (h2 i o hi).1
    · have hlen : ∀ o ∈ os, (f o).length = size := fun o ho => by obtain ⟨i, hi⟩ := List.getElem?_of_mem ho; exact (h2 i o hi).1
      by_cases hne : os.flatMap f = []
      · exact .inl hne
      · obtain ⟨v0, hv0⟩ : ∃ v, (os.flatMap f)[0]? = some v := by
          cases hq : os.flatMap f with
          | nil => exact absurd hq hne
          | cons v t => exact ⟨v, rfl⟩
        have hall : ∀ (i : Nat) v, (os.flatMap f)[i]? = some v → w.cell? (b.add i) = some v := fun i v hv => by
          obtain ⟨k, j, o, rfl, _, ho, hj⟩ := flat_get hlen hv
          exact (h2 k o ho).2 j v hj
        have hc0 := hall 0 v0 hv0
        have hsp : b = ⟨b.block, b.off, none⟩ := by
          have h0 : b.add 0 = b := by cases b; simp [Addr.add]
          rw [h0] at hc0; exact spot_none hc0
        refine .inr ⟨b.block, b.off, by rw [← hsp], ?_, fun i v hv => ?_⟩
        · have h0 : b.add 0 = b := by cases b; simp [Addr.add]
          rw [h0] at hc0; exact World.block_lt_of_cell? w _ hc0
        · have := hall i v hv
          rw [hsp, addr_add] at this; exact this

/-- One field of a struct that is read, if it takes one cell: its cell is read. -/
theorem one_field {H : Type} {enc : TypeId × Value → H} {P : Program} {w : World} {base : Nat} {spare : Nat → Bool} {held : Bool} {fs : Array Field} {m : Nat} {cs : List Value} {xs : List (DataW H × List MemPlace)}
    (hl : xs.length = fs.size) (hf : ∀ (i : Nat) (f : Field), fs[i]? = some f → DataW.trod enc P w base spare held m f.type ((cs.drop f.offset).take (P.cellsOf f.type)) = xs[i]?)
    (i : Nat) (f : Field) (hi : fs[i]? = some f) (hc : P.cellsOf f.type = 1) (c : Value) (hcs : cs[f.offset]? = some c) : ∃ y, DataW.trod enc P w base spare held m f.type [c] = some y := by
  have h1 := hf i f hi
  have h2 := (Array.getElem?_eq_some_iff.1 hi).1
  obtain ⟨h3, h4⟩ := List.getElem?_eq_some_iff.1 hcs
  rw [hc, List.drop_eq_getElem_cons h3, h4] at h1
  exact ⟨_, h1.trans (List.getElem?_eq_getElem (by omega))⟩
theorem int_field {H : Type} {enc : TypeId × Value → H} {P : Program} {w : World} {base : Nat} {spare : Nat → Bool} {held : Bool} {fs : Array Field} {m : Nat} {cs : List Value} {xs : List (DataW H × List MemPlace)}
    (hl : xs.length = fs.size) (hf : ∀ (i : Nat) (f : Field), fs[i]? = some f → DataW.trod enc P w base spare held m f.type ((cs.drop f.offset).take (P.cellsOf f.type)) = xs[i]?)
    (i : Nat) (f : Field) (hi : fs[i]? = some f) (hc : P.cellsOf f.type = 1) (c : Value) (hcs : cs[f.offset]? = some c) {k : IntKind} (hu : P.underlying f.type = some (.int k)) : ∃ n, c = .int k n := by
  obtain ⟨y, hy⟩ := one_field hl hf i f hi hc c hcs
  obtain ⟨n, h1, _⟩ := DataW.trod_int hu hy
  injection h1 with h1
  exact ⟨n, h1⟩

/-- One element of such a row: its cells. -/
theorem Cells.elem {α : Type} {f : α → List Value} {size : Nat} {B : Nat} {w : World} {a : Option Addr} {os : List α} (h : Cells B w a (os.flatMap f)) (hf : ∀ o ∈ os, (f o).length = size) (hs : 0 < size) {k : Nat} {o : α} (hk : os[k]? = some o) :
    ∃ b off, a = some ⟨b, off, none⟩ ∧ b < B ∧ ∀ j v, (f o)[j]? = some v → w.cell? ⟨b, off + (k * size + j), none⟩ = some v := by
  have key : ∀ (os : List α) (k : Nat), (∀ o ∈ os, (f o).length = size) → os[k]? = some o → ∀ j v, (f o)[j]? = some v → (os.flatMap f)[k * size + j]? = some v := by
    intro os
    induction os with
    | nil => intro k _ h; simp at h
    | cons u os ih =>
      intro k hf hk j v hj
      have h0 := hf u (by simp)
      rw [List.flatMap_cons]
      cases k with
      | zero =>
        simp at hk; subst hk
        have := (List.getElem?_eq_some_iff.1 hj).1
        rw [Nat.zero_mul, Nat.zero_add, List.getElem?_append_left this]; exact hj
      | succ k =>
        rw [List.getElem?_append_right (by rw [Nat.succ_mul]; omega), h0, show (k + 1) * size + j - size = k * size + j from by rw [Nat.succ_mul]; omega]
        exact ih k (fun o ho => hf o (by simp [ho])) (by simpa using hk) j v hj
  rcases h with h | ⟨b, off, h1, h2, h3⟩
  · exfalso
    have hm := List.mem_of_getElem? hk
    have hl := hf o hm
    cases hq : f o with
    | nil => rw [hq] at hl; simp at hl; omega
    | cons v t =>
      have := key os k hf hk 0 v (by rw [hq]; rfl)
      rw [h] at this; simp at this
  · exact ⟨b, off, h1, h2, fun j v hj => h3 _ _ (key os k hf hk j v hj)⟩
end Go.Proofs.Ytphfnmjccdejkaa

/- Layer 10: what a scan makes of a name, and of it in other letters, in plain lists. Conditions: none. -/
namespace Go.Proofs.Ytphfnmjccdejkaa
open Go.RowKit
set_option linter.unusedVariables false

def nameTok (L : List UInt8) : Tok := if wordB L then ⟨2, largeL L, 0⟩ else ⟨1, L, 0⟩
theorem nameB_facts {L : List UInt8} (h : nameB L = true) : 1 ≤ L.length ∧ L.length ≤ 64 ∧ letter (nb L 0) = true ∧ ∀ k, k < L.length → nchar (nb L k) = true := of_decide_eq_true h
theorem scanL_name {L : List UInt8} (h : nameB L = true) : scanL L = .ok [(nameTok L, 0), (⟨6, [], 0⟩, L.length)] := by
  obtain ⟨h1, h64, hl, hall⟩ := nameB_facts h
  have hne : L ≠ [] := fun e => by rw [e] at h1; simp at h1
  have hb0 : spanB blankB L = 0 := by
    cases L with
    | nil => exact absurd rfl hne
    | cons c r => rw [nb_cons] at hl; exact spanB_neg r (letter_not c.toNat_lt hl)
  have hsp : spanB nchar L = L.length := spanB_is nchar L L.length (Nat.le_refl _) (fun k hk => hall k hk) (fun hk => by omega)
  have ho : oneL L = .tok (nameTok L) L.length := by
    unfold nameTok
    by_cases hw : wordB L = true
    · rw [if_pos hw, oneL_word hl (by rw [hsp]; omega) (by rw [hsp, List.take_length]; exact hw), hsp, List.take_length]
    · have hw' : wordB L = false := by simpa using hw
      rw [if_neg hw, oneL_name hl (by rw [hsp]; omega) (by rw [hsp, List.take_length]; exact hw'), hsp, List.take_length]
  unfold scanL
  rw [if_neg (by omega), scanN, hb0, List.drop_zero, if_neg hne, ho]
  dsimp only
  rw [if_neg (by simp), List.drop_length]
  obtain ⟨g, hg⟩ : ∃ g, L.length = g + 1 := ⟨L.length - 1, by omega⟩
  rw [hg, scanN, if_pos (by rfl), if_neg (by simp)]
  show ScanR.ok _ = ScanR.ok _
  congr 1
  simp [spanB]
/-- F is L in other letters. -/
def FlipOf (F L : List UInt8) : Prop := F.length = L.length ∧ ∀ (k : Nat) c d, L[k]? = some c → F[k]? = some d → lgB d = lgB c ∧ letter d.toNat = letter c.toNat ∧ nchar d.toNat = nchar c.toNat
theorem FlipOf.refl (L : List UInt8) : FlipOf L L := ⟨rfl, fun k c d h1 h2 => by rw [h1] at h2; cases h2; exact ⟨rfl, rfl, rfl⟩⟩
theorem flip_byte : ∀ c : Fin 256, ((97 ≤ c.val ∧ c.val ≤ 122) ∨ (65 ≤ c.val ∧ c.val ≤ 90)) → lgB (UInt8.ofNat c.val ^^^ 32) = lgB (UInt8.ofNat c.val) ∧ letter (UInt8.ofNat c.val ^^^ 32).toNat = letter c.val ∧ nchar (UInt8.ofNat c.val ^^^ 32).toNat = nchar c.val := by decide +kernel
theorem FlipOf.flip {F L : List UInt8} (h : FlipOf F L) {i : Nat} {c : UInt8} (hi : F[i]? = some c) (hc : (97 ≤ c.toNat ∧ c.toNat ≤ 122) ∨ (65 ≤ c.toNat ∧ c.toNat ≤ 90)) : FlipOf (F.set i (c ^^^ 32)) L := by
  refine ⟨by rw [List.length_set]; exact h.1, fun k a d h1 h2 => ?_⟩
  by_cases hk : i = k
  · subst hk
    rw [List.getElem?_set_self (List.getElem?_eq_some_iff.1 hi).1] at h2
    cases h2
    have hf := flip_byte ⟨c.toNat, c.toNat_lt⟩ hc
    rw [UInt8.ofNat_toNat] at hf
    have := h.2 i a c h1 hi
    exact ⟨hf.1.trans this.1, hf.2.1.trans this.2.1, hf.2.2.trans this.2.2⟩
  · rw [List.getElem?_set_ne hk] at h2
    exact h.2 k a d h1 h2
theorem FlipOf.name {F L : List UInt8} (h : FlipOf F L) (hn : nameB L = true) : nameB F = true ∧ wordB F = wordB L ∧ largeL F = largeL L := by
  obtain ⟨h1, h64, hl, hall⟩ := nameB_facts hn
  have hlg : largeL F = largeL L := by
    unfold largeL
    refine List.ext_getElem? (fun k => ?_)
    rw [List.getElem?_map, List.getElem?_map]
    by_cases hk : k < L.length
    · have hkF : k < F.length := by rw [h.1]; exact hk
      rw [List.getElem?_eq_getElem hk, List.getElem?_eq_getElem hkF]
      exact congrArg some (h.2 k _ _ (List.getElem?_eq_getElem hk) (List.getElem?_eq_getElem hkF)).1
    · rw [List.getElem?_eq_none (by rw [h.1]; omega), List.getElem?_eq_none (by omega)]
  have hbyte : ∀ k, k < L.length → letter (nb F k) = letter (nb L k) ∧ nchar (nb F k) = nchar (nb L k) := fun k hk => by
    have hkF : k < F.length := by rw [h.1]; exact hk
    have := h.2 k _ _ (List.getElem?_eq_getElem hk) (List.getElem?_eq_getElem hkF)
    unfold nb
    rw [List.getElem?_eq_getElem hk, List.getElem?_eq_getElem hkF]
    exact ⟨this.2.1, this.2.2⟩
  refine ⟨?_, ?_, hlg⟩
  · unfold nameB
    exact decide_eq_true ⟨by rw [h.1]; exact h1, by rw [h.1]; exact h64, by rw [(hbyte 0 (by omega)).1]; exact hl, fun k hk => by rw [h.1] at hk; rw [(hbyte k hk).2]; exact hall k hk⟩
  · unfold wordB; rw [hlg]
theorem flat_one {α : Type} (f : α → Value) (l : List α) : l.flatMap (fun n => [f n]) = l.map f := by
  induction l with
  | nil => rfl
  | cons x l ih => simp [ih]
open Go.Deep Go.ChangeShapes Go.WideShapes in
theorem bools_open {H : Type} {enc : TypeId × Value → H} {P : Program} {w : World} {base : Nat} {spare : Nat → Bool} {held : Bool} {t e : TypeId} {fuel : Nat} {a : Option Addr} {len cap : Nat} {x : DataW H × List MemPlace}
    (ht : P.underlying t = some (.slice e)) (he : P.underlying e = some .bool) (hC : P.cellsOf e = 1)
    (h : DataW.trod enc P w base spare held fuel t [.slice a len cap] = some x) :
    ∃ os : List Bool, os.length = len ∧ len ≤ cap ∧ cap ≤ maxLen ∧ (a = none → cap = 0) ∧ Cells w.heap.size w a (os.map .bool) := by
  obtain ⟨os, h1, h2, h3, h4, _, h6⟩ := open_rows (fun b : Bool => [.bool b]) 1 ht hC (fun n cs y _ hy => by
    obtain ⟨b, h1, _⟩ := DataW.trod_bool he hy
    exact ⟨b, h1⟩) h
  rw [flat_one] at h6
  exact ⟨os, h1, h2, h3, h4, h6⟩

theorem xor_byte : ∀ c : Fin 256, bits BinOp.xor IntKind.u8 (c.val : Int) 32 = ((UInt8.ofNat c.val ^^^ 32).toNat : Int) := by decide +kernel
theorem xor_u8 (c : UInt8) : bits BinOp.xor IntKind.u8 (c.toNat : Int) 32 = ((c ^^^ 32).toNat : Int) := by
  have := xor_byte ⟨c.toNat, c.toNat_lt⟩
  rw [UInt8.ofNat_toNat] at this
  exact this
set_option linter.unusedSimpArgs false
set_option maxRecDepth 1000000 in
set_option maxHeartbeats 4000000 in
theorem lexCase_any (s : ByteArray) (a1 : Option Addr) (n1 c1 : Nat) (bs : List Bool) (mm : Int) (w : World) (hs : s.size ≤ 1099511627776) (hm : w.cell? mlA = some (.int .i64 mm)) (hg : 0 < w.heap.size)
    (hbl : bs.length = n1) (hb1 : n1 ≤ maxLen) (hcells : Cells w.heap.size w a1 (bs.map .bool)) :
    Calls Try.prog 6 #[.string s, .slice a1 n1 c1] w fun e w' => e = .returned (.bool true) ∧ Below w.heap.size w w' := by
  unfold maxLen at hb1
  have HLN : Hid (s.data.toList.length = s.size) := Lib.hid (by simp)
  have HM : Hid (∀ w', Below w.heap.size w w' → w'.cell? mlA = some (.int .i64 mm) ∧ 0 < w'.heap.size) := Lib.hid (fun w' hb => ⟨by rw [hb.cell (by show 0 < w.heap.size; exact hg)]; exact hm, Nat.lt_of_lt_of_le hg hb.size⟩)
  have HNA := Lib.hid (rname_any s w hs)
  clear hm
  cases hnm : nameB s.data.toList with
  | false =>
    rw [hnm] at HNA
    have HWK := Lib.hid (works_any mm w (HM.out w (Below.refl _ _)).1 (HM.out w (Below.refl _ _)).2)
    clear hnm
    go_enter Try.func6, Try.ntmps6
    go_wp2_with fail
    refine HNA.out.mono ?_
    rintro e w1 ⟨rfl, rfl⟩
    go_wp2_with fail
    refine HWK.out.mono ?_
    rintro e w1 ⟨rfl, hb1⟩
    go_wp2_with fail
    go_ret
    exact ⟨rfl, hb1⟩
  | true =>
    rw [hnm] at HNA
    have HNM := Lib.hid hnm
    have h64 : s.size ≤ 64 := by have := (nameB_facts hnm).2.1; rw [HLN.out] at this; exact this
    have h1s : 1 ≤ s.size := by have := (nameB_facts hnm).1; rw [HLN.out] at this; exact this
    clear hnm
    have hcv := run_bytes_of_string (P := Try.prog) w 9 37 5 s Try.underlying9 Try.underlying37 Try.underlying5
    have HROW := Lib.hid (Row8.of_string w s (grownCap w s.size 0 5) 5)
    have hb0 : Below w.heap.size w (w.drew.alloc (.cells (bytesRow s (grownCap w s.size 0 5)) 5 ((bytesRow s (grownCap w s.size 0 5)).size, (bytesRow s (grownCap w s.size 0 5)).size + 1))) := ((Below.refl _ _).drew).alloc (Nat.le_refl _) _
    have hz0 : w.heap.size < (w.drew.alloc (.cells (bytesRow s (grownCap w s.size 0 5)) 5 ((bytesRow s (grownCap w s.size 0 5)).size, (bytesRow s (grownCap w s.size 0 5)).size + 1))).heap.size := by simp
    have HB0 := Lib.hid hb0
    clear hb0
    generalize grownCap w s.size 0 5 = cap at *
    generalize (w.drew.alloc (.cells (bytesRow s cap) 5 ((bytesRow s cap).size, (bytesRow s cap).size + 1))) = W1 at *
    have HZ0 := Lib.hid hz0
    clear hz0
    go_enter Try.func6, Try.ntmps6
    go_wp2_with fail
    refine HNA.out.mono ?_
    rintro e w1 ⟨rfl, rfl⟩
    go_wp2_with fail
    go_loopw [6] (fun k wr => ∃ (i : Nat) (F : List UInt8), k = .int .i64 i ∧ i ≤ s.size ∧ Hid (FlipOf F s.data.toList) ∧ Hid (Row8 wr w.heap.size F) ∧ Hid (Below w.heap.size w wr) ∧ Hid (w.heap.size < wr.heap.size)) (fun k _ => s.size - (intOf k).toNat)
    case atStart => exact ⟨0, _, rfl, Nat.zero_le _, Lib.hid (FlipOf.refl _), HROW, HB0, HZ0⟩
    case round =>
      obtain ⟨i, F, rfl, his, HF, HRW, HBR, HZR⟩ := hrel
      have hFl : Hid (F.length = s.size) := Lib.hid (by rw [HF.out.1, HLN.out])
      clear hcv
      by_cases hq : i < s.size ∧ i < n1
      · obtain ⟨hp, hq1⟩ := hq
        have hp' : (i : Int) < s.size := by omega
        have hq1' : (i : Int) < n1 := by omega
        have hi0 : (0 : Int) ≤ (i : Int) := by omega
        obtain ⟨c, hc⟩ : ∃ c, F[i]? = some c := ⟨_, List.getElem?_eq_getElem (by rw [hFl.out]; exact hp)⟩
        obtain ⟨t, ht⟩ : ∃ t, bs[i]? = some t := ⟨_, List.getElem?_eq_getElem (by rw [hbl]; exact hq1)⟩
        obtain ⟨tb, off, ha1, htb, hct⟩ : ∃ b off, a1 = some ⟨b, off, none⟩ ∧ b < w.heap.size ∧ w.cell? ⟨b, off + i, none⟩ = some (.bool t) := by
          rcases hcells with h0 | ⟨b, off, h1, h2, h3⟩
          · have := congrArg List.length h0; simp at this; rw [this] at ht; simp at ht
          · exact ⟨b, off, h1, h2, h3 i _ (by rw [List.getElem?_map, ht]; rfl)⟩
        subst ha1
        have t0 : wr.cell? ⟨tb, off + i, none⟩ = some (.bool t) := by rw [HBR.out.cell htb]; exact hct
        obtain ⟨g1, g2⟩ := HRW.out i c hc
        have HC := Lib.hid hc
        have hc256 : c.toNat < 256 := c.toNat_lt
        clear hc ht hct
        cases t with
        | false =>
          go_wp2_with fail
          go_roundw
          case rel => exact ⟨i + 1, F, by go_num, by omega, HF, HRW, HBR, HZR⟩
          case measure => simp [intOf]; omega
        | true =>
          by_cases hl : 97 ≤ c.toNat
          · have hl' : (97 : Int) ≤ c.toNat := by omega
            by_cases hl2 : c.toNat ≤ 122
            · have hl2' : (c.toNat : Int) ≤ 122 := by omega
              go_wp2_with fail
              go_roundw
              case rel => exact ⟨i + 1, F.set i (c ^^^ 32), by go_num, by omega, Lib.hid (HF.out.flip HC.out (by omega)), Lib.hid (by have := HRW.out.set (i := i) (by rw [hFl.out]; exact hp) (c ^^^ 32); rw [← xor_u8] at this; exact this), Lib.hid (HBR.out.setCell (Nat.le_refl _) _), Lib.hid (by simp; exact HZR.out)⟩
              case measure => simp [intOf]; omega
            · have hl2' : ¬ (c.toNat : Int) ≤ 122 := by omega
              have hl3 : (65 : Int) ≤ c.toNat := by omega
              have hl4 : ¬ (c.toNat : Int) ≤ 90 := by omega
              go_wp2_with fail
              go_roundw
              case rel => exact ⟨i + 1, F, by go_num, by omega, HF, HRW, HBR, HZR⟩
              case measure => simp [intOf]; omega
          · have hl' : ¬ (97 : Int) ≤ c.toNat := by omega
            by_cases hu : 65 ≤ c.toNat
            · have hu' : (65 : Int) ≤ c.toNat := by omega
              by_cases hu2 : c.toNat ≤ 90
              · have hu2' : (c.toNat : Int) ≤ 90 := by omega
                go_wp2_with fail
                go_roundw
                case rel => exact ⟨i + 1, F.set i (c ^^^ 32), by go_num, by omega, Lib.hid (HF.out.flip HC.out (by omega)), Lib.hid (by have := HRW.out.set (i := i) (by rw [hFl.out]; exact hp) (c ^^^ 32); rw [← xor_u8] at this; exact this), Lib.hid (HBR.out.setCell (Nat.le_refl _) _), Lib.hid (by simp; exact HZR.out)⟩
                case measure => simp [intOf]; omega
              · have hu2' : ¬ (c.toNat : Int) ≤ 90 := by omega
                go_wp2_with fail
                go_roundw
                case rel => exact ⟨i + 1, F, by go_num, by omega, HF, HRW, HBR, HZR⟩
                case measure => simp [intOf]; omega
            · have hu' : ¬ (65 : Int) ≤ c.toNat := by omega
              go_wp2_with fail
              go_roundw
              case rel => exact ⟨i + 1, F, by go_num, by omega, HF, HRW, HBR, HZR⟩
              case measure => simp [intOf]; omega
      · have HFN := Lib.hid (HF.out.name HNM.out)
        have HSC1 := Lib.hid (scan_any s mm wr hs (HM.out wr HBR.out).1 (HM.out wr HBR.out).2)
        rw [scanL_name HNM.out] at HSC1
        have hFs : Hid ((strOf F).data.toList = F) := Lib.hid (strOf_data F)
        have HBACK : Hid (∀ u, Below wr.heap.size wr u → (convert 37 9 (.slice (some ⟨w.heap.size, 0, none⟩) s.size cap)).run Try.prog u = .ok (.string (strOf F)) u) := Lib.hid (fun u hu => by
          have hback := run_convert_bytes_back (P := Try.prog) u 37 9 5 ⟨w.heap.size, 0, none⟩ cap F Try.underlying37 Try.underlying5 Try.underlying9 (fun j hj => by
            rw [addr_add, Nat.zero_add, hu.cell (by show w.heap.size < wr.heap.size; exact HZR.out)]
            exact (HRW.out j _ (List.getElem?_eq_getElem hj)).1)
          rw [hFl.out] at hback
          exact hback)
        have HSC2 := Lib.hid (fun u (hu : Below w.heap.size w u) => scan_any (strOf F) mm u (by rw [strOf_size, hFl.out]; omega) (HM.out u hu).1 (HM.out u hu).2)
        rw [hFs.out, scanL_name HFN.out.1] at HSC2
        have HTS : Hid (s.data.toList.length = s.size) := HLN
        have hcase : (decide ((i : Int) < s.size) && decide ((i : Int) < n1)) = false := by simp; omega
        by_cases hp : i < s.size
        · have hp' : (i : Int) < s.size := by omega
          have hq1' : ¬ (i : Int) < n1 := by omega
          go_wp2_with fail
          refine HSC1.out.mono ?_
          rintro e w1 ⟨⟨v1, rfl, ho1⟩, hb1⟩
          have HO1 := Lib.hid ho1
          have hbk1 := HBACK.out w1 hb1
          have HB1 := Lib.hid hb1
          have HBW1 := Lib.hid (below_step HBR.out rfl hb1)
          have HS2 := Lib.hid (HSC2.out w1 HBW1.out)
          clear hb1 ho1
          go_wp2_with fail
          refine HS2.out.mono ?_
          rintro e w2 ⟨⟨v2, rfl, ho2⟩, hb2⟩
          have HBW2 := Lib.hid (below_step HBW1.out rfl hb2)
          have hbk2 := HBACK.out w2 (below_step HB1.out rfl hb2)
          obtain ⟨g1, e1, rfl, hg1, x0, x1, x2, x3⟩ := tok_cells (own_below HO1.out hb2) (k := 0) rfl
          obtain ⟨g2, e2, rfl, hg2, y0, y1, y2, y3⟩ := tok_cells ho2 (k := 0) rfl
          have HBK := Lib.hid (fun u (hu : Below w2.heap.size w2 u) => HBACK.out u (below_step (below_step HB1.out rfl hb2) rfl hu))
          have HCS : Hid (∀ n, ∀ u : Ext w2.heap.size (w2.drewN n), Calls Try.prog 13 #[] u.w fun e w'' => e = .returned (.bool true) ∧ ∃ u' : Ext w2.heap.size (w2.drewN n), w'' = u'.w) := Lib.hid (fun n u => by
            have hbu : Below w.heap.size w u.w := HBW2.out.trans ((below_draws (Below.refl _ _) n).trans (u.below.mono (Nat.le_refl _)) |>.mono HBW2.out.size)
            exact ext_call u (Nat.le_refl _) (works_any mm u.w (HM.out u.w hbu).1 (HM.out u.w hbu).2))
          clear hbk1 ho2 hb2
          cases hw : wordB s.data.toList with
          | true =>
            have t1 : nameTok s.data.toList = ⟨2, largeL s.data.toList, 0⟩ := by unfold nameTok; rw [if_pos hw]
            have t2 : nameTok F = ⟨2, largeL s.data.toList, 0⟩ := by unfold nameTok; rw [HFN.out.2.1, HFN.out.2.2, if_pos hw]
            rw [t1] at x0 x1 x2 x3
            rw [t2] at y0 y1 y2 y3
            have p0 : w2.cell? ⟨g1, 0, none⟩ = some (.int .i64 2) := x0
            have p1 : w2.cell? ⟨g1, 1, none⟩ = some (.string (strOf (largeL s.data.toList))) := x1
            have p2 : w2.cell? ⟨g1, 2, none⟩ = some (.int .i64 0) := x2
            have p3 : w2.cell? ⟨g1, 3, none⟩ = some (.int .i64 0) := x3
            have r0 : w2.cell? ⟨g2, 0, none⟩ = some (.int .i64 2) := y0
            have r1 : w2.cell? ⟨g2, 1, none⟩ = some (.string (strOf (largeL s.data.toList))) := y1
            have r2 : w2.cell? ⟨g2, 2, none⟩ = some (.int .i64 0) := y2
            have r3 : w2.cell? ⟨g2, 3, none⟩ = some (.int .i64 0) := y3
            generalize strOf (largeL s.data.toList) = X at *
            clear x0 x1 x2 x3 y0 y1 y2 y3 t1 t2 hw hbk2
            go_wp2_with fail
            go_quiet (fail)
            have z0 : ∀ u : Ext w2.heap.size (w2.drewN nq), u.w.cell? ⟨g1, 0, none⟩ = some (.int .i64 2) := fun u => u.cell hg1 p0
            have z1 : ∀ u : Ext w2.heap.size (w2.drewN nq), u.w.cell? ⟨g1, 1, none⟩ = some (.string X) := fun u => u.cell hg1 p1
            have z2 : ∀ u : Ext w2.heap.size (w2.drewN nq), u.w.cell? ⟨g1, 2, none⟩ = some (.int .i64 0) := fun u => u.cell hg1 p2
            have z3 : ∀ u : Ext w2.heap.size (w2.drewN nq), u.w.cell? ⟨g1, 3, none⟩ = some (.int .i64 0) := fun u => u.cell hg1 p3
            have q0 : ∀ u : Ext w2.heap.size (w2.drewN nq), u.w.cell? ⟨g2, 0, none⟩ = some (.int .i64 2) := fun u => u.cell hg2 r0
            have q1 : ∀ u : Ext w2.heap.size (w2.drewN nq), u.w.cell? ⟨g2, 1, none⟩ = some (.string X) := fun u => u.cell hg2 r1
            have q2 : ∀ u : Ext w2.heap.size (w2.drewN nq), u.w.cell? ⟨g2, 2, none⟩ = some (.int .i64 0) := fun u => u.cell hg2 r2
            have q3 : ∀ u : Ext w2.heap.size (w2.drewN nq), u.w.cell? ⟨g2, 3, none⟩ = some (.int .i64 0) := fun u => u.cell hg2 r3
            go_wp2_with fail
            refine wp_region_ext w2.heap.size (by kernel_rfl) (by kernel_rfl) ?_
            repeat (go_big_quiet_step (exact HCS.out _ _))
            refine wpQuiet_nil ?_
            intro w3 hw3
            obtain ⟨u, hu⟩ := hw3
            have hb3 := u.below
            rw [← hu] at hb3
            have HB3 := Lib.hid (HBW2.out.trans ((below_draws (Below.refl _ _) _).trans (hb3.mono (Nat.le_refl _)) |>.mono HBW2.out.size))
            clear hu hb3
            clear z0 z1 z2 z3 q0 q1 q2 q3
            go_wp2_with fail
            go_ret
            exact ⟨rfl, HB3.out⟩
          | false =>
            have t1 : nameTok s.data.toList = ⟨1, s.data.toList, 0⟩ := by unfold nameTok; rw [if_neg (by rw [hw]; decide)]
            have t2 : nameTok F = ⟨1, F, 0⟩ := by unfold nameTok; rw [HFN.out.2.1, if_neg (by rw [hw]; decide)]
            rw [t1] at x0 x1 x2 x3
            rw [t2] at y0 y1 y2 y3
            have p0 : w2.cell? ⟨g1, 0, none⟩ = some (.int .i64 1) := x0
            have p1 : w2.cell? ⟨g1, 1, none⟩ = some (.string s) := by have := x1; dsimp only at this; rw [strOf_toList] at this; exact this
            have r0 : w2.cell? ⟨g2, 0, none⟩ = some (.int .i64 1) := y0
            have r1 : w2.cell? ⟨g2, 1, none⟩ = some (.string (strOf F)) := y1
            generalize strOf F = X at *
            clear x0 x1 x2 x3 y0 y1 y2 y3 t1 t2 hw hbk2
            go_wp2_with fail
            go_quiet (fail)
            have z0 : ∀ u : Ext w2.heap.size (w2.drewN nq), u.w.cell? ⟨g1, 0, none⟩ = some (.int .i64 1) := fun u => u.cell hg1 p0
            have z1 : ∀ u : Ext w2.heap.size (w2.drewN nq), u.w.cell? ⟨g1, 1, none⟩ = some (.string s) := fun u => u.cell hg1 p1
            have q0 : ∀ u : Ext w2.heap.size (w2.drewN nq), u.w.cell? ⟨g2, 0, none⟩ = some (.int .i64 1) := fun u => u.cell hg2 r0
            have q1 : ∀ u : Ext w2.heap.size (w2.drewN nq), u.w.cell? ⟨g2, 1, none⟩ = some (.string X) := fun u => u.cell hg2 r1
            have q2 : ∀ u : Ext w2.heap.size (w2.drewN nq), (convert 37 9 (.slice (some ⟨w.heap.size, 0, none⟩) s.size cap)).run Try.prog u.w = .ok (.string X) u.w := fun u => HBK.out u.w ((below_draws (Below.refl _ _) nq).trans u.below)
            go_wp2_with fail
            refine wp_region_ext w2.heap.size (by kernel_rfl) (by kernel_rfl) ?_
            repeat (go_big_quiet_step (exact HCS.out _ _))
            refine wpQuiet_nil ?_
            intro w3 hw3
            obtain ⟨u, hu⟩ := hw3
            have hb3 := u.below
            rw [← hu] at hb3
            have HB3 := Lib.hid (HBW2.out.trans ((below_draws (Below.refl _ _) _).trans (hb3.mono (Nat.le_refl _)) |>.mono HBW2.out.size))
            clear hu hb3
            clear z0 z1 q0 q1 q2
            go_wp2_with fail
            go_ret
            exact ⟨rfl, HB3.out⟩
        · have hp' : ¬ (i : Int) < s.size := by omega
          go_wp2_with fail
          refine HSC1.out.mono ?_
          rintro e w1 ⟨⟨v1, rfl, ho1⟩, hb1⟩
          have HO1 := Lib.hid ho1
          have hbk1 := HBACK.out w1 hb1
          have HB1 := Lib.hid hb1
          have HBW1 := Lib.hid (below_step HBR.out rfl hb1)
          have HS2 := Lib.hid (HSC2.out w1 HBW1.out)
          clear hb1 ho1
          go_wp2_with fail
          refine HS2.out.mono ?_
          rintro e w2 ⟨⟨v2, rfl, ho2⟩, hb2⟩
          have HBW2 := Lib.hid (below_step HBW1.out rfl hb2)
          have hbk2 := HBACK.out w2 (below_step HB1.out rfl hb2)
          obtain ⟨g1, e1, rfl, hg1, x0, x1, x2, x3⟩ := tok_cells (own_below HO1.out hb2) (k := 0) rfl
          obtain ⟨g2, e2, rfl, hg2, y0, y1, y2, y3⟩ := tok_cells ho2 (k := 0) rfl
          have HBK := Lib.hid (fun u (hu : Below w2.heap.size w2 u) => HBACK.out u (below_step (below_step HB1.out rfl hb2) rfl hu))
          have HCS : Hid (∀ n, ∀ u : Ext w2.heap.size (w2.drewN n), Calls Try.prog 13 #[] u.w fun e w'' => e = .returned (.bool true) ∧ ∃ u' : Ext w2.heap.size (w2.drewN n), w'' = u'.w) := Lib.hid (fun n u => by
            have hbu : Below w.heap.size w u.w := HBW2.out.trans ((below_draws (Below.refl _ _) n).trans (u.below.mono (Nat.le_refl _)) |>.mono HBW2.out.size)
            exact ext_call u (Nat.le_refl _) (works_any mm u.w (HM.out u.w hbu).1 (HM.out u.w hbu).2))
          clear hbk1 ho2 hb2
          cases hw : wordB s.data.toList with
          | true =>
            have t1 : nameTok s.data.toList = ⟨2, largeL s.data.toList, 0⟩ := by unfold nameTok; rw [if_pos hw]
            have t2 : nameTok F = ⟨2, largeL s.data.toList, 0⟩ := by unfold nameTok; rw [HFN.out.2.1, HFN.out.2.2, if_pos hw]
            rw [t1] at x0 x1 x2 x3
            rw [t2] at y0 y1 y2 y3
            have p0 : w2.cell? ⟨g1, 0, none⟩ = some (.int .i64 2) := x0
            have p1 : w2.cell? ⟨g1, 1, none⟩ = some (.string (strOf (largeL s.data.toList))) := x1
            have p2 : w2.cell? ⟨g1, 2, none⟩ = some (.int .i64 0) := x2
            have p3 : w2.cell? ⟨g1, 3, none⟩ = some (.int .i64 0) := x3
            have r0 : w2.cell? ⟨g2, 0, none⟩ = some (.int .i64 2) := y0
            have r1 : w2.cell? ⟨g2, 1, none⟩ = some (.string (strOf (largeL s.data.toList))) := y1
            have r2 : w2.cell? ⟨g2, 2, none⟩ = some (.int .i64 0) := y2
            have r3 : w2.cell? ⟨g2, 3, none⟩ = some (.int .i64 0) := y3
            generalize strOf (largeL s.data.toList) = X at *
            clear x0 x1 x2 x3 y0 y1 y2 y3 t1 t2 hw hbk2
            go_wp2_with fail
            go_quiet (fail)
            have z0 : ∀ u : Ext w2.heap.size (w2.drewN nq), u.w.cell? ⟨g1, 0, none⟩ = some (.int .i64 2) := fun u => u.cell hg1 p0
            have z1 : ∀ u : Ext w2.heap.size (w2.drewN nq), u.w.cell? ⟨g1, 1, none⟩ = some (.string X) := fun u => u.cell hg1 p1
            have z2 : ∀ u : Ext w2.heap.size (w2.drewN nq), u.w.cell? ⟨g1, 2, none⟩ = some (.int .i64 0) := fun u => u.cell hg1 p2
            have z3 : ∀ u : Ext w2.heap.size (w2.drewN nq), u.w.cell? ⟨g1, 3, none⟩ = some (.int .i64 0) := fun u => u.cell hg1 p3
            have q0 : ∀ u : Ext w2.heap.size (w2.drewN nq), u.w.cell? ⟨g2, 0, none⟩ = some (.int .i64 2) := fun u => u.cell hg2 r0
            have q1 : ∀ u : Ext w2.heap.size (w2.drewN nq), u.w.cell? ⟨g2, 1, none⟩ = some (.string X) := fun u => u.cell hg2 r1
            have q2 : ∀ u : Ext w2.heap.size (w2.drewN nq), u.w.cell? ⟨g2, 2, none⟩ = some (.int .i64 0) := fun u => u.cell hg2 r2
            have q3 : ∀ u : Ext w2.heap.size (w2.drewN nq), u.w.cell? ⟨g2, 3, none⟩ = some (.int .i64 0) := fun u => u.cell hg2 r3
            go_wp2_with fail
            refine wp_region_ext w2.heap.size (by kernel_rfl) (by kernel_rfl) ?_
            repeat (go_big_quiet_step (exact HCS.out _ _))
            refine wpQuiet_nil ?_
            intro w3 hw3
            obtain ⟨u, hu⟩ := hw3
            have hb3 := u.below
            rw [← hu] at hb3
            have HB3 := Lib.hid (HBW2.out.trans ((below_draws (Below.refl _ _) _).trans (hb3.mono (Nat.le_refl _)) |>.mono HBW2.out.size))
            clear hu hb3
            clear z0 z1 z2 z3 q0 q1 q2 q3
            go_wp2_with fail
            go_ret
            exact ⟨rfl, HB3.out⟩
          | false =>
            have t1 : nameTok s.data.toList = ⟨1, s.data.toList, 0⟩ := by unfold nameTok; rw [if_neg (by rw [hw]; decide)]
            have t2 : nameTok F = ⟨1, F, 0⟩ := by unfold nameTok; rw [HFN.out.2.1, if_neg (by rw [hw]; decide)]
            rw [t1] at x0 x1 x2 x3
            rw [t2] at y0 y1 y2 y3
            have p0 : w2.cell? ⟨g1, 0, none⟩ = some (.int .i64 1) := x0
            have p1 : w2.cell? ⟨g1, 1, none⟩ = some (.string s) := by have := x1; dsimp only at this; rw [strOf_toList] at this; exact this
            have r0 : w2.cell? ⟨g2, 0, none⟩ = some (.int .i64 1) := y0
            have r1 : w2.cell? ⟨g2, 1, none⟩ = some (.string (strOf F)) := y1
            generalize strOf F = X at *
            clear x0 x1 x2 x3 y0 y1 y2 y3 t1 t2 hw hbk2
            go_wp2_with fail
            go_quiet (fail)
            have z0 : ∀ u : Ext w2.heap.size (w2.drewN nq), u.w.cell? ⟨g1, 0, none⟩ = some (.int .i64 1) := fun u => u.cell hg1 p0
            have z1 : ∀ u : Ext w2.heap.size (w2.drewN nq), u.w.cell? ⟨g1, 1, none⟩ = some (.string s) := fun u => u.cell hg1 p1
            have q0 : ∀ u : Ext w2.heap.size (w2.drewN nq), u.w.cell? ⟨g2, 0, none⟩ = some (.int .i64 1) := fun u => u.cell hg2 r0
            have q1 : ∀ u : Ext w2.heap.size (w2.drewN nq), u.w.cell? ⟨g2, 1, none⟩ = some (.string X) := fun u => u.cell hg2 r1
            have q2 : ∀ u : Ext w2.heap.size (w2.drewN nq), (convert 37 9 (.slice (some ⟨w.heap.size, 0, none⟩) s.size cap)).run Try.prog u.w = .ok (.string X) u.w := fun u => HBK.out u.w ((below_draws (Below.refl _ _) nq).trans u.below)
            go_wp2_with fail
            refine wp_region_ext w2.heap.size (by kernel_rfl) (by kernel_rfl) ?_
            repeat (go_big_quiet_step (exact HCS.out _ _))
            refine wpQuiet_nil ?_
            intro w3 hw3
            obtain ⟨u, hu⟩ := hw3
            have hb3 := u.below
            rw [← hu] at hb3
            have HB3 := Lib.hid (HBW2.out.trans ((below_draws (Below.refl _ _) _).trans (hb3.mono (Nat.le_refl _)) |>.mono HBW2.out.size))
            clear hu hb3
            clear z0 z1 q0 q1 q2
            go_wp2_with fail
            go_ret
            exact ⟨rfl, HB3.out⟩
end Go.Proofs.Ytphfnmjccdejkaa

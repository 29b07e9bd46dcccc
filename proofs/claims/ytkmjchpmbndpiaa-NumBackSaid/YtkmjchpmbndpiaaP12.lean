/- The walk of NumBack: what is written is read as it was, and the other way round. Conditions: the arguments can be read. -/
import Derived.Test.YtkmjchpmbndpiaaP11
namespace Go.Proofs.Ytkmjchpmbndpiaa
open Go.RowKit
set_option linter.unusedSimpArgs false
set_option linter.unusedVariables false

theorem digB_isDig {d : Nat} (h : d < 10) : isDig (digB d) = true := (isDig_iff _ (digB_nat h)).2 (by omega)
theorem digB_val {d : Nat} (h : d < 10) : (digB d).toNat - 48 = d := by have := digB_nat h; omega
theorem digB_of {c : UInt8} (h : isDig c = true) : digB (c.toNat - 48) = c := by
  have h1 := (isDig_iff c rfl).1 h
  apply UInt8.toNat_inj.1
  have := digB_nat (d := c.toNat - 48) (by omega)
  omega

theorem decN_facts (f : Nat) : ∀ m, m < 10 ^ (f + 1) → f ≤ 18 → (decN m).all isDig = true ∧ valOf (decN m) = m ∧ ∃ c t, decN m = c :: t ∧ (c = 48 → m = 0 ∧ t = []) ∧ c ≠ 45 := by
  induction f with
  | zero =>
    intro m h _
    have hm : m < 10 := by simpa using h
    rw [decN_small hm]
    have hd := digB_nat hm
    refine ⟨by simp [digB_isDig hm], by simp [valOf, digB_val hm], _, _, rfl, fun hc => ?_, fun hc => ?_⟩
    · rw [hc] at hd
      have : ((48 : UInt8).toNat : Int) = 48 := rfl
      exact ⟨by omega, rfl⟩
    · rw [hc] at hd
      have : ((45 : UInt8).toNat : Int) = 45 := rfl
      omega
  | succ f ih =>
    intro m h hf
    by_cases hm : m < 10
    · exact (by
        rw [decN_small hm]
        have hd := digB_nat hm
        refine ⟨by simp [digB_isDig hm], by simp [valOf, digB_val hm], _, _, rfl, fun hc => ?_, fun hc => ?_⟩
        · rw [hc] at hd
          have : ((48 : UInt8).toNat : Int) = 48 := rfl
          exact ⟨by omega, rfl⟩
        · rw [hc] at hd
          have : ((45 : UInt8).toNat : Int) = 45 := rfl
          omega)
    · have h19 : m < 10 ^ 19 := Nat.lt_of_lt_of_le h (Nat.pow_le_pow_right (by omega) (by omega))
      obtain ⟨a, b, c, t, hc, hz, h45⟩ := ih (m / 10) (by rw [Nat.pow_succ] at h; omega) (by omega)
      rw [decN_step hm h19]
      refine ⟨by rw [List.all_append, a]; simp [digB_isDig (d := m % 10) (by omega)], by rw [valOf_snoc, b, digB_val (by omega)]; omega, c, t ++ [digB (m % 10)], by rw [hc]; rfl, fun h48 => ?_, h45⟩
      have := hz h48; omega

theorem parse_text (n : Int) (hn : In64 n) : parseOf (textOf n) = (n, 0) := by
  have hm : n.natAbs < 10 ^ (18 + 1) := by unfold In64 at hn; omega
  obtain ⟨a, b, c, t, hc, hz, h45⟩ := decN_facts 18 n.natAbs hm (by omega)
  unfold textOf parseOf
  by_cases h : n < 0
  · rw [if_pos h]
    rw [if_pos (by simp)]
    show parseS true (decN n.natAbs) = _
    have hs : ¬ ((decN n.natAbs).head? = some 48 ∧ (1 < (decN n.natAbs).length ∨ true = true)) := by
      rintro ⟨h1, _⟩
      rw [hc] at h1; simp at h1
      have := hz h1; omega
    have he : sgn true (valOf (decN n.natAbs)) = n := by rw [b]; simp only [sgn, if_true]; omega
    rw [parseS_val a (by rw [hc]; simp) hs, he, (chk_in hn).1, (chk_in hn).2]
  · rw [if_neg h, List.nil_append]
    rw [if_neg (by rw [hc]; simpa using h45)]
    have hs : ¬ ((decN n.natAbs).head? = some 48 ∧ (1 < (decN n.natAbs).length ∨ false = true)) := by
      rintro ⟨h1, h2 | h2⟩
      · rw [hc] at h1 h2; simp at h1 h2
        have := (hz h1).2; rw [this] at h2; simp at h2
      · cases h2
    have he : sgn false (valOf (decN n.natAbs)) = n := by rw [b]; simp only [sgn, Bool.false_eq_true, if_false]; omega
    rw [parseS_val a (by rw [hc]; simp) hs, he, (chk_in hn).1, (chk_in hn).2]

theorem valOf_pos {c : UInt8} {t : List UInt8} (hc : isDig c = true) (h : c ≠ 48) : 0 < valOf (c :: t) := by
  have h1 := valOf_mono (c :: t) 1
  have h2 : valOf ((c :: t).take 1) = c.toNat - 48 := by simp [valOf]
  have h3 := (isDig_iff c rfl).1 hc
  have h4 : c.toNat ≠ 48 := fun h5 => h (UInt8.toNat_inj.1 (by rw [h5]; rfl))
  omega

theorem text_digits (n : Nat) : ∀ l : List UInt8, l.length = n → l.all isDig = true → l ≠ [] → ¬ (l.head? = some 48 ∧ 1 < l.length) → valOf l < 10 ^ 19 → decN (valOf l) = l := by
  induction n with
  | zero => intro l h _ h0; exact absurd (List.length_eq_zero_iff.1 h) h0
  | succ n ih =>
    intro l hl ha h0 hz hv
    obtain ⟨t, c, rfl⟩ : ∃ t c, l = t ++ [c] := ⟨l.dropLast, l.getLast h0, (List.dropLast_concat_getLast h0).symm⟩
    rw [List.all_append, Bool.and_eq_true] at ha
    have hc : isDig c = true := by simpa using ha.2
    have hcb := (isDig_iff c rfl).1 hc
    rw [valOf_snoc] at hv ⊢
    cases t with
    | nil =>
      simp only [valOf, List.foldl_nil, Nat.zero_mul, Nat.zero_add, List.nil_append]
      rw [decN_small (by omega), digB_of hc]
    | cons d t =>
      have hd : isDig d = true := by have := ha.1; simp only [List.all_cons, Bool.and_eq_true] at this; exact this.1
      have hd48 : d ≠ 48 := fun h => hz ⟨by rw [h]; rfl, by simp⟩
      have hp := valOf_pos (t := t) hd hd48
      have he : (valOf (d :: t) * 10 + (c.toNat - 48)) / 10 = valOf (d :: t) := by omega
      have he2 : (valOf (d :: t) * 10 + (c.toNat - 48)) % 10 = c.toNat - 48 := by omega
      rw [decN_step (by omega) hv, he, he2, digB_of hc, ih (d :: t) (by simpa using hl) ha.1 (by simp) (by rintro ⟨h, _⟩; simp at h; exact hd48 h) (by omega)]

theorem chkE_cases (n : Int) : (In64 n ∧ chkE n = 0 ∧ chkV n = n) ∨ (chkE n = 4 ∧ chkV n = 0) := by
  rcases chk_cases n with h | h
  · exact .inl ⟨h.1, h.2.2, h.2.1⟩
  · exact .inr ⟨h.2.2, h.2.1⟩

theorem parseS_cases (b : Bool) (l : List UInt8) : (∃ e, parseS b l = (0, e) ∧ e ≠ 0) ∨ (∃ n, parseS b l = (n, 0) ∧ In64 n ∧ n = sgn b (valOf l) ∧ decN (valOf l) = l ∧ (b = true → n < 0) ∧ (b = false → l.head? ≠ some 45)) := by
  by_cases h : l = [] ∨ (l.head? = some 48 ∧ (1 < l.length ∨ b = true)) ∨ l.all isDig = false
  · left; unfold parseS; rw [if_pos h]; exact ⟨1, rfl, by decide⟩
  · have h0 : l ≠ [] := fun e => h (.inl e)
    have hz : ¬ (l.head? = some 48 ∧ (1 < l.length ∨ b = true)) := fun e => h (.inr (.inl e))
    have ha : l.all isDig = true := by cases hq : l.all isDig with | true => rfl | false => exact absurd (.inr (.inr hq)) h
    rw [parseS_val ha h0 hz]
    rcases chkE_cases (sgn b (valOf l)) with hk | hk
    · right
      rw [hk.2.1, hk.2.2]
      refine ⟨_, rfl, hk.1, rfl, ?_, ?_, ?_⟩
      · refine text_digits _ l rfl ha h0 (fun e => hz ⟨e.1, .inl e.2⟩) ?_
        have := hk.1
        unfold In64 sgn at this
        cases b <;> simp only [Bool.false_eq_true, if_false, if_true] at this <;> omega
      · rintro rfl
        cases l with
        | nil => exact absurd rfl h0
        | cons c t =>
          have hc : isDig c = true := by simp only [List.all_cons, Bool.and_eq_true] at ha; exact ha.1
          have := valOf_pos (t := t) hc (fun e => hz ⟨by rw [e]; rfl, .inr rfl⟩)
          simp only [sgn, if_true]; omega
      · intro _ h45
        cases l with
        | nil => exact absurd rfl h0
        | cons c t =>
          have hc : isDig c = true := by simp only [List.all_cons, Bool.and_eq_true] at ha; exact ha.1
          simp at h45
          rw [h45] at hc; exact absurd hc (by decide)
    · left; rw [hk.1, hk.2]; exact ⟨4, rfl, by decide⟩

theorem parse_cases (l : List UInt8) : (∃ e, parseOf l = (0, e) ∧ e ≠ 0) ∨ (∃ n, parseOf l = (n, 0) ∧ In64 n ∧ textOf n = l) := by
  unfold parseOf
  by_cases h : l.head? = some 45
  · rw [if_pos h]
    cases l with
    | nil => simp at h
    | cons c t =>
      simp at h; subst h
      rcases parseS_cases true t with hk | ⟨n, h1, h2, h3, h4, h5, _⟩
      · exact .inl hk
      · refine .inr ⟨n, h1, h2, ?_⟩
        unfold textOf
        rw [if_pos (h5 rfl), h3]
        rw [show (sgn true (valOf t)).natAbs = valOf t from by simp only [sgn, if_true]; omega, h4]; rfl
  · rw [if_neg h]
    rcases parseS_cases false l with hk | ⟨n, h1, h2, h3, h4, _, h6⟩
    · exact .inl hk
    · refine .inr ⟨n, h1, h2, ?_⟩
      unfold textOf
      rw [if_neg (by rw [h3]; simp only [sgn, Bool.false_eq_true, if_false]; omega), h3]
      rw [show (sgn false (valOf l)).natAbs = valOf l from by simp only [sgn, Bool.false_eq_true, if_false]; omega, h4]; rfl

theorem back_walk (n : Int) (s : ByteArray) (w : World) (hn : In64 n) (hs : s.size ≤ 9223372036854775807) : Calls Try.prog 8 #[.int .i64 n, .string s] w fun e w' => e = .returned (.bool true) ∧ Below w.heap.size w w' := by
  have H1 := Lib.hid (fun w => text_any n w hn)
  have H2 := Lib.hid (fun w => parse_any ⟨(textOf n).toArray⟩ w (by
    have h1 := decN_len n.natAbs
    show (textOf n).toArray.size ≤ _
    unfold textOf; split <;> simp <;> omega))
  have HR : Hid (∀ w, Calls Try.prog 22 #[.string ⟨(textOf n).toArray⟩] w fun e w' => e = .returned (.tuple #[.int .i64 n, .int .i64 0]) ∧ w = w') := Lib.hid (fun w => by
    have := H2.out w
    rw [show (⟨(textOf n).toArray⟩ : ByteArray).data.toList = textOf n from rfl, parse_text n hn] at this
    exact this)
  have H3 := Lib.hid (fun w => parse_any s w hs)
  clear H2 hs hn
  rcases parse_cases s.data.toList with ⟨e, he, hne⟩ | ⟨y, hy, hI, ht⟩
  · rw [he] at H3
    have hne1 : (e == 0) = false := beq_eq_false_iff_ne.2 hne
    have hne2 : (e != 0) = true := by simpa using hne
    clear he hne
    go_enter Try.func8, Try.ntmps8
    go_wp2_with fail
    refine (H1.out _).mono ?_; rintro e1 w1 ⟨rfl, hb1⟩
    go_wp2_with fail
    refine (HR.out _).mono ?_; rintro e2 w' ⟨rfl, rfl⟩
    go_wp2_with fail
    refine (H3.out _).mono ?_; rintro e3 w' ⟨rfl, rfl⟩
    go_wp2_with fail
    refine (works_any _).mono ?_; rintro e4 w3 ⟨rfl, hb3⟩
    go_wp2_with fail
    go_ret
    exact ⟨rfl, below_step hb1 rfl hb3⟩
  · rw [hy] at H3
    have HT : Hid (∀ w, Calls Try.prog 24 #[.int .i64 y] w fun e w' => e = .returned (.string s) ∧ Below w.heap.size w w') := Lib.hid (fun w => by
      have := text_any y w hI
      rw [ht] at this
      exact this)
    clear hy hI ht
    go_enter Try.func8, Try.ntmps8
    go_wp2_with fail
    refine (H1.out _).mono ?_; rintro e1 w1 ⟨rfl, hb1⟩
    go_wp2_with fail
    refine (HR.out _).mono ?_; rintro e2 w' ⟨rfl, rfl⟩
    go_wp2_with fail
    refine (H3.out _).mono ?_; rintro e3 w' ⟨rfl, rfl⟩
    go_wp2_with fail
    refine (HT.out _).mono ?_; rintro e4 w2 ⟨rfl, hb2⟩
    go_wp2_with fail
    refine (works_any _).mono ?_; rintro e5 w3 ⟨rfl, hb3⟩
    go_wp2_with fail
    go_ret
    exact ⟨rfl, below_step (below_step hb1 rfl hb2) rfl hb3⟩
end Go.Proofs.Ytkmjchpmbndpiaa

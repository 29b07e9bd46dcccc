/- Layer 24: the contracts of the chain's methods that only read. Conditions: the chain is there and has at most a million versions. -/
import Derived.Test.YtelmaaokaakpbaaP1
import Derived.Deep.QuietTactic
import Derived.BigQuiet
namespace Go.Proofs.Ytelmaaokaakpbaa
open Go.RowKit
set_option linter.unusedSimpArgs false
set_option linter.unusedVariables false

theorem lastLe_cases (l : List V) (t : Int) : ∀ k, k ≤ l.length → lastLe l t k = -1 ∨ ∃ (j : Nat) (v : V), lastLe l t k = j ∧ j < k ∧ l[j]? = some v ∧ v.from_ ≤ t := by
  intro k
  induction k with
  | zero => intro _; exact .inl rfl
  | succ k ih =>
    intro hk
    obtain ⟨v, hv⟩ : ∃ v, l[k]? = some v := ⟨_, List.getElem?_eq_getElem (by omega)⟩
    rw [lastLe, hv]
    by_cases h : v.from_ ≤ t
    · simp only [h, if_true]; exact .inr ⟨k, v, rfl, by omega, hv, h⟩
    · simp only [h, if_false]
      rcases ih (by omega) with h1 | ⟨j, u, h1, h2, h3⟩
      · exact .inl h1
      · exact .inr ⟨j, u, h1, by omega, h3⟩
theorem sees_cases (l : List V) (t : Int) : sees l t = -1 ∨ ∃ (j : Nat) (v : V), sees l t = j ∧ j < l.length ∧ l[j]? = some v ∧ v.from_ ≤ t := lastLe_cases l t l.length (Nat.le_refl _)

/-- What is read of the versions at a time. -/
def seenV (l : List V) (t : Int) : Int × Bool := if sees l t < 0 then (0, false) else match l[(sees l t).toNat]? with
  | some v => if v.gone then (0, false) else (v.val, true)
  | none => (0, false)
def readS (s : St) (t who : Int) : Int × Bool := if 1 ≤ who ∧ s.who = who then (if s.gone then (0, false) else (s.val, true)) else seenV s.l t
def newest (l : List V) : Int := match l.getLast? with | some v => v.from_ | none => 0
/-- May this one write? -/
def mayE (s : St) (who t : Int) : Int := if who < 1 then 21 else if (s.who ≠ 0 ∧ s.who ≠ who) ∨ (0 < s.l.length ∧ t < newest s.l) then 6 else 0

theorem tup_ret {a : Int} {x : Bool} {p : Int × Bool} (h : (a, x) = p) : Ending.returned (.tuple #[.int .i64 a, .bool x]) = .returned (.tuple #[.int .i64 p.1, .bool p.2]) := by rw [← h]
theorem int_ret {a b : Int} (h : a = b) : Ending.returned (.int .i64 a) = .returned (.int .i64 b) := by rw [h]

theorem seen_neg {l : List V} {t : Int} (h : sees l t = -1) : seenV l t = (0, false) := by unfold seenV; rw [h]; rfl
theorem seen_at {l : List V} {t : Int} {j : Nat} {v : V} (h : sees l t = j) (hj : l[j]? = some v) : seenV l t = if v.gone then (0, false) else (v.val, true) := by
  unfold seenV; rw [h, if_neg (by omega), Int.toNat_natCast, hj]
theorem read_own {s : St} {t who : Int} (h1 : 1 ≤ who) (h2 : s.who = who) : readS s t who = if s.gone then (0, false) else (s.val, true) := by unfold readS; rw [if_pos ⟨h1, h2⟩]
theorem read_not {s : St} {t who : Int} (h : ¬ (1 ≤ who ∧ s.who = who)) : readS s t who = seenV s.l t := by unfold readS; rw [if_neg h]

set_option maxHeartbeats 1000000 in
theorem read_any (w : World) (B b : Nat) (own : List Nat) (s : St) (t who : Int) (hr : Rep w B b own s) (hm : s.l.length ≤ 1000000) :
    Calls Try.prog 10 #[.pointer (some ⟨b, 0, none⟩), .int .i64 t, .int .i64 who] w fun e w' => e = .returned (.tuple #[.int .i64 (readS s t who).1, .bool (readS s t who).2]) ∧ w = w' := by
  have HR := Lib.hid hr
  obtain ⟨a, cap, hb, ho, hB, _⟩ := hr
  have c0 := hb.cell (i := 0) rfl
  have c1 := hb.cell (i := 1) rfl
  have c2 := hb.cell (i := 2) rfl
  have c3 := hb.cell (i := 3) rfl
  have HO := Lib.hid ho
  clear hb ho
  by_cases h12 : 1 ≤ who ∧ s.who = who
  · obtain ⟨h1, h2⟩ := h12
    have HE := Lib.hid (read_own (t := t) h1 h2)
    have hq : (s.who == who) = true := beq_iff_eq.2 h2
    clear h2
    generalize hg : s.gone = gn at *
    clear hg
    cases gn
    all_goals
      go_enter Try.func10, Try.ntmps10
      go_wp2_with fail
      go_ret2
      exact ⟨tup_ret HE.out.symm, rfl⟩
  · have HE := Lib.hid (read_not (s := s) (t := t) (who := who) h12)
    have hcs : (1 ≤ who ∧ (s.who == who) = false) ∨ ¬ 1 ≤ who := by
      by_cases h1 : 1 ≤ who
      · exact .inl ⟨h1, beq_eq_false_iff_ne.2 (fun h => h12 ⟨h1, h⟩)⟩
      · exact .inr h1
    have HA := Lib.hid (at_any w B b own s t HR.out hm)
    clear h12
    rcases sees_cases s.l t with hs | ⟨j, v, hs, hj, hv, _⟩
    · rw [seen_neg hs] at HE
      rw [hs] at HA
      clear hs
      rcases hcs with ⟨h1, hq⟩ | h1
      all_goals
        go_enter Try.func10, Try.ntmps10
        go_wp2_with fail
        refine HA.out.mono ?_; rintro e w' ⟨rfl, rfl⟩
        go_wp2_with fail
        go_ret2
        exact ⟨tup_ret HE.out.symm, rfl⟩
    · rw [seen_at hs hv] at HE
      rw [hs] at HA
      obtain ⟨g, rfl, d0, d1, d2⟩ := own_cells HO.out hv
      clear hs hv
      generalize v.gone = gn at *
      cases gn
      all_goals
        rcases hcs with ⟨h1, hq⟩ | h1
      all_goals
        go_enter Try.func10, Try.ntmps10
        go_wp2_with fail
        refine HA.out.mono ?_; rintro e w' ⟨rfl, rfl⟩
        go_wp2_with fail
        go_ret2
        exact ⟨tup_ret HE.out.symm, rfl⟩

theorem newest_get {l : List V} (h : 0 < l.length) : ∃ v, l[l.length - 1]? = some v ∧ newest l = v.from_ := by
  refine ⟨l[l.length - 1], List.getElem?_eq_getElem (by omega), ?_⟩
  unfold newest
  rw [List.getLast?_eq_getElem?, List.getElem?_eq_getElem (by omega)]
theorem newest_nil {l : List V} (h : ¬ 0 < l.length) : newest l = 0 := by
  rw [List.length_eq_zero_iff.1 (by omega : l.length = 0)]; rfl

theorem may_any (w : World) (B b : Nat) (own : List Nat) (s : St) (who t : Int) (hr : Rep w B b own s) (hm : s.l.length ≤ 1000000) :
    Calls Try.prog 23 #[.pointer (some ⟨b, 0, none⟩), .int .i64 who, .int .i64 t] w fun e w' => e = .returned (.int .i64 (mayE s who t)) ∧ ∃ n, w' = w.drewN n := by
  obtain ⟨a, cap, hb, ho, hB, _⟩ := hr
  have c0 := hb.cell (i := 0) rfl
  have c1 := hb.cell (i := 1) rfl
  have HO := Lib.hid ho
  clear hb ho
  by_cases h1 : who < 1
  · have HE : Hid (21 = mayE s who t) := Lib.hid (by unfold mayE; rw [if_pos h1])
    go_enter Try.func23, Try.ntmps23
    go_wp2_with fail
    go_ret
    exact ⟨int_ret HE.out, 0, rfl⟩
  · by_cases h2 : s.who ≠ 0 ∧ s.who ≠ who
    · have HE : Hid (6 = mayE s who t) := Lib.hid (by unfold mayE; rw [if_neg h1, if_pos (.inl h2)])
      have q1 : (s.who != 0) = true := by simpa using h2.1
      have q2 : (s.who != who) = true := by simpa using h2.2
      clear h2
      go_enter Try.func23, Try.ntmps23
      go_wp2_with fail
      go_quiet (fail)
      go_wp2_with fail
      go_ret
      exact ⟨int_ret HE.out, nq, rfl⟩
    · have hq : (s.who != 0) = false ∨ ((s.who != 0) = true ∧ (s.who != who) = false) := by
        by_cases q : s.who = 0
        · exact .inl (by simp [q])
        · have q3 : s.who = who := Classical.byContradiction fun q2 => h2 ⟨q, q2⟩
          exact .inr ⟨by simpa using q, by simp [q3]⟩
      by_cases h3 : 0 < s.l.length
      · obtain ⟨v, hv, hn⟩ := newest_get h3
        obtain ⟨g, rfl, d0, _, _⟩ := own_cells HO.out hv
        have h3' : (0 : Int) < s.l.length := by omega
        by_cases h4 : t < v.from_
        · have HE : Hid (6 = mayE s who t) := Lib.hid (by unfold mayE; rw [if_neg h1, if_pos (.inr ⟨h3, by rw [hn]; exact h4⟩)])
          clear h2 hv hn
          rcases hq with q1 | ⟨q1, q2⟩
          all_goals
            go_enter Try.func23, Try.ntmps23
            go_wp2_with fail
            go_quiet (fail)
            go_wp2_with fail
            go_ret
            exact ⟨int_ret HE.out, nq, rfl⟩
        · have HE : Hid (0 = mayE s who t) := Lib.hid (by unfold mayE; rw [if_neg h1, if_neg (by rintro (h | h); exact h2 h; rw [hn] at h; exact h4 h.2)])
          clear h2 hv hn
          rcases hq with q1 | ⟨q1, q2⟩
          all_goals
            go_enter Try.func23, Try.ntmps23
            go_wp2_with fail
            go_quiet (fail)
            go_wp2_with fail
            go_ret
            exact ⟨int_ret HE.out, nq, rfl⟩
      · have h3' : ¬ (0 : Int) < s.l.length := by omega
        have HE : Hid (0 = mayE s who t) := Lib.hid (by unfold mayE; rw [if_neg h1, if_neg (by rintro (h | h); exact h2 h; exact h3 h.1)])
        clear h2
        rcases hq with q1 | ⟨q1, q2⟩
        all_goals
          go_enter Try.func23, Try.ntmps23
          go_wp2_with fail
          go_quiet (fail)
          go_wp2_with fail
          go_ret
          exact ⟨int_ret HE.out, nq, rfl⟩

theorem owner_any (w : World) (B b : Nat) (own : List Nat) (s : St) (hr : Rep w B b own s) :
    Calls Try.prog 12 #[.pointer (some ⟨b, 0, none⟩)] w fun e w' => e = .returned (.int .i64 s.who) ∧ w = w' := by
  obtain ⟨a, cap, hb, ho, hB, _⟩ := hr
  have c1 := hb.cell (i := 1) rfl
  clear hb ho
  go_enter Try.func12, Try.ntmps12
  go_wp2_with fail
  go_ret
  exact ⟨rfl, rfl⟩
theorem live_any (w : World) (B b : Nat) (own : List Nat) (s : St) (hr : Rep w B b own s) :
    Calls Try.prog 19 #[.pointer (some ⟨b, 0, none⟩)] w fun e w' => e = .returned (.int .i64 s.l.length) ∧ w = w' := by
  obtain ⟨a, cap, hb, ho, hB, _⟩ := hr
  have c0 := hb.cell (i := 0) rfl
  clear hb ho
  go_enter Try.func19, Try.ntmps19
  go_wp2_with fail
  go_ret
  exact ⟨rfl, rfl⟩
end Go.Proofs.Ytelmaaokaakpbaa

/- Layer 24: the contracts of the reference's Read, may, Write, Erase, Abort. Conditions: the chain is there. -/
import Derived.Test.YtelmaaokaakpbaaR1
namespace Go.Proofs.Ytelmaaokaakpbaa
open Go.RowKit
set_option linter.unusedSimpArgs false
set_option linter.unusedVariables false

theorem below_of (w : World) (n : Nat) : Below w.heap.size w (w.drewN n) := below_drewN (Below.refl _ _) n

set_option maxHeartbeats 2000000 in
theorem rread_any (w : World) (B b : Nat) (own : List Nat) (s : St) (t who : Int) (hr : RRep w B b own s) (hm : s.l.length ≤ 1000000) :
    Calls Try.prog 24 #[.pointer (some ⟨b, 0, none⟩), .int .i64 t, .int .i64 who] w fun e w' => e = .returned (.tuple #[.int .i64 (readS s t who).1, .bool (readS s t who).2]) ∧ Below w.heap.size w w' := by
  have HA := Lib.hid (fun o => rsees_any (w.alloc o) B b own s t (hr.below ((Below.refl _ _).alloc (Nat.le_refl _) o)) hm)
  obtain ⟨a, cap, hf, hv, hg, hb, ho, hB, hown, hval, _⟩ := hr
  have c0 := hb.cell (i := 0) rfl
  have c1 := hb.cell (i := 1) rfl
  have c2 := hb.cell (i := 2) rfl
  have c3 := hb.cell (i := 3) rfl
  have c4 := hb.cell (i := 4) rfl
  have hlt := hb.lt
  have HO := Lib.hid ho
  clear hb ho
  by_cases h12 : 1 ≤ who ∧ s.who = who
  · obtain ⟨h1, h2⟩ := h12
    obtain ⟨e1, e2⟩ := hval (by omega)
    subst e1 e2
    have HE := Lib.hid (read_own (t := t) h1 h2)
    have hq : (s.who == who) = true := beq_iff_eq.2 h2
    clear h2 hval hown
    generalize hg0 : s.gone = gn at *
    clear hg0
    rcases sees_cases s.l t with hs | ⟨j, v, hs, hj, hv2, _⟩
    · rw [hs] at HA
      clear hs
      cases gn
      all_goals
        go_enter Try.func24, Try.ntmps24
        go_wp2_with fail
        refine (HA.out _).mono ?_; rintro e w' ⟨rfl, rfl⟩
        go_wp2_with fail
        go_ret2
        exact ⟨tup_ret HE.out.symm, (Below.refl _ _).alloc (Nat.le_refl _) _⟩
    · rw [hs] at HA
      obtain ⟨g, rfl, d0, d1, d2⟩ := own_cells HO.out hv2
      have hglt := World.block_lt_of_cell? _ _ d0
      simp only at hglt
      clear hs hv2
      cases gn
      all_goals
        go_enter Try.func24, Try.ntmps24
        go_wp2_with fail
        refine (HA.out _).mono ?_; rintro e w' ⟨rfl, rfl⟩
        go_wp2_with fail
        go_ret2
        exact ⟨tup_ret HE.out.symm, (Below.refl _ _).alloc (Nat.le_refl _) _⟩
  · have HE := Lib.hid (read_not (s := s) (t := t) (who := who) h12)
    have hcs : (1 ≤ who ∧ (s.who == who) = false) ∨ ¬ 1 ≤ who := by
      by_cases h1 : 1 ≤ who
      · exact .inl ⟨h1, beq_eq_false_iff_ne.2 (fun h => h12 ⟨h1, h⟩)⟩
      · exact .inr h1
    clear h12 hval hown
    rcases sees_cases s.l t with hs | ⟨j, v, hs, hj, hv2, _⟩
    · rw [seen_neg hs] at HE
      rw [hs] at HA
      clear hs
      rcases hcs with ⟨h1, hq⟩ | h1
      all_goals
        go_enter Try.func24, Try.ntmps24
        go_wp2_with fail
        refine (HA.out _).mono ?_; rintro e w' ⟨rfl, rfl⟩
        go_wp2_with fail
        go_ret2
        exact ⟨tup_ret HE.out.symm, (Below.refl _ _).alloc (Nat.le_refl _) _⟩
    · rw [seen_at hs hv2] at HE
      rw [hs] at HA
      obtain ⟨g, rfl, d0, d1, d2⟩ := own_cells HO.out hv2
      have hglt := World.block_lt_of_cell? _ _ d0
      simp only at hglt
      clear hs hv2
      generalize v.gone = gn at *
      cases gn
      all_goals
        rcases hcs with ⟨h1, hq⟩ | h1
      all_goals
        go_enter Try.func24, Try.ntmps24
        go_wp2_with fail
        refine (HA.out _).mono ?_; rintro e w' ⟨rfl, rfl⟩
        go_wp2_with fail
        go_ret2
        exact ⟨tup_ret HE.out.symm, (Below.refl _ _).alloc (Nat.le_refl _) _⟩

theorem rmay_any (w : World) (B b : Nat) (own : List Nat) (s : St) (who t : Int) (hr : RRep w B b own s) (hm : s.l.length ≤ 1000000) :
    Calls Try.prog 31 #[.pointer (some ⟨b, 0, none⟩), .int .i64 who, .int .i64 t] w fun e w' => e = .returned (.int .i64 (mayE s who t)) ∧ ∃ n, w' = w.drewN n := by
  have HN := Lib.hid (rnewest_any w B b own s hr hm)
  obtain ⟨a, cap, hf, hv, hg, hb, ho, hB, hown, hval, _⟩ := hr
  have c0 := hb.cell (i := 0) rfl
  have c1 := hb.cell (i := 1) rfl
  clear hb ho
  by_cases h1 : who < 1
  · have HE : Hid (21 = mayE s who t) := Lib.hid (by unfold mayE; rw [if_pos h1])
    clear hval hown
    go_enter Try.func31, Try.ntmps31
    go_wp2_with fail
    go_ret
    exact ⟨int_ret HE.out, 0, rfl⟩
  · by_cases h2 : s.who ≠ 0 ∧ s.who ≠ who
    · have HE : Hid (6 = mayE s who t) := Lib.hid (by unfold mayE; rw [if_neg h1, if_pos (.inl h2)])
      have q1 : 0 < s.who := by rcases hown with h | h <;> omega
      have q2 : (s.who != who) = true := by simpa using h2.2
      clear h2 hval hown
      go_enter Try.func31, Try.ntmps31
      go_wp2_with fail
      go_ret
      exact ⟨int_ret HE.out, 0, rfl⟩
    · have hq : (¬ 0 < s.who) ∨ (0 < s.who ∧ (s.who != who) = false) := by
        by_cases q : s.who = 0
        · exact .inl (by omega)
        · have q3 : s.who = who := Classical.byContradiction fun q2 => h2 ⟨q, q2⟩
          exact .inr ⟨by rcases hown with h | h <;> omega, by simp [q3]⟩
      obtain ⟨nn, hnn⟩ : ∃ nn, newest s.l = nn := ⟨_, rfl⟩
      rw [hnn] at HN
      have HE0 : Hid ((t < nn ∧ 0 < s.l.length → 6 = mayE s who t) ∧ (¬ (t < nn ∧ 0 < s.l.length) → 0 = mayE s who t)) := Lib.hid ⟨fun h => by unfold mayE; rw [if_neg h1, if_pos (.inr ⟨h.2, by rw [hnn]; exact h.1⟩)],
        fun h => by unfold mayE; rw [if_neg h1, if_neg (by rintro (h3 | h3); exact h2 h3; rw [hnn] at h3; exact h ⟨h3.2, h3.1⟩)]⟩
      clear h2 hval hown hnn
      by_cases h4 : t < nn
      · by_cases h3 : (0 : Int) < s.l.length
        · have HE := Lib.hid (HE0.out.1 ⟨h4, by omega⟩)
          clear HE0
          rcases hq with q1 | ⟨q1, q2⟩
          all_goals
            go_enter Try.func31, Try.ntmps31
            go_wp2_with fail
            refine HN.out.mono ?_; rintro e w' ⟨rfl, nq, rfl⟩
            go_wp2_with fail
            go_ret
            exact ⟨int_ret HE.out, nq, rfl⟩
        · have HE := Lib.hid (HE0.out.2 (fun h => h3 (by omega)))
          clear HE0
          rcases hq with q1 | ⟨q1, q2⟩
          all_goals
            go_enter Try.func31, Try.ntmps31
            go_wp2_with fail
            refine HN.out.mono ?_; rintro e w' ⟨rfl, nq, rfl⟩
            go_wp2_with fail
            go_ret
            exact ⟨int_ret HE.out, nq, rfl⟩
      · have HE := Lib.hid (HE0.out.2 (fun h => h4 h.1))
        clear HE0
        rcases hq with q1 | ⟨q1, q2⟩
        all_goals
          go_enter Try.func31, Try.ntmps31
          go_wp2_with fail
          refine HN.out.mono ?_; rintro e w' ⟨rfl, nq, rfl⟩
          go_wp2_with fail
          go_ret
          exact ⟨int_ret HE.out, nq, rfl⟩
end Go.Proofs.Ytelmaaokaakpbaa

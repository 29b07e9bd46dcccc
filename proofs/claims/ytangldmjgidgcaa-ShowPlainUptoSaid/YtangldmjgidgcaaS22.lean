/- Layer 5: the law ShowPlain returns true. Conditions: the text is no longer than 2^30. -/
import Derived.Test.YtangldmjgidgcaaS20
namespace Go.Proofs.Ytangldmjgidgcaa
open Go.RowKit Go.Shelf
set_option linter.unusedSimpArgs false
set_option linter.unusedVariables false

/-- From place i on the text is good up to the last quote. -/
def GoodAt (q : List UInt8) (i : Nat) : Prop := ∃ u, Good u ∧ q.drop i = u ++ [39]
theorem goodAt_len {q : List UInt8} {i : Nat} (h : GoodAt q i) : i < q.length := by
  obtain ⟨u, _, h2⟩ := h
  have := congrArg List.length h2
  rw [List.length_drop, List.length_append, List.length_singleton] at this
  omega
theorem goodAt_step {q : List UInt8} {i : Nat} (h : GoodAt q i) (hi : i + 1 < q.length) :
    1 ≤ sg (q.drop i) ∧ 32 ≤ nb (q.drop i) 0 ∧ nb (q.drop i) 0 ≠ 127 ∧ nb (q.drop i) 0 ≠ 39 ∧ GoodAt q (i + if nb (q.drop i) 0 = 92 then 2 else sg (q.drop i)) := by
  obtain ⟨u, h1, h2⟩ := h
  have hl := congrArg List.length h2
  rw [List.length_drop, List.length_append, List.length_singleton] at hl
  rw [h2]
  cases h1 with
  | nil => simp at hl; omega
  | esc c r hr =>
    have n0 : nb (92 :: c :: r ++ [39]) 0 = 92 := rfl
    have s1 : sg (92 :: c :: r ++ [39]) = 1 := sg_one.2 ⟨by simp, by rw [n0]; omega⟩
    rw [s1, n0]
    refine ⟨by omega, by omega, by omega, by omega, r, hr, ?_⟩
    rw [if_pos rfl, ← List.drop_drop, h2]; rfl
  | sign x r hx hs h32 h127 h39 h92 hr =>
    have n0 : nb (x ++ r ++ [39]) 0 = nb x 0 := by
      unfold nb
      rw [List.append_assoc, List.getElem?_append_left (by omega)]
    have s1 : sg (x ++ r ++ [39]) = x.length := by rw [List.append_assoc]; exact hs _
    rw [s1, n0]
    refine ⟨by omega, h32, h127, h39, r, hr, ?_⟩
    rw [if_neg h92, ← List.drop_drop, h2, List.append_assoc, List.drop_left]
set_option maxRecDepth 100000 in
set_option maxHeartbeats 1000000 in
theorem showPlain_any (s : ByteArray) (w : World) (hs : s.size ≤ 1073741824) :
    Calls Try.prog 6 #[.string s] w fun e w' => e = .returned (.bool true) ∧ Below w.heap.size w w' := by
  have H1 := Lib.hid (fun w => quote_any s w (by omega))
  have hql := quoteL_len s.data.toList
  have hl : s.data.toList.length = s.size := by simp
  obtain ⟨q, hq⟩ : ∃ q, strOf (39 :: (quoteL s.data.toList ++ [39])) = q := ⟨_, rfl⟩
  have hqd : q.data.toList = 39 :: (quoteL s.data.toList ++ [39]) := by rw [← hq]; rfl
  have hqs : q.size = (quoteL s.data.toList).length + 2 := by rw [← hq, strOf_size]; simp
  have g2 : 2 ≤ q.size := by omega
  have gB : q.size ≤ 4294967298 := by omega
  have G1 := Lib.hid (show GoodAt q.data.toList 1 from ⟨_, good_quote _ _ rfl, by rw [hqd]; rfl⟩)
  have HQL : Hid (q.data.toList.length = q.size) := Lib.hid (by simp)
  rw [hq] at H1
  have g0 : 0 < q.size := by omega
  have ge : q.size - 1 < q.size := by omega
  have X0 := Lib.hid (nb_get q 0 g0)
  have X1 := Lib.hid (nb_get q (q.size - 1) ge)
  have q0 : (((q[0].toNat : Nat) : Int) != 39) = false := by
    have h : q[0].toNat = 39 := by rw [X0.out, hqd]; rfl
    rw [h]; rfl
  have q1 : (((q[q.size - 1].toNat : Nat) : Int) != 39) = false := by
    have h : q[q.size - 1].toNat = 39 := by
      rw [X1.out, hqd, hqs]
      unfold nb
      simp
    rw [h]; rfl
  have q2 : ¬ (q.size : Int) < 2 := by omega
  clear hql hl hqd hqs hq
  go_enter Try.func6, Try.ntmps6
  go_wp2_with fail
  refine (H1.out _).mono ?_
  rintro e w1 ⟨rfl, b1⟩
  have B1 := Lib.hid b1
  clear b1
  go_wp2_with fail
  go_loop [4] (fun k => ∃ i : Nat, k = .int .i64 i ∧ Hid (GoodAt q.data.toList i)) (fun k => q.size - (intOf k).toNat)
  case atStart => exact ⟨1, rfl, G1⟩
  case round =>
    obtain ⟨i, rfl, hg⟩ := hrel
    have hil : i < q.size := by have := goodAt_len hg.out; rw [HQL.out] at this; exact this
    by_cases hp : i + 1 < q.size
    · have hp' : (i : Int) + 1 < q.size := by omega
      have st := goodAt_step hg.out (by rw [HQL.out]; exact hp)
      have HS := Lib.hid (sign_any q i w1 (by omega) (by omega))
      have X : Hid (nb (q.data.toList.drop i) 0 = q[i].toNat) := Lib.hid (by rw [nb_drop, Nat.add_zero]; exact (nb_get q i hil).symm)
      have hn4 := (sg_le (l := q.data.toList.drop i)).1
      rw [X.out] at st
      have hc : q[i].toNat < 256 := by have := q[i].toNat_lt; omega
      generalize sg (q.data.toList.drop i) = n at *
      have d1 : ¬ (n : Int) < 1 := by omega
      have d2 : ¬ (q[i].toNat : Int) < 32 := by omega
      have d2d : decide ((q[i].toNat : Int) < 32) = false := by simp; omega
      have d1d : decide ((n : Int) < 1) = false := by simp; omega
      have d3 : (((q[i].toNat : Nat) : Int) == 127) = false := by simp; omega
      have d4 : (((q[i].toNat : Nat) : Int) == 39) = false := by simp; omega
      have HST := Lib.hid st.2.2.2.2
      have hn1 := st.1
      clear st
      by_cases a92 : q[i].toNat = 92
      · have d5 : (((q[i].toNat : Nat) : Int) == 92) = true := by simp; omega
        have HU : Hid (GoodAt q.data.toList (i + 2)) := Lib.hid (by have := HST.out; rwa [if_pos a92] at this)
        have hu := goodAt_len HU.out
        rw [HQL.out] at hu
        clear a92
        go_wp2_with fail
        refine HS.out.mono ?_
        rintro e w8 ⟨rfl, rfl⟩
        go_wp2_with fail
        go_round
        case rel => exact ⟨i + 2, by go_num, HU⟩
        case measure => simp [intOf]; omega
      · have d5 : (((q[i].toNat : Nat) : Int) == 92) = false := by simp; omega
        have HU : Hid (GoodAt q.data.toList (i + n)) := Lib.hid (by have := HST.out; rwa [if_neg a92] at this)
        have hu := goodAt_len HU.out
        rw [HQL.out] at hu
        clear a92
        go_wp2_with fail
        refine HS.out.mono ?_
        rintro e w8 ⟨rfl, rfl⟩
        go_wp2_with fail
        go_round
        case rel => exact ⟨i + n, by go_num, HU⟩
        case measure => simp [intOf]; omega
    · have hp' : ¬ (i : Int) + 1 < q.size := by omega
      go_wp2_with fail
      refine (works_any _).mono ?_
      rintro e w9 ⟨rfl, b9⟩
      go_wp2_with fail
      go_ret
      exact ⟨rfl, below_step B1.out rfl b9⟩
end Go.Proofs.Ytangldmjgidgcaa

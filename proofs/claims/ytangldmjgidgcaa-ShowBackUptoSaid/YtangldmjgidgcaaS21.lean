/- Layer 5: the laws ShowQuotes and ShowBack return true. Conditions: the text is no longer than 2^30. -/
import Derived.Test.YtangldmjgidgcaaS20
namespace Go.Proofs.Ytangldmjgidgcaa
open Go.RowKit Go.Shelf
set_option linter.unusedSimpArgs false
set_option linter.unusedVariables false

set_option maxRecDepth 100000 in
set_option maxHeartbeats 1000000 in
theorem showQuotes_any (s : ByteArray) (w : World) (hs : s.size ≤ 1099511627776) :
    Calls Try.prog 3 #[.string s] w fun e w' => e = .returned (.bool true) ∧ Below w.heap.size w w' := by
  have H1 := Lib.hid (fun w => unquote_any s w hs)
  have H2 := Lib.hid (fun w => runquote_any s w hs)
  have H3 := Lib.hid (fun w => quote_any s w hs)
  have H4 := Lib.hid (fun w => rquote_any s w hs)
  have H5 := Lib.hid (fun w => name_any s w hs)
  have H6 := Lib.hid (fun w => rname_any s w hs)
  have H7 := Lib.hid (fun w => key_any s w hs)
  have H8 := Lib.hid (fun w => rkey_any s w hs)
  generalize strOf (39 :: (quoteL s.data.toList ++ [39])) = q at *
  generalize strOf (keyL s.data.toList) = k at *
  generalize nameB s.data.toList = n at *
  cases hu : unqS s.data.toList with
  | none =>
    rw [hu] at H1 H2
    clear hu
    unfold unqV at H1 H2
    dsimp only at H1 H2
    cases n
    all_goals
      go_enter Try.func3, Try.ntmps3
      go_wp2_with fail
      refine (H1.out _).mono ?_
      rintro e w1 ⟨rfl, b1⟩
      go_wp2_with fail
      refine (H2.out _).mono ?_
      rintro e w2 ⟨rfl, b2⟩
      go_wp2_with fail
      refine (H3.out _).mono ?_
      rintro e w3 ⟨rfl, b3⟩
      go_wp2_with fail
      refine (H4.out _).mono ?_
      rintro e w4 ⟨rfl, b4⟩
      go_wp2_with fail
      refine (H5.out _).mono ?_
      rintro e w5 ⟨rfl, b5⟩
      go_wp2_with fail
      refine (H6.out _).mono ?_
      rintro e w6 ⟨rfl, rfl⟩
      go_wp2_with fail
      refine (H7.out _).mono ?_
      rintro e w7 ⟨rfl, b7⟩
      go_wp2_with fail
      refine (H8.out _).mono ?_
      rintro e w8 ⟨rfl, b8⟩
      go_wp2_with fail
      refine (works_any _).mono ?_
      rintro e w9 ⟨rfl, b9⟩
      go_wp2_with fail
      go_ret
      exact ⟨rfl, below_step (below_step (below_step (below_step (below_step (below_step (below_step b1 rfl b2) rfl b3) rfl b4) rfl b5) rfl b7) rfl b8) rfl b9⟩
  | some t =>
    rw [hu] at H1 H2
    clear hu
    unfold unqV at H1 H2
    dsimp only at H1 H2
    generalize strOf t = t' at *
    cases n
    all_goals
      go_enter Try.func3, Try.ntmps3
      go_wp2_with fail
      refine (H1.out _).mono ?_
      rintro e w1 ⟨rfl, b1⟩
      go_wp2_with fail
      refine (H2.out _).mono ?_
      rintro e w2 ⟨rfl, b2⟩
      go_wp2_with fail
      refine (H3.out _).mono ?_
      rintro e w3 ⟨rfl, b3⟩
      go_wp2_with fail
      refine (H4.out _).mono ?_
      rintro e w4 ⟨rfl, b4⟩
      go_wp2_with fail
      refine (H5.out _).mono ?_
      rintro e w5 ⟨rfl, b5⟩
      go_wp2_with fail
      refine (H6.out _).mono ?_
      rintro e w6 ⟨rfl, rfl⟩
      go_wp2_with fail
      refine (H7.out _).mono ?_
      rintro e w7 ⟨rfl, b7⟩
      go_wp2_with fail
      refine (H8.out _).mono ?_
      rintro e w8 ⟨rfl, b8⟩
      go_wp2_with fail
      refine (works_any _).mono ?_
      rintro e w9 ⟨rfl, b9⟩
      go_wp2_with fail
      go_ret
      exact ⟨rfl, below_step (below_step (below_step (below_step (below_step (below_step (below_step b1 rfl b2) rfl b3) rfl b4) rfl b5) rfl b7) rfl b8) rfl b9⟩

theorem unquote_quote (s : ByteArray) (w : World) (hs : s.size ≤ 1073741824) :
    Calls Try.prog 8 #[.string (strOf (39 :: (quoteL s.data.toList ++ [39])))] w fun e w' => e = .returned (.tuple #[.string s, .int .i64 0]) ∧ Below w.heap.size w w' := by
  have hq := quoteL_len s.data.toList
  have hl : s.data.toList.length = s.size := by simp
  have h := unquote_any (strOf (39 :: (quoteL s.data.toList ++ [39]))) w (by rw [strOf_size]; simp only [List.length_cons, List.length_append, List.length_nil]; omega)
  rw [show (strOf (39 :: (quoteL s.data.toList ++ [39]))).data.toList = 39 :: (quoteL s.data.toList ++ [39]) from rfl, unqS_quote] at h
  unfold unqV at h
  dsimp only at h
  rw [strOf_toList] at h
  exact h
theorem unqS_len {l t : List UInt8} (h : unqS l = some t) : t.length ≤ l.length := by
  unfold unqS at h
  by_cases h1 : 2 ≤ l.length ∧ nb l 0 = 39 ∧ nb l (l.length - 1) = 39
  · rw [if_pos h1] at h
    have := uq_len _ _ rfl t h
    rw [List.length_take, List.length_drop] at this
    omega
  · rw [if_neg h1] at h; cases h
set_option maxRecDepth 100000 in
set_option maxHeartbeats 1000000 in
theorem showBack_any (s : ByteArray) (w : World) (hs : s.size ≤ 1073741824) :
    Calls Try.prog 5 #[.string s] w fun e w' => e = .returned (.bool true) ∧ Below w.heap.size w w' := by
  have H1 := Lib.hid (fun w => quote_any s w (by omega))
  have H2 := Lib.hid (fun w => unquote_quote s w hs)
  have H3 := Lib.hid (fun w => unquote_any s w (by omega))
  cases hu : unqS s.data.toList with
  | none =>
    rw [hu] at H3
    clear hu
    unfold unqV at H3
    dsimp only at H3
    generalize strOf (39 :: (quoteL s.data.toList ++ [39])) = q at *
    go_enter Try.func5, Try.ntmps5
    go_wp2_with fail
    refine (H1.out _).mono ?_
    rintro e w1 ⟨rfl, b1⟩
    go_wp2_with fail
    refine (H2.out _).mono ?_
    rintro e w2 ⟨rfl, b2⟩
    go_wp2_with fail
    refine (H3.out _).mono ?_
    rintro e w3 ⟨rfl, b3⟩
    go_wp2_with fail
    refine (works_any _).mono ?_
    rintro e w9 ⟨rfl, b9⟩
    go_wp2_with fail
    go_ret
    exact ⟨rfl, below_step (below_step (below_step b1 rfl b2) rfl b3) rfl b9⟩
  | some t =>
    have hl : s.data.toList.length = s.size := by simp
    have ht : (strOf t).size ≤ 1073741824 := by rw [strOf_size]; have := unqS_len hu; omega
    clear hl
    rw [hu] at H3
    clear hu
    unfold unqV at H3
    dsimp only at H3
    generalize strOf t = u at *
    have H4 := Lib.hid (fun w => quote_any u w (by omega))
    have H5 := Lib.hid (fun w => unquote_quote u w ht)
    generalize strOf (39 :: (quoteL s.data.toList ++ [39])) = q at *
    generalize strOf (39 :: (quoteL u.data.toList ++ [39])) = q2 at *
    go_enter Try.func5, Try.ntmps5
    go_wp2_with fail
    refine (H1.out _).mono ?_
    rintro e w1 ⟨rfl, b1⟩
    go_wp2_with fail
    refine (H2.out _).mono ?_
    rintro e w2 ⟨rfl, b2⟩
    go_wp2_with fail
    refine (H3.out _).mono ?_
    rintro e w3 ⟨rfl, b3⟩
    go_wp2_with fail
    refine (H4.out _).mono ?_
    rintro e w4 ⟨rfl, b4⟩
    go_wp2_with fail
    refine (H5.out _).mono ?_
    rintro e w5 ⟨rfl, b5⟩
    go_wp2_with fail
    refine (works_any _).mono ?_
    rintro e w9 ⟨rfl, b9⟩
    go_wp2_with fail
    go_ret
    exact ⟨rfl, below_step (below_step (below_step (below_step (below_step b1 rfl b2) rfl b3) rfl b4) rfl b5) rfl b9⟩
end Go.Proofs.Ytangldmjgidgcaa

/- Layer 5: the contract of the reference's Quote. Written by genS7.py. Conditions: the text is no longer than 2^40. -/
import Derived.Test.YtangldmjgidgcaaS6
import Derived.Laws.Concat
namespace Go.Proofs.Ytangldmjgidgcaa
open Go.RowKit
set_option linter.unusedSimpArgs false
set_option linter.unusedVariables false

theorem strOf_append (p q : List UInt8) : strOf p ++ strOf q = strOf (p ++ q) := by
  apply ByteArray.ext; simp [strOf]
theorem extract_strOf (s : ByteArray) (k n : Nat) (h : k + n ≤ s.size) : s.extract k (k + n) = strOf ((s.data.toList.drop k).take n) := by
  apply ByteArray.ext
  apply Array.ext'
  simp [strOf]
/-- Adding a text to a text of bytes. -/
theorem add_of (p q : List UInt8) (B : ByteArray) (hB : strOf q = B) (u : World) (h : p.length + q.length ≤ 9223372036854775807) {r : List UInt8} (hr : p ++ q = r) : (Op.stringOp .add (strOf p) B).run Try.prog u = .ok (.string (strOf r)) u := by
  subst hr
  subst hB
  rw [← strOf_append]
  exact run_string_add_sum (P := Try.prog) (w := u) (strOf p) (strOf q) (by rw [strOf_size, strOf_size]; exact h)

set_option maxRecDepth 20000 in
set_option maxHeartbeats 2000000 in
theorem rquote_any (s : ByteArray) (W : World) (hs : s.size ≤ 1099511627776) :
    Calls Try.prog 11 #[.string s] W fun e w' => e = .returned (.string (strOf (39 :: (quoteL s.data.toList ++ [39])))) ∧ Below W.heap.size W w' := by
  obtain ⟨l, hl⟩ : ∃ l, s.data.toList = l := ⟨_, rfl⟩
  have hll : l.length = s.size := by rw [← hl]; simp
  go_enter Try.func11, Try.ntmps11
  go_wp2_with fail
  go_loopw [3, 4] (fun o i wr => ∃ (k : Nat) (d : List UInt8), k ≤ s.size ∧ i = .int .i64 k ∧ o = .string (strOf (39 :: d)) ∧ Hid (DoneQ s.data.toList k d) ∧ Below W.heap.size W wr) (fun _ i _ => s.size - (intOf i).toNat)
  case atStart => exact ⟨0, [], Nat.zero_le _, rfl, rfl, Lib.hid (doneQ_zero _), Below.refl _ _⟩
  case round =>
    obtain ⟨k, d, hk, rfl, rfl, hd, hb⟩ := hrel
    have HB := Lib.hid hb
    clear hb
    have hdl := hd.out.2.1
    by_cases hlt : k < s.size
    · have hx := nb_get s k hlt
      have hc : s[k].toNat < 256 := by have := s[k].toNat_lt; omega
      have HS := Lib.hid (sign_any s k wr (by omega) (by omega))
      have NX := Lib.hid (doneQ_step hd.out (by simp; exact hlt))
      have hn4 := sg_le (l := s.data.toList.drop k)
      have HP : Hid (pieceQ (s.data.toList.drop k) = if sg (s.data.toList.drop k) = 0 ∨ s[k].toNat = 127 then [92, 120] ++ hx2 s[k].toNat
          else if s[k].toNat = 39 ∨ s[k].toNat = 92 then [92, UInt8.ofNat s[k].toNat]
          else if s[k].toNat = 10 then [92, 110] else if s[k].toNat = 9 then [92, 116] else if s[k].toNat = 13 then [92, 114]
          else if s[k].toNat < 32 then [92, 120] ++ hx2 s[k].toNat else (s.data.toList.drop k).take (sg (s.data.toList.drop k))) := Lib.hid (by unfold pieceQ; rw [hx, nb_drop, Nat.add_zero])
      have HT : Hid (stepQ (s.data.toList.drop k) = if sg (s.data.toList.drop k) = 0 then 1 else sg (s.data.toList.drop k)) := Lib.hid rfl
      have hq : (k : Int) < s.size := by omega
      have h7 : s[k].toNat < 128 → sg (s.data.toList.drop k) = 1 := fun h => sg_one.2 ⟨by simp; omega, by rw [nb_drop, Nat.add_zero, ← hx]; exact h⟩
      have hone : (s.data.toList.drop k).take 1 = [UInt8.ofNat s[k].toNat] := by rw [List.drop_eq_getElem_cons (by simpa using hlt)]; simp; rfl
      have HX1 := Lib.hid (extract_strOf s k 1 (by omega))
      rw [hone] at HX1
      clear hone
      have HXn := Lib.hid (extract_strOf s k (sg (s.data.toList.drop k)) (by have := hn4.2; simp at this; omega))
      have hnl : ((s.data.toList.drop k).take (sg (s.data.toList.drop k))).length ≤ 4 := by simp; omega
      generalize sg (s.data.toList.drop k) = n at *
      generalize (s.data.toList.drop k).take n = S at *
      generalize pieceQ (s.data.toList.drop k) = P at *
      generalize stepQ (s.data.toList.drop k) = m at *
      obtain ⟨Y, hY⟩ : ∃ Y, d ++ P = Y := ⟨_, rfl⟩
      rw [hY] at NX
      have HY := Lib.hid hY
      have hkn : n ≤ 4 ∧ k + n ≤ s.size := by have := hn4.2; simp at this; omega
      clear hl hll hY hx hn4
      by_cases a1 : n = 0
      · have q1 : ((n : Int) == 0) = true := by simp; omega
        have HPv := Lib.hid (HP.out.trans (if_pos (.inl a1)))
        rw [if_pos a1] at HT
        have hP : 39 :: d ++ [92, 120] ++ hx2 s[k].toNat = 39 :: Y := by rw [← HY.out, HPv.out]; simp
        obtain ⟨X, hX⟩ : ∃ X, 39 :: d ++ [92, 120] = X := ⟨_, rfl⟩
        have hXl : X.length ≤ 4 * k + 10 := by rw [← hX]; simp; omega
        have ha1 := fun u => add_of (39 :: d) [92, 120] ⟨#[92, 120]⟩ rfl u (by simp; omega) hX
        rw [hX] at hP
        have ha2 := fun u => add_of X (hx2 s[k].toNat) _ rfl u (by unfold hx2; simp; omega) hP
        have HH := Lib.hid (hex_any s[k].toNat hc wr)
        clear hX hXl hP
        go_wp2_with fail
        refine HS.out.mono ?_; rintro e w' ⟨rfl, rfl⟩
        go_wp2_with fail
        refine HH.out.mono ?_; rintro e w8 ⟨rfl, hb8⟩
        have HB8 := Lib.hid hb8
        clear hb8
        go_wp2_with fail
        go_roundw
        case rel => exact ⟨k + 1, Y, by omega, by go_num, rfl, Lib.hid (by have := NX.out; rw [HT.out] at this; simpa using this), below_step HB.out rfl HB8.out⟩
        case measure => simp [intOf]; omega
      have q1 : ((n : Int) == 0) = false := by simp; omega
      rw [if_neg a1] at HT
      by_cases a2 : s[k].toNat = 127
      · have q2 : (((s[k].toNat : Nat) : Int) == 127) = true := by simp; omega
        have HPv := Lib.hid (HP.out.trans (if_pos (.inr a2)))
        have n1 := Lib.hid (h7 (by omega))
        clear h7 a2
        have hP : 39 :: d ++ [92, 120] ++ hx2 s[k].toNat = 39 :: Y := by rw [← HY.out, HPv.out]; simp
        obtain ⟨X, hX⟩ : ∃ X, 39 :: d ++ [92, 120] = X := ⟨_, rfl⟩
        have hXl : X.length ≤ 4 * k + 10 := by rw [← hX]; simp; omega
        have ha1 := fun u => add_of (39 :: d) [92, 120] ⟨#[92, 120]⟩ rfl u (by simp; omega) hX
        rw [hX] at hP
        have ha2 := fun u => add_of X (hx2 s[k].toNat) _ rfl u (by unfold hx2; simp; omega) hP
        have HH := Lib.hid (hex_any s[k].toNat hc wr)
        clear hX hXl hP
        go_wp2_with fail
        refine HS.out.mono ?_; rintro e w' ⟨rfl, rfl⟩
        go_wp2_with fail
        refine HH.out.mono ?_; rintro e w8 ⟨rfl, hb8⟩
        have HB8 := Lib.hid hb8
        clear hb8
        go_wp2_with fail
        go_roundw
        case rel => exact ⟨k + 1, Y, by omega, by go_num, rfl, Lib.hid (by have := NX.out; rw [HT.out, n1.out] at this; simpa using this), below_step HB.out rfl HB8.out⟩
        case measure => simp [intOf]; omega
      have q2 : (((s[k].toNat : Nat) : Int) == 127) = false := by simp; omega
      have HP := Lib.hid (HP.out.trans (if_neg (by omega)))
      by_cases a3 : s[k].toNat = 39 ∨ s[k].toNat = 92
      · skip
        by_cases a4 : s[k].toNat = 39
        · have q3 : (((s[k].toNat : Nat) : Int) == 39) = true := by simp; omega
          have HPv := Lib.hid (HP.out.trans (if_pos a3))
          have n1 := Lib.hid (h7 (by omega))
          obtain ⟨X, hX⟩ : ∃ X, 39 :: d ++ [92] = X := ⟨_, rfl⟩
          have hXl : X.length ≤ 4 * k + 10 := by rw [← hX]; simp; omega
          have hP : X ++ [UInt8.ofNat s[k].toNat] = 39 :: Y := by rw [← HY.out, HPv.out, ← hX]; simp
          have ha1 := fun u => add_of (39 :: d) [92] ⟨#[92]⟩ rfl u (by simp; omega) hX
          have ha2 := fun u => add_of X [UInt8.ofNat s[k].toNat] _ HX1.out.symm u (by simp; omega) hP
          clear hX hXl hP h7 a3 a4
          go_wp2_with fail
          refine HS.out.mono ?_; rintro e w' ⟨rfl, rfl⟩
          go_wp2_with fail
          go_roundw
          case rel => exact ⟨k + n, Y, by omega, by go_num, rfl, Lib.hid (by have := NX.out; rw [HT.out] at this; simpa using this), HB.out⟩
          case measure => simp [intOf]; omega
        have q3 : (((s[k].toNat : Nat) : Int) == 39) = false := by simp; omega
        have q4 : (((s[k].toNat : Nat) : Int) == 92) = true := by simp; omega
        have HPv := Lib.hid (HP.out.trans (if_pos a3))
        have n1 := Lib.hid (h7 (by omega))
        obtain ⟨X, hX⟩ : ∃ X, 39 :: d ++ [92] = X := ⟨_, rfl⟩
        have hXl : X.length ≤ 4 * k + 10 := by rw [← hX]; simp; omega
        have hP : X ++ [UInt8.ofNat s[k].toNat] = 39 :: Y := by rw [← HY.out, HPv.out, ← hX]; simp
        have ha1 := fun u => add_of (39 :: d) [92] ⟨#[92]⟩ rfl u (by simp; omega) hX
        have ha2 := fun u => add_of X [UInt8.ofNat s[k].toNat] _ HX1.out.symm u (by simp; omega) hP
        clear hX hXl hP h7 a3
        go_wp2_with fail
        refine HS.out.mono ?_; rintro e w' ⟨rfl, rfl⟩
        go_wp2_with fail
        go_roundw
        case rel => exact ⟨k + n, Y, by omega, by go_num, rfl, Lib.hid (by have := NX.out; rw [HT.out] at this; simpa using this), HB.out⟩
        case measure => simp [intOf]; omega
      have q3 : (((s[k].toNat : Nat) : Int) == 39) = false := by simp; omega
      have q4 : (((s[k].toNat : Nat) : Int) == 92) = false := by simp; omega
      have HP := Lib.hid (HP.out.trans (if_neg a3))
      by_cases b10 : s[k].toNat = 10
      · have q5 : (((s[k].toNat : Nat) : Int) == 10) = true := by simp; omega
        have HPv := Lib.hid (HP.out.trans (if_pos b10))
        have ha1 := fun u => add_of (39 :: d) [92, 110] ⟨#[92, 110]⟩ rfl u (by simp; omega) (r := 39 :: Y) (by rw [← HY.out, HPv.out]; simp)
        go_wp2_with fail
        refine HS.out.mono ?_; rintro e w' ⟨rfl, rfl⟩
        go_wp2_with fail
        go_roundw
        case rel => exact ⟨k + n, Y, by omega, by go_num, rfl, Lib.hid (by have := NX.out; rw [HT.out] at this; simpa using this), HB.out⟩
        case measure => simp [intOf]; omega
      have r10 : (((s[k].toNat : Nat) : Int) == 10) = false := by simp; omega
      have HP := Lib.hid (HP.out.trans (if_neg b10))
      by_cases b9 : s[k].toNat = 9
      · have q5 : (((s[k].toNat : Nat) : Int) == 9) = true := by simp; omega
        have HPv := Lib.hid (HP.out.trans (if_pos b9))
        have ha1 := fun u => add_of (39 :: d) [92, 116] ⟨#[92, 116]⟩ rfl u (by simp; omega) (r := 39 :: Y) (by rw [← HY.out, HPv.out]; simp)
        go_wp2_with fail
        refine HS.out.mono ?_; rintro e w' ⟨rfl, rfl⟩
        go_wp2_with fail
        go_roundw
        case rel => exact ⟨k + n, Y, by omega, by go_num, rfl, Lib.hid (by have := NX.out; rw [HT.out] at this; simpa using this), HB.out⟩
        case measure => simp [intOf]; omega
      have r9 : (((s[k].toNat : Nat) : Int) == 9) = false := by simp; omega
      have HP := Lib.hid (HP.out.trans (if_neg b9))
      by_cases b13 : s[k].toNat = 13
      · have q5 : (((s[k].toNat : Nat) : Int) == 13) = true := by simp; omega
        have HPv := Lib.hid (HP.out.trans (if_pos b13))
        have ha1 := fun u => add_of (39 :: d) [92, 114] ⟨#[92, 114]⟩ rfl u (by simp; omega) (r := 39 :: Y) (by rw [← HY.out, HPv.out]; simp)
        go_wp2_with fail
        refine HS.out.mono ?_; rintro e w' ⟨rfl, rfl⟩
        go_wp2_with fail
        go_roundw
        case rel => exact ⟨k + n, Y, by omega, by go_num, rfl, Lib.hid (by have := NX.out; rw [HT.out] at this; simpa using this), HB.out⟩
        case measure => simp [intOf]; omega
      have r13 : (((s[k].toNat : Nat) : Int) == 13) = false := by simp; omega
      have HP := Lib.hid (HP.out.trans (if_neg b13))
      by_cases a5 : s[k].toNat < 32
      · have q6 : (s[k].toNat : Int) < 32 := by omega
        have HPv := Lib.hid (HP.out.trans (if_pos a5))
        clear h7
        have hP : 39 :: d ++ [92, 120] ++ hx2 s[k].toNat = 39 :: Y := by rw [← HY.out, HPv.out]; simp
        obtain ⟨X, hX⟩ : ∃ X, 39 :: d ++ [92, 120] = X := ⟨_, rfl⟩
        have hXl : X.length ≤ 4 * k + 10 := by rw [← hX]; simp; omega
        have ha1 := fun u => add_of (39 :: d) [92, 120] ⟨#[92, 120]⟩ rfl u (by simp; omega) hX
        rw [hX] at hP
        have ha2 := fun u => add_of X (hx2 s[k].toNat) _ rfl u (by unfold hx2; simp; omega) hP
        have HH := Lib.hid (hex_any s[k].toNat hc wr)
        clear hX hXl hP
        go_wp2_with fail
        refine HS.out.mono ?_; rintro e w' ⟨rfl, rfl⟩
        go_wp2_with fail
        refine HH.out.mono ?_; rintro e w8 ⟨rfl, hb8⟩
        have HB8 := Lib.hid hb8
        clear hb8
        go_wp2_with fail
        go_roundw
        case rel => exact ⟨k + n, Y, by omega, by go_num, rfl, Lib.hid (by have := NX.out; rw [HT.out] at this; simpa using this), below_step HB.out rfl HB8.out⟩
        case measure => simp [intOf]; omega
      · have q6 : ¬ (s[k].toNat : Int) < 32 := by omega
        have HPv := Lib.hid (HP.out.trans (if_neg a5))
        have ha1 := fun u => add_of (39 :: d) S _ HXn.out.symm u (by simp; omega) (r := 39 :: Y) (by rw [← HY.out, HPv.out]; simp)
        clear h7 hnl
        go_wp2_with fail
        refine HS.out.mono ?_; rintro e w' ⟨rfl, rfl⟩
        go_wp2_with fail
        go_roundw
        case rel => exact ⟨k + n, Y, by omega, by go_num, rfl, Lib.hid (by have := NX.out; rw [HT.out] at this; simpa using this), HB.out⟩
        case measure => simp [intOf]; omega
    · have HE := Lib.hid (doneQ_end hd.out (by simp; omega))
      have hadd := fun u => add_of (39 :: d) [39] ⟨#[39]⟩ rfl u (by simp; omega) (r := 39 :: (d ++ [39])) rfl
      have hq : ¬ (k : Int) < s.size := by omega
      clear hl hll
      go_wp2_with fail
      go_ret
      exact ⟨by rw [← HE.out]; rfl, HB.out⟩
end Go.Proofs.Ytangldmjgidgcaa

/- Layer 5: the contracts of the reference's tail, Sign, Letter, Digit. Conditions: none. -/
import Derived.Test.YtangldmjgidgcaaProg
import Derived.Test.YtangldmjgidgcaaS2
import Derived.Outline
namespace Go.Proofs.Ytangldmjgidgcaa
open Go.RowKit
set_option linter.unusedSimpArgs false
set_option linter.unusedVariables false

theorem nb_drop (l : List UInt8) (p k : Nat) : nb (l.drop p) k = nb l (p + k) := by unfold nb; rw [List.getElem?_drop]
theorem tl_drop (l : List UInt8) (p k : Nat) : tl (l.drop p) k = tl l (p + k) := by
  unfold tl
  rw [nb_drop, List.length_drop]
  congr 2
  exact decide_eq_decide.2 (by omega)
theorem nb_get (s : ByteArray) (i : Nat) (h : i < s.size) : s[i].toNat = nb s.data.toList i := by
  unfold nb
  rw [List.getElem?_eq_getElem (by simpa using h)]
  rfl

theorem tail_any (s : ByteArray) (i : Nat) (w : World) (hs : s.size ≤ 9223372036854775000) (hi : i ≤ 9223372036854775000) :
    Calls Try.prog 37 #[.string s, .int .i64 i] w fun e w' => e = .returned (.bool (tl s.data.toList i)) ∧ w = w' := by
  have hl : s.data.toList.length = s.size := by simp
  by_cases h1 : i < s.size
  · have hx := nb_get s i h1
    have HT : Hid (tl s.data.toList i = (decide (128 ≤ nb s.data.toList i) && decide (nb s.data.toList i < 192))) := Lib.hid (by unfold tl; rw [hl]; simp [h1])
    rw [HT.out]
    clear HT hl
    generalize nb s.data.toList i = b at *
    by_cases h2 : 128 ≤ b
    · by_cases h3 : b < 192
      · have HE : Hid ((decide (128 ≤ b) && decide (b < 192)) = true) := Lib.hid (by simp [h2, h3])
        have h2' : (128 : Int) ≤ b := by omega
        have h3' : (b : Int) < 192 := by omega
        rw [HE.out]
        go_enter Try.func37, Try.ntmps37
        go_wp2_with fail
        go_ret
        exact ⟨rfl, rfl⟩
      · have HE : Hid ((decide (128 ≤ b) && decide (b < 192)) = false) := Lib.hid (by simp [h3])
        have h2' : (128 : Int) ≤ b := by omega
        have h3' : ¬ (b : Int) < 192 := by omega
        rw [HE.out]
        go_enter Try.func37, Try.ntmps37
        go_wp2_with fail
        go_ret
        exact ⟨rfl, rfl⟩
    · have HE : Hid ((decide (128 ≤ b) && decide (b < 192)) = false) := Lib.hid (by simp [h2])
      have h2' : ¬ (128 : Int) ≤ b := by omega
      rw [HE.out]
      go_enter Try.func37, Try.ntmps37
      go_wp2_with fail
      go_ret
      exact ⟨rfl, rfl⟩
  · have HE : Hid (tl s.data.toList i = false) := Lib.hid (by rw [tl_false, hl]; omega)
    rw [HE.out]
    clear hl
    go_enter Try.func37, Try.ntmps37
    go_wp2_with fail
    go_ret
    exact ⟨rfl, rfl⟩

set_option maxHeartbeats 2000000 in
set_option maxRecDepth 20000 in
theorem sign_any (s : ByteArray) (i : Nat) (w : World) (hs : s.size ≤ 9223372036854770000) (hi : i ≤ 9223372036854770000) :
    Calls Try.prog 20 #[.string s, .int .i64 i] w fun e w' => e = .returned (.int .i64 (sg (s.data.toList.drop i))) ∧ w = w' := by
  have hl : (s.data.toList.drop i).length = s.size - i := by simp
  by_cases h1 : i < s.size
  · have hx := nb_get s i h1
    have T1 := Lib.hid (tail_any s (i + 1) w (by omega) (by omega))
    have T2 := Lib.hid (tail_any s (i + 2) w (by omega) (by omega))
    have T3 := Lib.hid (tail_any s (i + 3) w (by omega) (by omega))
    have HS : Hid (sg (s.data.toList.drop i) = if nb s.data.toList i < 128 then 1 else if nb s.data.toList i < 194 ∨ 244 < nb s.data.toList i ∨ tl s.data.toList (i + 1) = false then 0 else if nb s.data.toList i < 224 then 2
        else if tl s.data.toList (i + 2) = false ∨ (nb s.data.toList i = 224 ∧ nb s.data.toList (i + 1) < 160) ∨ (nb s.data.toList i = 237 ∧ 160 ≤ nb s.data.toList (i + 1)) then 0 else if nb s.data.toList i < 240 then 3
        else if tl s.data.toList (i + 3) = false ∨ (nb s.data.toList i = 240 ∧ nb s.data.toList (i + 1) < 144) ∨ (nb s.data.toList i = 244 ∧ 144 ≤ nb s.data.toList (i + 1)) then 0 else 4) := Lib.hid (by
      unfold sg
      rw [if_neg (by omega)]
      simp only [nb_drop, tl_drop, Nat.add_zero])
    rw [HS.out]
    clear HS hl
    have hd : tl s.data.toList (i + 1) = true → ∃ h : i + 1 < s.size, s[i + 1].toNat = nb s.data.toList (i + 1) := fun h => by
      have := (tl_true.1 h).1
      simp at this
      exact ⟨this, nb_get s (i + 1) this⟩
    have HD := Lib.hid hd
    clear hd
    generalize nb s.data.toList i = b at *
    subst hx
    generalize hdd : nb s.data.toList (i + 1) = d at *
    generalize tl s.data.toList (i + 1) = t1 at *
    generalize tl s.data.toList (i + 2) = t2 at *
    generalize tl s.data.toList (i + 3) = t3 at *
    clear hdd
    by_cases g0 : s[i].toNat < 128
    · have g0' : (s[i].toNat : Int) < 128 := by omega
      rw [if_pos g0]
      clear HD T1 T2 T3
      go_enter Try.func20, Try.ntmps20
      go_wp2_with fail
      go_ret
      exact ⟨rfl, rfl⟩
    rw [if_neg g0]
    have g0' : ¬ (s[i].toNat : Int) < 128 := by omega
    by_cases g1 : s[i].toNat < 194
    · have g1' : (s[i].toNat : Int) < 194 := by omega
      rw [if_pos (.inl g1)]
      clear HD
      go_enter Try.func20, Try.ntmps20
      go_wp2_with fail
      go_ret
      exact ⟨rfl, rfl⟩
    have g1' : ¬ (s[i].toNat : Int) < 194 := by omega
    by_cases g2 : 244 < s[i].toNat
    · have g2' : (244 : Int) < s[i].toNat := by omega
      rw [if_pos (.inr (.inl g2))]
      go_enter Try.func20, Try.ntmps20
      go_wp2_with fail
      go_ret
      exact ⟨rfl, rfl⟩
    have g2' : ¬ (244 : Int) < s[i].toNat := by omega
    cases t1 with
    | false =>
      rw [if_pos (.inr (.inr rfl))]
      go_enter Try.func20, Try.ntmps20
      go_wp2_with fail
      refine T1.out.mono ?_; rintro e w' ⟨rfl, rfl⟩
      go_wp2_with fail
      go_ret
      exact ⟨rfl, rfl⟩
    | true =>
      obtain ⟨hd1, hd2⟩ := HD.out rfl
      clear HD
      subst hd2
      rw [if_neg (by simp; omega)]
      by_cases g3 : s[i].toNat < 224
      · have g3' : (s[i].toNat : Int) < 224 := by omega
        rw [if_pos g3]
        go_enter Try.func20, Try.ntmps20
        go_wp2_with fail
        refine T1.out.mono ?_; rintro e w' ⟨rfl, rfl⟩
        go_wp2_with fail
        go_ret
        exact ⟨rfl, rfl⟩
      rw [if_neg g3]
      have g3' : ¬ (s[i].toNat : Int) < 224 := by omega
      have B1 : (s[i].toNat : Int) ≤ 244 := by omega
      clear B1
      cases t2 with
      | false =>
        rw [if_pos (.inl rfl)]
        go_enter Try.func20, Try.ntmps20
        go_wp2_with fail
        refine T1.out.mono ?_; rintro e w' ⟨rfl, rfl⟩
        go_wp2_with fail
        refine T2.out.mono ?_; rintro e w' ⟨rfl, rfl⟩
        go_wp2_with fail
        go_ret
        exact ⟨rfl, rfl⟩
      | true =>
        by_cases e1 : s[i].toNat = 224
        · by_cases d1 : s[i + 1].toNat < 160
          · have d1' : (s[i + 1].toNat : Int) < 160 := by omega
            have q224 : (((s[i].toNat : Nat) : Int) == 224) = true := by simp; omega
            rw [if_pos (.inr (.inl ⟨e1, d1⟩))]
            go_enter Try.func20, Try.ntmps20
            go_wp2_with fail
            refine T1.out.mono ?_; rintro e w' ⟨rfl, rfl⟩
            go_wp2_with fail
            refine T2.out.mono ?_; rintro e w' ⟨rfl, rfl⟩
            go_wp2_with fail
            go_ret
            exact ⟨rfl, rfl⟩
          · have d1' : ¬ (s[i + 1].toNat : Int) < 160 := by omega
            have g4 : (s[i].toNat : Int) < 240 := by omega
            have q224 : (((s[i].toNat : Nat) : Int) == 224) = true := by simp; omega
            have q237 : (((s[i].toNat : Nat) : Int) == 237) = false := by simp; omega
            rw [if_neg (by simp; omega), if_pos (by omega)]
            go_enter Try.func20, Try.ntmps20
            go_wp2_with fail
            refine T1.out.mono ?_; rintro e w' ⟨rfl, rfl⟩
            go_wp2_with fail
            refine T2.out.mono ?_; rintro e w' ⟨rfl, rfl⟩
            go_wp2_with fail
            go_ret
            exact ⟨rfl, rfl⟩
        have q224 : (((s[i].toNat : Nat) : Int) == 224) = false := by simp; omega
        by_cases e2 : s[i].toNat = 237
        · by_cases d1 : 160 ≤ s[i + 1].toNat
          · have d1' : (160 : Int) ≤ s[i + 1].toNat := by omega
            have q237 : (((s[i].toNat : Nat) : Int) == 237) = true := by simp; omega
            rw [if_pos (.inr (.inr ⟨e2, d1⟩))]
            go_enter Try.func20, Try.ntmps20
            go_wp2_with fail
            refine T1.out.mono ?_; rintro e w' ⟨rfl, rfl⟩
            go_wp2_with fail
            refine T2.out.mono ?_; rintro e w' ⟨rfl, rfl⟩
            go_wp2_with fail
            go_ret
            exact ⟨rfl, rfl⟩
          · have d1' : ¬ (160 : Int) ≤ s[i + 1].toNat := by omega
            have g4 : (s[i].toNat : Int) < 240 := by omega
            have q237 : (((s[i].toNat : Nat) : Int) == 237) = true := by simp; omega
            rw [if_neg (by simp; omega), if_pos (by omega)]
            go_enter Try.func20, Try.ntmps20
            go_wp2_with fail
            refine T1.out.mono ?_; rintro e w' ⟨rfl, rfl⟩
            go_wp2_with fail
            refine T2.out.mono ?_; rintro e w' ⟨rfl, rfl⟩
            go_wp2_with fail
            go_ret
            exact ⟨rfl, rfl⟩
        have q237 : (((s[i].toNat : Nat) : Int) == 237) = false := by simp; omega
        rw [if_neg (by simp; omega)]
        by_cases g4 : s[i].toNat < 240
        · have g4' : (s[i].toNat : Int) < 240 := by omega
          rw [if_pos g4]
          go_enter Try.func20, Try.ntmps20
          go_wp2_with fail
          refine T1.out.mono ?_; rintro e w' ⟨rfl, rfl⟩
          go_wp2_with fail
          refine T2.out.mono ?_; rintro e w' ⟨rfl, rfl⟩
          go_wp2_with fail
          go_ret
          exact ⟨rfl, rfl⟩
        have g4' : ¬ (s[i].toNat : Int) < 240 := by omega
        rw [if_neg g4]
        cases t3 with
        | false =>
          rw [if_pos (.inl rfl)]
          go_enter Try.func20, Try.ntmps20
          go_wp2_with fail
          refine T1.out.mono ?_; rintro e w' ⟨rfl, rfl⟩
          go_wp2_with fail
          refine T2.out.mono ?_; rintro e w' ⟨rfl, rfl⟩
          go_wp2_with fail
          refine T3.out.mono ?_; rintro e w' ⟨rfl, rfl⟩
          go_wp2_with fail
          go_ret
          exact ⟨rfl, rfl⟩
        | true =>
          by_cases e3 : s[i].toNat = 240
          · by_cases d1 : s[i + 1].toNat < 144
            · have d1' : (s[i + 1].toNat : Int) < 144 := by omega
              have q240 : (((s[i].toNat : Nat) : Int) == 240) = true := by simp; omega
              rw [if_pos (.inr (.inl ⟨e3, d1⟩))]
              go_enter Try.func20, Try.ntmps20
              go_wp2_with fail
              refine T1.out.mono ?_; rintro e w' ⟨rfl, rfl⟩
              go_wp2_with fail
              refine T2.out.mono ?_; rintro e w' ⟨rfl, rfl⟩
              go_wp2_with fail
              refine T3.out.mono ?_; rintro e w' ⟨rfl, rfl⟩
              go_wp2_with fail
              go_ret
              exact ⟨rfl, rfl⟩
            · have d1' : ¬ (s[i + 1].toNat : Int) < 144 := by omega
              have q240 : (((s[i].toNat : Nat) : Int) == 240) = true := by simp; omega
              have q244 : (((s[i].toNat : Nat) : Int) == 244) = false := by simp; omega
              rw [if_neg (by simp; omega)]
              go_enter Try.func20, Try.ntmps20
              go_wp2_with fail
              refine T1.out.mono ?_; rintro e w' ⟨rfl, rfl⟩
              go_wp2_with fail
              refine T2.out.mono ?_; rintro e w' ⟨rfl, rfl⟩
              go_wp2_with fail
              refine T3.out.mono ?_; rintro e w' ⟨rfl, rfl⟩
              go_wp2_with fail
              go_ret
              exact ⟨rfl, rfl⟩
          have q240 : (((s[i].toNat : Nat) : Int) == 240) = false := by simp; omega
          by_cases e4 : s[i].toNat = 244
          · by_cases d1 : 144 ≤ s[i + 1].toNat
            · have d1' : (144 : Int) ≤ s[i + 1].toNat := by omega
              have q244 : (((s[i].toNat : Nat) : Int) == 244) = true := by simp; omega
              rw [if_pos (.inr (.inr ⟨e4, d1⟩))]
              go_enter Try.func20, Try.ntmps20
              go_wp2_with fail
              refine T1.out.mono ?_; rintro e w' ⟨rfl, rfl⟩
              go_wp2_with fail
              refine T2.out.mono ?_; rintro e w' ⟨rfl, rfl⟩
              go_wp2_with fail
              refine T3.out.mono ?_; rintro e w' ⟨rfl, rfl⟩
              go_wp2_with fail
              go_ret
              exact ⟨rfl, rfl⟩
            · have d1' : ¬ (144 : Int) ≤ s[i + 1].toNat := by omega
              have q244 : (((s[i].toNat : Nat) : Int) == 244) = true := by simp; omega
              rw [if_neg (by simp; omega)]
              go_enter Try.func20, Try.ntmps20
              go_wp2_with fail
              refine T1.out.mono ?_; rintro e w' ⟨rfl, rfl⟩
              go_wp2_with fail
              refine T2.out.mono ?_; rintro e w' ⟨rfl, rfl⟩
              go_wp2_with fail
              refine T3.out.mono ?_; rintro e w' ⟨rfl, rfl⟩
              go_wp2_with fail
              go_ret
              exact ⟨rfl, rfl⟩
          have q244 : (((s[i].toNat : Nat) : Int) == 244) = false := by simp; omega
          rw [if_neg (by simp; omega)]
          go_enter Try.func20, Try.ntmps20
          go_wp2_with fail
          refine T1.out.mono ?_; rintro e w' ⟨rfl, rfl⟩
          go_wp2_with fail
          refine T2.out.mono ?_; rintro e w' ⟨rfl, rfl⟩
          go_wp2_with fail
          refine T3.out.mono ?_; rintro e w' ⟨rfl, rfl⟩
          go_wp2_with fail
          go_ret
          exact ⟨rfl, rfl⟩
  · have HE : Hid (sg (s.data.toList.drop i) = 0) := Lib.hid (by unfold sg; rw [if_pos (by omega)])
    have h1' : (s.size : Int) ≤ i := by omega
    rw [HE.out]
    clear hl
    go_enter Try.func20, Try.ntmps20
    go_wp2_with fail
    go_ret
    exact ⟨rfl, rfl⟩
end Go.Proofs.Ytangldmjgidgcaa

/- Layer 3: the contracts of place, number, first, cmp.Compare (value's Order). Conditions: a kind from 0 to 7. -/
import Derived.Test.YtdkgjbjlpofieaaPSame
import Derived.BigQuiet
namespace Go.Proofs.Ytdkgjbjlpofieaa
open Go.RowKit
set_option linter.unusedSimpArgs false
set_option linter.unusedVariables false

def cmpI (a b : Int) : Int := if a < b then -1 else if b < a then 1 else 0
def cmpS (a b : ByteArray) : Int := if Op.bytesLess a.toList b.toList then -1 else if Op.bytesLess b.toList a.toList then 1 else 0
def firstI : List Int → Int
  | [] => 0
  | x :: xs => if x = 0 then firstI xs else x
def placeI (k : Int) : Int := [7, 5, 6, 4, 3, 0, 1, 2].getD k.toNat 0
theorem place_any (k : Int) (w : World) (h0 : 0 ≤ k) (h7 : k ≤ 7) : Calls Try.prog 36 #[.int .i64 k] w fun e w' => e = .returned (.int .i64 (placeI k)) ∧ w = w' := by
  have hk : k = 0 ∨ k = 1 ∨ k = 2 ∨ k = 3 ∨ k = 4 ∨ k = 5 ∨ k = 6 ∨ k = 7 := by omega
  clear h0 h7
  have ix : ∀ w : World, (Instr.index 78 (.agg #[.int .i64 7, .int .i64 5, .int .i64 6, .int .i64 4, .int .i64 3, .int .i64 0, .int .i64 1, .int .i64 2]) (.int .i64 k)).run Try.prog w = .ok (.int .i64 (placeI k)) w := by
    rcases hk with rfl | rfl | rfl | rfl | rfl | rfl | rfl | rfl
    all_goals exact fun _ => by kernel_rfl
  generalize placeI k = r at ix ⊢
  go_enter Try.func36, Try.ntmps36
  go_wp2_with fail
  go_ret
  exact ⟨by rfl, by simp⟩
theorem number_any (b : Bool) (w : World) : Calls Try.prog 39 #[.bool b] w fun e w' => e = .returned (.int .i64 (if b then 1 else 0)) ∧ w = w' := by
  cases b
  all_goals
    go_enter Try.func39, Try.ntmps39
    go_wp2_with fail
    go_ret
    exact ⟨by rfl, rfl⟩
theorem nanI_any (a : Int) (w : World) : Calls Try.prog 56 #[.int .i64 a] w fun e w' => e = .returned (.bool false) ∧ w = w' := by
  go_enter Try.func56, Try.ntmps56
  go_wp2_with fail
  go_ret
  exact ⟨by simp, rfl⟩
theorem nanL_any (a : Int) (w : World) : Calls Try.prog 58 #[.int .i64 a] w fun e w' => e = .returned (.bool false) ∧ w = w' := by
  go_enter Try.func58, Try.ntmps58
  go_wp2_with fail
  go_ret
  exact ⟨by simp, rfl⟩
theorem nanS_any (a : ByteArray) (w : World) : Calls Try.prog 57 #[.string a] w fun e w' => e = .returned (.bool false) ∧ w = w' := by
  go_enter Try.func57, Try.ntmps57
  go_wp2_with fail
  go_ret
  exact ⟨by simp, rfl⟩
theorem cmpI_any (a b : Int) (w : World) : Calls Try.prog 35 #[.int .i64 a, .int .i64 b] w fun e w' => e = .returned (.int .i64 (cmpI a b)) ∧ w = w' := by
  have H1 := Lib.hid (nanI_any a w)
  have H2 := Lib.hid (nanI_any b w)
  have HC : Hid (cmpI a b = if a < b then -1 else if b < a then 1 else 0) := Lib.hid rfl
  rw [HC.out]
  by_cases h1 : a < b
  · rw [if_pos h1]
    go_enter Try.func35, Try.ntmps35
    go_wp2_with fail
    refine H1.out.mono ?_
    rintro e w1 ⟨rfl, rfl⟩
    go_wp2_with fail
    refine H2.out.mono ?_
    rintro e w1 ⟨rfl, rfl⟩
    go_wp2_with fail
    go_ret
    exact ⟨by rfl, rfl⟩
  · rw [if_neg h1]
    by_cases h2 : b < a
    · rw [if_pos h2]
      go_enter Try.func35, Try.ntmps35
      go_wp2_with fail
      refine H1.out.mono ?_
      rintro e w1 ⟨rfl, rfl⟩
      go_wp2_with fail
      refine H2.out.mono ?_
      rintro e w1 ⟨rfl, rfl⟩
      go_wp2_with fail
      go_ret
      exact ⟨by rfl, rfl⟩
    · rw [if_neg h2]
      go_enter Try.func35, Try.ntmps35
      go_wp2_with fail
      refine H1.out.mono ?_
      rintro e w1 ⟨rfl, rfl⟩
      go_wp2_with fail
      refine H2.out.mono ?_
      rintro e w1 ⟨rfl, rfl⟩
      go_wp2_with fail
      go_ret
      exact ⟨by rfl, rfl⟩
theorem cmpL_any (a b : Int) (w : World) : Calls Try.prog 40 #[.int .i64 a, .int .i64 b] w fun e w' => e = .returned (.int .i64 (cmpI a b)) ∧ w = w' := by
  have H1 := Lib.hid (nanL_any a w)
  have H2 := Lib.hid (nanL_any b w)
  have HC : Hid (cmpI a b = if a < b then -1 else if b < a then 1 else 0) := Lib.hid rfl
  rw [HC.out]
  by_cases h1 : a < b
  · rw [if_pos h1]
    go_enter Try.func40, Try.ntmps40
    go_wp2_with fail
    refine H1.out.mono ?_
    rintro e w1 ⟨rfl, rfl⟩
    go_wp2_with fail
    refine H2.out.mono ?_
    rintro e w1 ⟨rfl, rfl⟩
    go_wp2_with fail
    go_ret
    exact ⟨by rfl, rfl⟩
  · rw [if_neg h1]
    by_cases h2 : b < a
    · rw [if_pos h2]
      go_enter Try.func40, Try.ntmps40
      go_wp2_with fail
      refine H1.out.mono ?_
      rintro e w1 ⟨rfl, rfl⟩
      go_wp2_with fail
      refine H2.out.mono ?_
      rintro e w1 ⟨rfl, rfl⟩
      go_wp2_with fail
      go_ret
      exact ⟨by rfl, rfl⟩
    · rw [if_neg h2]
      go_enter Try.func40, Try.ntmps40
      go_wp2_with fail
      refine H1.out.mono ?_
      rintro e w1 ⟨rfl, rfl⟩
      go_wp2_with fail
      refine H2.out.mono ?_
      rintro e w1 ⟨rfl, rfl⟩
      go_wp2_with fail
      go_ret
      exact ⟨by rfl, rfl⟩
theorem cmpS_any (a b : ByteArray) (w : World) : Calls Try.prog 37 #[.string a, .string b] w fun e w' => e = .returned (.int .i64 (cmpS a b)) ∧ w = w' := by
  have H1 := Lib.hid (nanS_any a w)
  have H2 := Lib.hid (nanS_any b w)
  have HC : Hid (cmpS a b = if Op.bytesLess a.toList b.toList then -1 else if Op.bytesLess b.toList a.toList then 1 else 0) := Lib.hid rfl
  rw [HC.out]
  have hbe := ba_beq a b
  rcases bl_tri a.toList b.toList with ⟨h1, h2, h3⟩ | ⟨h3, h1, h2⟩ | ⟨h2, h1, h3⟩
  all_goals
    first
      | have h4 : (a.toList == b.toList) = false := by simp; exact h3
      | have h4 : (a.toList == b.toList) = true := by simp; exact h3
    clear hbe h3
    rw [h1, h2]
    go_enter Try.func37, Try.ntmps37
    go_wp2_with fail
    refine H1.out.mono ?_
    rintro e w1 ⟨rfl, rfl⟩
    go_wp2_with fail
    refine H2.out.mono ?_
    rintro e w1 ⟨rfl, rfl⟩
    go_wp2_with fail
    go_ret
    exact ⟨by rfl, rfl⟩
theorem firstI_drop {l : List Int} {j : Nat} {x : Int} (h : l[j]? = some x) : firstI (l.drop j) = if x = 0 then firstI (l.drop (j + 1)) else x := by
  obtain ⟨h1, h2⟩ := List.getElem?_eq_some_iff.1 h
  rw [List.drop_eq_getElem_cons h1, h2]; rfl
/-- first reads a row of numbers. -/
theorem first_any (l : List Int) (b : Nat) (c : Nat) (w : World) (hr : ∀ (j : Nat) (x : Int), l[j]? = some x → w.cell? ⟨b, j, none⟩ = some (.int .i64 x)) (hl : l.length ≤ 9223372036854775807) :
    Calls Try.prog 38 #[.slice (some ⟨b, 0, none⟩) l.length c] w fun e w' => e = .returned (.int .i64 (firstI l)) ∧ w = w' := by
  have HR := Lib.hid hr
  clear hr
  go_enter Try.func38, Try.ntmps38
  go_wp2_with fail
  go_loopw [8] (fun iv wr => ∃ j : Nat, iv = .int .i64 j ∧ j ≤ l.length ∧ Hid (w = wr) ∧ Hid (firstI l = firstI (l.drop j))) (fun iv _ => l.length - (intOf iv).toNat)
  case atStart => exact ⟨0, rfl, Nat.zero_le _, Lib.hid rfl, Lib.hid rfl⟩
  case round =>
    obtain ⟨j, rfl, hj, HW, HN⟩ := hrel
    have hw := HW.out
    subst hw
    by_cases hlt : j < l.length
    · have hlt' : (j : Int) < l.length := by omega
      have p0 : (0 : Int) ≤ (j : Int) := by omega
      obtain ⟨x, hx⟩ := get_some hlt
      have g := HR.out j x hx
      have HD := Lib.hid (firstI_drop hx)
      clear hx
      by_cases h0 : x = 0
      · have hb0 : (x != 0) = false := by simp; exact h0
        have HD' : Hid (firstI l = firstI (l.drop (j + 1))) := Lib.hid (by rw [HN.out, HD.out, if_pos h0])
        clear h0
        go_wp2_with fail
        go_roundw
        case rel => exact ⟨j + 1, by go_num, by omega, Lib.hid (by simp), HD'⟩
        case measure => simp [intOf]; omega
      · have hb0 : (x != 0) = true := by simp; exact h0
        have HD' : Hid (firstI l = x) := Lib.hid (by rw [HN.out, HD.out, if_neg h0])
        clear h0
        go_wp2_with fail
        go_ret
        exact ⟨by rw [HD'.out]; rfl, by simp⟩
    · have hlt' : ¬ (j : Int) < l.length := by omega
      have HF : Hid (firstI l = 0) := Lib.hid (by rw [HN.out, List.drop_of_length_le (by omega)]; rfl)
      go_wp2_with fail
      go_ret
      exact ⟨by rw [HF.out]; rfl, by simp⟩
end Go.Proofs.Ytdkgjbjlpofieaa

/- The contract of the reference Text. Conditions: the argument is a number of 64 bits. -/
import Derived.Test.YtkmjchpmbndpiaaP10
import Derived.Test.YtkmjchpmbndpiaaP6
namespace Go.Proofs.Ytkmjchpmbndpiaa
open Go.RowKit
set_option linter.unusedSimpArgs false
set_option linter.unusedVariables false

theorem decF_acc (f : Nat) : ∀ (m : Nat) (acc : List UInt8), m < 10 ^ f → decF f m acc = decF f m [] ++ acc := by
  induction f with
  | zero => intro m acc h; simp [decF]
  | succ f ih =>
    intro m acc h
    unfold decF
    split
    · rfl
    · have hm : m / 10 < 10 ^ f := by rw [Nat.pow_succ] at h; omega
      rw [ih _ (digB (m % 10) :: acc) hm, ih _ [digB (m % 10)] hm, List.append_assoc]; rfl
theorem decF_fuel (f : Nat) : ∀ (g m : Nat) (acc : List UInt8), f ≤ g → 1 ≤ f → m < 10 ^ f → decF g m acc = decF f m acc := by
  induction f with
  | zero => intro g m acc _ h; omega
  | succ f ih =>
    intro g m acc hg _ h
    obtain ⟨g, rfl⟩ : ∃ g', g = g' + 1 := ⟨g - 1, by omega⟩
    unfold decF
    split
    · rfl
    · have hm : m / 10 < 10 ^ f := by rw [Nat.pow_succ] at h; omega
      rcases Nat.eq_zero_or_pos f with h0 | h0
      · subst h0; simp at hm; omega
      · exact ih g _ _ (by omega) h0 hm
theorem decF_len (f : Nat) : ∀ (m : Nat) (acc : List UInt8), (decF f m acc).length ≤ f + acc.length := by
  induction f with
  | zero => intro m acc; simp [decF]
  | succ f ih =>
    intro m acc
    unfold decF
    split
    · simp; omega
    · have := ih (m / 10) (digB (m % 10) :: acc); simp at this; omega
theorem decN_len (m : Nat) : (decN m).length ≤ 19 := decF_len 19 m []
theorem decN_small {m : Nat} (h : m < 10) : decN m = [digB m] := by unfold decN decF; rw [if_pos h]
theorem decN_step {m : Nat} (h : ¬ m < 10) (hm : m < 10 ^ 19) : decN m = decN (m / 10) ++ [digB (m % 10)] := by
  have h1 : m / 10 < 10 ^ 18 := by omega
  unfold decN
  rw [show (19 : Nat) = 18 + 1 from rfl, decF, if_neg h, decF_acc 18 _ _ h1, decF_fuel 18 (18 + 1) _ _ (by omega) (by omega) h1]

theorem convOne (w : World) (b : UInt8) : (convert 39 9 (.slice (some ⟨w.heap.size, 0, none⟩) 1 1)).run Try.prog (w.alloc (.cells #[.int .u8 b.toNat] 5)) = .ok (.string ⟨#[b]⟩) (w.alloc (.cells #[.int .u8 b.toNat] 5)) := by
  have h := Block.new w [.int .u8 b.toNat] 5
  have hc := run_convert_bytes_back (P := Try.prog) (w.alloc (.cells #[.int .u8 b.toNat] 5)) 39 9 5 ⟨w.heap.size, 0, none⟩ 1 [b] Try.underlying39 Try.underlying5 Try.underlying9 (fun j hj => by
    rw [addr_add]
    have : j = 0 := by simpa using hj
    subst this
    exact h.cell rfl)
  exact hc

theorem str_ret {a b : ByteArray} (h : a = b) : Ending.returned (.string a) = .returned (.string b) := by rw [h]
theorem ba_append (a b : List UInt8) : (⟨a.toArray⟩ : ByteArray) ++ (⟨b.toArray⟩ : ByteArray) = ⟨(a ++ b).toArray⟩ := by
  apply ByteArray.ext; simp

set_option maxHeartbeats 1000000 in
theorem rtext_small (n : Int) (w : World) (h0 : 0 ≤ n) (hlt : n < 10) : Calls Try.prog 25 #[.int .i64 n] w fun e w' => e = .returned (.string ⟨(decN n.toNat).toArray⟩) ∧ Below w.heap.size w w' := by
  have hl : (n == -9223372036854775808) = false := beq_eq_false_iff_ne.2 (by omega)
  obtain ⟨d, hd, hd2⟩ : ∃ d : UInt8, 48 + n % 10 = (d.toNat : Int) ∧ d = digB (n.toNat % 10) := ⟨_, by rw [digB_nat (by omega)]; omega, rfl⟩
  have HD2 : Hid (⟨#[d]⟩ = (⟨(decN n.toNat).toArray⟩ : ByteArray)) := Lib.hid (by rw [decN_small (by omega), hd2, Nat.mod_eq_of_lt (by omega)])
  have hcv := convOne w d
  clear hd2
  go_enter Try.func25, Try.ntmps25
  go_wp2_with fail
  go_ret
  exact ⟨str_ret HD2.out, (Below.refl _ _).alloc (Nat.le_refl _) _⟩

set_option maxHeartbeats 1000000 in
theorem rtext_nat (f : Nat) : ∀ (n : Int) (w : World), 0 ≤ n → n ≤ 9223372036854775807 → n.toNat < 10 ^ (f + 1) → f ≤ 18 → Calls Try.prog 25 #[.int .i64 n] w fun e w' => e = .returned (.string ⟨(decN n.toNat).toArray⟩) ∧ Below w.heap.size w w' := by
  induction f with
  | zero =>
    intro n w h0 _ h _
    exact rtext_small n w h0 (by simp at h; omega)
  | succ f ih =>
    intro n w h0 hub hn hf
    by_cases hlt : n < 10
    · exact rtext_small n w h0 hlt
    · have hl : (n == -9223372036854775808) = false := beq_eq_false_iff_ne.2 (by omega)
      obtain ⟨d, hd, hd2⟩ : ∃ d : UInt8, 48 + n % 10 = (d.toNat : Int) ∧ d = digB (n.toNat % 10) := ⟨_, by rw [digB_nat (by omega)]; omega, rfl⟩
      have HD2 : Hid (decN n.toNat = decN (n / 10).toNat ++ [d]) := Lib.hid (by
        have h19 : n.toNat < 10 ^ 19 := Nat.lt_of_lt_of_le hn (Nat.pow_le_pow_right (by omega) (by omega))
        rw [decN_step (by omega) h19, hd2, show n.toNat / 10 = (n / 10).toNat from by omega])
      have hcv := convOne w d
      have IH := Lib.hid (ih (n / 10) (w.alloc (.cells #[.int .u8 d.toNat] 5)) (by omega) (by omega) (by rw [Nat.pow_succ] at hn; omega) (by omega))
      clear hd2 ih hn
      go_enter Try.func25, Try.ntmps25
      go_wp2_with fail
      refine IH.out.mono ?_; rintro e w1 ⟨rfl, hb⟩
      have hadd := fun (wx : World) => run_string_add_sum (P := Try.prog) wx ⟨(decN (n / 10).toNat).toArray⟩ ⟨#[d]⟩ (by
        have := decN_len (n / 10).toNat
        show (decN (n / 10).toNat).toArray.size + 1 ≤ _
        simp only [List.size_toArray]; omega)
      have HB := Lib.hid hb
      clear hb
      go_wp2_with fail
      go_ret
      refine ⟨?_, ((Below.refl _ _).alloc (Nat.le_refl _) _).trans (HB.out.mono (by simp))⟩
      rw [HD2.out, ← ba_append]; rfl

set_option maxHeartbeats 1000000 in
theorem rtext_any (n : Int) (w : World) (hn : In64 n) : Calls Try.prog 25 #[.int .i64 n] w fun e w' => e = .returned (.string ⟨(textOf n).toArray⟩) ∧ Below w.heap.size w w' := by
  by_cases h0 : 0 ≤ n
  · rw [show textOf n = decN n.toNat from by unfold textOf; rw [if_neg (by omega), List.nil_append, show n.natAbs = n.toNat from by omega]]
    exact rtext_nat 18 n w h0 hn.2 (by unfold In64 at hn; omega) (by omega)
  · by_cases hl : n = -9223372036854775808
    · have HT : Hid (textOf n = [45, 57, 50, 50, 51, 51, 55, 50, 48, 51, 54, 56, 53, 52, 55, 55, 53, 56, 48, 56]) := Lib.hid (by rw [hl]; decide)
      have hl' : (n == -9223372036854775808) = true := beq_iff_eq.2 hl
      clear hl hn h0
      go_enter Try.func25, Try.ntmps25
      go_wp2_with fail
      go_ret
      refine ⟨?_, Below.refl _ _⟩
      rw [HT.out]; rfl
    · have hl' : (n == -9223372036854775808) = false := beq_eq_false_iff_ne.2 hl
      have hw : wrap64 (-n) = -n := by unfold In64 at hn; unfold wrap64; omega
      have hneg : n < 0 := by omega
      have HI := Lib.hid (rtext_nat 18 (-n) w (by omega) (by unfold In64 at hn; omega) (by unfold In64 at hn; omega) (by omega))
      have HT : Hid (textOf n = [45] ++ decN (-n).toNat) := Lib.hid (by unfold textOf; rw [if_pos hneg, show n.natAbs = (-n).toNat from by omega])
      clear hl hn h0
      go_enter Try.func25, Try.ntmps25
      go_wp2_with fail
      refine HI.out.mono ?_; rintro e w1 ⟨rfl, hb⟩
      have hadd := fun (wx : World) => run_string_add_sum (P := Try.prog) wx ⟨#[45]⟩ ⟨(decN (-n).toNat).toArray⟩ (by
        have := decN_len (-n).toNat
        show 1 + (decN (-n).toNat).toArray.size ≤ _
        simp only [List.size_toArray]; omega)
      go_wp2_with fail
      go_ret
      refine ⟨?_, hb⟩
      rw [HT.out, ← ba_append]; rfl

theorem texts_walk (n : Int) (s : ByteArray) (w : World) (hn : In64 n) (hs : s.size ≤ 9223372036854775807) : Calls Try.prog 7 #[.int .i64 n, .string s] w fun e w' => e = .returned (.bool true) ∧ Below w.heap.size w w' := by
  have H1 := Lib.hid (parse_any s w hs)
  have H2 := Lib.hid (rparse_any s w hs)
  have H3 := Lib.hid (text_any n w hn)
  have H4 := Lib.hid (fun w => rtext_any n w hn)
  clear hs hn
  go_enter Try.func7, Try.ntmps7
  go_wp2_with fail
  refine H1.out.mono ?_; rintro e w' ⟨rfl, rfl⟩
  go_wp2_with fail
  refine H2.out.mono ?_; rintro e w' ⟨rfl, rfl⟩
  go_wp2_with fail
  refine H3.out.mono ?_; rintro e w1 ⟨rfl, hb1⟩
  go_wp2_with fail
  refine (H4.out _).mono ?_; rintro e w2 ⟨rfl, hb2⟩
  go_wp2_with fail
  refine (works_any _).mono ?_; rintro e w3 ⟨rfl, hb3⟩
  go_wp2_with fail
  go_ret
  exact ⟨rfl, below_step (below_step hb1 rfl hb2) rfl hb3⟩
end Go.Proofs.Ytkmjchpmbndpiaa

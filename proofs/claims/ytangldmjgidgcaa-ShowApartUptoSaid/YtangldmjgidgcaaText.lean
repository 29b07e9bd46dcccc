/- The contracts of num.Text and of the reference's Text. Written by gentext.py out of the num seat's texts. Conditions: the argument is a number of 64 bits. -/
import Derived.Test.YtangldmjgidgcaaBase
import Derived.Laws.BytesString
import Derived.Laws.IdiomStrings
import Derived.Test.YtangldmjgidgcaaProg
import Derived.Outline
import Derived.Lib.Strings
import Derived.Lib.IndexBytes
namespace Go.Proofs.Ytangldmjgidgcaa
open Go.RowKit
set_option linter.unusedSimpArgs false
set_option linter.unusedVariables false

def In64 (n : Int) : Prop := -9223372036854775808 ≤ n ∧ n ≤ 9223372036854775807
theorem In64.of_wf {n : Int} (h : (Lit.int .i64 n).wf = true) : In64 n := by
  simpa [Lit.wf, IntKind.min, IntKind.max, IntKind.signed, IntKind.bits, In64] using h
theorem ret_u64 {a b : Int} (h : a = b) : Ending.returned (.int .u64 a) = .returned (.int .u64 b) := by rw [h]
theorem size_any (a : Int) (w : World) (ha : In64 a) : Calls Try.prog 46 #[.int .i64 a] w fun e w' => e = .returned (.int .u64 (a.natAbs : Int)) ∧ w = w' := by
  by_cases h1 : a < 0
  all_goals
    go_enter Try.func46, Try.ntmps46
    go_wp2
    go_ret
    refine ⟨ret_u64 ?_, rfl⟩
    unfold In64 at ha
    simp only [IntKind.wrap_u64]
    omega
theorem natAbs_le {a : Int} (ha : In64 a) : (a.natAbs : Int) ≤ 9223372036854775808 := by unfold In64 at ha; omega



/-- A digit's byte. -/
def digB (d : Nat) : UInt8 := UInt8.ofNat (48 + d)
/-- The digits of m, with fuel, ahead of acc. -/
def decF : Nat → Nat → List UInt8 → List UInt8
  | 0, _, acc => acc
  | f + 1, m, acc => if m < 10 then digB m :: acc else decF f (m / 10) (digB (m % 10) :: acc)
/-- The decimal digits of m, below 10^19. -/
def decT (m : Nat) : List UInt8 := decF 19 m []
def textOf (n : Int) : List UInt8 := (if n < 0 then [45] else []) ++ decT n.natAbs

def bytesV (l : List UInt8) : List Value := l.map fun b => .int .u8 b.toNat

def digitsV : List Value := [.int .u8 48, .int .u8 49, .int .u8 50, .int .u8 51, .int .u8 52, .int .u8 53, .int .u8 54, .int .u8 55, .int .u8 56, .int .u8 57]
theorem digitsV_get {d : Nat} (h : d < 10) : digitsV[d]? = some (.int .u8 (digB d).toNat) := by
  have : d = 0 ∨ d = 1 ∨ d = 2 ∨ d = 3 ∨ d = 4 ∨ d = 5 ∨ d = 6 ∨ d = 7 ∨ d = 8 ∨ d = 9 := by omega
  rcases this with rfl | rfl | rfl | rfl | rfl | rfl | rfl | rfl | rfl | rfl <;> rfl
theorem digB_nat {d : Nat} (h : d < 10) : ((digB d).toNat : Int) = 48 + d := by
  unfold digB; simp; omega
def bufV (f : Nat) (L : List UInt8) : List Value := List.replicate f (.int .u8 0) ++ bytesV L
theorem bufV_get (f : Nat) (L : List UInt8) : (bufV (f + 1) L)[f]? = some (.int .u8 0) := by
  unfold bufV; rw [List.getElem?_append_left (by simp)]; simp
theorem bufV_set (f : Nat) (L : List UInt8) (b : UInt8) : (bufV (f + 1) L).set f (.int .u8 b.toNat) = bufV f (b :: L) := by
  unfold bufV
  rw [List.set_append_left _ _ (by simp), List.replicate_succ', List.set_append_right _ _ (by simp)]
  simp [bytesV]

theorem slice20 (b f : Nat) (hf : f ≤ 19) (w : World) : (Instr.sliceAt 67 (.pointer (some ⟨b, 0, none⟩)) (some (.int .i64 (f : Int))) none none).run Try.prog w = .ok (.slice (some ⟨b, f, none⟩) (20 - f) (20 - f)) w := by
  have hl : Try.prog.arrayLen 67 = 20 := by kernel_rfl
  have he : Try.prog.elem 67 = 5 := by kernel_rfl
  have hu : Try.prog.underlying 67 = some (.array (Try.prog.arrayLen 67) (Try.prog.elem 67)) := by rw [hl, he]; exact Try.underlying67
  have hz : ∀ w, (sizeOf 5).run Try.prog w = .ok 1 w := fun _ => by kernel_rfl
  rw [run_sliceAt_array_l w 67 ⟨b, 0, none⟩ hu .i64 f (by omega) (by rw [hl]; omega), he, hz, hl]
  simp only [Result.andThen, slicedAt, Int.toNat_natCast]
  rw [if_neg (by omega)]
  simp [addr_add]
theorem conv20 (b f : Nat) (L : List UInt8) (hL : L.length = 20 - f) (w : World) (h : Block w b (bufV f L) 67) : (convert 36 9 (.slice (some ⟨b, f, none⟩) (20 - f) (20 - f))).run Try.prog w = .ok (.string ⟨L.toArray⟩) w := by
  have hc := run_convert_bytes_back w 36 9 5 ⟨b, f, none⟩ (20 - f) L Try.underlying36 Try.underlying5 Try.underlying9 (fun j hj => by
    rw [addr_add]
    refine h.cell ?_
    unfold bufV bytesV
    rw [List.getElem?_append_right (by simp)]
    simp [List.getElem?_eq_getElem hj])
  rw [hL] at hc
  exact hc

set_option maxHeartbeats 400000 in
theorem text_any (n : Int) (w : World) (hn : In64 n) : Calls Try.prog 34 #[.int .i64 n] w fun e w' => e = .returned (.string ⟨(textOf n).toArray⟩) ∧ Below w.heap.size w w' := by
  have HN : Hid (n.natAbs < 10 ^ 19) := Lib.hid (by have := natAbs_le hn; omega)
  have HS := Lib.hid (fun w => size_any n w hn)
  clear hn
  go_enter Try.func34, Try.ntmps34
  go_wp2_with fail
  refine (HS.out _).mono ?_; rintro e w' ⟨rfl, rfl⟩
  go_wp2_with fail
  go_loopw [5, 6] (fun i m wr => ∃ (f mm : Nat) (L : List UInt8), i = .int .i64 ((f : Int) + 1) ∧ m = .int .u64 mm ∧ 1 ≤ f ∧ f ≤ 19 ∧ Hid (mm < 10 ^ f ∧ decF f mm L = decT n.natAbs ∧ L.length = 19 - f) ∧
      Block wr w.heap.size digitsV 66 ∧ Block wr (w.heap.size + 1) (bufV (f + 1) L) 67 ∧ Below w.heap.size w wr) (fun i _ _ => (intOf i).toNat)
  case atStart =>
    refine ⟨19, _, [], rfl, rfl, by omega, by omega, Lib.hid ⟨HN.out, rfl, rfl⟩, ?_, ?_, ((Below.refl _ _).alloc (Nat.le_refl _) _).alloc (by simp) _⟩
    · exact (Block.new w digitsV 66).alloc _
    · have h := Block.new (w.alloc (.cells digitsV.toArray 66)) (bufV 20 []) 67
      simp only [World.size_alloc] at h
      exact h
  case round =>
    obtain ⟨f, mm, L, rfl, rfl, hf1, hf2, hh, hb0, hb1, hbel⟩ := hrel
    have c0 := hb0.cell (digitsV_get (d := mm % 10) (by omega))
    have c1 := hb1.cell (bufV_get f L)
    have f1 := hb1.free f
    have hsz := hb1.lt
    have hb2 := hb1.set f (.int .u8 (digB (mm % 10)).toNat)
    rw [bufV_set] at hb2
    have hbel2 : Below w.heap.size w (wr.setCell ⟨w.heap.size + 1, f, none⟩ (.int .u8 (digB (mm % 10)).toNat)) := hbel.setCell (by simp) _
    by_cases hlt : mm < 10
    · have hdl : decT n.natAbs = digB (mm % 10) :: L := by
        rw [← hh.out.2.1, show f = (f - 1) + 1 from by omega, decF, if_pos hlt, Nat.mod_eq_of_lt hlt]
      have hll : (digB (mm % 10) :: L).length = 20 - f := by simp only [List.length_cons]; have := hh.out.2.2; omega
      by_cases hneg : n < 0
      · obtain ⟨g, rfl⟩ : ∃ g, f = g + 1 := ⟨f - 1, by omega⟩
        have hb3 := hb2.set g (.int .u8 45)
        have c3 := hb2.cell (bufV_get g (digB (mm % 10) :: L))
        have f3 := hb2.free g
        rw [show (bufV (g + 1) (digB (mm % 10) :: L)).set g (.int .u8 45) = bufV g (45 :: digB (mm % 10) :: L) from bufV_set g _ 45] at hb3
        have hs := slice20 (w.heap.size + 1) g (by omega)
        have hcv := conv20 (w.heap.size + 1) g _ (by simp only [List.length_cons] at hll ⊢; omega) _ hb3
        have hbel3 := Lib.hid (Below.setCell hbel2 (p := ⟨w.heap.size + 1, g, none⟩) (by simp) (.int .u8 45))
        have HD := Lib.hid hdl
        clear hb0 hb1 hb2 hb3 hdl hll hbel2
        go_wp2_with fail
        go_ret
        refine ⟨?_, hbel3.out⟩
        unfold textOf
        rw [if_pos hneg, HD.out]; rfl
      · have hs := slice20 (w.heap.size + 1) f hf2
        have hcv := conv20 (w.heap.size + 1) f _ hll _ hb2
        have HBel := Lib.hid hbel2
        have HD := Lib.hid hdl
        clear hb0 hb1 hb2 hdl hll hbel2
        go_wp2_with fail
        go_ret
        refine ⟨?_, HBel.out⟩
        unfold textOf
        rw [if_neg (by omega), HD.out]; rfl
    · have hw : IntKind.u64.wrap ((mm : Int) / 10) = ((mm / 10 : Nat) : Int) := by
        have h1 := hh.out.1
        have h2 : 10 ^ f ≤ 10 ^ 19 := Nat.pow_le_pow_right (by omega) hf2
        rw [IntKind.wrap_u64]; omega
      have HB0 := Lib.hid hb0
      have HB2 := Lib.hid hb2
      have HBel := Lib.hid hbel2
      clear hb0 hb1 hb2 hbel2
      go_wp2_with fail
      go_roundw
      case rel =>
        have hh := hh.out
        have hf3 : 2 ≤ f := by
          rcases Nat.lt_or_ge 1 f with h | h
          · exact h
          · have : f = 1 := by omega
            rw [this] at hh; omega
        refine ⟨f - 1, mm / 10, digB (mm % 10) :: L, ?_, rfl, by omega, by omega, Lib.hid ⟨?_, ?_, ?_⟩, ?_, ?_, HBel.out⟩
        · simp; omega
        · have h1 : 10 ^ f = 10 ^ (f - 1) * 10 := by rw [← Nat.pow_succ]; congr 1; omega
          omega
        · rw [← hh.2.1]
          conv => rhs; rw [show f = (f - 1) + 1 from by omega, decF, if_neg hlt]
        · simp only [List.length_cons]; omega
        · exact HB0.out.set_other (by simp) _
        · rw [show f - 1 + 1 = f from by omega]; exact HB2.out
      case measure => first | (simp [intOf]; done) | (simp [intOf]; omega)



theorem decF_acc (f : Nat) : ∀ (m : Nat) (acc : List UInt8), m < 10 ^ f → decF f m acc = decF f m [] ++ acc := by
  induction f with
  | zero => intro m acc h; simp [decF]
  | succ f ih =>
    intro m acc h
    unfold decF
    split
    · rfl
    · have hm : m / 10 < 10 ^ f := by rw [Nat.pow_succ] at h; omega
      rw [ih _ (digB (m % 10) :: acc) hm, ih _ [digB (m % 10)] hm, List.append_assoc]; rfl
theorem decF_fuel (f : Nat) : ∀ (g m : Nat) (acc : List UInt8), f ≤ g → 1 ≤ f → m < 10 ^ f → decF g m acc = decF f m acc := by
  induction f with
  | zero => intro g m acc _ h; omega
  | succ f ih =>
    intro g m acc hg _ h
    obtain ⟨g, rfl⟩ : ∃ g', g = g' + 1 := ⟨g - 1, by omega⟩
    unfold decF
    split
    · rfl
    · have hm : m / 10 < 10 ^ f := by rw [Nat.pow_succ] at h; omega
      rcases Nat.eq_zero_or_pos f with h0 | h0
      · subst h0; simp at hm; omega
      · exact ih g _ _ (by omega) h0 hm
theorem decF_len (f : Nat) : ∀ (m : Nat) (acc : List UInt8), (decF f m acc).length ≤ f + acc.length := by
  induction f with
  | zero => intro m acc; simp [decF]
  | succ f ih =>
    intro m acc
    unfold decF
    split
    · simp; omega
    · have := ih (m / 10) (digB (m % 10) :: acc); simp at this; omega
theorem decT_len (m : Nat) : (decT m).length ≤ 19 := decF_len 19 m []
theorem decT_small {m : Nat} (h : m < 10) : decT m = [digB m] := by unfold decT decF; rw [if_pos h]
theorem decT_step {m : Nat} (h : ¬ m < 10) (hm : m < 10 ^ 19) : decT m = decT (m / 10) ++ [digB (m % 10)] := by
  have h1 : m / 10 < 10 ^ 18 := by omega
  unfold decT
  rw [show (19 : Nat) = 18 + 1 from rfl, decF, if_neg h, decF_acc 18 _ _ h1, decF_fuel 18 (18 + 1) _ _ (by omega) (by omega) h1]

theorem convOne (w : World) (b : UInt8) : (convert 36 9 (.slice (some ⟨w.heap.size, 0, none⟩) 1 1)).run Try.prog (w.alloc (.cells #[.int .u8 b.toNat] 5)) = .ok (.string ⟨#[b]⟩) (w.alloc (.cells #[.int .u8 b.toNat] 5)) := by
  have h := Block.new w [.int .u8 b.toNat] 5
  have hc := run_convert_bytes_back (P := Try.prog) (w.alloc (.cells #[.int .u8 b.toNat] 5)) 36 9 5 ⟨w.heap.size, 0, none⟩ 1 [b] Try.underlying36 Try.underlying5 Try.underlying9 (fun j hj => by
    rw [addr_add]
    have : j = 0 := by simpa using hj
    subst this
    exact h.cell rfl)
  exact hc

theorem str_ret {a b : ByteArray} (h : a = b) : Ending.returned (.string a) = .returned (.string b) := by rw [h]
theorem ba_append (a b : List UInt8) : (⟨a.toArray⟩ : ByteArray) ++ (⟨b.toArray⟩ : ByteArray) = ⟨(a ++ b).toArray⟩ := by
  apply ByteArray.ext; simp

set_option maxHeartbeats 1000000 in
theorem rtext_small (n : Int) (w : World) (h0 : 0 ≤ n) (hlt : n < 10) : Calls Try.prog 36 #[.int .i64 n] w fun e w' => e = .returned (.string ⟨(decT n.toNat).toArray⟩) ∧ Below w.heap.size w w' := by
  have hl : (n == -9223372036854775808) = false := beq_eq_false_iff_ne.2 (by omega)
  obtain ⟨d, hd, hd2⟩ : ∃ d : UInt8, 48 + n % 10 = (d.toNat : Int) ∧ d = digB (n.toNat % 10) := ⟨_, by rw [digB_nat (by omega)]; omega, rfl⟩
  have HD2 : Hid (⟨#[d]⟩ = (⟨(decT n.toNat).toArray⟩ : ByteArray)) := Lib.hid (by rw [decT_small (by omega), hd2, Nat.mod_eq_of_lt (by omega)])
  have hcv := convOne w d
  clear hd2
  go_enter Try.func36, Try.ntmps36
  go_wp2_with fail
  go_ret
  exact ⟨str_ret HD2.out, (Below.refl _ _).alloc (Nat.le_refl _) _⟩

set_option maxHeartbeats 1000000 in
theorem rtext_nat (f : Nat) : ∀ (n : Int) (w : World), 0 ≤ n → n ≤ 9223372036854775807 → n.toNat < 10 ^ (f + 1) → f ≤ 18 → Calls Try.prog 36 #[.int .i64 n] w fun e w' => e = .returned (.string ⟨(decT n.toNat).toArray⟩) ∧ Below w.heap.size w w' := by
  induction f with
  | zero =>
    intro n w h0 _ h _
    exact rtext_small n w h0 (by simp at h; omega)
  | succ f ih =>
    intro n w h0 hub hn hf
    by_cases hlt : n < 10
    · exact rtext_small n w h0 hlt
    · have hl : (n == -9223372036854775808) = false := beq_eq_false_iff_ne.2 (by omega)
      obtain ⟨d, hd, hd2⟩ : ∃ d : UInt8, 48 + n % 10 = (d.toNat : Int) ∧ d = digB (n.toNat % 10) := ⟨_, by rw [digB_nat (by omega)]; omega, rfl⟩
      have HD2 : Hid (decT n.toNat = decT (n / 10).toNat ++ [d]) := Lib.hid (by
        have h19 : n.toNat < 10 ^ 19 := Nat.lt_of_lt_of_le hn (Nat.pow_le_pow_right (by omega) (by omega))
        rw [decT_step (by omega) h19, hd2, show n.toNat / 10 = (n / 10).toNat from by omega])
      have hcv := convOne w d
      have IH := Lib.hid (ih (n / 10) (w.alloc (.cells #[.int .u8 d.toNat] 5)) (by omega) (by omega) (by rw [Nat.pow_succ] at hn; omega) (by omega))
      clear hd2 ih hn
      go_enter Try.func36, Try.ntmps36
      go_wp2_with fail
      refine IH.out.mono ?_; rintro e w1 ⟨rfl, hb⟩
      have hadd := fun (wx : World) => run_string_add_sum (P := Try.prog) wx ⟨(decT (n / 10).toNat).toArray⟩ ⟨#[d]⟩ (by
        have := decT_len (n / 10).toNat
        show (decT (n / 10).toNat).toArray.size + 1 ≤ _
        simp only [List.size_toArray]; omega)
      have HB := Lib.hid hb
      clear hb
      go_wp2_with fail
      go_ret
      refine ⟨?_, ((Below.refl _ _).alloc (Nat.le_refl _) _).trans (HB.out.mono (by simp))⟩
      rw [HD2.out, ← ba_append]; rfl

set_option maxHeartbeats 1000000 in
theorem rtext_any (n : Int) (w : World) (hn : In64 n) : Calls Try.prog 36 #[.int .i64 n] w fun e w' => e = .returned (.string ⟨(textOf n).toArray⟩) ∧ Below w.heap.size w w' := by
  by_cases h0 : 0 ≤ n
  · rw [show textOf n = decT n.toNat from by unfold textOf; rw [if_neg (by omega), List.nil_append, show n.natAbs = n.toNat from by omega]]
    exact rtext_nat 18 n w h0 hn.2 (by unfold In64 at hn; omega) (by omega)
  · by_cases hl : n = -9223372036854775808
    · have HT : Hid (textOf n = [45, 57, 50, 50, 51, 51, 55, 50, 48, 51, 54, 56, 53, 52, 55, 55, 53, 56, 48, 56]) := Lib.hid (by rw [hl]; decide)
      have hl' : (n == -9223372036854775808) = true := beq_iff_eq.2 hl
      clear hl hn h0
      go_enter Try.func36, Try.ntmps36
      go_wp2_with fail
      go_ret
      refine ⟨?_, Below.refl _ _⟩
      rw [HT.out]; rfl
    · have hl' : (n == -9223372036854775808) = false := beq_eq_false_iff_ne.2 hl
      have hw : wrap64 (-n) = -n := by unfold In64 at hn; unfold wrap64; omega
      have hneg : n < 0 := by omega
      have HI := Lib.hid (rtext_nat 18 (-n) w (by omega) (by unfold In64 at hn; omega) (by unfold In64 at hn; omega) (by omega))
      have HT : Hid (textOf n = [45] ++ decT (-n).toNat) := Lib.hid (by unfold textOf; rw [if_pos hneg, show n.natAbs = (-n).toNat from by omega])
      clear hl hn h0
      go_enter Try.func36, Try.ntmps36
      go_wp2_with fail
      refine HI.out.mono ?_; rintro e w1 ⟨rfl, hb⟩
      have hadd := fun (wx : World) => run_string_add_sum (P := Try.prog) wx ⟨#[45]⟩ ⟨(decT (-n).toNat).toArray⟩ (by
        have := decT_len (-n).toNat
        show 1 + (decT (-n).toNat).toArray.size ≤ _
        simp only [List.size_toArray]; omega)
      go_wp2_with fail
      go_ret
      refine ⟨?_, hb⟩
      rw [HT.out, ← ba_append]; rfl
def isDig (c : UInt8) : Bool := 48 ≤ c.toNat && c.toNat ≤ 57
def valOf (l : List UInt8) : Nat := l.foldl (fun v c => v * 10 + (c.toNat - 48)) 0
theorem valOf_snoc (l : List UInt8) (c : UInt8) : valOf (l ++ [c]) = valOf l * 10 + (c.toNat - 48) := by simp [valOf]
theorem isDig_iff (c : UInt8) {n : Int} (h : (c.toNat : Int) = n) : isDig c = true ↔ 48 ≤ n ∧ n ≤ 57 := by
  unfold isDig; simp only [Bool.and_eq_true, decide_eq_true_eq]; omega
theorem digB_isDig {d : Nat} (h : d < 10) : isDig (digB d) = true := (isDig_iff _ (digB_nat h)).2 (by omega)
theorem digB_val {d : Nat} (h : d < 10) : (digB d).toNat - 48 = d := by have := digB_nat h; omega
theorem decT_facts (f : Nat) : ∀ m, m < 10 ^ (f + 1) → f ≤ 18 → (decT m).all isDig = true ∧ valOf (decT m) = m ∧ ∃ c t, decT m = c :: t ∧ (c = 48 → m = 0 ∧ t = []) ∧ c ≠ 45 := by
  induction f with
  | zero =>
    intro m h _
    have hm : m < 10 := by simpa using h
    rw [decT_small hm]
    have hd := digB_nat hm
    refine ⟨by simp [digB_isDig hm], by simp [valOf, digB_val hm], _, _, rfl, fun hc => ?_, fun hc => ?_⟩
    · rw [hc] at hd
      have : ((48 : UInt8).toNat : Int) = 48 := rfl
      exact ⟨by omega, rfl⟩
    · rw [hc] at hd
      have : ((45 : UInt8).toNat : Int) = 45 := rfl
      omega
  | succ f ih =>
    intro m h hf
    by_cases hm : m < 10
    · exact (by
        rw [decT_small hm]
        have hd := digB_nat hm
        refine ⟨by simp [digB_isDig hm], by simp [valOf, digB_val hm], _, _, rfl, fun hc => ?_, fun hc => ?_⟩
        · rw [hc] at hd
          have : ((48 : UInt8).toNat : Int) = 48 := rfl
          exact ⟨by omega, rfl⟩
        · rw [hc] at hd
          have : ((45 : UInt8).toNat : Int) = 45 := rfl
          omega)
    · have h19 : m < 10 ^ 19 := Nat.lt_of_lt_of_le h (Nat.pow_le_pow_right (by omega) (by omega))
      obtain ⟨a, b, c, t, hc, hz, h45⟩ := ih (m / 10) (by rw [Nat.pow_succ] at h; omega) (by omega)
      rw [decT_step hm h19]
      refine ⟨by rw [List.all_append, a]; simp [digB_isDig (d := m % 10) (by omega)], by rw [valOf_snoc, b, digB_val (by omega)]; omega, c, t ++ [digB (m % 10)], by rw [hc]; rfl, fun h48 => ?_, h45⟩
      have := hz h48; omega

end Go.Proofs.Ytangldmjgidgcaa

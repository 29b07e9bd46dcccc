/- Parts P1, P5, P8, P9, P11, P12 of this seat (pruned, scripts that are alike kept once as default arguments: q1, q2, ..). Conditions: each says its own. -/
import Derived.Lib.Mul64
import Derived.Lib.IndexBytes
import Derived.Test.YteljlahcdipilaaGreatF1
namespace Go.Proofs.YteljlahcdipilaaGreat
set_option maxRecDepth 100000
open Go.RowKit
set_option linter.unusedSimpArgs false
set_option linter.unusedVariables false
def In64 (n : Int) : Prop := -9223372036854775808 ≤ n ∧ n ≤ 9223372036854775807
instance (n : Int) : Decidable (In64 n) := by unfold In64; exact inferInstance
def chkV (n : Int) : Int := if In64 n then n else 0
def chkE (n : Int) : Int := if In64 n then 0 else 4
theorem chk_in {n : Int} (h : In64 n) : chkV n = n ∧ chkE n = 0 := by simp [chkV, chkE, h]
theorem chk_out {n : Int} (h : ¬ In64 n) : chkV n = 0 ∧ chkE n = 4 := by simp [chkV, chkE, h]
theorem ret_two {a b c d : Int} (h1 : a = c) (h2 : b = d) : Ending.returned (.tuple #[.int .i64 a, .int .i64 b]) = .returned (.tuple #[.int .i64 c, .int .i64 d]) := by rw [h1, h2]
theorem chk_cases (n : Int) : (In64 n ∧ chkV n = n ∧ chkE n = 0) ∨ (¬ In64 n ∧ chkV n = 0 ∧ chkE n = 4) := by
 by_cases h : In64 n
 ·exact .inl ⟨h, chk_in h⟩
 ·exact .inr ⟨h, chk_out h⟩
theorem signed_any (m : Int) (b : Bool) (w : World) (h0 : 0 ≤ m) (hm : m ≤ 18446744073709551615) : Calls Tryz.prog 73 #[.int .u64 m, .bool b] w fun e w' => e = .returned (.tuple #[.int .i64 (chkV (if b then -m else m)), .int .i64 (chkE (if b then -m else m))]) ∧ w = w' := by
 have HM := Lib.hid hm; clear hm
 have HC := Lib.hid (chk_cases (if b then -m else m))
 cases b
 ·by_cases h : m < 9223372036854775808
  all_goals
   go_enter Tryz.func73, Tryz.ntmps73
   go_wp2
   go_ret2
   have hc := HC.out
   have hm := HM.out
   simp only [In64, Bool.false_eq_true, if_false] at hc ⊢
   exact ⟨ret_two (by omega) (by omega), trivial⟩
 ·by_cases h : m ≤ 9223372036854775808
  all_goals
   go_enter Tryz.func73, Tryz.ntmps73
   go_wp2
   go_ret2
   have hc := HC.out
   have hm := HM.out
   simp only [In64, if_true] at hc ⊢
   refine ⟨ret_two ?_ ?_, trivial⟩
   ·first | omega | (simp only [IntKind.wrap_u64, wrap64]; omega)
   ·omega
def digB (d : Nat) : UInt8 := UInt8.ofNat (48 + d)
def decF : Nat → Nat → List UInt8 → List UInt8
  | 0, _, acc => acc
  | f + 1, m, acc => if m < 10 then digB m :: acc else decF f (m / 10) (digB (m % 10) :: acc)
def decN (m : Nat) : List UInt8 := decF 19 m []
def textOf (n : Int) : List UInt8 := (if n < 0 then [45] else []) ++ decN n.natAbs
theorem digB_nat {d : Nat} (h : d < 10) : ((digB d).toNat : Int) = 48 + d := by
 unfold digB; simp; omega
def isDig (c : UInt8) : Bool := 48 ≤ c.toNat && c.toNat ≤ 57
def valOf (l : List UInt8) : Nat := l.foldl (fun v c => v * 10 + (c.toNat - 48)) 0
def parseS (below : Bool) (d : List UInt8) : Int × Int :=
  if d = [] ∨ (d.head? = some 48 ∧ (1 < d.length ∨ below = true)) ∨ d.all isDig = false then (0, 1)
  else (chkV (if below then -(valOf d : Int) else valOf d), chkE (if below then -(valOf d : Int) else valOf d))
def parseOf (l : List UInt8) : Int × Int := if l.head? = some 45 then parseS true l.tail else parseS false l
theorem ba_empty {s : ByteArray} (h : s.size = 0) : s.toList.isEmpty = true ∧ s.toList = [] := by
 rw [ByteArray.toList_eq]
 have : s.data.toList = [] := by
  have h' : s.data.toList.length = 0 := by simpa using h
  exact List.length_eq_zero_iff.1 h'
 rw [this]; exact ⟨rfl, rfl⟩
theorem ba_ne {s : ByteArray} (h : 0 < s.size) : s.toList.isEmpty = false ∧ ¬ s.toList = [] := by
 rw [ByteArray.toList_eq]
 have : s.data.toList ≠ [] := fun h0 => by
  have h' : s.data.toList.length = 0 := by rw [h0]; rfl
  have h2 : s.data.toList.length = s.size := by simp
  omega
 exact ⟨by simpa using this, this⟩
theorem get_list (s : ByteArray) (k : Nat) (h : k < s.size) : s.data.toList[k]? = some s[k] := by
 rw [List.getElem?_eq_getElem (by simpa using h)]; rfl
theorem head_list (s : ByteArray) (h : 0 < s.size) : s.data.toList.head? = some s[0] := by
 rw [← get_list s 0 h]; exact List.head?_eq_getElem?
theorem len_list (s : ByteArray) : s.data.toList.length = s.size := by simp
theorem ne_list (s : ByteArray) (h : 0 < s.size) : s.data.toList ≠ [] := fun h0 => by
  have h2 := len_list s
  rw [h0] at h2; simp at h2; omega
def Num (l : List UInt8) (k : Nat) (m : Int) (over : Bool) : Prop :=
  (l.take k).all isDig = true ∧ 0 ≤ m ∧ m ≤ 18446744073709551615 ∧ (over = false → m = valOf (l.take k)) ∧ (over = true → 9223372036854775808 < valOf (l.take k))
theorem valOf_snoc (l : List UInt8) (c : UInt8) : valOf (l ++ [c]) = valOf l * 10 + (c.toNat - 48) := by simp [valOf]
theorem Num.zero (l : List UInt8) : Num l 0 0 false := by simp [Num, valOf]
theorem isDig_iff (c : UInt8) {n : Int} (h : (c.toNat : Int) = n) : isDig c = true ↔ 48 ≤ n ∧ n ≤ 57 := by
 unfold isDig; simp only [Bool.and_eq_true, decide_eq_true_eq]; omega
theorem Num.step {l : List UInt8} {k : Nat} {m n m' : Int} {over over' : Bool} {c : UInt8} (h : Num l k m over) (hc : l[k]? = some c) (hn : (c.toNat : Int) = n) (h1 : 48 ≤ n) (h2 : n ≤ 57)
    (ho : over' = (over || decide (1152921504606846976 < m))) (hm : m' = IntKind.u64.wrap (IntKind.u64.wrap (m * 10) + (n - 48))) : Num l (k + 1) m' over' := by
 obtain ⟨a1, a2, a3, a4, a5⟩ := h
 have hd := (isDig_iff c hn).2 ⟨h1, h2⟩
 have hv : valOf (l.take (k + 1)) = valOf (l.take k) * 10 + (c.toNat - 48) := by rw [take_succ_some hc, valOf_snoc]
 simp only [IntKind.wrap_u64] at hm
 refine ⟨by rw [take_succ_some hc, List.all_append, a1]; simp [hd], by omega, by omega, fun h => ?_, fun h => ?_⟩
 ·rw [ho, Bool.or_eq_false_iff, decide_eq_false_iff_not] at h
  have := a4 h.1
  rw [hv]; omega
 ·rw [ho, Bool.or_eq_true, decide_eq_true_eq] at h
  rw [hv]
  rcases h with h | h
  ·have := a5 h; omega
  ·cases over with
   | true => have := a5 rfl; omega
   | false => have := a4 rfl; omega
theorem parseS_bad {b : Bool} {l : List UInt8} {k : Nat} {c : UInt8} {n : Int} (hc : l[k]? = some c) (hn : (c.toNat : Int) = n) (h : n < 48 ∨ 57 < n) : parseS b l = (0, 1) := by
 unfold parseS
 rw [if_pos]
 refine .inr (.inr ?_)
 cases ha : l.all isDig with
 | false => rfl
 | true =>
  have := List.all_eq_true.1 ha c (List.mem_of_getElem? hc)
  rw [isDig_iff c hn] at this; omega
theorem parseS_good {b : Bool} {l : List UInt8} {m : Int} {over : Bool} (h : Num l l.length m over) (h0 : l ≠ []) (hz : ¬ (l.head? = some 48 ∧ (1 < l.length ∨ b = true))) :
    parseS b l = if over then (0, 4) else (chkV (if b then -m else m), chkE (if b then -m else m)) := by
 obtain ⟨a1, a2, a3, a4, a5⟩ := h
 rw [List.take_length] at a1 a4 a5
 unfold parseS
 rw [if_neg (by rintro (h | h | h); exact h0 h; exact hz h; rw [a1] at h; cases h)]
 cases over with
 | false => rw [← a4 rfl]; rfl
 | true =>
  have := a5 rfl
  have hn : ¬ In64 (if b then -(valOf l : Int) else valOf l) := by
   unfold In64; cases b
   ·simp only [Bool.false_eq_true, if_false]; omega
   ·simp only [if_true]; omega
  rw [(chk_out hn).1, (chk_out hn).2]; rfl
theorem pair_ret {a b : Int} {p : Int × Int} (h : p = (a, b)) : Ending.returned (.tuple #[.int .i64 a, .int .i64 b]) = .returned (.tuple #[.int .i64 p.1, .int .i64 p.2]) := by rw [h]
theorem Sq986347 {P : Prop} (h : P := by
 obtain ⟨hn1, hn2⟩ := ba_ne h0
 have HL := Lib.hid (len_list d)
 go_enter Tryz.func41, Tryz.ntmps41
 go_wp2_with fail
 go_loop [2, 3, 5, 6, 7] (fun _ _ m o i => ∃ (k : Nat) (mm : Int) (over : Bool), k ≤ d.size ∧ i = .int .i64 k ∧ m = .int .u64 mm ∧ o = .bool over ∧ Hid (Num d.data.toList k mm over)) (fun _ _ _ _ i => d.size - (intOf i).toNat)
 case atStart => exact ⟨0, 0, false, Nat.zero_le _, rfl, rfl, rfl, Lib.hid (Num.zero _)⟩
 case round =>
  obtain ⟨k, mm, over, hk, rfl, rfl, rfl, hh⟩ := hrel
  by_cases hlt : k < d.size
  ·obtain ⟨c, hc⟩ := nam d[k]
   have HG2 : Hid (d.data.toList[k]? = some c) := by rw [get_list d k hlt, hc]; exact Lib.hid rfl
   obtain ⟨n, hcn, hn0, hn3⟩ : ∃ n : Int, (c.toNat : Int) = n ∧ 0 ≤ n ∧ n ≤ 255 := ⟨_, rfl, by omega, by have := c.toNat_lt; omega⟩
   have HCN := Lib.hid hcn
   by_cases h48 : n < 48
   ·go_wp2_with fail
    go_ret2
    exact ⟨pair_ret (parseS_bad HG2.out HCN.out (.inl h48)), rfl⟩
   ·by_cases h57 : 57 < n
    ·go_wp2_with fail
     go_ret2
     exact ⟨pair_ret (parseS_bad HG2.out HCN.out (.inr h57)), rfl⟩
    ·cases over
     ·by_cases hbig : 1152921504606846976 < mm
      all_goals
       go_wp2_with fail
       go_round
       case rel =>
        refine ⟨k + 1, _, _, by omega, by go_num, rfl, rfl, Lib.hid (Num.step hh.out HG2.out HCN.out (by omega) (by omega) ?_ ?_)⟩
        ·simp [hbig]
        ·simp only [IntKind.wrap_u64]; try omega
       case measure => simp [intOf]; omega
     ·go_wp2_with fail
      go_round
      case rel =>
       refine ⟨k + 1, _, _, by omega, by go_num, rfl, rfl, Lib.hid (Num.step hh.out HG2.out HCN.out (by omega) (by omega) ?_ ?_)⟩
       ·simp
       ·simp only [IntKind.wrap_u64]; try omega
      case measure => simp [intOf]; omega
  ·obtain rfl : k = d.size := by omega
   have hN := hh.out
   rw [← HL.out] at hN
   first
   | (guard_hyp z986347a; have HP := Lib.hid (parseS_good (b := false) hN (ne_list d h0) (by simpa using HG.out)))
   | (have HP := Lib.hid (parseS_good (b := true) hN (ne_list d h0) (by simpa using HG.out)))
   cases over
   ·have b1 := hN.2.1
    have HB := Lib.hid hN.2.2.1
    clear hN
    go_wp2_with fail
    refine (signed_any mm _ _ b1 HB.out).mono ?_; rintro e w' ⟨rfl, rfl⟩
    go_wp2_with fail
    go_ret2
    exact ⟨pair_ret HP.out, rfl⟩
   ·clear hN
    go_wp2_with fail
    go_ret2
    exact ⟨pair_ret HP.out, rfl⟩) : P := h
set_option maxHeartbeats 1000000 in
theorem parse_loop_b (d s : ByteArray) (w : World) (hs : 0 < s.size) (hm : d.size ≤ 9223372036854775807) (hb : ((s[0].toNat : Int) == 45) = true) (hd : s.extract 1 s.size = d) (h0 : 0 < d.size) (HG : Hid (¬ (d.data.toList.head? = some 48 ∧ (1 < d.data.toList.length ∨ true = true)))) (hz : ((d[0].toNat : Int) == 48) = false) :
    Calls Tryz.prog 41 #[.string s] w fun e w' => e = .returned (.tuple #[.int .i64 (parseS true d.data.toList).1, .int .i64 (parseS true d.data.toList).2]) ∧ w = w' := Sq986347
set_option maxHeartbeats 1000000 in
theorem parse_loop_n (d : ByteArray) (w : World) (hm : d.size ≤ 9223372036854775807)  (h0 : 0 < d.size) (HG : Hid (¬ (d.data.toList.head? = some 48 ∧ (1 < d.data.toList.length ∨ false = true)))) (hb : ((d[0].toNat : Int) == 45) = false) (hz : ((d[0].toNat : Int) == 48) = false) :
    Calls Tryz.prog 41 #[.string d] w fun e w' => e = .returned (.tuple #[.int .i64 (parseS false d.data.toList).1, .int .i64 (parseS false d.data.toList).2]) ∧ w = w' := by
 have z986347a := trivial
 exact Sq986347
set_option maxHeartbeats 1000000 in
theorem parse_loop_z (d : ByteArray) (w : World) (hm : d.size ≤ 9223372036854775807)  (h0 : 0 < d.size) (HG : Hid (¬ (d.data.toList.head? = some 48 ∧ (1 < d.data.toList.length ∨ false = true)))) (hb : ((d[0].toNat : Int) == 45) = false) (hz : ((d[0].toNat : Int) == 48) = true) (hone : ¬ (1 : Int) < d.size) :
    Calls Tryz.prog 41 #[.string d] w fun e w' => e = .returned (.tuple #[.int .i64 (parseS false d.data.toList).1, .int .i64 (parseS false d.data.toList).2]) ∧ w = w' := by
 have z986347a := trivial
 exact Sq986347
theorem parseS_lead {b : Bool} {l : List UInt8} (h : l = [] ∨ (l.head? = some 48 ∧ (1 < l.length ∨ b = true))) : parseS b l = (0, 1) := by
 unfold parseS
 rw [if_pos]
 rcases h with h | h
 ·exact .inl h
 ·exact .inr (.inl h)
theorem u8_beq (c d : UInt8) : ((c.toNat : Int) == (d.toNat : Int)) = decide (c = d) := by
 by_cases h : c = d
 ·subst h; simp
 ·rw [decide_eq_false h, beq_eq_false_iff_ne]
  intro h2
  exact h (UInt8.toNat_inj.1 (by omega))
set_option maxHeartbeats 1000000 in
theorem parse_any (s : ByteArray) (w : World) (hs : s.size ≤ 9223372036854775807) : Calls Tryz.prog 41 #[.string s] w fun e w' => e = .returned (.tuple #[.int .i64 (parseOf s.data.toList).1, .int .i64 (parseOf s.data.toList).2]) ∧ w = w' := by
 by_cases h0 : s.size = 0
 ·have hr : Hid (parseOf s.data.toList = (0, 1)) := Lib.hid (by
   have h' : s.data.toList.length = 0 := by simpa using h0
   rw [List.length_eq_zero_iff.1 h']; rfl)
  have hz : ¬ (0 : Int) < s.size := by omega
  obtain ⟨e1, e2⟩ := ba_empty h0
  clear h0
  go_enter Tryz.func41, Tryz.ntmps41
  go_wp2_with fail
  go_ret2
  exact ⟨pair_ret hr.out, rfl⟩
 ·have h1 : 0 < s.size := by omega
  have hhd := head_list s h1
  have hb : ((s[0].toNat : Int) == 45) = decide (s[0] = 45) := u8_beq s[0] 45
  by_cases hc : s[0] = 45
  ·rw [decide_eq_true hc] at hb
   obtain ⟨d, hd⟩ := nam (s.extract 1 s.size)
   have hl : s.data.toList.tail = d.data.toList := by
    rw [← hd, Lib.extract_to_end, List.drop_one]
   have hdz : d.size = s.size - 1 := by rw [← len_list, ← len_list, ← hl, List.length_tail]
   have hp : parseOf s.data.toList = parseS true d.data.toList := by
    unfold parseOf; rw [hhd, hc, if_pos rfl, hl]
   rw [hp]
   clear hl hhd hp hc h0
   by_cases hz0 : d.size = 0
   ·obtain ⟨e1, e2⟩ := ba_empty hz0
    have hr : Hid (parseS true d.data.toList = (0, 1)) := Lib.hid (parseS_lead (.inl (by rw [← ByteArray.toList_eq]; exact e2)))
    clear hz0 hdz
    go_enter Tryz.func41, Tryz.ntmps41
    go_wp2_with fail
    go_ret2
    exact ⟨pair_ret hr.out, rfl⟩
   ·have h2 : 0 < d.size := by omega
    have hz : ((d[0].toNat : Int) == 48) = decide (d[0] = 48) := u8_beq d[0] 48
    have hhd := head_list d h2
    have hm : d.size ≤ 9223372036854775807 := by omega
    by_cases hc : d[0] = 48
    ·rw [decide_eq_true hc] at hz
     have hr : Hid (parseS true d.data.toList = (0, 1)) := Lib.hid (parseS_lead (.inr ⟨by rw [hhd, hc], .inr rfl⟩))
     obtain ⟨e1, e2⟩ := ba_ne h2
     clear hz0 hdz hhd hc
     by_cases hlen : (1 : Int) < d.size
     all_goals
      go_enter Tryz.func41, Tryz.ntmps41
      go_wp2_with fail
      go_ret2
      exact ⟨pair_ret hr.out, rfl⟩
    ·rw [decide_eq_false hc] at hz
     exact parse_loop_b d s w h1 hm hb hd h2 (Lib.hid (by rw [hhd]; simp [hc])) hz
  ·rw [decide_eq_false hc] at hb
   have hp : parseOf s.data.toList = parseS false s.data.toList := by
    unfold parseOf; rw [hhd, if_neg (by simpa using hc)]
   rw [hp]
   have hz : ((s[0].toNat : Int) == 48) = decide (s[0] = 48) := u8_beq s[0] 48
   by_cases hc2 : s[0] = 48
   ·rw [decide_eq_true hc2] at hz
    by_cases hlen : (1 : Int) < s.size
    ·have hr : Hid (parseS false s.data.toList = (0, 1)) := Lib.hid (parseS_lead (.inr ⟨by rw [hhd, hc2], .inl (by rw [len_list]; omega)⟩))
     obtain ⟨e1, e2⟩ := ba_ne h1
     clear hp hc hc2 hhd h0
     go_enter Tryz.func41, Tryz.ntmps41
     go_wp2_with fail
     go_ret2
     exact ⟨pair_ret hr.out, rfl⟩
    ·exact parse_loop_z s w hs h1 (Lib.hid (by rw [len_list]; rintro ⟨_, h | h⟩; omega; cases h)) hb hz hlen
   ·rw [decide_eq_false hc2] at hz
    exact parse_loop_n s w hs h1 (Lib.hid (by rw [hhd]; simp [hc2])) hb hz
def sgn (b : Bool) (v : Nat) : Int := if b then -(v : Int) else v
theorem valOf_mono (l : List UInt8) (k : Nat) : valOf (l.take k) ≤ valOf l := by
 conv => rhs; rw [← List.take_append_drop k l]
 generalize l.take k = a
 generalize l.drop k = t
 induction t generalizing a with
 | nil => simp
 | cons c t ih =>
  rw [show a ++ c :: t = (a ++ [c]) ++ t from by simp]
  refine Nat.le_trans ?_ (ih (a ++ [c]))
  rw [valOf_snoc]; omega
theorem parseS_val {b : Bool} {l : List UInt8} (ha : l.all isDig = true) (h0 : l ≠ []) (hz : ¬ (l.head? = some 48 ∧ (1 < l.length ∨ b = true))) : parseS b l = (chkV (sgn b (valOf l)), chkE (sgn b (valOf l))) := by
 unfold parseS
 rw [if_neg (by rintro (h | h | h); exact h0 h; exact hz h; rw [ha] at h; cases h)]
 rfl
theorem decF_acc (f : Nat) : ∀ (m : Nat) (acc : List UInt8), m < 10 ^ f → decF f m acc = decF f m [] ++ acc := by
 induction f with
 | zero => intro m acc h; simp [decF]
 | succ f ih =>
  intro m acc h
  unfold decF
  split
  ·rfl
  ·have hm : m / 10 < 10 ^ f := by rw [Nat.pow_succ] at h; omega
   rw [ih _ (digB (m % 10) :: acc) hm, ih _ [digB (m % 10)] hm, List.append_assoc]; rfl
theorem decF_fuel (f : Nat) : ∀ (g m : Nat) (acc : List UInt8), f ≤ g → 1 ≤ f → m < 10 ^ f → decF g m acc = decF f m acc := by
 induction f with
 | zero => intro g m acc _ h; omega
 | succ f ih =>
  intro g m acc hg _ h
  obtain ⟨g, rfl⟩ : ∃ g', g = g' + 1 := ⟨g - 1, by omega⟩
  unfold decF
  split
  ·rfl
  ·have hm : m / 10 < 10 ^ f := by rw [Nat.pow_succ] at h; omega
   rcases Nat.eq_zero_or_pos f with h0 | h0
   ·subst h0; simp at hm; omega
   ·exact ih g _ _ (by omega) h0 hm
theorem decN_small {m : Nat} (h : m < 10) : decN m = [digB m] := by unfold decN decF; rw [if_pos h]
theorem decN_step {m : Nat} (h : ¬ m < 10) (hm : m < 10 ^ 19) : decN m = decN (m / 10) ++ [digB (m % 10)] := by
 have h1 : m / 10 < 10 ^ 18 := by omega
 unfold decN
 rw [show (19 : Nat) = 18 + 1 from rfl, decF, if_neg h, decF_acc 18 _ _ h1, decF_fuel 18 (18 + 1) _ _ (by omega) (by omega) h1]
theorem digB_of {c : UInt8} (h : isDig c = true) : digB (c.toNat - 48) = c := by
 have h1 := (isDig_iff c rfl).1 h
 apply UInt8.toNat_inj.1
 have := digB_nat (d := c.toNat - 48) (by omega)
 omega
theorem valOf_pos {c : UInt8} {t : List UInt8} (hc : isDig c = true) (h : c ≠ 48) : 0 < valOf (c :: t) := by
 have h1 := valOf_mono (c :: t) 1
 have h2 : valOf ((c :: t).take 1) = c.toNat - 48 := by simp [valOf]
 have h3 := (isDig_iff c rfl).1 hc
 have h4 : c.toNat ≠ 48 := fun h5 => h (UInt8.toNat_inj.1 (by rw [h5]; rfl))
 omega
theorem text_digits (n : Nat) : ∀ l : List UInt8, l.length = n → l.all isDig = true → l ≠ [] → ¬ (l.head? = some 48 ∧ 1 < l.length) → valOf l < 10 ^ 19 → decN (valOf l) = l := by
 induction n with
 | zero => intro l h _ h0; exact absurd (List.length_eq_zero_iff.1 h) h0
 | succ n ih =>
  intro l hl ha h0 hz hv
  obtain ⟨t, c, rfl⟩ : ∃ t c, l = t ++ [c] := ⟨l.dropLast, l.getLast h0, (List.dropLast_concat_getLast h0).symm⟩
  rw [List.all_append, Bool.and_eq_true] at ha
  have hc : isDig c = true := by simpa using ha.2
  have hcb := (isDig_iff c rfl).1 hc
  rw [valOf_snoc] at hv ⊢
  cases t with
  | nil =>
   simp only [valOf, List.foldl_nil, Nat.zero_mul, Nat.zero_add, List.nil_append]
   rw [decN_small (by omega), digB_of hc]
  | cons d t =>
   have hd : isDig d = true := by have := ha.1; simp only [List.all_cons, Bool.and_eq_true] at this; exact this.1
   have hd48 : d ≠ 48 := fun h => hz ⟨by rw [h]; rfl, by simp⟩
   have hp := valOf_pos (t := t) hd hd48
   have he : (valOf (d :: t) * 10 + (c.toNat - 48)) / 10 = valOf (d :: t) := by omega
   have he2 : (valOf (d :: t) * 10 + (c.toNat - 48)) % 10 = c.toNat - 48 := by omega
   rw [decN_step (by omega) hv, he, he2, digB_of hc, ih (d :: t) (by simpa using hl) ha.1 (by simp) (by rintro ⟨h, _⟩; simp at h; exact hd48 h) (by omega)]
theorem chkE_cases (n : Int) : (In64 n ∧ chkE n = 0 ∧ chkV n = n) ∨ (chkE n = 4 ∧ chkV n = 0) := by
 rcases chk_cases n with h | h
 ·exact .inl ⟨h.1, h.2.2, h.2.1⟩
 ·exact .inr ⟨h.2.2, h.2.1⟩
theorem parseS_cases (b : Bool) (l : List UInt8) : (∃ e, parseS b l = (0, e) ∧ e ≠ 0) ∨ (∃ n, parseS b l = (n, 0) ∧ In64 n ∧ n = sgn b (valOf l) ∧ decN (valOf l) = l ∧ (b = true → n < 0) ∧ (b = false → l.head? ≠ some 45)) := by
 by_cases h : l = [] ∨ (l.head? = some 48 ∧ (1 < l.length ∨ b = true)) ∨ l.all isDig = false
 ·left; unfold parseS; rw [if_pos h]; exact ⟨1, rfl, by decide⟩
 ·have h0 : l ≠ [] := fun e => h (.inl e)
  have hz : ¬ (l.head? = some 48 ∧ (1 < l.length ∨ b = true)) := fun e => h (.inr (.inl e))
  have ha : l.all isDig = true := by cases hq : l.all isDig with | true => rfl | false => exact absurd (.inr (.inr hq)) h
  rw [parseS_val ha h0 hz]
  rcases chkE_cases (sgn b (valOf l)) with hk | hk
  ·right
   rw [hk.2.1, hk.2.2]
   refine ⟨_, rfl, hk.1, rfl, ?_, ?_, ?_⟩
   ·refine text_digits _ l rfl ha h0 (fun e => hz ⟨e.1, .inl e.2⟩) ?_
    have := hk.1
    unfold In64 sgn at this
    cases b <;> simp only [Bool.false_eq_true, if_false, if_true] at this <;> omega
   ·rintro rfl
    cases l with
    | nil => exact absurd rfl h0
    | cons c t =>
     have hc : isDig c = true := by simp only [List.all_cons, Bool.and_eq_true] at ha; exact ha.1
     have := valOf_pos (t := t) hc (fun e => hz ⟨by rw [e]; rfl, .inr rfl⟩)
     simp only [sgn, if_true]; omega
   ·intro _ h45
    cases l with
    | nil => exact absurd rfl h0
    | cons c t =>
     have hc : isDig c = true := by simp only [List.all_cons, Bool.and_eq_true] at ha; exact ha.1
     simp at h45
     rw [h45] at hc; exact absurd hc (by decide)
  ·left; rw [hk.1, hk.2]; exact ⟨4, rfl, by decide⟩
theorem parse_cases (l : List UInt8) : (∃ e, parseOf l = (0, e) ∧ e ≠ 0) ∨ (∃ n, parseOf l = (n, 0) ∧ In64 n ∧ textOf n = l) := by
 unfold parseOf
 by_cases h : l.head? = some 45
 ·rw [if_pos h]
  cases l with
  | nil => simp at h
  | cons c t =>
   simp at h; subst h
   rcases parseS_cases true t with hk | ⟨n, h1, h2, h3, h4, h5, _⟩
   ·exact .inl hk
   ·refine .inr ⟨n, h1, h2, ?_⟩
    unfold textOf
    rw [if_pos (h5 rfl), h3]
    rw [show (sgn true (valOf t)).natAbs = valOf t from by simp only [sgn, if_true]; omega, h4]; rfl
 ·rw [if_neg h]
  rcases parseS_cases false l with hk | ⟨n, h1, h2, h3, h4, _, h6⟩
  ·exact .inl hk
  ·refine .inr ⟨n, h1, h2, ?_⟩
   unfold textOf
   rw [if_neg (by rw [h3]; simp only [sgn, Bool.false_eq_true, if_false]; omega), h3]
   rw [show (sgn false (valOf l)).natAbs = valOf l from by simp only [sgn, Bool.false_eq_true, if_false]; omega, h4]; rfl
end Go.Proofs.YteljlahcdipilaaGreat

/- Parts P1, P5, P8, P9, P11, P12 of this seat (pruned, scripts that are alike kept once as default arguments: q1, q2, ..). Conditions: each says its own. -/
import Derived.Lib.Mul64
import Derived.Lib.IndexBytes
import Derived.Test.YteljlahcdipilaaGreatG1
set_option linter.unusedSimpArgs false
set_option linter.unusedVariables false
set_option maxRecDepth 1000000
set_option maxHeartbeats 64000000
namespace Go.Proofs.YteljlahcdipilaaGreat
open Go.RowKit
def dP (n : Int) : Prop := -9223372036854775808 <= n /\ n <= 9223372036854775807
instance (n : Int) : Decidable (dP n) := by unfold dP; exact inferInstance
def jX (n : Int) : Int := if dP n then n else 0
def jY (n : Int) : Int := if dP n then 0 else 4
theorem Ah {n : Int} (h : dP n) : jX n = n /\ jY n = 0 := by simp [jX, jY, h]
theorem mL {n : Int} (h : ¬ dP n) : jX n = 0 /\ jY n = 4 := by simp [jX, jY, h]
theorem rK {a b c d : Int} (h1 : a = c) (h2 : b = d) : Ending.returned (.tuple #[.int .i64 a, .int .i64 b]) = .returned (.tuple #[.int .i64 c, .int .i64 d]) := by rw [h1, h2]
theorem lN (n : Int) : (dP n /\ jX n = n /\ jY n = 0) \/ (¬ dP n /\ jX n = 0 /\ jY n = 4) := by
 by_cases h : dP n
 ·exact .inl ⟨h, Ah h⟩
 ·exact .inr ⟨h, mL h⟩
theorem iJ (m : Int) (b : Bool) (w : World) (h0 : 0 <= m) (hm : m <= 18446744073709551615) : Calls Tryz.prog 73 #[.int .u64 m, .bool b] w fun e w' => e = .returned (.tuple #[.int .i64 (jX (if b then -m else m)), .int .i64 (jY (if b then -m else m))]) /\ w = w' := by
 have HM := aa hm; clear hm;have HC := aa (lN (if b then -m else m));cases b
 ·by_cases h : m < 9223372036854775808
  all_goals
   go_enter Tryz.func73, Tryz.ntmps73
   go_wp2
   go_ret2
   have hc := HC.out;have hm := HM.out;simp only [dP, Bool.false_eq_true, if_false] at hc ⊢;exact ⟨rK (by omega) (by omega), trivial⟩
 ·by_cases h : m <= 9223372036854775808
  all_goals
   go_enter Tryz.func73, Tryz.ntmps73
   go_wp2
   go_ret2
   have hc := HC.out;have hm := HM.out;simp only [dP, if_true] at hc ⊢;refine ⟨rK ?_ ?_, trivial⟩
   ·first | omega | (simp only [IntKind.wrap_u64, wrap64]; omega)
   ·omega
def jZ (d : Nat) : UInt8 := UInt8.ofNat (48 + d)
def i6 : Nat -> Nat -> List UInt8 -> List UInt8
  | 0, _, acc => acc
  | f + 1, m, acc => if m < 10 then jZ m :: acc else i6 f (m / 10) (jZ (m % 10) :: acc)
def fQ (m : Nat) : List UInt8 := i6 19 m []
def cX (n : Int) : List UInt8 := (if n < 0 then [45] else []) ++ fQ n.natAbs
theorem kj {d : Nat} (h : d < 10) : ((jZ d).toNat : Int) = 48 + d := by
 unfold jZ; simp; omega
def ff (c : UInt8) : Bool := 48 <= c.toNat && c.toNat <= 57
def cx (l : List UInt8) : Nat := l.foldl (fun v c => v * 10 + (c.toNat - 48)) 0
def cI (below : Bool) (d : List UInt8) : Int × Int :=
  if d = [] \/ (d.head? = some 48 /\ (1 < d.length \/ below = true)) \/ d.all ff = false then (0, 1)
  else (jX (if below then -(cx d : Int) else cx d), jY (if below then -(cx d : Int) else cx d))
def cm (l : List UInt8) : Int × Int := if l.head? = some 45 then cI true l.tail else cI false l
theorem oo {s : ByteArray} (h : s.size = 0) : s.toList.isEmpty = true /\ s.toList = [] := by
 rw [ByteArray.toList_eq];have : s.data.toList = [] := by
  have h' : s.data.toList.length = 0 := by simpa using h
  exact List.length_eq_zero_iff.1 h'
 rw [this]; exact ⟨rfl, rfl⟩
theorem oq {s : ByteArray} (h : 0 < s.size) : s.toList.isEmpty = false /\ ¬ s.toList = [] := by
 rw [ByteArray.toList_eq];have : s.data.toList ≠ [] := fun h0 => by
  have h' : s.data.toList.length = 0 := by rw [h0]; rfl
  have h2 : s.data.toList.length = s.size := by simp
  omega
 exact ⟨by simpa using this, this⟩
theorem i7 (s : ByteArray) (k : Nat) (h : k < s.size) : s.data.toList[k]? = some s[k] := by
 rw [List.getElem?_eq_getElem (by simpa using h)]; rfl
theorem lO (s : ByteArray) (h : 0 < s.size) : s.data.toList.head? = some s[0] := by
 rw [<- i7 s 0 h]; exact List.head?_eq_getElem?
theorem eY (s : ByteArray) : s.data.toList.length = s.size := by simp
theorem mM (s : ByteArray) (h : 0 < s.size) : s.data.toList ≠ [] := fun h0 => by
  have h2 := eY s;rw [h0] at h2; simp at h2; omega
def mN (l : List UInt8) (k : Nat) (m : Int) (over : Bool) : Prop :=
  (l.take k).all ff = true /\ 0 <= m /\ m <= 18446744073709551615 /\ (over = false -> m = cx (l.take k)) /\ (over = true -> 9223372036854775808 < cx (l.take k))
theorem iK (l : List UInt8) (c : UInt8) : cx (l ++ [c]) = cx l * 10 + (c.toNat - 48) := by simp [cx]
theorem mN.zero (l : List UInt8) : mN l 0 0 false := by simp [mN, cx]
theorem fR (c : UInt8) {n : Int} (h : (c.toNat : Int) = n) : ff c = true ↔ 48 <= n /\ n <= 57 := by
 unfold ff; simp only [Bool.and_eq_true, decide_eq_true_eq]; omega
theorem mN.step {l : List UInt8} {k : Nat} {m n m' : Int} {over over' : Bool} {c : UInt8} (h : mN l k m over) (hc : l[k]? = some c) (hn : (c.toNat : Int) = n) (h1 : 48 <= n) (h2 : n <= 57)
    (ho : over' = (over || decide (1152921504606846976 < m))) (hm : m' = IntKind.u64.wrap (IntKind.u64.wrap (m * 10) + (n - 48))) : mN l (k + 1) m' over' := by
 obtain ⟨a1, a2, a3, a4, a5⟩ := h;have hd := (fR c hn).2 ⟨h1, h2⟩;have hv : cx (l.take (k + 1)) = cx (l.take k) * 10 + (c.toNat - 48) := by rw [dd hc, iK]
 simp only [IntKind.wrap_u64] at hm;refine ⟨by rw [dd hc, List.all_append, a1]; simp [hd], by omega, by omega, fun h => ?_, fun h => ?_⟩
 ·rw [ho, Bool.or_eq_false_iff, decide_eq_false_iff_not] at h;have := a4 h.1;rw [hv]; omega
 ·rw [ho, Bool.or_eq_true, decide_eq_true_eq] at h;rw [hv];rcases h with h | h
  ·have := a5 h; omega
  ·cases over with
   | true => have := a5 rfl; omega
   | false => have := a4 rfl; omega
theorem eO {b : Bool} {l : List UInt8} {k : Nat} {c : UInt8} {n : Int} (hc : l[k]? = some c) (hn : (c.toNat : Int) = n) (h : n < 48 \/ 57 < n) : cI b l = (0, 1) := by
 unfold cI;rw [if_pos];refine .inr (.inr ?_);cases ha : l.all ff with
 | false => rfl
 | true =>
  have := List.all_eq_true.1 ha c (List.mem_of_getElem? hc);rw [fR c hn] at this; omega
theorem gD {b : Bool} {l : List UInt8} {m : Int} {over : Bool} (h : mN l l.length m over) (h0 : l ≠ []) (hz : ¬ (l.head? = some 48 /\ (1 < l.length \/ b = true))) :
    cI b l = if over then (0, 4) else (jX (if b then -m else m), jY (if b then -m else m)) := by
 obtain ⟨a1, a2, a3, a4, a5⟩ := h;rw [List.take_length] at a1 a4 a5;unfold cI;rw [if_neg (by rintro (h | h | h); exact h0 h; exact hz h; rw [a1] at h; cases h)];cases over with
 | false => rw [<- a4 rfl]; rfl
 | true =>
  have := a5 rfl;have hn : ¬ dP (if b then -(cx l : Int) else cx l) := by
   unfold dP; cases b
   ·simp only [Bool.false_eq_true, if_false]; omega
   ·simp only [if_true]; omega
  rw [(mL hn).1, (mL hn).2]; rfl
theorem cC {a b : Int} {p : Int × Int} (h : p = (a, b)) : Ending.returned (.tuple #[.int .i64 a, .int .i64 b]) = .returned (.tuple #[.int .i64 p.1, .int .i64 p.2]) := by rw [h]
theorem Sq180502 {P : Prop} (h : P := by
 obtain ⟨hn1, hn2⟩ := oq h0;have HL := aa (eY d);go_enter Tryz.func41, Tryz.ntmps41;go_wp2_with fail
 go_loop [2, 3, 5, 6, 7] (fun _ _ m o i => ∃ (k : Nat) (mm : Int) (over : Bool), k <= d.size /\ i = .int .i64 k /\ m = .int .u64 mm /\ o = .bool over /\ Hid (mN d.data.toList k mm over)) (fun _ _ _ _ i => d.size - (intOf i).toNat)
 case atStart => exact ⟨0, 0, false, Nat.zero_le _, rfl, rfl, rfl, aa (mN.zero _)⟩
 case round =>
  obtain ⟨k, mm, over, hk, rfl, rfl, rfl, hh⟩ := hrel
  by_cases hlt : k < d.size
  ·obtain ⟨c, hc⟩ := nam d[k];have HG2 : Hid (d.data.toList[k]? = some c) := by rw [i7 d k hlt, hc]; exact aa rfl
   obtain ⟨n, hcn, hn0, hn3⟩ : ∃ n : Int, (c.toNat : Int) = n /\ 0 <= n /\ n <= 255 := ⟨_, rfl, by omega, by have := c.toNat_lt; omega⟩;have HCN := aa hcn
   by_cases h48 : n < 48
   ·go_wp2_with fail
    go_ret2
    exact ⟨cC (eO HG2.out HCN.out (.inl h48)), rfl⟩
   ·by_cases h57 : 57 < n
    ·go_wp2_with fail
     go_ret2
     exact ⟨cC (eO HG2.out HCN.out (.inr h57)), rfl⟩
    ·cases over
     ·by_cases hbig : 1152921504606846976 < mm
      all_goals
       go_wp2_with fail;go_round;case rel =>
        refine ⟨k + 1, _, _, by omega, by go_num, rfl, rfl, aa (mN.step hh.out HG2.out HCN.out (by omega) (by omega) ?_ ?_)⟩
        ·simp [hbig]
        ·simp only [IntKind.wrap_u64]; try omega
       case measure => simp [intOf]; omega
     ·go_wp2_with fail;go_round;case rel =>
       refine ⟨k + 1, _, _, by omega, by go_num, rfl, rfl, aa (mN.step hh.out HG2.out HCN.out (by omega) (by omega) ?_ ?_)⟩
       ·simp
       ·simp only [IntKind.wrap_u64]; try omega
      case measure => simp [intOf]; omega
  ·obtain rfl : k = d.size := by omega
   have hN := hh.out;rw [<- HL.out] at hN
   first
   | (guard_hyp z180502a; have HP := aa (gD (b := false) hN (mM d h0) (by simpa using HG.out)))
   | (have HP := aa (gD (b := true) hN (mM d h0) (by simpa using HG.out)))
   cases over
   ·have b1 := hN.2.1;have HB := aa hN.2.2.1;clear hN;go_wp2_with fail;refine (iJ mm _ _ b1 HB.out).mono ?_; rintro e w' ⟨rfl, rfl⟩;go_wp2_with fail
    go_ret2
    exact ⟨cC HP.out, rfl⟩
   ·clear hN;go_wp2_with fail
    go_ret2
    exact ⟨cC HP.out, rfl⟩) : P := h
theorem mO (d s : ByteArray) (w : World) (hs : 0 < s.size) (hm : d.size <= 9223372036854775807) (hb : ((s[0].toNat : Int) == 45) = true) (hd : s.extract 1 s.size = d) (h0 : 0 < d.size) (HG : Hid (¬ (d.data.toList.head? = some 48 /\ (1 < d.data.toList.length \/ true = true)))) (hz : ((d[0].toNat : Int) == 48) = false) :
    Calls Tryz.prog 41 #[.string s] w fun e w' => e = .returned (.tuple #[.int .i64 (cI true d.data.toList).1, .int .i64 (cI true d.data.toList).2]) /\ w = w' := Sq180502
theorem mP (d : ByteArray) (w : World) (hm : d.size <= 9223372036854775807)  (h0 : 0 < d.size) (HG : Hid (¬ (d.data.toList.head? = some 48 /\ (1 < d.data.toList.length \/ false = true)))) (hb : ((d[0].toNat : Int) == 45) = false) (hz : ((d[0].toNat : Int) == 48) = false) :
    Calls Tryz.prog 41 #[.string d] w fun e w' => e = .returned (.tuple #[.int .i64 (cI false d.data.toList).1, .int .i64 (cI false d.data.toList).2]) /\ w = w' := by
 have z180502a := trivial;exact Sq180502
theorem mQ (d : ByteArray) (w : World) (hm : d.size <= 9223372036854775807)  (h0 : 0 < d.size) (HG : Hid (¬ (d.data.toList.head? = some 48 /\ (1 < d.data.toList.length \/ false = true)))) (hb : ((d[0].toNat : Int) == 45) = false) (hz : ((d[0].toNat : Int) == 48) = true) (hone : ¬ (1 : Int) < d.size) :
    Calls Tryz.prog 41 #[.string d] w fun e w' => e = .returned (.tuple #[.int .i64 (cI false d.data.toList).1, .int .i64 (cI false d.data.toList).2]) /\ w = w' := by
 have z180502a := trivial;exact Sq180502
theorem gE {b : Bool} {l : List UInt8} (h : l = [] \/ (l.head? = some 48 /\ (1 < l.length \/ b = true))) : cI b l = (0, 1) := by
 unfold cI;rw [if_pos];rcases h with h | h
 ·exact .inl h
 ·exact .inr (.inl h)
theorem qk (c d : UInt8) : ((c.toNat : Int) == (d.toNat : Int)) = decide (c = d) := by
 by_cases h : c = d
 ·subst h; simp
 ·rw [decide_eq_false h, beq_eq_false_iff_ne];intro h2;exact h (UInt8.toNat_inj.1 (by omega))
theorem sQ (s : ByteArray) (w : World) (hs : s.size <= 9223372036854775807) : Calls Tryz.prog 41 #[.string s] w fun e w' => e = .returned (.tuple #[.int .i64 (cm s.data.toList).1, .int .i64 (cm s.data.toList).2]) /\ w = w' := by
 by_cases h0 : s.size = 0
 ·have hr : Hid (cm s.data.toList = (0, 1)) := aa (by
   have h' : s.data.toList.length = 0 := by simpa using h0
   rw [List.length_eq_zero_iff.1 h']; rfl)
  have hz : ¬ (0 : Int) < s.size := by omega
  obtain ⟨e1, e2⟩ := oo h0;clear h0;go_enter Tryz.func41, Tryz.ntmps41;go_wp2_with fail
  go_ret2
  exact ⟨cC hr.out, rfl⟩
 ·have h1 : 0 < s.size := by omega
  have hhd := lO s h1;have hb : ((s[0].toNat : Int) == 45) = decide (s[0] = 45) := qk s[0] 45
  by_cases hc : s[0] = 45
  ·rw [decide_eq_true hc] at hb;obtain ⟨d, hd⟩ := nam (s.extract 1 s.size);have hl : s.data.toList.tail = d.data.toList := by
    rw [<- hd, Lib.extract_to_end, List.drop_one]
   have hdz : d.size = s.size - 1 := by rw [<- eY, <- eY, <- hl, List.length_tail]
   have hp : cm s.data.toList = cI true d.data.toList := by
    unfold cm; rw [hhd, hc, if_pos rfl, hl]
   rw [hp];clear hl hhd hp hc h0
   by_cases hz0 : d.size = 0
   ·obtain ⟨e1, e2⟩ := oo hz0;have hr : Hid (cI true d.data.toList = (0, 1)) := aa (gE (.inl (by rw [<- ByteArray.toList_eq]; exact e2)));clear hz0 hdz;go_enter Tryz.func41, Tryz.ntmps41;go_wp2_with fail
    go_ret2
    exact ⟨cC hr.out, rfl⟩
   ·have h2 : 0 < d.size := by omega
    have hz : ((d[0].toNat : Int) == 48) = decide (d[0] = 48) := qk d[0] 48;have hhd := lO d h2;have hm : d.size <= 9223372036854775807 := by omega
    by_cases hc : d[0] = 48
    ·rw [decide_eq_true hc] at hz;have hr : Hid (cI true d.data.toList = (0, 1)) := aa (gE (.inr ⟨by rw [hhd, hc], .inr rfl⟩));obtain ⟨e1, e2⟩ := oq h2;clear hz0 hdz hhd hc
     by_cases hlen : (1 : Int) < d.size
     all_goals
      go_enter Tryz.func41, Tryz.ntmps41;go_wp2_with fail
      go_ret2
      exact ⟨cC hr.out, rfl⟩
    ·rw [decide_eq_false hc] at hz;exact mO d s w h1 hm hb hd h2 (aa (by rw [hhd]; simp [hc])) hz
  ·rw [decide_eq_false hc] at hb;have hp : cm s.data.toList = cI false s.data.toList := by
    unfold cm; rw [hhd, if_neg (by simpa using hc)]
   rw [hp];have hz : ((s[0].toNat : Int) == 48) = decide (s[0] = 48) := qk s[0] 48
   by_cases hc2 : s[0] = 48
   ·rw [decide_eq_true hc2] at hz
    by_cases hlen : (1 : Int) < s.size
    ·have hr : Hid (cI false s.data.toList = (0, 1)) := aa (gE (.inr ⟨by rw [hhd, hc2], .inl (by rw [eY]; omega)⟩));obtain ⟨e1, e2⟩ := oq h1;clear hp hc hc2 hhd h0;go_enter Tryz.func41, Tryz.ntmps41;go_wp2_with fail
     go_ret2
     exact ⟨cC hr.out, rfl⟩
    ·exact mQ s w hs h1 (aa (by rw [eY]; rintro ⟨_, h | h⟩; omega; cases h)) hb hz hlen
   ·rw [decide_eq_false hc2] at hz;exact mP s w hs h1 (aa (by rw [hhd]; simp [hc2])) hb hz
def uJ (b : Bool) (v : Nat) : Int := if b then -(v : Int) else v
theorem ql (l : List UInt8) (k : Nat) : cx (l.take k) <= cx l := by
 conv => rhs; rw [<- List.take_append_drop k l]
 generalize l.take k = a;generalize l.drop k = t
 induction t generalizing a with
 | nil => simp
 | cons c t ih =>
  rw [show a ++ c :: t = (a ++ [c]) ++ t from by simp];refine Nat.le_trans ?_ (ih (a ++ [c]));rw [iK]; omega
theorem qm {b : Bool} {l : List UInt8} (ha : l.all ff = true) (h0 : l ≠ []) (hz : ¬ (l.head? = some 48 /\ (1 < l.length \/ b = true))) : cI b l = (jX (uJ b (cx l)), jY (uJ b (cx l))) := by
 unfold cI;rw [if_neg (by rintro (h | h | h); exact h0 h; exact hz h; rw [ha] at h; cases h)];rfl
theorem uK (f : Nat) : ∀ (m : Nat) (acc : List UInt8), m < 10 ^ f -> i6 f m acc = i6 f m [] ++ acc := by
 induction f with
 | zero => intro m acc h; simp [i6]
 | succ f ih =>
  intro m acc h;unfold i6
  split
  ·rfl
  ·have hm : m / 10 < 10 ^ f := by rw [Nat.pow_succ] at h; omega
   rw [ih _ (jZ (m % 10) :: acc) hm, ih _ [jZ (m % 10)] hm, List.append_assoc]; rfl
theorem sR (f : Nat) : ∀ (g m : Nat) (acc : List UInt8), f <= g -> 1 <= f -> m < 10 ^ f -> i6 g m acc = i6 f m acc := by
 induction f with
 | zero => intro g m acc _ h; omega
 | succ f ih =>
  intro g m acc hg _ h;obtain ⟨g, rfl⟩ : ∃ g', g = g' + 1 := ⟨g - 1, by omega⟩;unfold i6
  split
  ·rfl
  ·have hm : m / 10 < 10 ^ f := by rw [Nat.pow_succ] at h; omega
   rcases Nat.eq_zero_or_pos f with h0 | h0
   ·subst h0; simp at hm; omega
   ·exact ih g _ _ (by omega) h0 hm
theorem uL (f : Nat) : ∀ (m : Nat) (acc : List UInt8), (i6 f m acc).length <= f + acc.length := by
 induction f with
 | zero => intro m acc; simp [i6]
 | succ f ih =>
  intro m acc;unfold i6
  split
  ·simp; omega
  ·have := ih (m / 10) (jZ (m % 10) :: acc); simp at this; omega
theorem ot (m : Nat) : (fQ m).length <= 19 := uL 19 m []
theorem km {m : Nat} (h : m < 10) : fQ m = [jZ m] := by unfold fQ i6; rw [if_pos h]
theorem lP {m : Nat} (h : ¬ m < 10) (hm : m < 10 ^ 19) : fQ m = fQ (m / 10) ++ [jZ (m % 10)] := by
 have h1 : m / 10 < 10 ^ 18 := by omega
 unfold fQ;rw [show (19 : Nat) = 18 + 1 from rfl, i6, if_neg h, uK 18 _ _ h1, sR 18 (18 + 1) _ _ (by omega) (by omega) h1]
theorem rL (w : World) (b : UInt8) : (convert 75 9 (.slice (some ⟨w.heap.size, 0, none⟩) 1 1)).run Tryz.prog (w.alloc (.cells #[.int .u8 b.toNat] 5)) = .ok (.string ⟨#[b]⟩) (w.alloc (.cells #[.int .u8 b.toNat] 5)) := by
 have h := ae.new w [.int .u8 b.toNat] 5;have hc := run_convert_bytes_back (P := Tryz.prog) (w.alloc (.cells #[.int .u8 b.toNat] 5)) 75 9 5 ⟨w.heap.size, 0, none⟩ 1 [b] Tryz.underlying75 Tryz.underlying5 Tryz.underlying9 (fun j hj => by
  rw [fu];have : j = 0 := by simpa using hj
  subst this;exact h.cell rfl)
 exact hc
theorem ya {a b : ByteArray} (h : a = b) : Ending.returned (.string a) = .returned (.string b) := by rw [h]
theorem lQ (a b : List UInt8) : (⟨a.toArray⟩ : ByteArray) ++ (⟨b.toArray⟩ : ByteArray) = ⟨(a ++ b).toArray⟩ := by
 apply ByteArray.ext; simp
theorem jN (n : Int) (w : World) (h0 : 0 <= n) (hlt : n < 10) : Calls Tryz.prog 26 #[.int .i64 n] w fun e w' => e = .returned (.string ⟨(fQ n.toNat).toArray⟩) /\ Below w.heap.size w w' := by
 have hl : (n == -9223372036854775808) = false := beq_eq_false_iff_ne.2 (by omega);obtain ⟨d, hd, hd2⟩ : ∃ d : UInt8, 48 + n % 10 = (d.toNat : Int) /\ d = jZ (n.toNat % 10) := ⟨_, by rw [kj (by omega)]; omega, rfl⟩;have HD2 : Hid (⟨#[d]⟩ = (⟨(fQ n.toNat).toArray⟩ : ByteArray)) := aa (by rw [km (by omega), hd2, Nat.mod_eq_of_lt (by omega)]);have hcv := rL w d;clear hd2;go_enter Tryz.func26, Tryz.ntmps26;go_wp2_with fail;go_ret;exact ⟨ya HD2.out, (Below.refl _ _).alloc (Nat.le_refl _) _⟩
theorem lR (f : Nat) : ∀ (n : Int) (w : World), 0 <= n -> n <= 9223372036854775807 -> n.toNat < 10 ^ (f + 1) -> f <= 18 -> Calls Tryz.prog 26 #[.int .i64 n] w fun e w' => e = .returned (.string ⟨(fQ n.toNat).toArray⟩) /\ Below w.heap.size w w' := by
 induction f with
 | zero =>
  intro n w h0 _ h _;exact jN n w h0 (by simp at h; omega)
 | succ f ih =>
  intro n w h0 hub hn hf
  by_cases hlt : n < 10
  ·exact jN n w h0 hlt
  ·have hl : (n == -9223372036854775808) = false := beq_eq_false_iff_ne.2 (by omega);obtain ⟨d, hd, hd2⟩ : ∃ d : UInt8, 48 + n % 10 = (d.toNat : Int) /\ d = jZ (n.toNat % 10) := ⟨_, by rw [kj (by omega)]; omega, rfl⟩;have HD2 : Hid (fQ n.toNat = fQ (n / 10).toNat ++ [d]) := aa (by
    have h19 : n.toNat < 10 ^ 19 := Nat.lt_of_lt_of_le hn (Nat.pow_le_pow_right (by omega) (by omega));rw [lP (by omega) h19, hd2, show n.toNat / 10 = (n / 10).toNat from by omega])
   have hcv := rL w d;have IH := aa (ih (n / 10) (w.alloc (.cells #[.int .u8 d.toNat] 5)) (by omega) (by omega) (by rw [Nat.pow_succ] at hn; omega) (by omega));clear hd2 ih hn;go_enter Tryz.func26, Tryz.ntmps26;go_wp2_with fail;refine IH.out.mono ?_; rintro e w1 ⟨rfl, hb⟩;have hadd := fun (wx : World) => run_string_add_sum (P := Tryz.prog) wx ⟨(fQ (n / 10).toNat).toArray⟩ ⟨#[d]⟩ (by
    have := ot (n / 10).toNat;show (fQ (n / 10).toNat).toArray.size + 1 <= _;simp only [List.size_toArray]; omega)
   have HB := aa hb;clear hb;go_wp2_with fail;go_ret;refine ⟨?_, ((Below.refl _ _).alloc (Nat.le_refl _) _).trans (HB.out.mono (by simp))⟩;rw [HD2.out, <- lQ]; rfl
theorem sS (n : Int) (w : World) (hn : dP n) : Calls Tryz.prog 26 #[.int .i64 n] w fun e w' => e = .returned (.string ⟨(cX n).toArray⟩) /\ Below w.heap.size w w' := by
 by_cases h0 : 0 <= n
 ·rw [show cX n = fQ n.toNat from by unfold cX; rw [if_neg (by omega), List.nil_append, show n.natAbs = n.toNat from by omega]];exact lR 18 n w h0 hn.2 (by unfold dP at hn; omega) (by omega)
 ·by_cases hl : n = -9223372036854775808
  ·have HT : Hid (cX n = [45, 57, 50, 50, 51, 51, 55, 50, 48, 51, 54, 56, 53, 52, 55, 55, 53, 56, 48, 56]) := aa (by rw [hl]; decide);have hl' : (n == -9223372036854775808) = true := beq_iff_eq.2 hl;clear hl hn h0;go_enter Tryz.func26, Tryz.ntmps26;go_wp2_with fail;go_ret;refine ⟨?_, Below.refl _ _⟩;rw [HT.out]; rfl
  ·have hl' : (n == -9223372036854775808) = false := beq_eq_false_iff_ne.2 hl;have hw : wrap64 (-n) = -n := by unfold dP at hn; unfold wrap64; omega
   have hneg : n < 0 := by omega
   have HI := aa (lR 18 (-n) w (by omega) (by unfold dP at hn; omega) (by unfold dP at hn; omega) (by omega));have HT : Hid (cX n = [45] ++ fQ (-n).toNat) := aa (by unfold cX; rw [if_pos hneg, show n.natAbs = (-n).toNat from by omega]);clear hl hn h0;go_enter Tryz.func26, Tryz.ntmps26;go_wp2_with fail;refine HI.out.mono ?_; rintro e w1 ⟨rfl, hb⟩;have hadd := fun (wx : World) => run_string_add_sum (P := Tryz.prog) wx ⟨#[45]⟩ ⟨(fQ (-n).toNat).toArray⟩ (by
    have := ot (-n).toNat;show 1 + (fQ (-n).toNat).toArray.size <= _;simp only [List.size_toArray]; omega)
   go_wp2_with fail;go_ret;refine ⟨?_, hb⟩;rw [HT.out, <- lQ]; rfl
theorem rM {c : UInt8} (h : ff c = true) : jZ (c.toNat - 48) = c := by
 have h1 := (fR c rfl).1 h;apply UInt8.toNat_inj.1;have := kj (d := c.toNat - 48) (by omega);omega
theorem lS {c : UInt8} {t : List UInt8} (hc : ff c = true) (h : c ≠ 48) : 0 < cx (c :: t) := by
 have h1 := ql (c :: t) 1;have h2 : cx ((c :: t).take 1) = c.toNat - 48 := by simp [cx]
 have h3 := (fR c rfl).1 hc;have h4 : c.toNat ≠ 48 := fun h5 => h (UInt8.toNat_inj.1 (by rw [h5]; rfl))
 omega
theorem ou (n : Nat) : ∀ l : List UInt8, l.length = n -> l.all ff = true -> l ≠ [] -> ¬ (l.head? = some 48 /\ 1 < l.length) -> cx l < 10 ^ 19 -> fQ (cx l) = l := by
 induction n with
 | zero => intro l h _ h0; exact absurd (List.length_eq_zero_iff.1 h) h0
 | succ n ih =>
  intro l hl ha h0 hz hv;obtain ⟨t, c, rfl⟩ : ∃ t c, l = t ++ [c] := ⟨l.dropLast, l.getLast h0, (List.dropLast_concat_getLast h0).symm⟩;rw [List.all_append, Bool.and_eq_true] at ha;have hc : ff c = true := by simpa using ha.2
  have hcb := (fR c rfl).1 hc;rw [iK] at hv ⊢;cases t with
  | nil =>
   simp only [cx, List.foldl_nil, Nat.zero_mul, Nat.zero_add, List.nil_append];rw [km (by omega), rM hc]
  | cons d t =>
   have hd : ff d = true := by have := ha.1; simp only [List.all_cons, Bool.and_eq_true] at this; exact this.1
   have hd48 : d ≠ 48 := fun h => hz ⟨by rw [h]; rfl, by simp⟩
   have hp := lS (t := t) hd hd48;have he : (cx (d :: t) * 10 + (c.toNat - 48)) / 10 = cx (d :: t) := by omega
   have he2 : (cx (d :: t) * 10 + (c.toNat - 48)) % 10 = c.toNat - 48 := by omega
   rw [lP (by omega) hv, he, he2, rM hc, ih (d :: t) (by simpa using hl) ha.1 (by simp) (by rintro ⟨h, _⟩; simp at h; exact hd48 h) (by omega)]
theorem qo (n : Int) : (dP n /\ jY n = 0 /\ jX n = n) \/ (jY n = 4 /\ jX n = 0) := by
 rcases lN n with h | h
 ·exact .inl ⟨h.1, h.2.2, h.2.1⟩
 ·exact .inr ⟨h.2.2, h.2.1⟩
theorem i8 (b : Bool) (l : List UInt8) : (∃ e, cI b l = (0, e) /\ e ≠ 0) \/ (∃ n, cI b l = (n, 0) /\ dP n /\ n = uJ b (cx l) /\ fQ (cx l) = l /\ (b = true -> n < 0) /\ (b = false -> l.head? ≠ some 45)) := by
 by_cases h : l = [] \/ (l.head? = some 48 /\ (1 < l.length \/ b = true)) \/ l.all ff = false
 ·left; unfold cI; rw [if_pos h]; exact ⟨1, rfl, by decide⟩
 ·have h0 : l ≠ [] := fun e => h (.inl e)
  have hz : ¬ (l.head? = some 48 /\ (1 < l.length \/ b = true)) := fun e => h (.inr (.inl e))
  have ha : l.all ff = true := by cases hq : l.all ff with | true => rfl | false => exact absurd (.inr (.inr hq)) h
  rw [qm ha h0 hz];rcases qo (uJ b (cx l)) with hk | hk
  ·right;rw [hk.2.1, hk.2.2];refine ⟨_, rfl, hk.1, rfl, ?_, ?_, ?_⟩
   ·refine ou _ l rfl ha h0 (fun e => hz ⟨e.1, .inl e.2⟩) ?_;have := hk.1;unfold dP uJ at this;cases b <;> simp only [Bool.false_eq_true, if_false, if_true] at this <;> omega
   ·rintro rfl;cases l with
    | nil => exact absurd rfl h0
    | cons c t =>
     have hc : ff c = true := by simp only [List.all_cons, Bool.and_eq_true] at ha; exact ha.1
     have := lS (t := t) hc (fun e => hz ⟨by rw [e]; rfl, .inr rfl⟩);simp only [uJ, if_true]; omega
   ·intro _ h45;cases l with
    | nil => exact absurd rfl h0
    | cons c t =>
     have hc : ff c = true := by simp only [List.all_cons, Bool.and_eq_true] at ha; exact ha.1
     simp at h45;rw [h45] at hc; exact absurd hc (by decide)
  ·left; rw [hk.1, hk.2]; exact ⟨4, rfl, by decide⟩
theorem gF (l : List UInt8) : (∃ e, cm l = (0, e) /\ e ≠ 0) \/ (∃ n, cm l = (n, 0) /\ dP n /\ cX n = l) := by
 unfold cm
 by_cases h : l.head? = some 45
 ·rw [if_pos h];cases l with
  | nil => simp at h
  | cons c t =>
   simp at h; subst h;rcases i8 true t with hk | ⟨n, h1, h2, h3, h4, h5, _⟩
   ·exact .inl hk
   ·refine .inr ⟨n, h1, h2, ?_⟩;unfold cX;rw [if_pos (h5 rfl), h3];rw [show (uJ true (cx t)).natAbs = cx t from by simp only [uJ, if_true]; omega, h4]; rfl
 ·rw [if_neg h];rcases i8 false l with hk | ⟨n, h1, h2, h3, h4, _, h6⟩
  ·exact .inl hk
  ·refine .inr ⟨n, h1, h2, ?_⟩;unfold cX;rw [if_neg (by rw [h3]; simp only [uJ, Bool.false_eq_true, if_false]; omega), h3];rw [show (uJ false (cx l)).natAbs = cx l from by simp only [uJ, Bool.false_eq_true, if_false]; omega, h4]; rfl
end Go.Proofs.YteljlahcdipilaaGreat

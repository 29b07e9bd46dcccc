/- Parts S7, S8, S9, S10, S11, S12 of this seat (pruned, scripts that are alike kept once as default arguments: q1, q2, ..). Conditions: each says its own. -/
import Derived.Test.YteljlahcdipilaaGreatG6
set_option linter.unusedSimpArgs false
set_option linter.unusedVariables false
set_option maxRecDepth 1000000
set_option maxHeartbeats 64000000
namespace Go.Proofs.YteljlahcdipilaaGreat
open Go.RowKit
theorem mS (p q : List UInt8) : ai p ++ ai q = ai (p ++ q) := by
 apply ByteArray.ext; simp [ai]
theorem cY (s : ByteArray) (k n : Nat) (h : k + n <= s.size) : s.extract k (k + n) = ai ((s.data.toList.drop k).take n) := by
 apply ByteArray.ext;apply Array.ext';simp [ai]
theorem eh (p q : List UInt8) (B : ByteArray) (hB : ai q = B) (u : World) (h : p.length + q.length <= 9223372036854775807) {r : List UInt8} (hr : p ++ q = r) : (Op.stringOp .add (ai p) B).run Tryz.prog u = .ok (.string (ai r)) u := by
 subst hr;subst hB;rw [<- mS];exact run_string_add_sum (P := Tryz.prog) (w := u) (ai p) (ai q) (by rw [aj, aj]; exact h)
theorem Sq228818 {P : Prop} (h : P := by
 first
 |(
  guard_hyp z228818a
  have q2 : (((s[k].toNat : Nat) : Int) == 127) = true := by simp; omega
  have HPv := aa (HP.out.trans (if_pos (.inr a2)));have n1 := aa (h7 (by omega));clear h7 a2)
 |(
  guard_hyp z228818c
  have q1 : ((n : Int) == 0) = true := by simp; omega
  have HPv := aa (HP.out.trans (if_pos (.inl a1)));rw [if_pos a1] at HT)
 |(
  have q6 : (s[k].toNat : Int) < 32 := by omega
  have HPv := aa (HP.out.trans (if_pos a5));clear h7)
 have hP : 39 :: d ++ [92, 120] ++ cW s[k].toNat = 39 :: Y := by rw [<- HY.out, HPv.out]; simp
 obtain ⟨X, hX⟩ : ∃ X, 39 :: d ++ [92, 120] = X := ⟨_, rfl⟩;have hXl : X.length <= 4 * k + 10 := by rw [<- hX]; simp; omega
 have ha1 := fun u => eh (39 :: d) [92, 120] ⟨#[92, 120]⟩ rfl u (by simp; omega) hX
 rw [hX] at hP;have ha2 := fun u => eh X (cW s[k].toNat) _ rfl u (by unfold cW; simp; omega) hP
 have HH := aa (mR s[k].toNat hc wr);clear hX hXl hP;go_wp2_with fail;refine HS.out.mono ?_; rintro e w' ⟨rfl, rfl⟩;go_wp2_with fail;refine HH.out.mono ?_; rintro e w8 ⟨rfl, hb8⟩;have HB8 := aa hb8;clear hb8;go_wp2_with fail;go_roundw
 first
 | (guard_hyp z228818a; case rel => exact ⟨k + 1, Y, by omega, by go_num, rfl, aa (by have := NX.out; rw [HT.out, n1.out] at this; simpa using this), aF HB.out rfl HB8.out⟩)
 | (guard_hyp z228818b; case rel => exact ⟨k + n, Y, by omega, by go_num, rfl, aa (by have := NX.out; rw [HT.out] at this; simpa using this), aF HB.out rfl HB8.out⟩)
 | (case rel => exact ⟨k + 1, Y, by omega, by go_num, rfl, aa (by have := NX.out; rw [HT.out] at this; simpa using this), aF HB.out rfl HB8.out⟩)
 case measure => simp [intOf]; omega) : P := h
theorem qt (s : ByteArray) (W : World) (hs : s.size <= 1099511627776) :
    Calls Tryz.prog 27 #[.string s] W fun e w' => e = .returned (.string (ai (39 :: (dD s.data.toList ++ [39])))) /\ Below W.heap.size W w' := by
 obtain ⟨l, hl⟩ := nam s.data.toList;have hll : l.length = s.size := by rw [<- hl]; simp
 go_enter Tryz.func27, Tryz.ntmps27;go_wp2_with fail
 go_loopw [3, 4] (fun o i wr => ∃ (k : Nat) (d : List UInt8), k <= s.size /\ i = .int .i64 k /\ o = .string (ai (39 :: d)) /\ Hid (ox s.data.toList k d) /\ Below W.heap.size W wr) (fun _ i _ => s.size - (intOf i).toNat)
 case atStart => exact ⟨0, [], Nat.zero_le _, rfl, rfl, aa (qr _), Below.refl _ _⟩
 case round =>
  obtain ⟨k, d, hk, rfl, rfl, hd, hb⟩ := hrel;have HB := aa hb;clear hb;have hdl := hd.out.2.1
  by_cases hlt : k < s.size
  ·have hx := dw s k hlt;have hc : s[k].toNat < 256 := by have := s[k].toNat_lt; omega
   have HS := aa (uM s k wr (by omega) (by omega));have NX := aa (qs hd.out (by simp; exact hlt));have hn4 := dU (l := s.data.toList.drop k);have HP : Hid (fP (s.data.toList.drop k) = if sg (s.data.toList.drop k) = 0 \/ s[k].toNat = 127 then [92, 120] ++ cW s[k].toNat
       else if s[k].toNat = 39 \/ s[k].toNat = 92 then [92, UInt8.ofNat s[k].toNat]
       else if s[k].toNat = 10 then [92, 110] else if s[k].toNat = 9 then [92, 116] else if s[k].toNat = 13 then [92, 114]
       else if s[k].toNat < 32 then [92, 120] ++ cW s[k].toNat else (s.data.toList.drop k).take (sg (s.data.toList.drop k))) := aa (by unfold fP; rw [hx, cT, Nat.add_zero])
   have HT : Hid (dC (s.data.toList.drop k) = if sg (s.data.toList.drop k) = 0 then 1 else sg (s.data.toList.drop k)) := aa rfl;have hq : (k : Int) < s.size := by omega
   have h7 : s[k].toNat < 128 -> sg (s.data.toList.drop k) = 1 := fun h => eg.2 ⟨by simp; omega, by rw [cT, Nat.add_zero, <- hx]; exact h⟩
   have hone : (s.data.toList.drop k).take 1 = [UInt8.ofNat s[k].toNat] := by rw [List.drop_eq_getElem_cons (by simpa using hlt)]; simp; rfl
   have HX1 := aa (cY s k 1 (by omega));rw [hone] at HX1;clear hone;have HXn := aa (cY s k (sg (s.data.toList.drop k)) (by have := hn4.2; simp at this; omega));have hnl : ((s.data.toList.drop k).take (sg (s.data.toList.drop k))).length <= 4 := by simp; omega
   generalize sg (s.data.toList.drop k) = n at *;generalize (s.data.toList.drop k).take n = S at *;generalize fP (s.data.toList.drop k) = P at *;generalize dC (s.data.toList.drop k) = m at *;obtain ⟨Y, hY⟩ := nam (d ++ P);rw [hY] at NX;have HY := aa hY;have hkn : n <= 4 /\ k + n <= s.size := by have := hn4.2; simp at this; omega
   clear hl hll hY hx hn4
   by_cases a1 : n = 0
   ·have z228818c := trivial;exact Sq228818
   have q1 : ((n : Int) == 0) = false := by simp; omega
   rw [if_neg a1] at HT
   by_cases a2 : s[k].toNat = 127
   ·have z228818a := trivial;exact Sq228818
   have q2 : (((s[k].toNat : Nat) : Int) == 127) = false := by simp; omega
   have HP := aa (HP.out.trans (if_neg (by omega)))
   by_cases a3 : s[k].toNat = 39 \/ s[k].toNat = 92
   ·skip
    by_cases a4 : s[k].toNat = 39
    ·have q3 : (((s[k].toNat : Nat) : Int) == 39) = true := by simp; omega
     have HPv := aa (HP.out.trans (if_pos a3));have n1 := aa (h7 (by omega));obtain ⟨X, hX⟩ : ∃ X, 39 :: d ++ [92] = X := ⟨_, rfl⟩;have hXl : X.length <= 4 * k + 10 := by rw [<- hX]; simp; omega
     have hP : X ++ [UInt8.ofNat s[k].toNat] = 39 :: Y := by rw [<- HY.out, HPv.out, <- hX]; simp
     have ha1 := fun u => eh (39 :: d) [92] ⟨#[92]⟩ rfl u (by simp; omega) hX
     have ha2 := fun u => eh X [UInt8.ofNat s[k].toNat] _ HX1.out.symm u (by simp; omega) hP
     clear hX hXl hP h7 a3 a4;go_wp2_with fail;refine HS.out.mono ?_; rintro e w' ⟨rfl, rfl⟩;go_wp2_with fail;go_roundw;case rel => exact ⟨k + n, Y, by omega, by go_num, rfl, aa (by have := NX.out; rw [HT.out] at this; simpa using this), HB.out⟩
     case measure => simp [intOf]; omega
    have q3 : (((s[k].toNat : Nat) : Int) == 39) = false := by simp; omega
    have q4 : (((s[k].toNat : Nat) : Int) == 92) = true := by simp; omega
    have HPv := aa (HP.out.trans (if_pos a3));have n1 := aa (h7 (by omega));obtain ⟨X, hX⟩ : ∃ X, 39 :: d ++ [92] = X := ⟨_, rfl⟩;have hXl : X.length <= 4 * k + 10 := by rw [<- hX]; simp; omega
    have hP : X ++ [UInt8.ofNat s[k].toNat] = 39 :: Y := by rw [<- HY.out, HPv.out, <- hX]; simp
    have ha1 := fun u => eh (39 :: d) [92] ⟨#[92]⟩ rfl u (by simp; omega) hX
    have ha2 := fun u => eh X [UInt8.ofNat s[k].toNat] _ HX1.out.symm u (by simp; omega) hP
    clear hX hXl hP h7 a3;go_wp2_with fail;refine HS.out.mono ?_; rintro e w' ⟨rfl, rfl⟩;go_wp2_with fail;go_roundw;case rel => exact ⟨k + n, Y, by omega, by go_num, rfl, aa (by have := NX.out; rw [HT.out] at this; simpa using this), HB.out⟩
    case measure => simp [intOf]; omega
   have q3 : (((s[k].toNat : Nat) : Int) == 39) = false := by simp; omega
   have q4 : (((s[k].toNat : Nat) : Int) == 92) = false := by simp; omega
   have HP := aa (HP.out.trans (if_neg a3))
   by_cases b10 : s[k].toNat = 10
   ·have q5 : (((s[k].toNat : Nat) : Int) == 10) = true := by simp; omega
    have HPv := aa (HP.out.trans (if_pos b10));have ha1 := fun u => eh (39 :: d) [92, 110] ⟨#[92, 110]⟩ rfl u (by simp; omega) (r := 39 :: Y) (by rw [<- HY.out, HPv.out]; simp)
    go_wp2_with fail;refine HS.out.mono ?_; rintro e w' ⟨rfl, rfl⟩;go_wp2_with fail;go_roundw;case rel => exact ⟨k + n, Y, by omega, by go_num, rfl, aa (by have := NX.out; rw [HT.out] at this; simpa using this), HB.out⟩
    case measure => simp [intOf]; omega
   have r10 : (((s[k].toNat : Nat) : Int) == 10) = false := by simp; omega
   have HP := aa (HP.out.trans (if_neg b10))
   by_cases b9 : s[k].toNat = 9
   ·have q5 : (((s[k].toNat : Nat) : Int) == 9) = true := by simp; omega
    have HPv := aa (HP.out.trans (if_pos b9));have ha1 := fun u => eh (39 :: d) [92, 116] ⟨#[92, 116]⟩ rfl u (by simp; omega) (r := 39 :: Y) (by rw [<- HY.out, HPv.out]; simp)
    go_wp2_with fail;refine HS.out.mono ?_; rintro e w' ⟨rfl, rfl⟩;go_wp2_with fail;go_roundw;case rel => exact ⟨k + n, Y, by omega, by go_num, rfl, aa (by have := NX.out; rw [HT.out] at this; simpa using this), HB.out⟩
    case measure => simp [intOf]; omega
   have r9 : (((s[k].toNat : Nat) : Int) == 9) = false := by simp; omega
   have HP := aa (HP.out.trans (if_neg b9))
   by_cases b13 : s[k].toNat = 13
   ·have q5 : (((s[k].toNat : Nat) : Int) == 13) = true := by simp; omega
    have HPv := aa (HP.out.trans (if_pos b13));have ha1 := fun u => eh (39 :: d) [92, 114] ⟨#[92, 114]⟩ rfl u (by simp; omega) (r := 39 :: Y) (by rw [<- HY.out, HPv.out]; simp)
    go_wp2_with fail;refine HS.out.mono ?_; rintro e w' ⟨rfl, rfl⟩;go_wp2_with fail;go_roundw;case rel => exact ⟨k + n, Y, by omega, by go_num, rfl, aa (by have := NX.out; rw [HT.out] at this; simpa using this), HB.out⟩
    case measure => simp [intOf]; omega
   have r13 : (((s[k].toNat : Nat) : Int) == 13) = false := by simp; omega
   have HP := aa (HP.out.trans (if_neg b13))
   by_cases a5 : s[k].toNat < 32
   ·have z228818b := trivial;exact Sq228818
   ·have q6 : ¬ (s[k].toNat : Int) < 32 := by omega
    have HPv := aa (HP.out.trans (if_neg a5));have ha1 := fun u => eh (39 :: d) S _ HXn.out.symm u (by simp; omega) (r := 39 :: Y) (by rw [<- HY.out, HPv.out]; simp)
    clear h7 hnl;go_wp2_with fail;refine HS.out.mono ?_; rintro e w' ⟨rfl, rfl⟩;go_wp2_with fail;go_roundw;case rel => exact ⟨k + n, Y, by omega, by go_num, rfl, aa (by have := NX.out; rw [HT.out] at this; simpa using this), HB.out⟩
    case measure => simp [intOf]; omega
  ·have HE := aa (sV hd.out (by simp; omega));have hadd := fun u => eh (39 :: d) [39] ⟨#[39]⟩ rfl u (by simp; omega) (r := 39 :: (d ++ [39])) rfl
   have hq : ¬ (k : Int) < s.size := by omega
   clear hl hll;go_wp2_with fail;go_ret;exact ⟨by rw [<- HE.out]; rfl, HB.out⟩
end Go.Proofs.YteljlahcdipilaaGreat
namespace Go.Proofs.YteljlahcdipilaaGreat
open Go.RowKit Go.Shelf
def xY (B b : Nat) (l : List UInt8) (w : World) : Prop := Lib.IsBuilderF 94 5 B b (Lib.byteCells l) w
def jP (B b : Nat) (l : List UInt8) (w w' : World) : Prop := xY B b l w' /\ Below B w w' /\ Lib.OthersKept 5 (some b) w w'
theorem jP.trans {B b : Nat} {l l' : List UInt8} {w w' w'' : World} (h : jP B b l w w') (k : jP B b l' w' w'') : jP B b l' w w'' := ⟨k.1, h.2.1.trans k.2.1, h.2.2.trans k.2.2⟩
theorem jP.size {B b : Nat} {l : List UInt8} {w w' : World} (h : jP B b l w w') : B <= w.heap.size -> B <= w'.heap.size := fun k => Nat.le_trans k h.2.1.size
end Go.Proofs.YteljlahcdipilaaGreat
namespace Go.Proofs.YteljlahcdipilaaGreat
open Go.RowKit
theorem gK {l : List UInt8} (h0 : l.length ≠ 0) (h : rv l < 128) : sg l = 1 /\ nb l 0 = rv l := by
 have h1 : nb l 0 < 128 := Classical.byContradiction fun hh => by have := Ai hh; omega
 have h2 := eg.2 ⟨h0, h1⟩;exact ⟨h2, by unfold rv; rw [if_pos h2]⟩
end Go.Proofs.YteljlahcdipilaaGreat
namespace Go.Proofs.YteljlahcdipilaaGreat
open Go.RowKit Go.Shelf
theorem jP.old {B : Nat} {l : List UInt8} {a w w' : World} (h : jP B B l w w') (k : Below B a w) : Below B a w' := k.trans h.2.1
theorem iA (s : ByteArray) (b : Bool) (w : World) (h : Lib.hasPrefix s.data.toList [239, 191, 189] = b) :
    Calls Tryz.prog 75 #[.string s, .string ⟨#[239, 191, 189]⟩] w fun e w' => e = .returned (.bool b) /\ w = w' := by
 refine (Any.strings_HasPrefix { uO with } s ⟨#[239, 191, 189]⟩ w).mono ?_;rintro e w' ⟨rfl, rfl⟩;exact ⟨by rw [<- h], rfl⟩
end Go.Proofs.YteljlahcdipilaaGreat
namespace Go.Proofs.YteljlahcdipilaaGreat
open Go.RowKit
def bQ (l : List UInt8) : Option (UInt8 × Nat) :=
  if l.length < 2 then none
  else if nb l 1 = 92 \/ nb l 1 = 39 then some (UInt8.ofNat (nb l 1), 2)
  else if nb l 1 = 110 then some (10, 2) else if nb l 1 = 116 then some (9, 2) else if nb l 1 = 114 then some (13, 2)
  else if l.length < 4 \/ nb l 1 ≠ 120 \/ dx (nb l 2) < 0 \/ dx (nb l 3) < 0 then none
  else some (UInt8.ofNat (dx (nb l 2) * 16 + dx (nb l 3)).toNat, 4)
theorem dt {l : List UInt8} {x : UInt8} {n : Nat} (h : bQ l = some (x, n)) : (n = 2 \/ n = 4) /\ n <= l.length := by
 unfold bQ at h
 by_cases h1 : l.length < 2
 ·rw [if_pos h1] at h; cases h
 rw [if_neg h1] at h
 by_cases h2 : nb l 1 = 92 \/ nb l 1 = 39
 ·rw [if_pos h2] at h; cases h; omega
 rw [if_neg h2] at h
 by_cases h3 : nb l 1 = 110
 ·rw [if_pos h3] at h; cases h; omega
 rw [if_neg h3] at h
 by_cases h4 : nb l 1 = 116
 ·rw [if_pos h4] at h; cases h; omega
 rw [if_neg h4] at h
 by_cases h5 : nb l 1 = 114
 ·rw [if_pos h5] at h; cases h; omega
 rw [if_neg h5] at h
 by_cases h6 : l.length < 4 \/ nb l 1 ≠ 120 \/ dx (nb l 2) < 0 \/ dx (nb l 3) < 0
 ·rw [if_pos h6] at h; cases h
 rw [if_neg h6] at h; cases h; omega
def bad (l : List UInt8) : Prop := sg l = 0 \/ nb l 0 < 32 \/ nb l 0 = 127
instance (l : List UInt8) : Decidable (bad l) := by unfold bad; infer_instance
def sX : Nat -> List UInt8 -> Option (List UInt8 × List UInt8)
  | 0, _ => none
  | k + 1, l =>
    if l.length = 0 then none else if nb l 0 = 39 then some ([], l.drop 1) else if bad l then none
    else if nb l 0 = 92 then (match bQ l with | none => none | some (x, n) => (sX k (l.drop n)).map fun p => (x :: p.1, p.2))
    else (sX k (l.drop (sg l))).map fun p => (l.take (sg l) ++ p.1, p.2)
def qu : Nat -> List UInt8 -> Option (List UInt8)
  | 0, _ => some []
  | k + 1, l =>
    if l.length = 0 then some [] else if nb l 0 = 92 then (match bQ l with | none => none | some (x, n) => (qu k (l.drop n)).map fun p => x :: p)
    else if nb l 0 = 39 \/ bad l then none
    else (qu k (l.drop (sg l))).map fun p => l.take (sg l) ++ p
theorem eU {l : List UInt8} (h : ¬ bad l) : sg l ≠ 0 := fun e => h (.inl e)
theorem uP : ∀ (k : Nat) (l : List UInt8), l.length <= k -> sX (k + 1) l = sX (l.length + 1) l := by
 intro k
 induction k using Nat.strongRecOn with
 | _ k ih =>
  intro l hl
  by_cases hk : k = l.length
  ·rw [hk]
  obtain ⟨j, rfl⟩ : ∃ j, k = j + 1 := ⟨k - 1, by omega⟩
  by_cases h0 : l.length = 0
  ·simp [sX, h0]
  have hstep : ∀ n, 1 <= n -> n <= l.length -> sX (j + 1) (l.drop n) = sX l.length (l.drop n) := fun n h1 h2 => by
   have a := ih j (by omega) (l.drop n) (by simp; omega);obtain ⟨m, hm⟩ : ∃ m, l.length = m + 1 := ⟨l.length - 1, by omega⟩;rw [hm]
   by_cases hmj : m = j
   ·rw [hmj]
   have b := ih m (by omega) (l.drop n) (by simp; omega);rw [a, b]
  rw [sX]
  conv => rhs; rw [sX]
  rw [if_neg h0, if_neg h0]
  by_cases h1 : nb l 0 = 39
  ·rw [if_pos h1, if_pos h1]
  rw [if_neg h1, if_neg h1]
  by_cases h2 : bad l
  ·rw [if_pos h2, if_pos h2]
  rw [if_neg h2, if_neg h2]
  by_cases h3 : nb l 0 = 92
  ·rw [if_pos h3, if_pos h3];cases he : bQ l with
   | none => rfl
   | some p =>
    obtain ⟨x, n⟩ := p;have := dt he;simp only [];rw [hstep n (by omega) this.2]
  ·rw [if_neg h3, if_neg h3, hstep (sg l) (by have := eU h2; omega) (dU).2]
theorem uQ : ∀ (k : Nat) (l : List UInt8), l.length <= k -> qu k l = qu l.length l := by
 intro k
 induction k using Nat.strongRecOn with
 | _ k ih =>
  intro l hl
  by_cases hk : k = l.length
  ·rw [hk]
  obtain ⟨j, rfl⟩ : ∃ j, k = j + 1 := ⟨k - 1, by omega⟩
  by_cases h0 : l.length = 0
  ·rw [qu, if_pos h0, h0, qu]
  obtain ⟨m, hm⟩ : ∃ m, l.length = m + 1 := ⟨l.length - 1, by omega⟩;have hstep : ∀ n, 1 <= n -> n <= l.length -> qu j (l.drop n) = qu m (l.drop n) := fun n h1 h2 => by
   have a := ih j (by omega) (l.drop n) (by simp; omega);have b := ih m (by omega) (l.drop n) (by simp; omega);rw [a, b]
  rw [hm, qu]
  conv => rhs; rw [qu]
  rw [if_neg h0, if_neg h0]
  by_cases h3 : nb l 0 = 92
  ·rw [if_pos h3, if_pos h3];cases he : bQ l with
   | none => rfl
   | some p =>
    obtain ⟨x, n⟩ := p;have := dt he;simp only [];rw [hstep n (by omega) this.2]
  ·rw [if_neg h3, if_neg h3]
   by_cases h2 : nb l 0 = 39 \/ bad l
   ·rw [if_pos h2, if_pos h2]
   rw [if_neg h2, if_neg h2, hstep (sg l) (by have := eU (fun h => h2 (.inr h)); omega) (dU).2]
def qd (l : List UInt8) : Option (List UInt8 × List UInt8) := sX (l.length + 1) l
def uq (l : List UInt8) : Option (List UInt8) := qu l.length l
theorem ku (l : List UInt8) : qd l = if l.length = 0 then none else if nb l 0 = 39 then some ([], l.drop 1) else if bad l then none
    else if nb l 0 = 92 then (match bQ l with | none => none | some (x, n) => (qd (l.drop n)).map fun p => (x :: p.1, p.2))
    else (qd (l.drop (sg l))).map fun p => (l.take (sg l) ++ p.1, p.2) := by
 unfold qd;rw [sX]
 by_cases h0 : l.length = 0
 ·rw [if_pos h0, if_pos h0]
 rw [if_neg h0, if_neg h0];obtain ⟨m, hm⟩ : ∃ m, l.length = m + 1 := ⟨l.length - 1, by omega⟩;have hs : ∀ n, 1 <= n -> n <= l.length -> sX l.length (l.drop n) = sX ((l.drop n).length + 1) (l.drop n) := fun n h1 h2 => by
  rw [hm]; exact uP m (l.drop n) (by simp; omega)
 by_cases h1 : nb l 0 = 39
 ·rw [if_pos h1, if_pos h1]
 rw [if_neg h1, if_neg h1]
 by_cases h2 : bad l
 ·rw [if_pos h2, if_pos h2]
 rw [if_neg h2, if_neg h2]
 by_cases h3 : nb l 0 = 92
 ·rw [if_pos h3, if_pos h3];cases he : bQ l with
  | none => rfl
  | some p =>
   obtain ⟨x, n⟩ := p;have := dt he;simp only [];rw [hs n (by omega) this.2]
 ·rw [if_neg h3, if_neg h3, hs (sg l) (by have := eU h2; omega) (dU).2]
theorem ja (l : List UInt8) : uq l = if l.length = 0 then some [] else if nb l 0 = 92 then (match bQ l with | none => none | some (x, n) => (uq (l.drop n)).map fun p => x :: p)
    else if nb l 0 = 39 \/ bad l then none else (uq (l.drop (sg l))).map fun p => l.take (sg l) ++ p := by
 unfold uq
 by_cases h0 : l.length = 0
 ·rw [if_pos h0, h0, qu]
 obtain ⟨m, hm⟩ : ∃ m, l.length = m + 1 := ⟨l.length - 1, by omega⟩;have hs : ∀ n, 1 <= n -> n <= l.length -> qu m (l.drop n) = qu (l.drop n).length (l.drop n) := fun n h1 h2 => uQ m (l.drop n) (by simp; omega)
 rw [hm, qu, if_neg h0, if_neg (show ¬ m + 1 = 0 from by omega)]
 by_cases h3 : nb l 0 = 92
 ·rw [if_pos h3, if_pos h3];cases he : bQ l with
  | none => rfl
  | some p =>
   obtain ⟨x, n⟩ := p;have := dt he;simp only [];rw [hs n (by omega) this.2]
 ·rw [if_neg h3, if_neg h3]
  by_cases h2 : nb l 0 = 39 \/ bad l
  ·rw [if_pos h2, if_pos h2]
  rw [if_neg h2, if_neg h2, hs (sg l) (by have := eU (fun h => h2 (.inr h)); omega) (dU).2]
theorem Aj : ∀ (k : Nat) (l : List UInt8), l.length = k -> ∀ t, uq l = some t -> t.length <= l.length := by
 intro k
 induction k using Nat.strongRecOn with
 | _ k ih =>
  intro l hl t ht;rw [ja] at ht
  by_cases h0 : l.length = 0
  ·rw [if_pos h0] at ht; cases ht; simp
  rw [if_neg h0] at ht;have key : ∀ (n : Nat) (p : List UInt8), p.length <= n -> 1 <= n -> n <= l.length -> (uq (l.drop n)).map (fun q => p ++ q) = some t -> t.length <= l.length := fun n p h1 h2 h3 h4 => by
   cases hu : uq (l.drop n) with
   | none => rw [hu] at h4; cases h4
   | some q =>
    rw [hu] at h4;have := ih (l.drop n).length (by simp; omega) (l.drop n) rfl q hu;cases h4;simp at this ⊢;omega
  by_cases h3 : nb l 0 = 92
  ·rw [if_pos h3] at ht;cases he : bQ l with
   | none => rw [he] at ht; cases ht
   | some p =>
    obtain ⟨x, n⟩ := p;rw [he] at ht;have := dt he;exact key n [x] (by simp; omega) (by omega) this.2 ht
  ·rw [if_neg h3] at ht
   by_cases h2 : nb l 0 = 39 \/ bad l
   ·rw [if_pos h2] at ht; cases ht
   rw [if_neg h2] at ht;exact key (sg l) (l.take (sg l)) (by simp; omega) (by have := eU (fun h => h2 (.inr h)); omega) dU.2 ht
end Go.Proofs.YteljlahcdipilaaGreat
namespace Go.Proofs.YteljlahcdipilaaGreat
open Go.RowKit Go.Shelf
theorem Cb (c : Fin 256) : Lib.indexByte [48, 49, 50, 51, 52, 53, 54, 55, 56, 57, 97, 98, 99, 100, 101, 102] (UInt8.ofNat (if 65 <= c.val /\ c.val <= 70 then c.val + 32 else c.val)) = dx c.val := by
 revert c; decide +kernel
theorem fZ (i : Int) (c : Nat) (hi : i = c) (v : Int) (hv : Lib.indexByte [48, 49, 50, 51, 52, 53, 54, 55, 56, 57, 97, 98, 99, 100, 101, 102] (UInt8.ofNat c) = v) (w : World) :
    Calls Tryz.prog 106 #[.string ⟨#[48, 49, 50, 51, 52, 53, 54, 55, 56, 57, 97, 98, 99, 100, 101, 102]⟩, .int .u8 i] w fun e w' => e = .returned (.int .i64 v) /\ w = w' := by
 subst hi;subst hv;refine (Any.strings_IndexByte { sW with } ⟨#[48, 49, 50, 51, 52, 53, 54, 55, 56, 57, 97, 98, 99, 100, 101, 102]⟩ c w).mono ?_;rintro e w' ⟨rfl, rfl⟩;exact ⟨rfl, rfl⟩
theorem iM (c : Nat) (hc : c < 256) (w : World) :
    Calls Tryz.prog 92 #[.int .u8 c] w fun e w' => e = .returned (.int .i64 (dx c)) /\ w = w' := by
 have hv := Cb ⟨c, hc⟩;simp only at hv;generalize dx c = v at *
 by_cases a : 65 <= c
 ·have a' : (65 : Int) <= c := by omega
  by_cases b : c <= 70
  ·have b' : (c : Int) <= 70 := by omega
   rw [if_pos ⟨a, b⟩] at hv;have HV := aa hv;clear hv;go_enter Tryz.func92, Tryz.ntmps92;go_wp2_with fail;refine (fZ _ (c + 32) (by omega) v HV.out w).mono ?_;rintro e w' ⟨rfl, rfl⟩;go_wp2_with fail;go_ret;exact ⟨rfl, rfl⟩
  ·have b' : ¬ (c : Int) <= 70 := by omega
   rw [if_neg (by omega)] at hv;have HV := aa hv;clear hv;go_enter Tryz.func92, Tryz.ntmps92;go_wp2_with fail;refine (fZ _ c rfl v HV.out w).mono ?_;rintro e w' ⟨rfl, rfl⟩;go_wp2_with fail;go_ret;exact ⟨rfl, rfl⟩
 ·have a' : ¬ (65 : Int) <= c := by omega
  rw [if_neg (by omega)] at hv;have HV := aa hv;clear hv;go_enter Tryz.func92, Tryz.ntmps92;go_wp2_with fail;refine (fZ _ c rfl v HV.out w).mono ?_;rintro e w' ⟨rfl, rfl⟩;go_wp2_with fail;go_ret;exact ⟨rfl, rfl⟩
theorem oy (c : Nat) (hc : c < 256) (w : World) :
    Calls Tryz.prog 92 #[.int .u8 c] w fun e w' => e = .returned (.int .i64 (dx c)) /\ w' = w := (iM c hc w).mono fun _ _ ⟨h, k⟩ => ⟨h, k.symm⟩
theorem Cc : ∀ a b : Fin 16, bits BinOp.or IntKind.i64 ((a.val : Int) * 16) b.val % 256 = ((UInt8.ofNat ((a.val : Int) * (16 : Int) + b.val).toNat).toNat : Int) := by decide +kernel
theorem Br {a b : Int} (h1 : 0 <= a) (h2 : a <= 15) (h3 : 0 <= b) (h4 : b <= 15) : bits BinOp.or IntKind.i64 (a * 16) b % 256 = ((UInt8.ofNat (a * (16 : Int) + b).toNat).toNat : Int) := by
 have h := Cc ⟨a.toNat, by omega⟩ ⟨b.toNat, by omega⟩;simp only [Int.toNat_of_nonneg h1, Int.toNat_of_nonneg h3] at h;exact h
theorem oz (w : World) (n : Nat) : Below w.heap.size w (w.drewN n) := by
 induction n with
 | zero => exact Below.refl _ _
 | succ n ih => exact ih.drew
def fh (l : List UInt8) : Value := match bQ l with | none => .tuple #[.int .u8 0, .int .i64 0] | some (x, n) => .tuple #[.int .u8 x.toNat, .int .i64 n]
theorem rP (c : Nat) : dx c <= 15 := by unfold dx; (repeat' split) <;> omega
theorem Sq442724 {P : Prop} (h : P := by
 first
 | (guard_hyp z442724a; have q92 : (((s[1].toNat : Nat) : Int) == 92) = true := by simp; omega)
 | (have q39 : (((s[1].toNat : Nat) : Int) == 39) = true := by simp; omega)
 have HE := aa (show fh s.data.toList = _ from by unfold fh; rw [show bQ s.data.toList = some (UInt8.ofNat (nb s.data.toList 1), 2) from by (have hln : s.data.toList.length = s.size := by simp); have hx := HX1.out; unfold bQ; rw [if_neg (by omega), if_pos (by omega)]])
 first
 | (guard_hyp z442724a; clear a92)
 | (clear a39)
 rw [HE.out];go_enter Tryz.func74, Tryz.ntmps74;go_wp2_with fail
 go_ret2
 exact ⟨by rw [<- HX1.out]; simp, Below.refl _ _⟩) : P := h
theorem oA (s : ByteArray) (w : World) (hs : s.size <= 9223372036854770000) :
    Calls Tryz.prog 74 #[.string s] w fun e w' => e = .returned (fh s.data.toList) /\ Below w.heap.size w w' := by
 by_cases h1 : s.size < 2
 ·have q1 : (s.size : Int) < 2 := by omega
  have HE := aa (show fh s.data.toList = _ from by unfold fh; rw [show bQ s.data.toList = none from by (have hln : s.data.toList.length = s.size := by simp); unfold bQ; rw [if_pos (by omega)]]);rw [HE.out];go_enter Tryz.func74, Tryz.ntmps74;go_wp2_with fail
  go_ret2
  exact ⟨rfl, Below.refl _ _⟩
 have q1 : ¬ (s.size : Int) < 2 := by omega
 have HX1 : Hid (s[1].toNat = nb s.data.toList 1) := aa (dw s 1 (by omega));have hc1 : s[1].toNat < 256 := by have := s[1].toNat_lt; omega
 by_cases a92 : s[1].toNat = 92
 ·have z442724a := trivial;exact Sq442724
 have q92 : (((s[1].toNat : Nat) : Int) == 92) = false := by simp; omega
 by_cases a39 : s[1].toNat = 39
 ·exact Sq442724
 have q39 : (((s[1].toNat : Nat) : Int) == 39) = false := by simp; omega
 by_cases a110 : s[1].toNat = 110
 ·have q110 : (((s[1].toNat : Nat) : Int) == 110) = true := by simp; omega
  have HE := aa (show fh s.data.toList = _ from by unfold fh; rw [show bQ s.data.toList = some (10, 2) from by (have hln : s.data.toList.length = s.size := by simp); have hx := HX1.out; unfold bQ; rw [if_neg (by omega), if_neg (by omega), if_pos (by omega)]]);clear a110;rw [HE.out];go_enter Tryz.func74, Tryz.ntmps74;go_wp2_with fail
  go_ret2
  exact ⟨rfl, Below.refl _ _⟩
 have q110 : (((s[1].toNat : Nat) : Int) == 110) = false := by simp; omega
 by_cases a116 : s[1].toNat = 116
 ·have q116 : (((s[1].toNat : Nat) : Int) == 116) = true := by simp; omega
  have HE := aa (show fh s.data.toList = _ from by unfold fh; rw [show bQ s.data.toList = some (9, 2) from by (have hln : s.data.toList.length = s.size := by simp); have hx := HX1.out; unfold bQ; rw [if_neg (by omega), if_neg (by omega), if_neg (by omega), if_pos (by omega)]]);clear a116;rw [HE.out];go_enter Tryz.func74, Tryz.ntmps74;go_wp2_with fail
  go_ret2
  exact ⟨rfl, Below.refl _ _⟩
 have q116 : (((s[1].toNat : Nat) : Int) == 116) = false := by simp; omega
 by_cases a114 : s[1].toNat = 114
 ·have q114 : (((s[1].toNat : Nat) : Int) == 114) = true := by simp; omega
  have HE := aa (show fh s.data.toList = _ from by unfold fh; rw [show bQ s.data.toList = some (13, 2) from by (have hln : s.data.toList.length = s.size := by simp); have hx := HX1.out; unfold bQ; rw [if_neg (by omega), if_neg (by omega), if_neg (by omega), if_neg (by omega), if_pos (by omega)]]);clear a114;rw [HE.out];go_enter Tryz.func74, Tryz.ntmps74;go_wp2_with fail
  go_ret2
  exact ⟨rfl, Below.refl _ _⟩
 have q114 : (((s[1].toNat : Nat) : Int) == 114) = false := by simp; omega
 by_cases h4 : s.size < 4
 ·have q4 : (s.size : Int) < 4 := by omega
  have HE := aa (show fh s.data.toList = _ from by unfold fh; rw [show bQ s.data.toList = none from by (have hln : s.data.toList.length = s.size := by simp); have hx := HX1.out; unfold bQ; rw [if_neg (by omega), if_neg (by omega), if_neg (by omega), if_neg (by omega), if_neg (by omega), if_pos (.inl (by omega))]]);rw [HE.out];go_enter Tryz.func74, Tryz.ntmps74;go_wp2_with fail
  go_ret2
  exact ⟨rfl, Below.refl _ _⟩
 have q4 : ¬ (s.size : Int) < 4 := by omega
 by_cases a120 : s[1].toNat = 120
 rotate_left
 ·have q120 : (((s[1].toNat : Nat) : Int) != 120) = true := by simp; omega
  have HE := aa (show fh s.data.toList = _ from by unfold fh; rw [show bQ s.data.toList = none from by (have hln : s.data.toList.length = s.size := by simp); have hx := HX1.out; unfold bQ; rw [if_neg (by omega), if_neg (by omega), if_neg (by omega), if_neg (by omega), if_neg (by omega), if_pos (.inr (.inl (by omega)))]]);rw [HE.out];go_enter Tryz.func74, Tryz.ntmps74;go_wp2_with fail
  go_ret2
  exact ⟨rfl, Below.refl _ _⟩
 have q120 : (((s[1].toNat : Nat) : Int) != 120) = false := by simp; omega
 have g2 : 2 < s.size := by omega
 have g3 : 3 < s.size := by omega
 have HX2 : Hid (s[2].toNat = nb s.data.toList 2) := aa (dw s 2 (by omega));have HX3 : Hid (s[3].toNat = nb s.data.toList 3) := aa (dw s 3 (by omega));have A120 := aa a120;clear a120;have hc2 : s[2].toNat < 256 := by have := s[2].toNat_lt; omega
 have hc3 : s[3].toNat < 256 := by have := s[3].toNat_lt; omega
 have D2 := aa (iM s[2].toNat hc2);have D3 := aa (iM s[3].toNat hc3);have l2 := rP s[2].toNat;have l3 := rP s[3].toNat
 by_cases n2 : dx s[2].toNat < 0
 ·have n2x := n2;have HE := aa (show fh s.data.toList = _ from by unfold fh; rw [show bQ s.data.toList = none from by (have hln : s.data.toList.length = s.size := by simp); have hx := HX1.out; have cW := HX2.out; have hx3 := HX3.out; have a120 := A120.out; unfold bQ; rw [if_neg (by omega), if_neg (by omega), if_neg (by omega), if_neg (by omega), if_neg (by omega), if_pos (.inr (.inr (.inl (by rw [<- cW]; exact n2))))]]);rw [HE.out];go_enter Tryz.func74, Tryz.ntmps74;go_wp2_with fail;refine (D2.out w).mono ?_;rintro e w' ⟨rfl, rfl⟩;go_wp2_with fail
  go_ret2
  exact ⟨rfl, Below.refl _ _⟩
 by_cases n3 : dx s[3].toNat < 0
 ·have n3x := n3;have HE := aa (show fh s.data.toList = _ from by unfold fh; rw [show bQ s.data.toList = none from by (have hln : s.data.toList.length = s.size := by simp); have hx := HX1.out; have cW := HX2.out; have hx3 := HX3.out; have a120 := A120.out; unfold bQ; rw [if_neg (by omega), if_neg (by omega), if_neg (by omega), if_neg (by omega), if_neg (by omega), if_pos (.inr (.inr (.inr (by rw [<- hx3]; exact n3))))]]);rw [HE.out];go_enter Tryz.func74, Tryz.ntmps74;go_wp2_with fail;refine (D2.out w).mono ?_;rintro e w' ⟨rfl, rfl⟩;go_wp2_with fail;refine (D3.out w).mono ?_;rintro e w' ⟨rfl, rfl⟩;go_wp2_with fail
  go_ret2
  exact ⟨rfl, Below.refl _ _⟩
 ·have n4 : 0 <= dx s[2].toNat := by omega
  have n5 : 0 <= dx s[3].toNat := by omega
  have HE := aa (show fh s.data.toList = _ from by unfold fh; rw [show bQ s.data.toList = some (UInt8.ofNat (dx s[2].toNat * (16 : Int) + dx s[3].toNat).toNat, (4 : Nat)) from by (have hln : s.data.toList.length = s.size := by simp); have hx := HX1.out; have cW := HX2.out; have hx3 := HX3.out; have a120 := A120.out; unfold bQ; rw [if_neg (by omega), if_neg (by omega), if_neg (by omega), if_neg (by omega), if_neg (by omega), if_neg (by rw [<- cW, <- hx3]; omega), <- cW, <- hx3]]);rw [HE.out];go_enter Tryz.func74, Tryz.ntmps74;go_wp2_with fail;refine (D2.out w).mono ?_;rintro e w' ⟨rfl, rfl⟩;go_wp2_with fail;refine (D3.out w).mono ?_;rintro e w' ⟨rfl, rfl⟩;go_wp2_with fail
  go_quiet ((exact Calls.quiet_of_same (oy _ (by assumption) _)))
  have HO := aa (Br n4 l2 n5 l3);go_wp2_with fail
  go_ret2
  exact ⟨by rw [HO.out]; rfl, oz _ _⟩
end Go.Proofs.YteljlahcdipilaaGreat

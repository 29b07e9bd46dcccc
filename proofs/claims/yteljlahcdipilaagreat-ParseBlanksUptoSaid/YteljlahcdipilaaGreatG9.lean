/- Parts S19, S24, S18, S27, S28 of this seat (pruned, scripts that are alike kept once as default arguments: q1, q2, ..). Conditions: each says its own. -/
import Derived.Test.YteljlahcdipilaaGreatG2
import Derived.Test.YteljlahcdipilaaGreatG5
import Derived.Test.YteljlahcdipilaaGreatG8
set_option linter.unusedSimpArgs false
set_option linter.unusedVariables false
set_option maxRecDepth 1000000
set_option maxHeartbeats 64000000
namespace Go.Proofs.YteljlahcdipilaaGreat
open Go.RowKit Go.Shelf
theorem toList_data (s : ByteArray) : s.toList = s.data.toList := by
 have h := aE s.data.toList;rwa [fi] at h
def bf (c : Nat) : Bool := aV c || cP c
def gz (l : List UInt8) : Bool := decide (1 <= l.length /\ l.length <= 64 /\ aV (nb l 0) = true /\ ∀ k, k < l.length -> bf (nb l k) = true)
def oC (l : List UInt8) (i : Nat) : Prop := i <= l.length /\ (0 < i -> aV (nb l 0) = true) /\ ∀ k, k < i -> bf (nb l k) = true
theorem qz (l : List UInt8) : oC l 0 := ⟨by omega, fun h => by omega, fun k h => by omega⟩
theorem qA {l : List UInt8} {i : Nat} (h : oC l i) (hi : i < l.length) (h0 : i = 0 -> aV (nb l i) = true) (hc : bf (nb l i) = true) : oC l (i + 1) := by
 obtain ⟨h1, h2, h3⟩ := h;refine ⟨by omega, fun _ => ?_, fun k hk => ?_⟩
 ·by_cases hz : i = 0
  ·subst hz; exact h0 rfl
  ·exact h2 (by omega)
 ·by_cases hk2 : k = i
  ·subst hk2; exact hc
  ·exact h3 k (by omega)
theorem td {l : List UInt8} {i : Nat} (h : oC l i) (hi : l.length <= i) : gz l = decide (1 <= l.length /\ l.length <= 64) := by
 obtain ⟨h1, h2, h3⟩ := h;unfold gz;apply decide_eq_decide.2;constructor
 ·rintro ⟨a, b, _⟩; exact ⟨a, b⟩
 ·rintro ⟨a, b⟩; exact ⟨a, b, h2 (by omega), fun k hk => h3 k (by omega)⟩
theorem uY {l : List UInt8} {i : Nat} (hi : i < l.length) (h : bf (nb l i) = false \/ (i = 0 /\ aV (nb l i) = false)) : gz l = false := by
 apply decide_eq_false;rintro ⟨_, _, h3, h4⟩;rcases h with h | ⟨rfl, h⟩
 ·rw [h4 i hi] at h; cases h
 ·rw [h3] at h; cases h
theorem fj {c : Nat} (h : aV c = true) : bf c = true := by unfold bf; rw [h]; rfl
theorem qB {c : Nat} (h : cP c = true) : bf c = true := by unfold bf; rw [h, Bool.or_true]
theorem oD {c : Nat} (h : aV c = false) (k : cP c = false) : bf c = false := by unfold bf; rw [h, k]; rfl
theorem mU {r m c : Nat} (SM : r < 128 -> m = 1 /\ c = r) (BG : ¬ r < 128 -> ¬ c < 128) (h1 : ¬ (97 <= r /\ r <= 122)) (h2 : ¬ (65 <= r /\ r <= 90) /\ r ≠ 95 /\ ¬ (48 <= r /\ r <= 57)) : bf c = false := by
 by_cases hb : r < 128
 ·have hsm := SM hb;rw [hsm.2];exact oD (decide_eq_false (by omega)) (decide_eq_false (by omega))
 ·have := BG hb;exact oD (decide_eq_false (by omega)) (decide_eq_false (by omega))
theorem Sq687747 {P : Prop} (h : P := by
 first
 |(
  guard_hyp z687747b
  have d1 : (97 : Int) <= r := by omega
  by_cases c2 : r <= 122)
 |(
  have d3 : (65 : Int) <= r := by omega
  by_cases c4 : r <= 90)
 ·first
  | (guard_hyp z687747b; have d2 : (r : Int) <= 122 := by omega)
  | (have d4 : (r : Int) <= 90 := by omega)
  have t : True := trivial;have hsm := SM.out (by omega);have HM := aa hsm.1;have hlt : aV (nb s.data.toList i) = true := by rw [hsm.2]; exact decide_eq_true (by omega)
  have HU := aa (NX.out (fun _ => hlt) (fj hlt));clear hsm hlt;go_wp2_with fail;go_roundw;case rel => exact ⟨i + m, HIT2.out, HBW2.out, by rw [HM.out]; exact HU⟩
  case measure => simp only [World.iterPos, HIT2.out, HIT.out]; omega
 first
 |(
  guard_hyp z687747b
  have d2 : ¬ (r : Int) <= 122 := by omega
  have d3 : (65 : Int) <= r := by omega)
 | skip
 have d4 : ¬ (r : Int) <= 90 := by omega
 first
 |(
  guard_hyp z687747a
  by_cases c5 : r = 95
  ·have d5 : ((r : Int) == 95) = true := by simp; omega
   have C5 := aa c5;have hsm := SM.out (by omega);have HM := aa hsm.1;have hlt : aV (nb s.data.toList i) = true := by rw [hsm.2]; exact decide_eq_true (by omega)
   have HU := aa (NX.out (fun _ => hlt) (fj hlt));clear hsm hlt c5;go_wp2_with fail;go_roundw;case rel => exact ⟨i + m, HIT2.out, HBW2.out, by rw [HM.out]; exact HU⟩
   case measure => simp only [World.iterPos, HIT2.out, HIT.out]; omega)
 | skip
 have d5 : ((r : Int) == 95) = false := by simp; omega
 have d6 : ¬ (r : Int) < 48 := by omega
 have d7 : (57 : Int) < r := by omega
 have t : True := trivial;have HU := aa (NO.out (.inl (mU SM.out BG.out (by omega) (by omega))))
 by_cases hz : i = 0
 ·have hzb : ((i : Int) == 0) = true := by simp; omega
  clear hz;go_wp2_with fail;go_ret;exact ⟨by rw [<- HR.out, HU.out]; rfl, HBW2.out⟩
 ·have hzb : ((i : Int) == 0) = false := by simp; omega
  go_wp2_with fail;go_ret;exact ⟨by rw [<- HR.out, HU.out]; rfl, HBW2.out⟩) : P := h
theorem Sq930450 {P : Prop} (h : P := by
 first
 | (guard_hyp z930450a; have d6 : (r : Int) < 48 := by omega)
 | (have d7 : (57 : Int) < r := by omega)
 have t : True := trivial;have HU := aa (NO.out (.inl (mU SM.out BG.out (by omega) (by omega))))
 by_cases hz : i = 0
 ·have hzb : ((i : Int) == 0) = true := by simp; omega
  clear hz;go_wp2_with fail;go_ret;exact ⟨by rw [<- HR.out, HU.out]; rfl, HBW2.out⟩
 ·have hzb : ((i : Int) == 0) = false := by simp; omega
  go_wp2_with fail;go_ret;exact ⟨by rw [<- HR.out, HU.out]; rfl, HBW2.out⟩) : P := h
theorem lU (s : ByteArray) (w : World) (hs : s.size <= 1099511627776) :
    Calls Tryz.prog 72 #[.string s] w fun e w' => e = .returned (.bool (gz s.data.toList)) /\ Below w.heap.size w w' := by
 have HL : Hid (s.data.toList.length = s.size) := aa (by simp);obtain ⟨R, hR⟩ := nam (gz s.data.toList);have HR := aa hR;rw [hR];clear hR;go_enter Tryz.func72, Tryz.ntmps72;go_wp2_with fail
 go_loopw [] (fun wr => ∃ i : Nat, wr.heap[w.heap.size]? = some (.stringIter s i) /\ Below w.heap.size w wr /\ Hid (oC s.data.toList i)) (fun wr => s.size - wr.iterPos w.heap.size)
 case atStart =>
  refine ⟨0, ?_, (Below.refl _ w).alloc (Nat.le_refl _) _, aa (qz _)⟩;have := World.iter_heap w s 0;simpa using this
 case round =>
  obtain ⟨i, hit, hbw, hd⟩ := hrel;have hszr : w.heap.size < wr.heap.size := (Array.getElem?_eq_some_iff.1 hit).1;have HIT := aa hit;have HBW := aa hbw;clear hit hbw;have hil : i <= s.size := by have := hd.out.1; rw [HL.out] at this; exact this
  by_cases hp : i < s.size
  ·have hnx : ∀ ty, (Instr.next (.pointer (some ⟨w.heap.size, 0, none⟩)) true ty).run Tryz.prog wr = _ := fun ty => Lib.run_next_any_at wr w.heap.size s i ty HIT.out hp
   have hln : (s.data.toList.drop i).length ≠ 0 := by simp; omega
   have hdec := jO s i hp;have hmv : (if sg (s.data.toList.drop i) = 0 then 1 else sg (s.data.toList.drop i)) = dC (s.data.toList.drop i) := rfl;rw [hmv] at hdec;rw [hdec] at hnx;dsimp only at hnx;have hm1 := fq (s.data.toList.drop i);have hm2 := i9 hln;rw [List.length_drop] at hm2;simp only [Array.length_toList, ByteArray.size_data] at hm2;have X : Hid (nb (s.data.toList.drop i) 0 = nb s.data.toList i) := aa (by rw [cT, Nat.add_zero]);have SM : Hid (rv (s.data.toList.drop i) < 128 -> dC (s.data.toList.drop i) = 1 /\ nb s.data.toList i = rv (s.data.toList.drop i)) := aa (fun h => by
    have := gK hln h;exact ⟨by unfold dC; rw [if_neg (by omega)]; exact this.1, by rw [<- X.out]; exact this.2⟩)
   have BG : Hid (¬ rv (s.data.toList.drop i) < 128 -> ¬ nb s.data.toList i < 128) := aa (fun h h2 => h (by
    have h3 := eg.2 ⟨hln, by rw [X.out]; exact h2⟩;have h4 : rv (s.data.toList.drop i) = nb (s.data.toList.drop i) 0 := by unfold rv; rw [if_pos h3]
    rw [h4, X.out]; exact h2))
   have hrl : rv (s.data.toList.drop i) <= 2147483647 := by have := decode_le s i; rw [hdec] at this; exact this
   have NX := aa (qA hd.out (by rw [HL.out]; exact hp));have NO := aa (@uY s.data.toList i (by rw [HL.out]; exact hp));clear hln hdec hmv;generalize rv (s.data.toList.drop i) = r at *;generalize dC (s.data.toList.drop i) = m at *;have HIT2 := aa (Lib.iterAt_heap wr w.heap.size s i (i + m) HIT.out);have HBW2 := aa (Lib.below_iterAt HBW.out (k := w.heap.size) (by omega) s (i + m));generalize hWn : wr.iterAt w.heap.size s (i + m) = Wn at *;have HWn := aa hWn;clear hWn
   by_cases c1 : 97 <= r
   ·have z687747b := trivial;exact Sq687747
   have d1 : ¬ (97 : Int) <= r := by omega
   by_cases c3 : 65 <= r
   ·have z687747a := trivial;exact Sq687747
   have d3 : ¬ (65 : Int) <= r := by omega
   have d5 : ((r : Int) == 95) = false := by simp; omega
   by_cases c6 : r < 48
   ·have z930450a := trivial;exact Sq930450
   have d6 : ¬ (r : Int) < 48 := by omega
   by_cases c7 : 57 < r
   ·exact Sq930450
   have d7 : ¬ (57 : Int) < r := by omega
   have hsm := SM.out (by omega);have HM := aa hsm.1;have hdg : cP (nb s.data.toList i) = true := by rw [hsm.2]; exact decide_eq_true (by omega)
   have hnl : aV (nb s.data.toList i) = false := by rw [hsm.2]; exact decide_eq_false (by omega)
   by_cases hz : i = 0
   ·have hzb : ((i : Int) == 0) = true := by simp; omega
    have HU := aa (NO.out (.inr ⟨hz, hnl⟩));clear hz hsm hdg hnl;go_wp2_with fail;go_ret;exact ⟨by rw [<- HR.out, HU.out]; rfl, HBW2.out⟩
   ·have hzb : ((i : Int) == 0) = false := by simp; omega
    have HU := aa (NX.out (fun h => absurd h hz) (qB hdg));clear hsm hdg hnl;go_wp2_with fail;go_roundw;case rel => exact ⟨i + m, HIT2.out, HBW2.out, by rw [HM.out]; exact HU⟩
    case measure => simp only [World.iterPos, HIT2.out, HIT.out]; omega
  ·have hnx : ∀ ty, (Instr.next (.pointer (some ⟨w.heap.size, 0, none⟩)) true ty).run Tryz.prog wr = _ := fun ty => Lib.run_next_end_at wr w.heap.size s i ty HIT.out hp
   have HE := aa (td hd.out (by rw [HL.out]; omega));have hle : s.toList.length = s.size := by rw [<- HL.out, toList_data]
   by_cases he : s.size = 0
   ·have k1 : s.toList = [] := List.length_eq_zero_iff.1 (by omega);have HF : Hid (R = false) := aa (by rw [<- HR.out, HE.out, HL.out]; exact decide_eq_false (by omega));have k1b : s.toList.isEmpty = true := by rw [k1]; rfl
    clear hle k1;go_wp2_with fail;go_ret;exact ⟨by rw [HF.out]; rfl, HBW.out⟩
   ·have k1 : ¬ s.toList = [] := fun h => by rw [h] at hle; simp at hle; omega
    have k1b : s.toList.isEmpty = false := by rw [List.isEmpty_eq_false_iff]; exact k1
    clear hle
    by_cases h64 : s.size <= 64
    ·have k2 : (s.size : Int) <= 64 := by omega
     have HF : Hid (R = true) := aa (by rw [<- HR.out, HE.out, HL.out]; exact decide_eq_true (by omega));go_wp2_with fail;go_ret;exact ⟨by rw [HF.out]; rfl, HBW.out⟩
    ·have k2 : ¬ (s.size : Int) <= 64 := by omega
     have HF : Hid (R = false) := aa (by rw [<- HR.out, HE.out, HL.out]; exact decide_eq_false (by omega));go_wp2_with fail;go_ret;exact ⟨by rw [HF.out]; rfl, HBW.out⟩
inductive mX : Vt -> Prop
  | mk (k : Int) (b : Bool) (i : Int) (s : ByteArray) (l : List Vt) (ks : List ByteArray) (h1 : 0 <= k) (h2 : k <= 7) (h3 : k = 5 -> ks.length = l.length) (h4 : aS k b i s l.length ks.length = true) (h5 : ∀ (j : Nat) u, l[j]? = some u -> mX u) : mX (.mk k b i s l ks)
theorem mX.head {k : Int} {b : Bool} {i : Int} {s : ByteArray} {l : List Vt} {ks : List ByteArray} (h : mX (.mk k b i s l ks)) : 0 <= k /\ k <= 7 /\ (k = 5 -> ks.length = l.length) /\ ∀ (j : Nat) u, l[j]? = some u -> mX u := by
 cases h with
 | mk _ _ _ _ _ _ h1 h2 h3 h4 h5 => exact ⟨h1, h2, h3, h5⟩
theorem mX.of_may (t : Vt) : ∀ d p, (eF t d p).2 = true -> mX t := by
 refine t.down (p := fun t => ∀ d p, (eF t d p).2 = true -> mX t) fun k b i s l ks ih d p h => ?_
 obtain ⟨k', b', i', s', l', ks', he, hh, hp⟩ := qj h;injection he with e1 e2 e3 e4 e5 e6
 subst e1 e2 e3 e4 e5 e6;have h9 := of_decide_eq_true hh;exact .mk _ _ _ _ _ _ h9.2.2.1 h9.2.2.2.1 (fun h5 => (h9.2.2.2.2.2.2 h5).1) h9.2.2.2.2.1 (fun j u hu => by obtain ⟨q, hq⟩ := hp j u hu; exact ih j u hu _ _ hq)
end Go.Proofs.YteljlahcdipilaaGreat
namespace Go.Proofs.YteljlahcdipilaaGreat
open Go.RowKit
theorem Cd {l : List UInt8} (h1 : 194 <= nb l 0) (h2 : nb l 0 < 224) (h3 : tl l 1 = true) : sg l = 2 := by
 have := (gY.1 h3).1;unfold sg;rw [if_neg (by omega), if_neg (by omega), if_neg (by rw [h3]; simp; omega), if_pos h2]
theorem Ce {l : List UInt8} (h1 : 224 <= nb l 0) (h2 : nb l 0 < 240) (h3 : tl l 1 = true) (h4 : tl l 2 = true) (h5 : ¬ (nb l 0 = 224 /\ nb l 1 < 160)) (h6 : ¬ (nb l 0 = 237 /\ 160 <= nb l 1)) : sg l = 3 := by
 have := (gY.1 h3).1;unfold sg;rw [if_neg (by omega), if_neg (by omega), if_neg (by rw [h3]; simp; omega), if_neg (by omega), if_neg (by rw [h4]; simp only [Bool.true_eq_false, false_or]; omega), if_pos h2]
theorem Cf {l : List UInt8} (h1 : 240 <= nb l 0) (h2 : nb l 0 <= 244) (h3 : tl l 1 = true) (h4 : tl l 2 = true) (h7 : tl l 3 = true) (h5 : ¬ (nb l 0 = 240 /\ nb l 1 < 144)) (h6 : ¬ (nb l 0 = 244 /\ 144 <= nb l 1)) : sg l = 4 := by
 have := (gY.1 h3).1;unfold sg;rw [if_neg (by omega), if_neg (by omega), if_neg (by rw [h3]; simp; omega), if_neg (by omega), if_neg (by rw [h4]; simp only [Bool.true_eq_false, false_or]; omega), if_neg (by omega), if_neg (by rw [h7]; simp only [Bool.true_eq_false, false_or]; omega)]
theorem jb (l r : List UInt8) (n k : Nat) (h : k < n) (hn : n <= l.length) : nb (l.take n ++ r) k = nb l k := by
 unfold nb;rw [List.getElem?_append_left (by rw [List.length_take]; omega), List.getElem?_take, if_pos h]
theorem hZ (l r : List UInt8) (n k : Nat) (h : k < n) (hn : n <= l.length) (ht : 128 <= nb l k /\ nb l k < 192) : tl (l.take n ++ r) k = true := by
 rw [gY, jb l r n k h hn, List.length_append, List.length_take];exact ⟨by omega, ht⟩
theorem mY {l : List UInt8} (r : List UInt8) (h : sg l ≠ 0) : sg (l.take (sg l) ++ r) = sg l := by
 obtain ⟨f2, f3, f4⟩ := gI (l := l);have hle := dU (l := l);have hc : sg l = 1 \/ sg l = 2 \/ sg l = 3 \/ sg l = 4 := by omega
 have n0 : nb (l.take (sg l) ++ r) 0 = nb l 0 := jb l r _ 0 (by omega) hle.2;rcases hc with e | e | e | e
 ·have h1 := (eg.1 e).2;rw [e] at n0 hle ⊢;exact eg.2 ⟨by rw [List.length_append, List.length_take]; omega, by omega⟩
 ·have h1 := f2 e;rw [e] at n0 hle ⊢;exact Cd (by omega) (by omega) (hZ l r 2 1 (by omega) hle.2 h1.2.2)
 ·have h1 := f3 e;rw [e] at n0 hle ⊢;have n1 := jb l r 3 1 (by omega) hle.2;exact Ce (by omega) (by omega) (hZ l r 3 1 (by omega) hle.2 h1.2.2.1) (hZ l r 3 2 (by omega) hle.2 h1.2.2.2.1) (by rw [n0, n1]; exact h1.2.2.2.2.1) (by rw [n0, n1]; exact h1.2.2.2.2.2)
 ·have h1 := f4 e;rw [e] at n0 hle ⊢;have n1 := jb l r 4 1 (by omega) hle.2;exact Cf (by omega) (by omega) (hZ l r 4 1 (by omega) hle.2 h1.2.2.1) (hZ l r 4 2 (by omega) hle.2 h1.2.2.2.1) (hZ l r 4 3 (by omega) hle.2 h1.2.2.2.2.1) (by rw [n0, n1]; exact h1.2.2.2.2.2.1) (by rw [n0, n1]; exact h1.2.2.2.2.2.2)
theorem uZ : ∀ k : Fin 16, dx (lF k.val).toNat = k.val /\ 48 <= (lF k.val).toNat /\ (lF k.val).toNat < 127 := by decide
theorem Bu (k : Nat) (h : k < 16) : dx (lF k).toNat = k /\ 48 <= (lF k).toNat /\ (lF k).toNat < 127 := uZ ⟨k, h⟩
theorem oE (c : Nat) (hc : c < 256) (r : List UInt8) : bQ ([92, 120] ++ cW c ++ r) = some (UInt8.ofNat c, 4) := by
 have a := Bu (c / 16) (by omega);have b := Bu (c % 16) (by omega);have e : [92, 120] ++ cW c ++ r = 92 :: 120 :: lF (c / 16) :: lF (c % 16) :: r := rfl;have n2 : nb (92 :: 120 :: lF (c / 16) :: lF (c % 16) :: r) 2 = (lF (c / 16)).toNat := rfl;have n3 : nb (92 :: 120 :: lF (c / 16) :: lF (c % 16) :: r) 3 = (lF (c % 16)).toNat := rfl;rw [e, uX (by simp) rfl (by rw [n2, a.1]; omega) (by rw [n3, b.1]; omega), n2, n3, a.1, b.1];rw [show (((c / 16 : Nat) : Int) * (16 : Int) + ((c % 16 : Nat) : Int)).toNat = c from by omega]
theorem fS {l : List UInt8} (h : l.length ≠ 0) : l.take 1 = [UInt8.ofNat (nb l 0)] := by
 rw [rN l 1 (by omega)]; rfl
theorem jv {l r : List UInt8} {x : UInt8} {n : Nat} (h0 : l.length ≠ 0) (h : nb l 0 = 92) (he : bQ l = some (x, n)) (hr : l.drop n = r) : qd l = (qd r).map fun p => ([x] ++ p.1, p.2) := by
 have h1 := eg.2 ⟨h0, show nb l 0 < 128 by omega⟩;rw [ku, if_neg h0, if_neg (by omega), if_neg (by unfold bad; omega), if_pos h, he];dsimp only;rw [hr];rfl
theorem vd (l r : List UInt8) (h0 : l.length ≠ 0) : qd (fP l ++ r) = (qd r).map fun p => (l.take (dC l) ++ p.1, p.2) := by
 have hb := fH l 0;have hs1 : ∀ k, nb l 0 = k -> k < 128 -> sg l = 1 := fun k h1 h2 => eg.2 ⟨h0, by omega⟩
 have hst : (sg l = 0 \/ nb l 0 < 128) -> dC l = 1 := fun h => by
  unfold dC;rcases h with h | h
  ·rw [if_pos h]
  ·have := hs1 _ rfl h;rw [if_neg (by omega)]; exact this
 unfold fP
 by_cases a1 : sg l = 0 \/ nb l 0 = 127
 ·rw [if_pos a1, hst (by omega), fS h0];exact jv (by simp) rfl (oE _ hb r) rfl
 rw [if_neg a1]
 by_cases a2 : nb l 0 = 39 \/ nb l 0 = 92
 ·rw [if_pos a2, hst (by omega), fS h0];have n1 : nb ([92, UInt8.ofNat (nb l 0)] ++ r) 1 = nb l 0 := by
   show (UInt8.ofNat (nb l 0)).toNat = _;simp; omega
  have e := uT (l := [92, UInt8.ofNat (nb l 0)] ++ r) (by simp) (by rw [n1]; omega);rw [n1] at e;exact jv (by simp) rfl e rfl
 rw [if_neg a2]
 by_cases a3 : nb l 0 = 10
 ·rw [if_pos a3, hst (by omega), fS h0, a3];exact jv (by simp) rfl (uU (by simp) rfl) rfl
 rw [if_neg a3]
 by_cases a4 : nb l 0 = 9
 ·rw [if_pos a4, hst (by omega), fS h0, a4];exact jv (by simp) rfl (uV (by simp) rfl) rfl
 rw [if_neg a4]
 by_cases a5 : nb l 0 = 13
 ·rw [if_pos a5, hst (by omega), fS h0, a5];exact jv (by simp) rfl (uW (by simp) rfl) rfl
 rw [if_neg a5]
 by_cases a6 : nb l 0 < 32
 ·rw [if_pos a6, hst (by omega), fS h0];exact jv (by simp) rfl (oE _ hb r) rfl
 rw [if_neg a6];have h1 : sg l ≠ 0 := fun e => a1 (.inl e)
 have h2 := dU (l := l);have hS := mY r h1;have n0 := jb l r (sg l) 0 (by omega) h2.2;have hbd : ¬ bad (l.take (sg l) ++ r) := by unfold bad; rw [hS, n0]; omega
 rw [ku, if_neg (by rw [List.length_append, List.length_take]; omega), n0, if_neg (by omega), if_neg hbd, if_neg (by omega), hS];rw [show dC l = sg l from by unfold dC; rw [if_neg h1]];have h3 : (l.take (sg l)).length = sg l := by rw [List.length_take]; omega
 rw [List.drop_append_of_le_length (by omega), List.take_append_of_le_length (by omega), List.take_take, Nat.min_self];rw [List.drop_of_length_le (by omega), List.nil_append]
theorem ve (r : List UInt8) : ∀ (k : Nat) (l : List UInt8), l.length = k -> qd (dD l ++ 39 :: r) = some (l, r) := by
 intro k
 induction k using Nat.strongRecOn with
 | _ k ih =>
  intro l hl
  by_cases h0 : l.length = 0
  ·rw [iL h0, List.length_eq_zero_iff.1 h0, List.nil_append, ku, if_neg (by simp), if_pos (show nb (39 :: r) 0 = 39 from rfl)]; rfl
  ·have h1 := fq l;rw [gJ h0, List.append_assoc, vd l _ h0, ih _ (by rw [List.length_drop]; omega) (l.drop (dC l)) rfl];simp
def An (t : Vt) : Prop := ∃ B w cs, dR B w cs t
theorem An.head {k : Int} {b : Bool} {i : Int} {s : ByteArray} {l : List Vt} {ks : List ByteArray} (h : An (.mk k b i s l ks)) : dP i /\ ∀ (j : Nat) u, l[j]? = some u -> An u := by
 obtain ⟨B, w, cs, h⟩ := h;unfold dR at h;obtain ⟨la, lc, ka, kc, -, -, h2, -, -, -, -, -, hL⟩ := h;exact ⟨h2, fun j u hu => by obtain ⟨_, _, cs', _, _, _, hV⟩ := hL.get j u hu; exact ⟨_, _, cs', hV⟩⟩
end Go.Proofs.YteljlahcdipilaaGreat

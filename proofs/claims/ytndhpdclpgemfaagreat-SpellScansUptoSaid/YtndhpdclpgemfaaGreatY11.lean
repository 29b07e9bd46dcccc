/- Parts S19, L1, L3, L4, L5 of this seat (pruned, scripts that are alike kept once as default arguments: q1, q2, ..). Conditions: each says its own. -/
import Derived.Lib.IndexMore
import Derived.Lib.IndexLaws
import Derived.Laws.IdiomStrings
import Derived.Test.YtndhpdclpgemfaaGreatY10
namespace Go.Proofs.YtndhpdclpgemfaaGreat
open Go.RowKit Go.Shelf
set_option linter.unusedSimpArgs false
set_option linter.unusedVariables false
theorem toList_data (s : ByteArray) : s.toList = s.data.toList := by
 have h := strOf_list s.data.toList
 rwa [strOf_toList] at h
def nchar (c : Nat) : Bool := letter c || digt c
def nameB (l : List UInt8) : Bool := decide (1 ≤ l.length ∧ l.length ≤ 64 ∧ letter (nb l 0) = true ∧ ∀ k, k < l.length → nchar (nb l k) = true)
def DoneN (l : List UInt8) (i : Nat) : Prop := i ≤ l.length ∧ (0 < i → letter (nb l 0) = true) ∧ ∀ k, k < i → nchar (nb l k) = true
theorem doneN_zero (l : List UInt8) : DoneN l 0 := ⟨by omega, fun h => by omega, fun k h => by omega⟩
theorem doneN_step {l : List UInt8} {i : Nat} (h : DoneN l i) (hi : i < l.length) (h0 : i = 0 → letter (nb l i) = true) (hc : nchar (nb l i) = true) : DoneN l (i + 1) := by
 obtain ⟨h1, h2, h3⟩ := h
 refine ⟨by omega, fun _ => ?_, fun k hk => ?_⟩
 ·by_cases hz : i = 0
  ·subst hz; exact h0 rfl
  ·exact h2 (by omega)
 ·by_cases hk2 : k = i
  ·subst hk2; exact hc
  ·exact h3 k (by omega)
theorem doneN_end {l : List UInt8} {i : Nat} (h : DoneN l i) (hi : l.length ≤ i) : nameB l = decide (1 ≤ l.length ∧ l.length ≤ 64) := by
 obtain ⟨h1, h2, h3⟩ := h
 unfold nameB
 apply decide_eq_decide.2
 constructor
 ·rintro ⟨a, b, _⟩; exact ⟨a, b⟩
 ·rintro ⟨a, b⟩; exact ⟨a, b, h2 (by omega), fun k hk => h3 k (by omega)⟩
theorem nameB_no {l : List UInt8} {i : Nat} (hi : i < l.length) (h : nchar (nb l i) = false ∨ (i = 0 ∧ letter (nb l i) = false)) : nameB l = false := by
 apply decide_eq_false
 rintro ⟨_, _, h3, h4⟩
 rcases h with h | ⟨rfl, h⟩
 ·rw [h4 i hi] at h; cases h
 ·rw [h3] at h; cases h
theorem letter_nchar {c : Nat} (h : letter c = true) : nchar c = true := by unfold nchar; rw [h]; rfl
theorem digt_nchar {c : Nat} (h : digt c = true) : nchar c = true := by unfold nchar; rw [h, Bool.or_true]
theorem nchar_no {c : Nat} (h : letter c = false) (k : digt c = false) : nchar c = false := by unfold nchar; rw [h, k]; rfl
set_option maxRecDepth 1000000 in
set_option maxHeartbeats 2000000 in
theorem rname_any (s : ByteArray) (w : World) (hs : s.size ≤ 1099511627776) :
    Calls Tryz.prog 96 #[.string s] w fun e w' => e = .returned (.bool (nameB s.data.toList)) ∧ w = w' := by
 have HL : Hid (s.data.toList.length = s.size) := Lib.hid (by simp)
 obtain ⟨R, hR⟩ := nam (nameB s.data.toList)
 have HR := Lib.hid hR
 rw [hR]
 clear hR
 by_cases h1 : s.size < 1
 ·have q1 : (s.size : Int) < 1 := by omega
  have HN : Hid (R = false) := Lib.hid (by rw [← HR.out]; exact decide_eq_false (by rw [HL.out]; omega))
  obtain rfl := HN.out
  go_enter Tryz.func96, Tryz.ntmps96
  go_wp2_with fail
  go_ret
  exact ⟨rfl, rfl⟩
 have q1 : ¬ (s.size : Int) < 1 := by omega
 by_cases h64 : 64 < s.size
 ·have q2 : (64 : Int) < s.size := by omega
  have HN : Hid (R = false) := Lib.hid (by rw [← HR.out]; exact decide_eq_false (by rw [HL.out]; omega))
  obtain rfl := HN.out
  go_enter Tryz.func96, Tryz.ntmps96
  go_wp2_with fail
  go_ret
  exact ⟨rfl, rfl⟩
 have q2 : ¬ (64 : Int) < s.size := by omega
 have q2d : decide ((64 : Int) < s.size) = false := by simp; omega
 have q1d : decide ((s.size : Int) < 1) = false := by simp; omega
 have g0 : 0 < s.size := by omega
 have hc0 : s[0].toNat < 256 := by have := s[0].toNat_lt; omega
 have X0 : Hid (s[0].toNat = nb s.data.toList 0) := Lib.hid (nb_get s 0 g0)
 have L0 := Lib.hid (letter_any s[0].toNat hc0 w)
 cases hl : letter s[0].toNat with
 | false =>
  rw [hl] at L0
  have HN : Hid (R = false) := Lib.hid (by rw [← HR.out]; exact nameB_no (i := 0) (by rw [HL.out]; omega) (.inr ⟨rfl, by rw [← X0.out]; exact hl⟩))
  clear hl
  obtain rfl := HN.out
  go_enter Tryz.func96, Tryz.ntmps96
  go_wp2_with fail
  refine L0.out.mono ?_
  rintro e w8 ⟨rfl, rfl⟩
  go_wp2_with fail
  go_ret
  exact ⟨rfl, rfl⟩
 | true =>
  rw [hl] at L0
  have HL0 : Hid (letter (nb s.data.toList 0) = true) := Lib.hid (by rw [← X0.out]; exact hl)
  clear hl
  go_enter Tryz.func96, Tryz.ntmps96
  go_wp2_with fail
  refine L0.out.mono ?_
  rintro e w8 ⟨rfl, rfl⟩
  go_wp2_with fail
  go_loop [3] (fun k => ∃ i : Nat, k = .int .i64 i ∧ Hid (DoneN s.data.toList i)) (fun k => s.size - (intOf k).toNat)
  case atStart => exact ⟨0, rfl, Lib.hid (doneN_zero _)⟩
  case round =>
   obtain ⟨i, rfl, hd⟩ := hrel
   have hil : i ≤ s.size := by have := hd.out.1; rw [HL.out] at this; exact this
   by_cases hp : i < s.size
   ·have hp' : (i : Int) < s.size := by omega
    have hc : s[i].toNat < 256 := by have := s[i].toNat_lt; omega
    have X : Hid (s[i].toNat = nb s.data.toList i) := Lib.hid (nb_get s i hp)
    have HLi := Lib.hid (letter_any s[i].toNat hc w)
    have HDi := Lib.hid (digit_any s[i].toNat hc w)
    have NX := Lib.hid (fun a => doneN_step hd.out (by rw [HL.out]; exact hp) (fun e => by subst e; exact HL0.out) a)
    cases hl : letter s[i].toNat with
    | true =>
     rw [hl] at HLi
     have HU := Lib.hid (NX.out (by rw [← X.out]; exact letter_nchar hl))
     clear hl
     go_wp2_with fail
     refine HLi.out.mono ?_
     rintro e w8 ⟨rfl, rfl⟩
     go_wp2_with fail
     go_round
     case rel => exact ⟨i + 1, by go_num, HU⟩
     case measure => simp [intOf]; omega
    | false =>
     rw [hl] at HLi
     cases hg : digt s[i].toNat with
     | true =>
      rw [hg] at HDi
      have HU := Lib.hid (NX.out (by rw [← X.out]; exact digt_nchar hg))
      clear hl hg
      go_wp2_with fail
      refine HLi.out.mono ?_
      rintro e w8 ⟨rfl, rfl⟩
      go_wp2_with fail
      refine HDi.out.mono ?_
      rintro e w8 ⟨rfl, rfl⟩
      go_wp2_with fail
      go_round
      case rel => exact ⟨i + 1, by go_num, HU⟩
      case measure => simp [intOf]; omega
     | false =>
      rw [hg] at HDi
      have HN : Hid (R = false) := Lib.hid (by rw [← HR.out]; exact nameB_no (i := i) (by rw [HL.out]; omega) (.inl (by rw [← X.out]; exact nchar_no hl hg)))
      clear hl hg
      go_wp2_with fail
      refine HLi.out.mono ?_
      rintro e w8 ⟨rfl, rfl⟩
      go_wp2_with fail
      refine HDi.out.mono ?_
      rintro e w8 ⟨rfl, rfl⟩
      go_wp2_with fail
      go_ret
      exact ⟨by rw [HN.out]; rfl, rfl⟩
   ·have hp' : ¬ (i : Int) < s.size := by omega
    have HN : Hid (R = true) := Lib.hid (by rw [← HR.out, doneN_end hd.out (by rw [HL.out]; omega), HL.out]; exact decide_eq_true (by omega))
    go_wp2_with fail
    go_ret
    exact ⟨by rw [HN.out]; rfl, rfl⟩
theorem big_no {r m c : Nat} (SM : r < 128 → m = 1 ∧ c = r) (BG : ¬ r < 128 → ¬ c < 128) (h1 : ¬ (97 ≤ r ∧ r ≤ 122)) (h2 : ¬ (65 ≤ r ∧ r ≤ 90) ∧ r ≠ 95 ∧ ¬ (48 ≤ r ∧ r ≤ 57)) : nchar c = false := by
 by_cases hb : r < 128
 ·have hsm := SM hb
  rw [hsm.2]
  exact nchar_no (decide_eq_false (by omega)) (decide_eq_false (by omega))
 ·have := BG hb
  exact nchar_no (decide_eq_false (by omega)) (decide_eq_false (by omega))
theorem Sq36 {P : Prop} (h : P := by
 first
 |(
  guard_hyp z36b
  have d1 : (97 : Int) ≤ r := by omega
  by_cases c2 : r ≤ 122)
 |(
  have d3 : (65 : Int) ≤ r := by omega
  by_cases c4 : r ≤ 90)
 ·first
  | (guard_hyp z36b; have d2 : (r : Int) ≤ 122 := by omega)
  | (have d4 : (r : Int) ≤ 90 := by omega)
  have t : True := trivial
  have hsm := SM.out (by omega)
  have HM := Lib.hid hsm.1
  have hlt : letter (nb s.data.toList i) = true := by rw [hsm.2]; exact decide_eq_true (by omega)
  have HU := Lib.hid (NX.out (fun _ => hlt) (letter_nchar hlt))
  clear hsm hlt
  go_wp2_with fail
  go_roundw
  case rel => exact ⟨i + m, HIT2.out, HBW2.out, by rw [HM.out]; exact HU⟩
  case measure => simp only [World.iterPos, HIT2.out, HIT.out]; omega
 first
 |(
  guard_hyp z36b
  have d2 : ¬ (r : Int) ≤ 122 := by omega
  have d3 : (65 : Int) ≤ r := by omega)
 | skip
 have d4 : ¬ (r : Int) ≤ 90 := by omega
 first
 |(
  guard_hyp z36a
  by_cases c5 : r = 95
  ·have d5 : ((r : Int) == 95) = true := by simp; omega
   have C5 := Lib.hid c5
   have hsm := SM.out (by omega)
   have HM := Lib.hid hsm.1
   have hlt : letter (nb s.data.toList i) = true := by rw [hsm.2]; exact decide_eq_true (by omega)
   have HU := Lib.hid (NX.out (fun _ => hlt) (letter_nchar hlt))
   clear hsm hlt c5
   go_wp2_with fail
   go_roundw
   case rel => exact ⟨i + m, HIT2.out, HBW2.out, by rw [HM.out]; exact HU⟩
   case measure => simp only [World.iterPos, HIT2.out, HIT.out]; omega)
 | skip
 have d5 : ((r : Int) == 95) = false := by simp; omega
 have d6 : ¬ (r : Int) < 48 := by omega
 have d7 : (57 : Int) < r := by omega
 have t : True := trivial
 have HU := Lib.hid (NO.out (.inl (big_no SM.out BG.out (by omega) (by omega))))
 by_cases hz : i = 0
 ·have hzb : ((i : Int) == 0) = true := by simp; omega
  clear hz
  go_wp2_with fail
  go_ret
  exact ⟨by rw [← HR.out, HU.out]; rfl, HBW2.out⟩
 ·have hzb : ((i : Int) == 0) = false := by simp; omega
  go_wp2_with fail
  go_ret
  exact ⟨by rw [← HR.out, HU.out]; rfl, HBW2.out⟩) : P := h
theorem Sq69 {P : Prop} (h : P := by
 first
 | (guard_hyp z69a; have d6 : (r : Int) < 48 := by omega)
 | (have d7 : (57 : Int) < r := by omega)
 have t : True := trivial
 have HU := Lib.hid (NO.out (.inl (big_no SM.out BG.out (by omega) (by omega))))
 by_cases hz : i = 0
 ·have hzb : ((i : Int) == 0) = true := by simp; omega
  clear hz
  go_wp2_with fail
  go_ret
  exact ⟨by rw [← HR.out, HU.out]; rfl, HBW2.out⟩
 ·have hzb : ((i : Int) == 0) = false := by simp; omega
  go_wp2_with fail
  go_ret
  exact ⟨by rw [← HR.out, HU.out]; rfl, HBW2.out⟩) : P := h
set_option maxRecDepth 1000000 in
set_option maxHeartbeats 4000000 in
theorem sname_any (s : ByteArray) (w : World) (hs : s.size ≤ 1099511627776) :
    Calls Tryz.prog 91 #[.string s] w fun e w' => e = .returned (.bool (nameB s.data.toList)) ∧ Below w.heap.size w w' := by
 have HL : Hid (s.data.toList.length = s.size) := Lib.hid (by simp)
 obtain ⟨R, hR⟩ := nam (nameB s.data.toList)
 have HR := Lib.hid hR
 rw [hR]
 clear hR
 go_enter Tryz.func91, Tryz.ntmps91
 go_wp2_with fail
 go_loopw [] (fun wr => ∃ i : Nat, wr.heap[w.heap.size]? = some (.stringIter s i) ∧ Below w.heap.size w wr ∧ Hid (DoneN s.data.toList i)) (fun wr => s.size - wr.iterPos w.heap.size)
 case atStart =>
  refine ⟨0, ?_, (Below.refl _ w).alloc (Nat.le_refl _) _, Lib.hid (doneN_zero _)⟩
  have := World.iter_heap w s 0
  simpa using this
 case round =>
  obtain ⟨i, hit, hbw, hd⟩ := hrel
  have hszr : w.heap.size < wr.heap.size := (Array.getElem?_eq_some_iff.1 hit).1
  have HIT := Lib.hid hit
  have HBW := Lib.hid hbw
  clear hit hbw
  have hil : i ≤ s.size := by have := hd.out.1; rw [HL.out] at this; exact this
  by_cases hp : i < s.size
  ·have hnx : ∀ ty, (Instr.next (.pointer (some ⟨w.heap.size, 0, none⟩)) true ty).run Tryz.prog wr = _ := fun ty => Lib.run_next_any_at wr w.heap.size s i ty HIT.out hp
   have hln : (s.data.toList.drop i).length ≠ 0 := by simp; omega
   have hdec := decode_spec s i hp
   have hmv : (if sg (s.data.toList.drop i) = 0 then 1 else sg (s.data.toList.drop i)) = stepQ (s.data.toList.drop i) := rfl
   rw [hmv] at hdec
   rw [hdec] at hnx
   dsimp only at hnx
   have hm1 := stepQ_pos (s.data.toList.drop i)
   have hm2 := stepQ_le hln
   rw [List.length_drop] at hm2
   simp only [Array.length_toList, ByteArray.size_data] at hm2
   have X : Hid (nb (s.data.toList.drop i) 0 = nb s.data.toList i) := Lib.hid (by rw [nb_drop, Nat.add_zero])
   have SM : Hid (rv (s.data.toList.drop i) < 128 → stepQ (s.data.toList.drop i) = 1 ∧ nb s.data.toList i = rv (s.data.toList.drop i)) := Lib.hid (fun h => by
    have := rv_small hln h
    exact ⟨by unfold stepQ; rw [if_neg (by omega)]; exact this.1, by rw [← X.out]; exact this.2⟩)
   have BG : Hid (¬ rv (s.data.toList.drop i) < 128 → ¬ nb s.data.toList i < 128) := Lib.hid (fun h h2 => h (by
    have h3 := sg_one.2 ⟨hln, by rw [X.out]; exact h2⟩
    have h4 : rv (s.data.toList.drop i) = nb (s.data.toList.drop i) 0 := by unfold rv; rw [if_pos h3]
    rw [h4, X.out]; exact h2))
   have hrl : rv (s.data.toList.drop i) ≤ 2147483647 := by have := decode_le s i; rw [hdec] at this; exact this
   have NX := Lib.hid (doneN_step hd.out (by rw [HL.out]; exact hp))
   have NO := Lib.hid (@nameB_no s.data.toList i (by rw [HL.out]; exact hp))
   clear hln hdec hmv
   generalize rv (s.data.toList.drop i) = r at *
   generalize stepQ (s.data.toList.drop i) = m at *
   have HIT2 := Lib.hid (Lib.iterAt_heap wr w.heap.size s i (i + m) HIT.out)
   have HBW2 := Lib.hid (Lib.below_iterAt HBW.out (k := w.heap.size) (by omega) s (i + m))
   generalize hWn : wr.iterAt w.heap.size s (i + m) = Wn at *
   have HWn := Lib.hid hWn
   clear hWn
   by_cases c1 : 97 ≤ r
   ·have z36b := trivial
    exact Sq36
   have d1 : ¬ (97 : Int) ≤ r := by omega
   by_cases c3 : 65 ≤ r
   ·have z36a := trivial
    exact Sq36
   have d3 : ¬ (65 : Int) ≤ r := by omega
   have d5 : ((r : Int) == 95) = false := by simp; omega
   by_cases c6 : r < 48
   ·have z69a := trivial
    exact Sq69
   have d6 : ¬ (r : Int) < 48 := by omega
   by_cases c7 : 57 < r
   ·exact Sq69
   have d7 : ¬ (57 : Int) < r := by omega
   have hsm := SM.out (by omega)
   have HM := Lib.hid hsm.1
   have hdg : digt (nb s.data.toList i) = true := by rw [hsm.2]; exact decide_eq_true (by omega)
   have hnl : letter (nb s.data.toList i) = false := by rw [hsm.2]; exact decide_eq_false (by omega)
   by_cases hz : i = 0
   ·have hzb : ((i : Int) == 0) = true := by simp; omega
    have HU := Lib.hid (NO.out (.inr ⟨hz, hnl⟩))
    clear hz hsm hdg hnl
    go_wp2_with fail
    go_ret
    exact ⟨by rw [← HR.out, HU.out]; rfl, HBW2.out⟩
   ·have hzb : ((i : Int) == 0) = false := by simp; omega
    have HU := Lib.hid (NX.out (fun h => absurd h hz) (digt_nchar hdg))
    clear hsm hdg hnl
    go_wp2_with fail
    go_roundw
    case rel => exact ⟨i + m, HIT2.out, HBW2.out, by rw [HM.out]; exact HU⟩
    case measure => simp only [World.iterPos, HIT2.out, HIT.out]; omega
  ·have hnx : ∀ ty, (Instr.next (.pointer (some ⟨w.heap.size, 0, none⟩)) true ty).run Tryz.prog wr = _ := fun ty => Lib.run_next_end_at wr w.heap.size s i ty HIT.out hp
   have HE := Lib.hid (doneN_end hd.out (by rw [HL.out]; omega))
   have hle : s.toList.length = s.size := by rw [← HL.out, toList_data]
   by_cases he : s.size = 0
   ·have k1 : s.toList = [] := List.length_eq_zero_iff.1 (by omega)
    have HF : Hid (R = false) := Lib.hid (by rw [← HR.out, HE.out, HL.out]; exact decide_eq_false (by omega))
    have k1b : s.toList.isEmpty = true := by rw [k1]; rfl
    clear hle k1
    go_wp2_with fail
    go_ret
    exact ⟨by rw [HF.out]; rfl, HBW.out⟩
   ·have k1 : ¬ s.toList = [] := fun h => by rw [h] at hle; simp at hle; omega
    have k1b : s.toList.isEmpty = false := by rw [List.isEmpty_eq_false_iff]; exact k1
    clear hle
    by_cases h64 : s.size ≤ 64
    ·have k2 : (s.size : Int) ≤ 64 := by omega
     have HF : Hid (R = true) := Lib.hid (by rw [← HR.out, HE.out, HL.out]; exact decide_eq_true (by omega))
     go_wp2_with fail
     go_ret
     exact ⟨by rw [HF.out]; rfl, HBW.out⟩
    ·have k2 : ¬ (s.size : Int) ≤ 64 := by omega
     have HF : Hid (R = false) := Lib.hid (by rw [← HR.out, HE.out, HL.out]; exact decide_eq_false (by omega))
     go_wp2_with fail
     go_ret
     exact ⟨by rw [HF.out]; rfl, HBW.out⟩
def keyL (l : List UInt8) : List UInt8 := if nameB l = true then l else 39 :: (quoteL l ++ [39])
theorem key_any (s : ByteArray) (w : World) (hs : s.size ≤ 1099511627776) :
    Calls Tryz.prog 184 #[.string s] w fun e w' => e = .returned (.string (strOf (keyL s.data.toList))) ∧ Below w.heap.size w w' := by
 have HN := Lib.hid (sname_any s w hs)
 cases hb : nameB s.data.toList with
 | true =>
  have HK : Hid (strOf (keyL s.data.toList) = s) := Lib.hid (by unfold keyL; rw [if_pos hb]; exact strOf_toList s)
  rw [hb] at HN
  clear hb
  rw [HK.out]
  go_enter Tryz.func184, Tryz.ntmps184
  go_wp2_with fail
  refine HN.out.mono ?_
  rintro e w1 ⟨rfl, hb1⟩
  go_wp2_with fail
  go_ret
  exact ⟨rfl, hb1⟩
 | false =>
  have HK : Hid (keyL s.data.toList = 39 :: (quoteL s.data.toList ++ [39])) := Lib.hid (by unfold keyL; rw [if_neg (by rw [hb]; simp)])
  rw [hb] at HN
  clear hb
  rw [HK.out]
  go_enter Tryz.func184, Tryz.ntmps184
  go_wp2_with fail
  refine HN.out.mono ?_
  rintro e w1 ⟨rfl, hb1⟩
  have HB1 := Lib.hid hb1
  clear hb1
  go_wp2_with fail
  refine (quote_any s w1 hs).mono ?_
  rintro e w2 ⟨rfl, hb2⟩
  go_wp2_with fail
  go_ret
  exact ⟨rfl, below_step HB1.out rfl hb2⟩
theorem rkey_any (s : ByteArray) (w : World) (hs : s.size ≤ 1099511627776) :
    Calls Tryz.prog 126 #[.string s] w fun e w' => e = .returned (.string (strOf (keyL s.data.toList))) ∧ Below w.heap.size w w' := by
 have HN := Lib.hid (rname_any s w hs)
 cases hb : nameB s.data.toList with
 | true =>
  have HK : Hid (strOf (keyL s.data.toList) = s) := Lib.hid (by unfold keyL; rw [if_pos hb]; exact strOf_toList s)
  rw [hb] at HN
  clear hb
  rw [HK.out]
  go_enter Tryz.func126, Tryz.ntmps126
  go_wp2_with fail
  refine HN.out.mono ?_
  rintro e w1 ⟨rfl, rfl⟩
  go_wp2_with fail
  go_ret
  exact ⟨rfl, Below.refl _ _⟩
 | false =>
  have HK : Hid (keyL s.data.toList = 39 :: (quoteL s.data.toList ++ [39])) := Lib.hid (by unfold keyL; rw [if_neg (by rw [hb]; simp)])
  rw [hb] at HN
  clear hb
  rw [HK.out]
  go_enter Tryz.func126, Tryz.ntmps126
  go_wp2_with fail
  refine HN.out.mono ?_
  rintro e w1 ⟨rfl, rfl⟩
  go_wp2_with fail
  refine (rquote_any s w hs).mono ?_
  rintro e w2 ⟨rfl, hb2⟩
  go_wp2_with fail
  go_ret
  exact ⟨rfl, hb2⟩
end Go.Proofs.YtndhpdclpgemfaaGreat
namespace Go.Proofs.YtndhpdclpgemfaaGreat
open Go.RowKit
set_option linter.unusedVariables false
def lgB (c : UInt8) : UInt8 := if 97 ≤ c.toNat ∧ c.toNat ≤ 122 then UInt8.ofNat (c.toNat - 32) else c
def largeL (l : List UInt8) : List UInt8 := l.map lgB
def wordsL : List (List UInt8) := [[77, 65, 84, 67, 72], [87, 72, 69, 82, 69], [85, 78, 87, 73, 78, 68], [65, 83], [87, 73, 84, 72], [67, 82, 69, 65, 84, 69], [77, 69, 82, 71, 69], [83, 69, 84], [82, 69, 77, 79, 86, 69], [68, 69, 76, 69, 84, 69], [68, 69, 84, 65, 67, 72], [82, 69, 84, 85, 82, 78], [68, 73, 83, 84, 73, 78, 67, 84], [79, 82, 68, 69, 82], [66, 89], [65, 83, 67], [68, 69, 83, 67], [83, 75, 73, 80], [76, 73, 77, 73, 84], [65, 78, 68], [79, 82], [88, 79, 82], [78, 79, 84], [73, 78], [73, 83], [78, 85, 76, 76], [84, 82, 85, 69], [70, 65, 76, 83, 69]]
def wordB (l : List UInt8) : Bool := decide (largeL l ∈ wordsL)
theorem has_nil (sub : List UInt8) (h : sub ≠ []) : Lib.contains [] sub = false := by
 unfold Lib.contains Lib.index
 rw [if_neg (by cases sub with | nil => exact absurd rfl h | cons c t => simp)]
 rfl
theorem index_ge (sub : List UInt8) : ∀ l, -1 ≤ Lib.index l sub := by
 intro l
 induction l with
 | nil => unfold Lib.index; split <;> omega
 | cons b l ih =>
  unfold Lib.index
  split
  ·omega
  ·split <;> omega
theorem has_cons (b : UInt8) (l sub : List UInt8) : Lib.contains (b :: l) sub = (sub.isPrefixOf (b :: l) || Lib.contains l sub) := by
 have h := index_ge sub l
 unfold Lib.contains
 rw [Lib.index]
 by_cases hp : sub.isPrefixOf (b :: l) = true
 ·rw [if_pos hp, hp]; rfl
 ·rw [if_neg hp]
  have hpf : sub.isPrefixOf (b :: l) = false := Bool.eq_false_iff.2 hp
  rw [hpf, Bool.false_or]
  by_cases hi : (Lib.index l sub == -1) = true
  ·rw [if_pos hi]
   have : Lib.index l sub = -1 := by simpa using hi
   rw [this]
  ·rw [if_neg hi]
   have : Lib.index l sub ≠ -1 := by simpa using hi
   rw [decide_eq_decide]
   omega
theorem has_skip (w r sub : List UInt8) (h : ∀ c ∈ w, c ≠ 32) : Lib.contains (w ++ r) (32 :: sub) = Lib.contains r (32 :: sub) := by
 induction w with
 | nil => rfl
 | cons c w ih =>
  rw [List.cons_append, has_cons, ih (fun d hd => h d (by simp [hd]))]
  have hc := h c (by simp)
  have : (32 :: sub).isPrefixOf (c :: (w ++ r)) = false := by
   simp only [List.isPrefixOf]
   rw [beq_eq_false_iff_ne.2 (Ne.symm hc), Bool.false_and]
  rw [this, Bool.false_or]
theorem pre_word (W w r : List UInt8) (hW : ∀ c ∈ W, c ≠ 32) (hw : ∀ c ∈ w, c ≠ 32) : (W ++ [32]).isPrefixOf (w ++ 32 :: r) = decide (W = w) := by
 induction W generalizing w with
 | nil =>
  cases w with
  | nil => simp
  | cons c w =>
   have hc := hw c (by simp)
   simp only [List.nil_append, List.cons_append, List.isPrefixOf]
   rw [beq_eq_false_iff_ne.2 (Ne.symm hc), Bool.false_and]
   simp
 | cons d W ih =>
  have hd := hW d (by simp)
  cases w with
  | nil =>
   simp only [List.nil_append, List.cons_append, List.isPrefixOf]
   rw [beq_eq_false_iff_ne.2 hd, Bool.false_and]
   simp
  | cons c w =>
   simp only [List.cons_append, List.isPrefixOf]
   rw [ih w (fun x hx => hW x (by simp [hx])) (fun x hx => hw x (by simp [hx]))]
   by_cases hdc : d = c
   ·subst hdc; simp
   ·rw [beq_eq_false_iff_ne.2 hdc, Bool.false_and]; simp [hdc]
theorem has_words (W : List UInt8) (hW : ∀ c ∈ W, c ≠ 32) : ∀ ws : List (List UInt8), (∀ w ∈ ws, ∀ c ∈ w, c ≠ 32) → Lib.contains (ws.flatMap (fun w => 32 :: w) ++ [32]) (32 :: (W ++ [32])) = decide (W ∈ ws) := by
 intro ws
 induction ws with
 | nil =>
  intro _
  rw [List.flatMap_nil, List.nil_append, has_cons, has_nil _ (by simp)]
  simp [List.isPrefixOf]
 | cons w ws ih =>
  intro h
  have h0 := h w (by simp)
  have h1 := ih (fun u hu => h u (by simp [hu]))
  rw [List.flatMap_cons, List.cons_append, List.cons_append, has_cons, List.append_assoc, has_skip w _ _ h0, h1]
  have hr : ∃ r, ws.flatMap (fun w => 32 :: w) ++ [32] = 32 :: r := by
   cases ws with
   | nil => exact ⟨[], rfl⟩
   | cons u us => exact ⟨_, by rw [List.flatMap_cons]; rfl⟩
  obtain ⟨r, hr⟩ := hr
  rw [hr]
  simp only [List.isPrefixOf, beq_self_eq_true, Bool.true_and]
  rw [pre_word W w r hW h0]
  simp [List.mem_cons]
theorem words_facts : ∀ w ∈ wordsL, (1 ≤ w.length ∧ w.length ≤ 64) ∧ ∀ c ∈ w, 65 ≤ c.toNat ∧ c.toNat ≤ 90 := by decide
theorem lgB_letter : ∀ c : Fin 256, 65 ≤ (lgB (UInt8.ofNat c.val)).toNat ∧ (lgB (UInt8.ofNat c.val)).toNat ≤ 90 → letter c.val = true := by decide +kernel
theorem lgB_nchar : ∀ c : Fin 256, nchar c.val = true → lgB (UInt8.ofNat c.val) ≠ 32 := by decide +kernel
theorem wordB_name {l : List UInt8} (h : wordB l = true) : nameB l = true := by
 have hm := of_decide_eq_true h
 obtain ⟨h1, h2⟩ := words_facts _ hm
 unfold largeL at h1 h2
 rw [List.length_map] at h1
 have hL : ∀ k, k < l.length → letter (nb l k) = true := fun k hk => by
  have h3 := h2 (lgB l[k]) (List.mem_map.2 ⟨l[k], List.getElem_mem hk, rfl⟩)
  have h4 := lgB_letter ⟨l[k].toNat, l[k].toNat_lt⟩
  simp only [UInt8.ofNat_toNat] at h4
  unfold nb
  rw [List.getElem?_eq_getElem hk]
  exact h4 h3
 exact decide_eq_true ⟨h1.1, h1.2, hL 0 (by omega), fun k hk => letter_nchar (hL k hk)⟩
theorem wordB_no {l : List UInt8} (h : nameB l = false) : wordB l = false := by
 cases hw : wordB l with
 | false => rfl
 | true => rw [wordB_name hw] at h; cases h
theorem wordB_has {l : List UInt8} (h : nameB l = true) : Lib.contains (wordsL.flatMap (fun w => 32 :: w) ++ [32]) (32 :: (largeL l ++ [32])) = wordB l := by
 refine has_words _ (fun c hc => ?_) _ (fun w hw c hc e => by have := (words_facts w hw).2 c hc; rw [e] at this; revert this; decide)
 obtain ⟨d, hd, rfl⟩ := List.mem_map.1 hc
 have hn := (of_decide_eq_true h).2.2.2
 obtain ⟨k, hk, rfl⟩ := List.getElem_of_mem hd
 have h1 := hn k hk
 unfold nb at h1
 rw [List.getElem?_eq_getElem hk] at h1
 have h4 := lgB_nchar ⟨l[k].toNat, l[k].toNat_lt⟩ h1
 simpa only [UInt8.ofNat_toNat] using h4
end Go.Proofs.YtndhpdclpgemfaaGreat
namespace Go.Proofs.YtndhpdclpgemfaaGreat
open Go.RowKit Go.Shelf
set_option linter.unusedSimpArgs false
set_option linter.unusedVariables false
theorem largeL_take {s : ByteArray} {i : Nat} (h : i < s.size) : (largeL s.data.toList).take (i + 1) = (largeL s.data.toList).take i ++ [lgB s[i]] := by
 refine take_succ_some ?_
 unfold largeL
 rw [List.getElem?_map, List.getElem?_eq_getElem (by simpa using h)]
 rfl
theorem lgB_yes {c : UInt8} (h1 : 97 ≤ c.toNat) (h2 : c.toNat ≤ 122) : ((lgB c).toNat : Int) = (c.toNat : Int) - 32 := by
 unfold lgB
 rw [if_pos ⟨h1, h2⟩]
 simp
 omega
theorem lgB_no {c : UInt8} (h : ¬ (97 ≤ c.toNat ∧ c.toNat ≤ 122)) : lgB c = c := by unfold lgB; rw [if_neg h]
theorem Sq40 {P : Prop} (h : P := by
 first
 | (guard_hyp z40a; have d2 : ¬ (s[i].toNat : Int) ≤ 122 := by omega)
 | (have d1 : ¬ (97 : Int) ≤ s[i].toNat := by omega)
 have HLG := Lib.hid (lgB_no (c := s[i]) (by omega))
 go_wp2_with (at_builtin; refine wpList_append_own _ rfl _ _ 72 rfl w.heap.size 5 i0 (.int .u8 0) 1 1 Tryz.underlying72 I0.out I1.out I2.out I3.out rfl (by omega) u3 i (Lib.byteCells ((largeL s.data.toList).take i)) rfl (HO.out.alloc _) ⟨wr.heap.size, 0, none⟩ 1 1 [.int .u8 s[i].toNat] rfl rfl (World.news_of_block (cs := #[.int .u8 s[i].toNat]) (t := 5) (fr := (0, 0)) (heap_alloc_new _ _)) (by simp [Value.oneCell']) (by unfold maxLen; omega) (by omega) (by simp; omega) ?_)
 intro v1 w1 hown1 hgrow _
 have HO1 : Hid (w1.ownsRow w.heap.size 5 1 v1 (i + 1) (Lib.byteCells ((largeL s.data.toList).take (i + 1)))) := Lib.hid (by rw [HST.out, byteCells_snoc, HLG.out]; exact hown1)
 have HB1 : Hid (Below w.heap.size w w1) := Lib.hid (Below.grown (HBR.out.alloc (by omega) _) hgrow (by simp; omega) (fun k hk => HR1.out _ hk))
 clear hown1 hgrow
 go_wp2_with fail
 go_roundw
 case rel => exact ⟨i + 1, by go_num, HO1.out, by omega, HB1.out⟩
 case measure => simp [intOf]; omega) : P := h
set_option maxRecDepth 1000000 in
set_option maxHeartbeats 4000000 in
theorem rlarge_any (s : ByteArray) (w : World) (hs : s.size ≤ 1099511627776) :
    Calls Tryz.prog 132 #[.string s] w fun e w' => e = .returned (.string (strOf (largeL s.data.toList))) ∧ Below w.heap.size w w' := by
 have HL : Hid ((largeL s.data.toList).length = s.size) := Lib.hid (by unfold largeL; simp)
 obtain ⟨i0, hi, hz0, hz1, hz2⟩ := info_parts Tryz.info5
 have I0 := Lib.hid hi
 have I1 := Lib.hid hz0
 have I2 := Lib.hid hz1
 have I3 := Lib.hid hz2
 clear hi hz0 hz1 hz2
 go_enter Tryz.func132, Tryz.ntmps132
 go_wp2_with fail
 go_loopw [3, 4] (fun v k wr => ∃ (i : Nat), k = .int .i64 i ∧ wr.ownsRow w.heap.size 5 1 v i (Lib.byteCells ((largeL s.data.toList).take i)) ∧ i ≤ s.size ∧ Below w.heap.size w wr) (fun _ k _ => s.size - (intOf k).toNat)
 case atStart => exact ⟨0, rfl, World.ownsRow_nil _ _ _ _, Nat.zero_le _, Below.refl _ _⟩
 case round =>
  obtain ⟨i, rfl, hown, hil, hbr⟩ := hrel
  have HBR := Lib.hid hbr
  have HO := Lib.hid hown
  clear hbr hown
  have hszr := HBR.out.size
  have HR1 := Lib.hid (fun k hk => (HO.out.lt k hk).1)
  by_cases hp : i < s.size
  ·have hp' : (i : Int) < s.size := by omega
   have hc : s[i].toNat < 256 := by have := s[i].toNat_lt; omega
   have hst := largeL_take hp
   have HST := Lib.hid hst
   clear hst
   by_cases c1 : 97 ≤ s[i].toNat
   ·have d1 : (97 : Int) ≤ s[i].toNat := by omega
    by_cases c2 : s[i].toNat ≤ 122
    ·have d2 : (s[i].toNat : Int) ≤ 122 := by omega
     have HLG := Lib.hid (lgB_yes c1 c2)
     go_wp2_with (at_builtin; refine wpList_append_own _ rfl _ _ 72 rfl w.heap.size 5 i0 (.int .u8 0) 1 1 Tryz.underlying72 I0.out I1.out I2.out I3.out rfl (by omega) u3 i (Lib.byteCells ((largeL s.data.toList).take i)) rfl (HO.out.alloc _) ⟨wr.heap.size, 0, none⟩ 1 1 [.int .u8 ((s[i].toNat : Int) - 32)] rfl rfl (World.news_of_block (cs := #[.int .u8 ((s[i].toNat : Int) - 32)]) (t := 5) (fr := (0, 0)) (heap_alloc_new _ _)) (by simp [Value.oneCell']) (by unfold maxLen; omega) (by omega) (by simp; omega) ?_)
     intro v1 w1 hown1 hgrow _
     have HO1 : Hid (w1.ownsRow w.heap.size 5 1 v1 (i + 1) (Lib.byteCells ((largeL s.data.toList).take (i + 1)))) := Lib.hid (by rw [HST.out, byteCells_snoc, HLG.out]; exact hown1)
     have HB1 : Hid (Below w.heap.size w w1) := Lib.hid (Below.grown (HBR.out.alloc (by omega) _) hgrow (by simp; omega) (fun k hk => HR1.out _ hk))
     clear hown1 hgrow
     go_wp2_with fail
     go_roundw
     case rel => exact ⟨i + 1, by go_num, HO1.out, by omega, HB1.out⟩
     case measure => simp [intOf]; omega
    ·have z40a := trivial
     exact Sq40
   ·exact Sq40
  ·have hp' : ¬ (i : Int) < s.size := by omega
   have HT : Hid ((largeL s.data.toList).take i = largeL s.data.toList) := Lib.hid (List.take_of_length_le (by rw [HL.out]; omega))
   rw [HT.out] at HO
   have hcv := conv_own HO.out
   go_wp2_with fail
   go_ret
   exact ⟨rfl, HBR.out⟩
def Row8 (w : World) (g : Nat) (l : List UInt8) : Prop := ∀ (j : Nat) c, l[j]? = some c → w.cell? ⟨g, j, none⟩ = some (.int .u8 c.toNat) ∧ w.frozen? ⟨g, j, none⟩ = false
theorem Row8.set {w : World} {g : Nat} {l : List UInt8} (h : Row8 w g l) {i : Nat} (hi : i < l.length) (c : UInt8) : Row8 (w.setCell ⟨g, i, none⟩ (.int .u8 c.toNat)) g (l.set i c) := by
 intro j d hd
 by_cases hj : i = j
 ·subst hj
  rw [List.getElem?_set_self hi] at hd
  cases hd
  obtain ⟨h1, h2⟩ := h i l[i] (List.getElem?_eq_getElem hi)
  exact ⟨World.cell?_setCell_same _ _ _ h1, by rw [World.frozen?_setCell]; exact h2⟩
 ·rw [List.getElem?_set_ne hj] at hd
  obtain ⟨h1, h2⟩ := h j d hd
  exact ⟨by rw [World.cell?_setCell_other _ _ _ _ (by intro e; injection e with _ e; exact hj e)]; exact h1, by rw [World.frozen?_setCell]; exact h2⟩
theorem Row8.of_string (w : World) (s : ByteArray) (cap : Nat) (e : TypeId) : Row8 (w.drew.alloc (.cells (bytesRow s cap) e ((bytesRow s cap).size, (bytesRow s cap).size + 1))) w.heap.size s.data.toList := by
 intro j c hc
 have hb : (w.drew.alloc (.cells (bytesRow s cap) e ((bytesRow s cap).size, (bytesRow s cap).size + 1))).heap[w.heap.size]? = some (.cells (bytesRow s cap) e ((bytesRow s cap).size, (bytesRow s cap).size + 1)) := by
  show (w.heap.push _)[w.heap.size]? = _
  simp
 have hjl := (List.getElem?_eq_some_iff.1 hc).1
 have hsz : j < (bytesRow s cap).size := by unfold bytesRow; simp at hjl ⊢; omega
 constructor
 ·simp only [World.cell?, hb]
  have : (bytesRow s cap)[j]? = some (.int .u8 c.toNat) := by
   unfold bytesRow
   rw [Array.getElem?_append_left (by simpa using hjl), Array.getElem?_map]
   rw [← Array.getElem?_toList, hc]; rfl
  simp [this]
 ·simp only [World.frozen?, hb]
  simp
  omega
def lgTo (l : List UInt8) (i : Nat) : List UInt8 := (l.take i).map lgB ++ l.drop i
theorem lgTo_len (l : List UInt8) (i : Nat) : (lgTo l i).length = l.length := by unfold lgTo; simp; omega
theorem lgTo_zero (l : List UInt8) : lgTo l 0 = l := by unfold lgTo; simp
theorem lgTo_all (l : List UInt8) (i : Nat) (h : l.length ≤ i) : lgTo l i = largeL l := by unfold lgTo largeL; rw [List.take_of_length_le h, List.drop_of_length_le h, List.append_nil]
theorem lgTo_at {l : List UInt8} {i : Nat} (h : i < l.length) : (lgTo l i)[i]? = some l[i] := by
 unfold lgTo
 rw [List.getElem?_append_right (by simp; omega)]
 simp only [List.length_map, List.length_take]
 rw [Nat.min_eq_left (by omega), Nat.sub_self, List.getElem?_drop, Nat.add_zero, List.getElem?_eq_getElem h]
theorem lgTo_succ {l : List UInt8} {i : Nat} (h : i < l.length) : lgTo l (i + 1) = (lgTo l i).set i (lgB l[i]) := by
 unfold lgTo
 rw [List.take_succ_eq_append_getElem h, List.map_append, List.append_assoc, List.set_append_right _ _ (by simp; omega)]
 simp only [List.length_map, List.length_take]
 rw [Nat.min_eq_left (by omega), Nat.sub_self, List.drop_eq_getElem_cons h]
 rfl
theorem lgTo_same {l : List UInt8} {i : Nat} (h : i < l.length) (hb : lgB l[i] = l[i]) : lgTo l (i + 1) = lgTo l i := by
 rw [lgTo_succ h, hb]
 apply List.ext_getElem?
 intro j
 by_cases hj : i = j
 ·subst hj
  rw [List.getElem?_set_self (by rw [lgTo_len]; exact h), lgTo_at h]
 ·rw [List.getElem?_set_ne hj]
set_option maxRecDepth 1000000 in
set_option maxHeartbeats 4000000 in
theorem large_any (s : ByteArray) (w : World) (hs : s.size ≤ 1099511627776) :
    Calls Tryz.prog 128 #[.string s] w fun e w' => e = .returned (.string (strOf (largeL s.data.toList))) ∧ Below w.heap.size w w' := by
 have HLN : Hid (s.data.toList.length = s.size) := Lib.hid (by simp)
 have hcv := run_bytes_of_string (P := Tryz.prog) w 9 72 5 s Tryz.underlying9 Tryz.underlying72 Tryz.underlying5
 have HROW := Lib.hid (Row8.of_string w s (grownCap w s.size 0 5) 5)
 have hb0 : Below w.heap.size w (w.drew.alloc (.cells (bytesRow s (grownCap w s.size 0 5)) 5 ((bytesRow s (grownCap w s.size 0 5)).size, (bytesRow s (grownCap w s.size 0 5)).size + 1))) := ((Below.refl _ _).drew).alloc (Nat.le_refl _) _
 have HB0 := Lib.hid hb0
 clear hb0
 generalize grownCap w s.size 0 5 = cap at *
 generalize (w.drew.alloc (.cells (bytesRow s cap) 5 ((bytesRow s cap).size, (bytesRow s cap).size + 1))) = W1 at *
 go_enter Tryz.func128, Tryz.ntmps128
 go_wp2_with fail
 go_loopw [10] (fun k wr => ∃ (i : Nat), k = .int .i64 i ∧ Row8 wr w.heap.size (lgTo s.data.toList i) ∧ i ≤ s.size ∧ Below w.heap.size w wr) (fun k _ => s.size - (intOf k).toNat)
 case atStart => exact ⟨0, rfl, by rw [lgTo_zero]; exact HROW.out, Nat.zero_le _, HB0.out⟩
 case round =>
  obtain ⟨i, rfl, hrow, hil, hbr⟩ := hrel
  have HBR := Lib.hid hbr
  have HR := Lib.hid hrow
  clear hbr hrow hcv
  by_cases hp : i < s.size
  ·have hp' : (i : Int) < s.size := by omega
   have p0 : (0 : Int) ≤ (i : Int) := by omega
   have hpl : i < s.data.toList.length := by rw [HLN.out]; exact hp
   obtain ⟨g1, g2⟩ := HR.out i _ (lgTo_at hpl)
   have HSU := Lib.hid (lgTo_succ hpl)
   have HSA := Lib.hid (lgTo_same hpl)
   have hset := HR.out.set (i := i) (by rw [lgTo_len]; exact hpl) (lgB s.data.toList[i])
   have HSET := Lib.hid hset
   have hc : (s.data.toList[i]).toNat < 256 := by have := (s.data.toList[i]).toNat_lt; omega
   have HY := Lib.hid (@lgB_yes s.data.toList[i])
   have HNO := Lib.hid (@lgB_no s.data.toList[i])
   clear hset
   generalize s.data.toList[i] = c at *
   by_cases c1 : 97 ≤ c.toNat
   ·have d1 : (97 : Int) ≤ c.toNat := by omega
    by_cases c2 : c.toNat ≤ 122
    ·have d2 : (c.toNat : Int) ≤ 122 := by omega
     have hy := HY.out c1 c2
     have HYY := Lib.hid hy
     clear hy
     go_wp2_with fail
     go_roundw
     case rel => exact ⟨i + 1, by go_num, by have h := HSET.out; rw [HYY.out, ← HSU.out] at h; exact h, by omega, HBR.out.setCell (Nat.le_refl _) _⟩
     case measure => simp [intOf]; omega
    ·have d2 : ¬ (c.toNat : Int) ≤ 122 := by omega
     go_wp2_with fail
     go_roundw
     case rel => exact ⟨i + 1, by go_num, by rw [HSA.out (HNO.out (by omega))]; exact HR.out, by omega, HBR.out⟩
     case measure => simp [intOf]; omega
   ·have d1 : ¬ (97 : Int) ≤ c.toNat := by omega
    go_wp2_with fail
    go_roundw
    case rel => exact ⟨i + 1, by go_num, by rw [HSA.out (HNO.out (by omega))]; exact HR.out, by omega, HBR.out⟩
    case measure => simp [intOf]; omega
  ·have hp' : ¬ (i : Int) < s.size := by omega
   have HT : Hid (lgTo s.data.toList i = largeL s.data.toList) := Lib.hid (lgTo_all _ _ (by rw [HLN.out]; omega))
   have hsz : s.size = (largeL s.data.toList).length := by unfold largeL; rw [List.length_map, HLN.out]
   have HSZ := Lib.hid hsz
   have hback := run_convert_bytes_back (P := Tryz.prog) wr 72 9 5 ⟨w.heap.size, 0, none⟩ cap (largeL s.data.toList) Tryz.underlying72 Tryz.underlying5 Tryz.underlying9 (fun j hj => by
    have h := HR.out
    rw [HT.out] at h
    rw [addr_add, Nat.zero_add]
    exact (h j _ (List.getElem?_eq_getElem hj)).1)
   rw [← HSZ.out] at hback
   clear hsz
   go_wp2_with fail
   go_ret
   exact ⟨rfl, HBR.out⟩
def wordsC : List Value := wordsL.map (fun l => .string (strOf l))
set_option maxRecDepth 1000000 in
set_option maxHeartbeats 4000000 in
theorem words_any (w : World) :
    Calls Tryz.prog 131 #[] w fun e w' => e = .returned (.slice (some ⟨w.heap.size, 0, none⟩) 28 28) ∧ w' = w.alloc (.cells wordsC.toArray 9) := by
 go_enter Tryz.func131, Tryz.ntmps131
 go_wp2_with fail
 go_ret
 refine ⟨?_, ?_⟩
 ·trace_state; rfl
 ·rfl
end Go.Proofs.YtndhpdclpgemfaaGreat

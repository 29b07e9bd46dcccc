/- Parts S19, S27 of this seat (pruned, scripts that are alike kept once as default arguments: q1, q2, ..). Conditions: each says its own. -/
import Derived.Test.YtndhpdclpgemfaaGreatZ7
import Derived.Test.YtndhpdclpgemfaaGreatZ11
namespace Go.Proofs.YtndhpdclpgemfaaGreat
open Go.RowKit Go.Shelf
set_option linter.unusedSimpArgs false
set_option linter.unusedVariables false
theorem toList_data (s : ByteArray) : s.toList = s.data.toList := by
 have h := strOf_list s.data.toList
 rwa [strOf_toList] at h
def nchar (c : Nat) : Bool := letter c || digt c
def nameB (l : List UInt8) : Bool := decide (1 ≤ l.length ∧ l.length ≤ 64 ∧ letter (nb l 0) = true ∧ ∀ k, k < l.length → nchar (nb l k) = true)
def DoneN (l : List UInt8) (i : Nat) : Prop := i ≤ l.length ∧ (0 < i → letter (nb l 0) = true) ∧ ∀ k, k < i → nchar (nb l k) = true
theorem doneN_zero (l : List UInt8) : DoneN l 0 := ⟨by omega, fun h => by omega, fun k h => by omega⟩
theorem doneN_step {l : List UInt8} {i : Nat} (h : DoneN l i) (hi : i < l.length) (h0 : i = 0 → letter (nb l i) = true) (hc : nchar (nb l i) = true) : DoneN l (i + 1) := by
 obtain ⟨h1, h2, h3⟩ := h
 refine ⟨by omega, fun _ => ?_, fun k hk => ?_⟩
 ·by_cases hz : i = 0
  ·subst hz; exact h0 rfl
  ·exact h2 (by omega)
 ·by_cases hk2 : k = i
  ·subst hk2; exact hc
  ·exact h3 k (by omega)
theorem doneN_end {l : List UInt8} {i : Nat} (h : DoneN l i) (hi : l.length ≤ i) : nameB l = decide (1 ≤ l.length ∧ l.length ≤ 64) := by
 obtain ⟨h1, h2, h3⟩ := h
 unfold nameB
 apply decide_eq_decide.2
 constructor
 ·rintro ⟨a, b, _⟩; exact ⟨a, b⟩
 ·rintro ⟨a, b⟩; exact ⟨a, b, h2 (by omega), fun k hk => h3 k (by omega)⟩
theorem nameB_no {l : List UInt8} {i : Nat} (hi : i < l.length) (h : nchar (nb l i) = false ∨ (i = 0 ∧ letter (nb l i) = false)) : nameB l = false := by
 apply decide_eq_false
 rintro ⟨_, _, h3, h4⟩
 rcases h with h | ⟨rfl, h⟩
 ·rw [h4 i hi] at h; cases h
 ·rw [h3] at h; cases h
theorem letter_nchar {c : Nat} (h : letter c = true) : nchar c = true := by unfold nchar; rw [h]; rfl
theorem digt_nchar {c : Nat} (h : digt c = true) : nchar c = true := by unfold nchar; rw [h, Bool.or_true]
theorem nchar_no {c : Nat} (h : letter c = false) (k : digt c = false) : nchar c = false := by unfold nchar; rw [h, k]; rfl
theorem big_no {r m c : Nat} (SM : r < 128 → m = 1 ∧ c = r) (BG : ¬ r < 128 → ¬ c < 128) (h1 : ¬ (97 ≤ r ∧ r ≤ 122)) (h2 : ¬ (65 ≤ r ∧ r ≤ 90) ∧ r ≠ 95 ∧ ¬ (48 ≤ r ∧ r ≤ 57)) : nchar c = false := by
 by_cases hb : r < 128
 ·have hsm := SM hb
  rw [hsm.2]
  exact nchar_no (decide_eq_false (by omega)) (decide_eq_false (by omega))
 ·have := BG hb
  exact nchar_no (decide_eq_false (by omega)) (decide_eq_false (by omega))
theorem Se623403 {P : Prop} (h : P := by
 first
 |(
  guard_hyp z623403b
  have d1 : (97 : Int) ≤ r := by omega
  by_cases c2 : r ≤ 122)
 |(
  have d3 : (65 : Int) ≤ r := by omega
  by_cases c4 : r ≤ 90)
 ·first
  | (guard_hyp z623403b; have d2 : (r : Int) ≤ 122 := by omega)
  | (have d4 : (r : Int) ≤ 90 := by omega)
  have t : True := trivial
  have hsm := SM.out (by omega)
  have HM := Lib.hid hsm.1
  have hlt : letter (nb s.data.toList i) = true := by rw [hsm.2]; exact decide_eq_true (by omega)
  have HU := Lib.hid (NX.out (fun _ => hlt) (letter_nchar hlt))
  clear hsm hlt
  go_wp2_with fail
  go_roundw
  case rel => exact ⟨i + m, HIT2.out, HBW2.out, by rw [HM.out]; exact HU⟩
  case measure => simp only [World.iterPos, HIT2.out, HIT.out]; omega
 first
 |(
  guard_hyp z623403b
  have d2 : ¬ (r : Int) ≤ 122 := by omega
  have d3 : (65 : Int) ≤ r := by omega)
 | skip
 have d4 : ¬ (r : Int) ≤ 90 := by omega
 first
 |(
  guard_hyp z623403a
  by_cases c5 : r = 95
  ·have d5 : ((r : Int) == 95) = true := by simp; omega
   have C5 := Lib.hid c5
   have hsm := SM.out (by omega)
   have HM := Lib.hid hsm.1
   have hlt : letter (nb s.data.toList i) = true := by rw [hsm.2]; exact decide_eq_true (by omega)
   have HU := Lib.hid (NX.out (fun _ => hlt) (letter_nchar hlt))
   clear hsm hlt c5
   go_wp2_with fail
   go_roundw
   case rel => exact ⟨i + m, HIT2.out, HBW2.out, by rw [HM.out]; exact HU⟩
   case measure => simp only [World.iterPos, HIT2.out, HIT.out]; omega)
 | skip
 have d5 : ((r : Int) == 95) = false := by simp; omega
 have d6 : ¬ (r : Int) < 48 := by omega
 have d7 : (57 : Int) < r := by omega
 have t : True := trivial
 have HU := Lib.hid (NO.out (.inl (big_no SM.out BG.out (by omega) (by omega))))
 by_cases hz : i = 0
 ·have hzb : ((i : Int) == 0) = true := by simp; omega
  clear hz
  go_wp2_with fail
  go_ret
  exact ⟨by rw [← HR.out, HU.out]; rfl, HBW2.out⟩
 ·have hzb : ((i : Int) == 0) = false := by simp; omega
  go_wp2_with fail
  go_ret
  exact ⟨by rw [← HR.out, HU.out]; rfl, HBW2.out⟩) : P := h
theorem Se233235 {P : Prop} (h : P := by
 first
 | (guard_hyp z233235a; have d6 : (r : Int) < 48 := by omega)
 | (have d7 : (57 : Int) < r := by omega)
 have t : True := trivial
 have HU := Lib.hid (NO.out (.inl (big_no SM.out BG.out (by omega) (by omega))))
 by_cases hz : i = 0
 ·have hzb : ((i : Int) == 0) = true := by simp; omega
  clear hz
  go_wp2_with fail
  go_ret
  exact ⟨by rw [← HR.out, HU.out]; rfl, HBW2.out⟩
 ·have hzb : ((i : Int) == 0) = false := by simp; omega
  go_wp2_with fail
  go_ret
  exact ⟨by rw [← HR.out, HU.out]; rfl, HBW2.out⟩) : P := h
set_option maxRecDepth 1000000 in
set_option maxHeartbeats 4000000 in
theorem sname_any (s : ByteArray) (w : World) (hs : s.size ≤ 1099511627776) :
    Calls Tryz.prog 91 #[.string s] w fun e w' => e = .returned (.bool (nameB s.data.toList)) ∧ Below w.heap.size w w' := by
 have HL : Hid (s.data.toList.length = s.size) := Lib.hid (by simp)
 obtain ⟨R, hR⟩ := nam (nameB s.data.toList)
 have HR := Lib.hid hR
 rw [hR]
 clear hR
 go_enter Tryz.func91, Tryz.ntmps91
 go_wp2_with fail
 go_loopw [] (fun wr => ∃ i : Nat, wr.heap[w.heap.size]? = some (.stringIter s i) ∧ Below w.heap.size w wr ∧ Hid (DoneN s.data.toList i)) (fun wr => s.size - wr.iterPos w.heap.size)
 case atStart =>
  refine ⟨0, ?_, (Below.refl _ w).alloc (Nat.le_refl _) _, Lib.hid (doneN_zero _)⟩
  have := World.iter_heap w s 0
  simpa using this
 case round =>
  obtain ⟨i, hit, hbw, hd⟩ := hrel
  have hszr : w.heap.size < wr.heap.size := (Array.getElem?_eq_some_iff.1 hit).1
  have HIT := Lib.hid hit
  have HBW := Lib.hid hbw
  clear hit hbw
  have hil : i ≤ s.size := by have := hd.out.1; rw [HL.out] at this; exact this
  by_cases hp : i < s.size
  ·have hnx : ∀ ty, (Instr.next (.pointer (some ⟨w.heap.size, 0, none⟩)) true ty).run Tryz.prog wr = _ := fun ty => Lib.run_next_any_at wr w.heap.size s i ty HIT.out hp
   have hln : (s.data.toList.drop i).length ≠ 0 := by simp; omega
   have hdec := decode_spec s i hp
   have hmv : (if sg (s.data.toList.drop i) = 0 then 1 else sg (s.data.toList.drop i)) = stepQ (s.data.toList.drop i) := rfl
   rw [hmv] at hdec
   rw [hdec] at hnx
   dsimp only at hnx
   have hm1 := stepQ_pos (s.data.toList.drop i)
   have hm2 := stepQ_le hln
   rw [List.length_drop] at hm2
   simp only [Array.length_toList, ByteArray.size_data] at hm2
   have X : Hid (nb (s.data.toList.drop i) 0 = nb s.data.toList i) := Lib.hid (by rw [nb_drop, Nat.add_zero])
   have SM : Hid (rv (s.data.toList.drop i) < 128 → stepQ (s.data.toList.drop i) = 1 ∧ nb s.data.toList i = rv (s.data.toList.drop i)) := Lib.hid (fun h => by
    have := rv_small hln h
    exact ⟨by unfold stepQ; rw [if_neg (by omega)]; exact this.1, by rw [← X.out]; exact this.2⟩)
   have BG : Hid (¬ rv (s.data.toList.drop i) < 128 → ¬ nb s.data.toList i < 128) := Lib.hid (fun h h2 => h (by
    have h3 := sg_one.2 ⟨hln, by rw [X.out]; exact h2⟩
    have h4 : rv (s.data.toList.drop i) = nb (s.data.toList.drop i) 0 := by unfold rv; rw [if_pos h3]
    rw [h4, X.out]; exact h2))
   have hrl : rv (s.data.toList.drop i) ≤ 2147483647 := by have := decode_le s i; rw [hdec] at this; exact this
   have NX := Lib.hid (doneN_step hd.out (by rw [HL.out]; exact hp))
   have NO := Lib.hid (@nameB_no s.data.toList i (by rw [HL.out]; exact hp))
   clear hln hdec hmv
   generalize rv (s.data.toList.drop i) = r at *
   generalize stepQ (s.data.toList.drop i) = m at *
   have HIT2 := Lib.hid (Lib.iterAt_heap wr w.heap.size s i (i + m) HIT.out)
   have HBW2 := Lib.hid (Lib.below_iterAt HBW.out (k := w.heap.size) (by omega) s (i + m))
   generalize hWn : wr.iterAt w.heap.size s (i + m) = Wn at *
   have HWn := Lib.hid hWn
   clear hWn
   by_cases c1 : 97 ≤ r
   ·have z623403b := trivial
    exact Se623403
   have d1 : ¬ (97 : Int) ≤ r := by omega
   by_cases c3 : 65 ≤ r
   ·have z623403a := trivial
    exact Se623403
   have d3 : ¬ (65 : Int) ≤ r := by omega
   have d5 : ((r : Int) == 95) = false := by simp; omega
   by_cases c6 : r < 48
   ·have z233235a := trivial
    exact Se233235
   have d6 : ¬ (r : Int) < 48 := by omega
   by_cases c7 : 57 < r
   ·exact Se233235
   have d7 : ¬ (57 : Int) < r := by omega
   have hsm := SM.out (by omega)
   have HM := Lib.hid hsm.1
   have hdg : digt (nb s.data.toList i) = true := by rw [hsm.2]; exact decide_eq_true (by omega)
   have hnl : letter (nb s.data.toList i) = false := by rw [hsm.2]; exact decide_eq_false (by omega)
   by_cases hz : i = 0
   ·have hzb : ((i : Int) == 0) = true := by simp; omega
    have HU := Lib.hid (NO.out (.inr ⟨hz, hnl⟩))
    clear hz hsm hdg hnl
    go_wp2_with fail
    go_ret
    exact ⟨by rw [← HR.out, HU.out]; rfl, HBW2.out⟩
   ·have hzb : ((i : Int) == 0) = false := by simp; omega
    have HU := Lib.hid (NX.out (fun h => absurd h hz) (digt_nchar hdg))
    clear hsm hdg hnl
    go_wp2_with fail
    go_roundw
    case rel => exact ⟨i + m, HIT2.out, HBW2.out, by rw [HM.out]; exact HU⟩
    case measure => simp only [World.iterPos, HIT2.out, HIT.out]; omega
  ·have hnx : ∀ ty, (Instr.next (.pointer (some ⟨w.heap.size, 0, none⟩)) true ty).run Tryz.prog wr = _ := fun ty => Lib.run_next_end_at wr w.heap.size s i ty HIT.out hp
   have HE := Lib.hid (doneN_end hd.out (by rw [HL.out]; omega))
   have hle : s.toList.length = s.size := by rw [← HL.out, toList_data]
   by_cases he : s.size = 0
   ·have k1 : s.toList = [] := List.length_eq_zero_iff.1 (by omega)
    have HF : Hid (R = false) := Lib.hid (by rw [← HR.out, HE.out, HL.out]; exact decide_eq_false (by omega))
    have k1b : s.toList.isEmpty = true := by rw [k1]; rfl
    clear hle k1
    go_wp2_with fail
    go_ret
    exact ⟨by rw [HF.out]; rfl, HBW.out⟩
   ·have k1 : ¬ s.toList = [] := fun h => by rw [h] at hle; simp at hle; omega
    have k1b : s.toList.isEmpty = false := by rw [List.isEmpty_eq_false_iff]; exact k1
    clear hle
    by_cases h64 : s.size ≤ 64
    ·have k2 : (s.size : Int) ≤ 64 := by omega
     have HF : Hid (R = true) := Lib.hid (by rw [← HR.out, HE.out, HL.out]; exact decide_eq_true (by omega))
     go_wp2_with fail
     go_ret
     exact ⟨by rw [HF.out]; rfl, HBW.out⟩
    ·have k2 : ¬ (s.size : Int) ≤ 64 := by omega
     have HF : Hid (R = false) := Lib.hid (by rw [← HR.out, HE.out, HL.out]; exact decide_eq_false (by omega))
     go_wp2_with fail
     go_ret
     exact ⟨by rw [HF.out]; rfl, HBW.out⟩
def keyL (l : List UInt8) : List UInt8 := if nameB l = true then l else 39 :: (quoteL l ++ [39])
theorem key_any (s : ByteArray) (w : World) (hs : s.size ≤ 1099511627776) :
    Calls Tryz.prog 184 #[.string s] w fun e w' => e = .returned (.string (strOf (keyL s.data.toList))) ∧ Below w.heap.size w w' := by
 have HN := Lib.hid (sname_any s w hs)
 cases hb : nameB s.data.toList with
 | true =>
  have HK : Hid (strOf (keyL s.data.toList) = s) := Lib.hid (by unfold keyL; rw [if_pos hb]; exact strOf_toList s)
  rw [hb] at HN
  clear hb
  rw [HK.out]
  go_enter Tryz.func184, Tryz.ntmps184
  go_wp2_with fail
  refine HN.out.mono ?_
  rintro e w1 ⟨rfl, hb1⟩
  go_wp2_with fail
  go_ret
  exact ⟨rfl, hb1⟩
 | false =>
  have HK : Hid (keyL s.data.toList = 39 :: (quoteL s.data.toList ++ [39])) := Lib.hid (by unfold keyL; rw [if_neg (by rw [hb]; simp)])
  rw [hb] at HN
  clear hb
  rw [HK.out]
  go_enter Tryz.func184, Tryz.ntmps184
  go_wp2_with fail
  refine HN.out.mono ?_
  rintro e w1 ⟨rfl, hb1⟩
  have HB1 := Lib.hid hb1
  clear hb1
  go_wp2_with fail
  refine (quote_any s w1 hs).mono ?_
  rintro e w2 ⟨rfl, hb2⟩
  go_wp2_with fail
  go_ret
  exact ⟨rfl, below_step HB1.out rfl hb2⟩
end Go.Proofs.YtndhpdclpgemfaaGreat
namespace Go.Proofs.YtndhpdclpgemfaaGreat
open Go.RowKit
set_option linter.unusedVariables false
theorem qd_esc {l r : List UInt8} {x : UInt8} {n : Nat} (h0 : l.length ≠ 0) (h : nb l 0 = 92) (he : escV l = some (x, n)) (hr : l.drop n = r) : qd l = (qd r).map fun p => ([x] ++ p.1, p.2) := by
 have h1 := sg_one.2 ⟨h0, show nb l 0 < 128 by omega⟩
 rw [qd_eq, if_neg h0, if_neg (by omega), if_neg (by unfold bad; omega), if_pos h, he]
 dsimp only
 rw [hr]
 rfl
theorem qd_piece (l r : List UInt8) (h0 : l.length ≠ 0) : qd (pieceQ l ++ r) = (qd r).map fun p => (l.take (stepQ l) ++ p.1, p.2) := by
 have hb := nb_lt l 0
 have hs1 : ∀ k, nb l 0 = k → k < 128 → sg l = 1 := fun k h1 h2 => sg_one.2 ⟨h0, by omega⟩
 have hst : (sg l = 0 ∨ nb l 0 < 128) → stepQ l = 1 := fun h => by
  unfold stepQ
  rcases h with h | h
  ·rw [if_pos h]
  ·have := hs1 _ rfl h
   rw [if_neg (by omega)]; exact this
 unfold pieceQ
 by_cases a1 : sg l = 0 ∨ nb l 0 = 127
 ·rw [if_pos a1, hst (by omega), take_one h0]
  exact qd_esc (by simp) rfl (escV_hex _ hb r) rfl
 rw [if_neg a1]
 by_cases a2 : nb l 0 = 39 ∨ nb l 0 = 92
 ·rw [if_pos a2, hst (by omega), take_one h0]
  have n1 : nb ([92, UInt8.ofNat (nb l 0)] ++ r) 1 = nb l 0 := by
   show (UInt8.ofNat (nb l 0)).toNat = _
   simp; omega
  have e := escV_q (l := [92, UInt8.ofNat (nb l 0)] ++ r) (by simp) (by rw [n1]; omega)
  rw [n1] at e
  exact qd_esc (by simp) rfl e rfl
 rw [if_neg a2]
 by_cases a3 : nb l 0 = 10
 ·rw [if_pos a3, hst (by omega), take_one h0, a3]
  exact qd_esc (by simp) rfl (escV_n (by simp) rfl) rfl
 rw [if_neg a3]
 by_cases a4 : nb l 0 = 9
 ·rw [if_pos a4, hst (by omega), take_one h0, a4]
  exact qd_esc (by simp) rfl (escV_t (by simp) rfl) rfl
 rw [if_neg a4]
 by_cases a5 : nb l 0 = 13
 ·rw [if_pos a5, hst (by omega), take_one h0, a5]
  exact qd_esc (by simp) rfl (escV_r (by simp) rfl) rfl
 rw [if_neg a5]
 by_cases a6 : nb l 0 < 32
 ·rw [if_pos a6, hst (by omega), take_one h0]
  exact qd_esc (by simp) rfl (escV_hex _ hb r) rfl
 rw [if_neg a6]
 have h1 : sg l ≠ 0 := fun e => a1 (.inl e)
 have h2 := sg_le (l := l)
 have hS := sg_take r h1
 have n0 := nb_take l r (sg l) 0 (by omega) h2.2
 have hbd : ¬ bad (l.take (sg l) ++ r) := by unfold bad; rw [hS, n0]; omega
 rw [qd_eq, if_neg (by rw [List.length_append, List.length_take]; omega), n0, if_neg (by omega), if_neg hbd, if_neg (by omega), hS]
 rw [show stepQ l = sg l from by unfold stepQ; rw [if_neg h1]]
 have h3 : (l.take (sg l)).length = sg l := by rw [List.length_take]; omega
 rw [List.drop_append_of_le_length (by omega), List.take_append_of_le_length (by omega), List.take_take, Nat.min_self]
 rw [List.drop_of_length_le (by omega), List.nil_append]
theorem qd_quote (r : List UInt8) : ∀ (k : Nat) (l : List UInt8), l.length = k → qd (quoteL l ++ 39 :: r) = some (l, r) := by
 intro k
 induction k using Nat.strongRecOn with
 | _ k ih =>
  intro l hl
  by_cases h0 : l.length = 0
  ·rw [quoteL_nil h0, List.length_eq_zero_iff.1 h0, List.nil_append, qd_eq, if_neg (by simp), if_pos (show nb (39 :: r) 0 = 39 from rfl)]; rfl
  ·have h1 := stepQ_pos l
   rw [quoteL_step h0, List.append_assoc, qd_piece l _ h0, ih _ (by rw [List.length_drop]; omega) (l.drop (stepQ l)) rfl]
   simp
def ncharB (c : UInt8) : Bool := nchar c.toNat
theorem nameB_all {l : List UInt8} (h : nameB l = true) : l.all ncharB = true ∧ ∃ c t, l = c :: t ∧ letter c.toNat = true := by
 have := of_decide_eq_true h
 obtain ⟨h1, h2, h3, h4⟩ := this
 constructor
 ·rw [List.all_eq_true]
  intro c hc
  obtain ⟨i, hi, he⟩ := List.getElem_of_mem hc
  have := h4 i hi
  unfold nb at this
  rw [List.getElem?_eq_getElem hi, he] at this
  exact this
 ·cases l with
  | nil => simp at h1
  | cons c t => exact ⟨c, t, rfl, h3⟩
end Go.Proofs.YtndhpdclpgemfaaGreat

/- Parts S15, S17, S19, S24, S18, S28 of this seat (pruned, scripts that are alike kept once as default arguments: q1, q2, ..). Conditions: each says its own. -/
import Derived.Test.YteljlahcdipilaaGreatF2
import Derived.Test.YteljlahcdipilaaGreatF5
import Derived.Test.YteljlahcdipilaaGreatF7
namespace Go.Proofs.YteljlahcdipilaaGreat
open Go.RowKit
set_option linter.unusedVariables false
theorem escV_short {l : List UInt8} (h : l.length < 2) : escV l = none := by unfold escV; rw [if_pos h]
theorem escV_q {l : List UInt8} (h : ¬ l.length < 2) (h1 : nb l 1 = 92 ∨ nb l 1 = 39) : escV l = some (UInt8.ofNat (nb l 1), 2) := by unfold escV; rw [if_neg h, if_pos h1]
theorem escV_n {l : List UInt8} (h : ¬ l.length < 2) (h1 : nb l 1 = 110) : escV l = some (10, 2) := by unfold escV; rw [if_neg h, if_neg (by omega), if_pos h1]
theorem escV_t {l : List UInt8} (h : ¬ l.length < 2) (h1 : nb l 1 = 116) : escV l = some (9, 2) := by unfold escV; rw [if_neg h, if_neg (by omega), if_neg (by omega), if_pos h1]
theorem escV_r {l : List UInt8} (h : ¬ l.length < 2) (h1 : nb l 1 = 114) : escV l = some (13, 2) := by unfold escV; rw [if_neg h, if_neg (by omega), if_neg (by omega), if_neg (by omega), if_pos h1]
theorem escV_no {l : List UInt8} (h : ¬ l.length < 2) (h1 : nb l 1 ≠ 92) (h2 : nb l 1 ≠ 39) (h3 : nb l 1 ≠ 110) (h4 : nb l 1 ≠ 116) (h5 : nb l 1 ≠ 114) (h6 : l.length < 4 ∨ nb l 1 ≠ 120 ∨ hexv (nb l 2) < 0 ∨ hexv (nb l 3) < 0) : escV l = none := by
 unfold escV; rw [if_neg h, if_neg (by omega), if_neg h3, if_neg h4, if_neg h5, if_pos h6]
theorem escV_x {l : List UInt8} (h : ¬ l.length < 4) (h1 : nb l 1 = 120) (h2 : ¬ hexv (nb l 2) < 0) (h3 : ¬ hexv (nb l 3) < 0) : escV l = some (UInt8.ofNat (hexv (nb l 2) * (16 : Int) + hexv (nb l 3)).toNat, 4) := by
 unfold escV; rw [if_neg (by omega), if_neg (by omega), if_neg (by omega), if_neg (by omega), if_neg (by omega), if_neg (by omega)]
theorem qd_last : ∀ (k : Nat) (l : List UInt8), l.length = k → ∀ t r, qd l = some (t, r) → ∃ j, j < l.length ∧ nb l j = 39 ∧ r = l.drop (j + 1) := by
 intro k
 induction k using Nat.strongRecOn with
 | _ k ih =>
  intro l hl t r h
  rw [qd_eq] at h
  by_cases h0 : l.length = 0
  ·rw [if_pos h0] at h; cases h
  rw [if_neg h0] at h
  have key : ∀ (n : Nat) (p : List UInt8), 1 ≤ n → n ≤ l.length → (qd (l.drop n)).map (fun q => (p ++ q.1, q.2)) = some (t, r) → ∃ j, j < l.length ∧ nb l j = 39 ∧ r = l.drop (j + 1) := fun n p h1 h2 h3 => by
   cases hq : qd (l.drop n) with
   | none => rw [hq] at h3; cases h3
   | some q =>
    obtain ⟨t', r'⟩ := q
    rw [hq] at h3
    obtain ⟨j, j1, j2, j3⟩ := ih (l.drop n).length (by rw [List.length_drop]; omega) (l.drop n) rfl t' r' hq
    rw [List.length_drop] at j1
    rw [nb_drop] at j2
    rw [List.drop_drop] at j3
    cases h3
    exact ⟨n + j, by omega, j2, by rw [j3]; congr 1⟩
  by_cases h1 : nb l 0 = 39
  ·rw [if_pos h1] at h
   cases h
   exact ⟨0, by omega, h1, rfl⟩
  rw [if_neg h1] at h
  by_cases h2 : bad l
  ·rw [if_pos h2] at h; cases h
  rw [if_neg h2] at h
  by_cases h3 : nb l 0 = 92
  ·rw [if_pos h3] at h
   cases he : escV l with
   | none => rw [he] at h; cases h
   | some p =>
    obtain ⟨x, n⟩ := p
    rw [he] at h
    have hl := escV_len he
    exact key n [x] (by omega) hl.2 h
  ·rw [if_neg h3] at h
   exact key (sg l) (l.take (sg l)) (by have := bad_not h2; omega) sg_le.2 h
end Go.Proofs.YteljlahcdipilaaGreat
namespace Go.Proofs.YteljlahcdipilaaGreat
open Go.RowKit Go.Shelf
set_option linter.unusedSimpArgs false
set_option linter.unusedVariables false
theorem toList_data (s : ByteArray) : s.toList = s.data.toList := by
 have h := strOf_list s.data.toList
 rwa [strOf_toList] at h
def nchar (c : Nat) : Bool := letter c || digt c
def nameB (l : List UInt8) : Bool := decide (1 ≤ l.length ∧ l.length ≤ 64 ∧ letter (nb l 0) = true ∧ ∀ k, k < l.length → nchar (nb l k) = true)
def DoneN (l : List UInt8) (i : Nat) : Prop := i ≤ l.length ∧ (0 < i → letter (nb l 0) = true) ∧ ∀ k, k < i → nchar (nb l k) = true
theorem doneN_zero (l : List UInt8) : DoneN l 0 := ⟨by omega, fun h => by omega, fun k h => by omega⟩
theorem doneN_step {l : List UInt8} {i : Nat} (h : DoneN l i) (hi : i < l.length) (h0 : i = 0 → letter (nb l i) = true) (hc : nchar (nb l i) = true) : DoneN l (i + 1) := by
 obtain ⟨h1, h2, h3⟩ := h
 refine ⟨by omega, fun _ => ?_, fun k hk => ?_⟩
 ·by_cases hz : i = 0
  ·subst hz; exact h0 rfl
  ·exact h2 (by omega)
 ·by_cases hk2 : k = i
  ·subst hk2; exact hc
  ·exact h3 k (by omega)
theorem doneN_end {l : List UInt8} {i : Nat} (h : DoneN l i) (hi : l.length ≤ i) : nameB l = decide (1 ≤ l.length ∧ l.length ≤ 64) := by
 obtain ⟨h1, h2, h3⟩ := h
 unfold nameB
 apply decide_eq_decide.2
 constructor
 ·rintro ⟨a, b, _⟩; exact ⟨a, b⟩
 ·rintro ⟨a, b⟩; exact ⟨a, b, h2 (by omega), fun k hk => h3 k (by omega)⟩
theorem nameB_no {l : List UInt8} {i : Nat} (hi : i < l.length) (h : nchar (nb l i) = false ∨ (i = 0 ∧ letter (nb l i) = false)) : nameB l = false := by
 apply decide_eq_false
 rintro ⟨_, _, h3, h4⟩
 rcases h with h | ⟨rfl, h⟩
 ·rw [h4 i hi] at h; cases h
 ·rw [h3] at h; cases h
theorem letter_nchar {c : Nat} (h : letter c = true) : nchar c = true := by unfold nchar; rw [h]; rfl
theorem digt_nchar {c : Nat} (h : digt c = true) : nchar c = true := by unfold nchar; rw [h, Bool.or_true]
theorem nchar_no {c : Nat} (h : letter c = false) (k : digt c = false) : nchar c = false := by unfold nchar; rw [h, k]; rfl
theorem big_no {r m c : Nat} (SM : r < 128 → m = 1 ∧ c = r) (BG : ¬ r < 128 → ¬ c < 128) (h1 : ¬ (97 ≤ r ∧ r ≤ 122)) (h2 : ¬ (65 ≤ r ∧ r ≤ 90) ∧ r ≠ 95 ∧ ¬ (48 ≤ r ∧ r ≤ 57)) : nchar c = false := by
 by_cases hb : r < 128
 ·have hsm := SM hb
  rw [hsm.2]
  exact nchar_no (decide_eq_false (by omega)) (decide_eq_false (by omega))
 ·have := BG hb
  exact nchar_no (decide_eq_false (by omega)) (decide_eq_false (by omega))
theorem Sq623403 {P : Prop} (h : P := by
 first
 |(
  guard_hyp z623403b
  have d1 : (97 : Int) ≤ r := by omega
  by_cases c2 : r ≤ 122)
 |(
  have d3 : (65 : Int) ≤ r := by omega
  by_cases c4 : r ≤ 90)
 ·first
  | (guard_hyp z623403b; have d2 : (r : Int) ≤ 122 := by omega)
  | (have d4 : (r : Int) ≤ 90 := by omega)
  have t : True := trivial
  have hsm := SM.out (by omega)
  have HM := Lib.hid hsm.1
  have hlt : letter (nb s.data.toList i) = true := by rw [hsm.2]; exact decide_eq_true (by omega)
  have HU := Lib.hid (NX.out (fun _ => hlt) (letter_nchar hlt))
  clear hsm hlt
  go_wp2_with fail
  go_roundw
  case rel => exact ⟨i + m, HIT2.out, HBW2.out, by rw [HM.out]; exact HU⟩
  case measure => simp only [World.iterPos, HIT2.out, HIT.out]; omega
 first
 |(
  guard_hyp z623403b
  have d2 : ¬ (r : Int) ≤ 122 := by omega
  have d3 : (65 : Int) ≤ r := by omega)
 | skip
 have d4 : ¬ (r : Int) ≤ 90 := by omega
 first
 |(
  guard_hyp z623403a
  by_cases c5 : r = 95
  ·have d5 : ((r : Int) == 95) = true := by simp; omega
   have C5 := Lib.hid c5
   have hsm := SM.out (by omega)
   have HM := Lib.hid hsm.1
   have hlt : letter (nb s.data.toList i) = true := by rw [hsm.2]; exact decide_eq_true (by omega)
   have HU := Lib.hid (NX.out (fun _ => hlt) (letter_nchar hlt))
   clear hsm hlt c5
   go_wp2_with fail
   go_roundw
   case rel => exact ⟨i + m, HIT2.out, HBW2.out, by rw [HM.out]; exact HU⟩
   case measure => simp only [World.iterPos, HIT2.out, HIT.out]; omega)
 | skip
 have d5 : ((r : Int) == 95) = false := by simp; omega
 have d6 : ¬ (r : Int) < 48 := by omega
 have d7 : (57 : Int) < r := by omega
 have t : True := trivial
 have HU := Lib.hid (NO.out (.inl (big_no SM.out BG.out (by omega) (by omega))))
 by_cases hz : i = 0
 ·have hzb : ((i : Int) == 0) = true := by simp; omega
  clear hz
  go_wp2_with fail
  go_ret
  exact ⟨by rw [← HR.out, HU.out]; rfl, HBW2.out⟩
 ·have hzb : ((i : Int) == 0) = false := by simp; omega
  go_wp2_with fail
  go_ret
  exact ⟨by rw [← HR.out, HU.out]; rfl, HBW2.out⟩) : P := h
theorem Sq233235 {P : Prop} (h : P := by
 first
 | (guard_hyp z233235a; have d6 : (r : Int) < 48 := by omega)
 | (have d7 : (57 : Int) < r := by omega)
 have t : True := trivial
 have HU := Lib.hid (NO.out (.inl (big_no SM.out BG.out (by omega) (by omega))))
 by_cases hz : i = 0
 ·have hzb : ((i : Int) == 0) = true := by simp; omega
  clear hz
  go_wp2_with fail
  go_ret
  exact ⟨by rw [← HR.out, HU.out]; rfl, HBW2.out⟩
 ·have hzb : ((i : Int) == 0) = false := by simp; omega
  go_wp2_with fail
  go_ret
  exact ⟨by rw [← HR.out, HU.out]; rfl, HBW2.out⟩) : P := h
set_option maxRecDepth 1000000 in
set_option maxHeartbeats 4000000 in
theorem sname_any (s : ByteArray) (w : World) (hs : s.size ≤ 1099511627776) :
    Calls Tryz.prog 72 #[.string s] w fun e w' => e = .returned (.bool (nameB s.data.toList)) ∧ Below w.heap.size w w' := by
 have HL : Hid (s.data.toList.length = s.size) := Lib.hid (by simp)
 obtain ⟨R, hR⟩ := nam (nameB s.data.toList)
 have HR := Lib.hid hR
 rw [hR]
 clear hR
 go_enter Tryz.func72, Tryz.ntmps72
 go_wp2_with fail
 go_loopw [] (fun wr => ∃ i : Nat, wr.heap[w.heap.size]? = some (.stringIter s i) ∧ Below w.heap.size w wr ∧ Hid (DoneN s.data.toList i)) (fun wr => s.size - wr.iterPos w.heap.size)
 case atStart =>
  refine ⟨0, ?_, (Below.refl _ w).alloc (Nat.le_refl _) _, Lib.hid (doneN_zero _)⟩
  have := World.iter_heap w s 0
  simpa using this
 case round =>
  obtain ⟨i, hit, hbw, hd⟩ := hrel
  have hszr : w.heap.size < wr.heap.size := (Array.getElem?_eq_some_iff.1 hit).1
  have HIT := Lib.hid hit
  have HBW := Lib.hid hbw
  clear hit hbw
  have hil : i ≤ s.size := by have := hd.out.1; rw [HL.out] at this; exact this
  by_cases hp : i < s.size
  ·have hnx : ∀ ty, (Instr.next (.pointer (some ⟨w.heap.size, 0, none⟩)) true ty).run Tryz.prog wr = _ := fun ty => Lib.run_next_any_at wr w.heap.size s i ty HIT.out hp
   have hln : (s.data.toList.drop i).length ≠ 0 := by simp; omega
   have hdec := decode_spec s i hp
   have hmv : (if sg (s.data.toList.drop i) = 0 then 1 else sg (s.data.toList.drop i)) = stepQ (s.data.toList.drop i) := rfl
   rw [hmv] at hdec
   rw [hdec] at hnx
   dsimp only at hnx
   have hm1 := stepQ_pos (s.data.toList.drop i)
   have hm2 := stepQ_le hln
   rw [List.length_drop] at hm2
   simp only [Array.length_toList, ByteArray.size_data] at hm2
   have X : Hid (nb (s.data.toList.drop i) 0 = nb s.data.toList i) := Lib.hid (by rw [nb_drop, Nat.add_zero])
   have SM : Hid (rv (s.data.toList.drop i) < 128 → stepQ (s.data.toList.drop i) = 1 ∧ nb s.data.toList i = rv (s.data.toList.drop i)) := Lib.hid (fun h => by
    have := rv_small hln h
    exact ⟨by unfold stepQ; rw [if_neg (by omega)]; exact this.1, by rw [← X.out]; exact this.2⟩)
   have BG : Hid (¬ rv (s.data.toList.drop i) < 128 → ¬ nb s.data.toList i < 128) := Lib.hid (fun h h2 => h (by
    have h3 := sg_one.2 ⟨hln, by rw [X.out]; exact h2⟩
    have h4 : rv (s.data.toList.drop i) = nb (s.data.toList.drop i) 0 := by unfold rv; rw [if_pos h3]
    rw [h4, X.out]; exact h2))
   have hrl : rv (s.data.toList.drop i) ≤ 2147483647 := by have := decode_le s i; rw [hdec] at this; exact this
   have NX := Lib.hid (doneN_step hd.out (by rw [HL.out]; exact hp))
   have NO := Lib.hid (@nameB_no s.data.toList i (by rw [HL.out]; exact hp))
   clear hln hdec hmv
   generalize rv (s.data.toList.drop i) = r at *
   generalize stepQ (s.data.toList.drop i) = m at *
   have HIT2 := Lib.hid (Lib.iterAt_heap wr w.heap.size s i (i + m) HIT.out)
   have HBW2 := Lib.hid (Lib.below_iterAt HBW.out (k := w.heap.size) (by omega) s (i + m))
   generalize hWn : wr.iterAt w.heap.size s (i + m) = Wn at *
   have HWn := Lib.hid hWn
   clear hWn
   by_cases c1 : 97 ≤ r
   ·have z623403b := trivial
    exact Sq623403
   have d1 : ¬ (97 : Int) ≤ r := by omega
   by_cases c3 : 65 ≤ r
   ·have z623403a := trivial
    exact Sq623403
   have d3 : ¬ (65 : Int) ≤ r := by omega
   have d5 : ((r : Int) == 95) = false := by simp; omega
   by_cases c6 : r < 48
   ·have z233235a := trivial
    exact Sq233235
   have d6 : ¬ (r : Int) < 48 := by omega
   by_cases c7 : 57 < r
   ·exact Sq233235
   have d7 : ¬ (57 : Int) < r := by omega
   have hsm := SM.out (by omega)
   have HM := Lib.hid hsm.1
   have hdg : digt (nb s.data.toList i) = true := by rw [hsm.2]; exact decide_eq_true (by omega)
   have hnl : letter (nb s.data.toList i) = false := by rw [hsm.2]; exact decide_eq_false (by omega)
   by_cases hz : i = 0
   ·have hzb : ((i : Int) == 0) = true := by simp; omega
    have HU := Lib.hid (NO.out (.inr ⟨hz, hnl⟩))
    clear hz hsm hdg hnl
    go_wp2_with fail
    go_ret
    exact ⟨by rw [← HR.out, HU.out]; rfl, HBW2.out⟩
   ·have hzb : ((i : Int) == 0) = false := by simp; omega
    have HU := Lib.hid (NX.out (fun h => absurd h hz) (digt_nchar hdg))
    clear hsm hdg hnl
    go_wp2_with fail
    go_roundw
    case rel => exact ⟨i + m, HIT2.out, HBW2.out, by rw [HM.out]; exact HU⟩
    case measure => simp only [World.iterPos, HIT2.out, HIT.out]; omega
  ·have hnx : ∀ ty, (Instr.next (.pointer (some ⟨w.heap.size, 0, none⟩)) true ty).run Tryz.prog wr = _ := fun ty => Lib.run_next_end_at wr w.heap.size s i ty HIT.out hp
   have HE := Lib.hid (doneN_end hd.out (by rw [HL.out]; omega))
   have hle : s.toList.length = s.size := by rw [← HL.out, toList_data]
   by_cases he : s.size = 0
   ·have k1 : s.toList = [] := List.length_eq_zero_iff.1 (by omega)
    have HF : Hid (R = false) := Lib.hid (by rw [← HR.out, HE.out, HL.out]; exact decide_eq_false (by omega))
    have k1b : s.toList.isEmpty = true := by rw [k1]; rfl
    clear hle k1
    go_wp2_with fail
    go_ret
    exact ⟨by rw [HF.out]; rfl, HBW.out⟩
   ·have k1 : ¬ s.toList = [] := fun h => by rw [h] at hle; simp at hle; omega
    have k1b : s.toList.isEmpty = false := by rw [List.isEmpty_eq_false_iff]; exact k1
    clear hle
    by_cases h64 : s.size ≤ 64
    ·have k2 : (s.size : Int) ≤ 64 := by omega
     have HF : Hid (R = true) := Lib.hid (by rw [← HR.out, HE.out, HL.out]; exact decide_eq_true (by omega))
     go_wp2_with fail
     go_ret
     exact ⟨by rw [HF.out]; rfl, HBW.out⟩
    ·have k2 : ¬ (s.size : Int) ≤ 64 := by omega
     have HF : Hid (R = false) := Lib.hid (by rw [← HR.out, HE.out, HL.out]; exact decide_eq_false (by omega))
     go_wp2_with fail
     go_ret
     exact ⟨by rw [HF.out]; rfl, HBW.out⟩
inductive MayE : Vt → Prop
  | mk (k : Int) (b : Bool) (i : Int) (s : ByteArray) (l : List Vt) (ks : List ByteArray) (h1 : 0 ≤ k) (h2 : k ≤ 7) (h3 : k = 5 → ks.length = l.length) (h4 : unusedV k b i s l.length ks.length = true) (h5 : ∀ (j : Nat) u, l[j]? = some u → MayE u) : MayE (.mk k b i s l ks)
theorem MayE.head {k : Int} {b : Bool} {i : Int} {s : ByteArray} {l : List Vt} {ks : List ByteArray} (h : MayE (.mk k b i s l ks)) : 0 ≤ k ∧ k ≤ 7 ∧ (k = 5 → ks.length = l.length) ∧ ∀ (j : Nat) u, l[j]? = some u → MayE u := by
 cases h with
 | mk _ _ _ _ _ _ h1 h2 h3 h4 h5 => exact ⟨h1, h2, h3, h5⟩
theorem MayE.of_may (t : Vt) : ∀ d p, (mayV t d p).2 = true → MayE t := by
 refine t.down (p := fun t => ∀ d p, (mayV t d p).2 = true → MayE t) fun k b i s l ks ih d p h => ?_
 obtain ⟨k', b', i', s', l', ks', he, hh, hp⟩ := mayV_parts h
 injection he with e1 e2 e3 e4 e5 e6
 subst e1 e2 e3 e4 e5 e6
 have h9 := of_decide_eq_true hh
 exact .mk _ _ _ _ _ _ h9.2.2.1 h9.2.2.2.1 (fun h5 => (h9.2.2.2.2.2.2 h5).1) h9.2.2.2.2.1 (fun j u hu => by obtain ⟨q, hq⟩ := hp j u hu; exact ih j u hu _ _ hq)
end Go.Proofs.YteljlahcdipilaaGreat
namespace Go.Proofs.YteljlahcdipilaaGreat
open Go.RowKit
set_option linter.unusedVariables false
theorem sg_2 {l : List UInt8} (h1 : 194 ≤ nb l 0) (h2 : nb l 0 < 224) (h3 : tl l 1 = true) : sg l = 2 := by
 have := (tl_true.1 h3).1
 unfold sg
 rw [if_neg (by omega), if_neg (by omega), if_neg (by rw [h3]; simp; omega), if_pos h2]
theorem sg_3 {l : List UInt8} (h1 : 224 ≤ nb l 0) (h2 : nb l 0 < 240) (h3 : tl l 1 = true) (h4 : tl l 2 = true) (h5 : ¬ (nb l 0 = 224 ∧ nb l 1 < 160)) (h6 : ¬ (nb l 0 = 237 ∧ 160 ≤ nb l 1)) : sg l = 3 := by
 have := (tl_true.1 h3).1
 unfold sg
 rw [if_neg (by omega), if_neg (by omega), if_neg (by rw [h3]; simp; omega), if_neg (by omega), if_neg (by rw [h4]; simp only [Bool.true_eq_false, false_or]; omega), if_pos h2]
theorem sg_4 {l : List UInt8} (h1 : 240 ≤ nb l 0) (h2 : nb l 0 ≤ 244) (h3 : tl l 1 = true) (h4 : tl l 2 = true) (h7 : tl l 3 = true) (h5 : ¬ (nb l 0 = 240 ∧ nb l 1 < 144)) (h6 : ¬ (nb l 0 = 244 ∧ 144 ≤ nb l 1)) : sg l = 4 := by
 have := (tl_true.1 h3).1
 unfold sg
 rw [if_neg (by omega), if_neg (by omega), if_neg (by rw [h3]; simp; omega), if_neg (by omega), if_neg (by rw [h4]; simp only [Bool.true_eq_false, false_or]; omega), if_neg (by omega), if_neg (by rw [h7]; simp only [Bool.true_eq_false, false_or]; omega)]
theorem nb_take (l r : List UInt8) (n k : Nat) (h : k < n) (hn : n ≤ l.length) : nb (l.take n ++ r) k = nb l k := by
 unfold nb
 rw [List.getElem?_append_left (by rw [List.length_take]; omega), List.getElem?_take, if_pos h]
theorem tl_take (l r : List UInt8) (n k : Nat) (h : k < n) (hn : n ≤ l.length) (ht : 128 ≤ nb l k ∧ nb l k < 192) : tl (l.take n ++ r) k = true := by
 rw [tl_true, nb_take l r n k h hn, List.length_append, List.length_take]
 exact ⟨by omega, ht⟩
theorem sg_take {l : List UInt8} (r : List UInt8) (h : sg l ≠ 0) : sg (l.take (sg l) ++ r) = sg l := by
 obtain ⟨f2, f3, f4⟩ := sg_facts (l := l)
 have hle := sg_le (l := l)
 have hc : sg l = 1 ∨ sg l = 2 ∨ sg l = 3 ∨ sg l = 4 := by omega
 have n0 : nb (l.take (sg l) ++ r) 0 = nb l 0 := nb_take l r _ 0 (by omega) hle.2
 rcases hc with e | e | e | e
 ·have h1 := (sg_one.1 e).2
  rw [e] at n0 hle ⊢
  exact sg_one.2 ⟨by rw [List.length_append, List.length_take]; omega, by omega⟩
 ·have h1 := f2 e
  rw [e] at n0 hle ⊢
  exact sg_2 (by omega) (by omega) (tl_take l r 2 1 (by omega) hle.2 h1.2.2)
 ·have h1 := f3 e
  rw [e] at n0 hle ⊢
  have n1 := nb_take l r 3 1 (by omega) hle.2
  exact sg_3 (by omega) (by omega) (tl_take l r 3 1 (by omega) hle.2 h1.2.2.1) (tl_take l r 3 2 (by omega) hle.2 h1.2.2.2.1) (by rw [n0, n1]; exact h1.2.2.2.2.1) (by rw [n0, n1]; exact h1.2.2.2.2.2)
 ·have h1 := f4 e
  rw [e] at n0 hle ⊢
  have n1 := nb_take l r 4 1 (by omega) hle.2
  exact sg_4 (by omega) (by omega) (tl_take l r 4 1 (by omega) hle.2 h1.2.2.1) (tl_take l r 4 2 (by omega) hle.2 h1.2.2.2.1) (tl_take l r 4 3 (by omega) hle.2 h1.2.2.2.2.1) (by rw [n0, n1]; exact h1.2.2.2.2.2.1) (by rw [n0, n1]; exact h1.2.2.2.2.2.2)
def Laid (t : Vt) : Prop := ∃ B w cs, IsV B w cs t
theorem Laid.head {k : Int} {b : Bool} {i : Int} {s : ByteArray} {l : List Vt} {ks : List ByteArray} (h : Laid (.mk k b i s l ks)) : In64 i ∧ ∀ (j : Nat) u, l[j]? = some u → Laid u := by
 obtain ⟨B, w, cs, h⟩ := h
 unfold IsV at h
 obtain ⟨la, lc, ka, kc, -, -, h2, -, -, -, -, -, hL⟩ := h
 exact ⟨h2, fun j u hu => by obtain ⟨_, _, cs', _, _, _, hV⟩ := hL.get j u hu; exact ⟨_, _, cs', hV⟩⟩
end Go.Proofs.YteljlahcdipilaaGreat

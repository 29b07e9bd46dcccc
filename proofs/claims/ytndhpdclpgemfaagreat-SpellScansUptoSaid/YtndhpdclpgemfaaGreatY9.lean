/- Parts S11, S12, S13 of this seat (pruned, scripts that are alike kept once as default arguments: q1, q2, ..). Conditions: each says its own. -/
import Derived.Outline
import Derived.BigQuiet
import Derived.Laws.Runes
import Derived.Test.YtndhpdclpgemfaaGreatY7
import Derived.Test.YtndhpdclpgemfaaGreatY8
namespace Go.Proofs.YtndhpdclpgemfaaGreat
open Go.RowKit
set_option linter.unusedVariables false
def escV (l : List UInt8) : Option (UInt8 × Nat) :=
  if l.length < 2 then none
  else if nb l 1 = 92 ∨ nb l 1 = 39 then some (UInt8.ofNat (nb l 1), 2)
  else if nb l 1 = 110 then some (10, 2) else if nb l 1 = 116 then some (9, 2) else if nb l 1 = 114 then some (13, 2)
  else if l.length < 4 ∨ nb l 1 ≠ 120 ∨ hexv (nb l 2) < 0 ∨ hexv (nb l 3) < 0 then none
  else some (UInt8.ofNat (hexv (nb l 2) * 16 + hexv (nb l 3)).toNat, 4)
theorem escV_len {l : List UInt8} {x : UInt8} {n : Nat} (h : escV l = some (x, n)) : (n = 2 ∨ n = 4) ∧ n ≤ l.length := by
 unfold escV at h
 by_cases h1 : l.length < 2
 ·rw [if_pos h1] at h; cases h
 rw [if_neg h1] at h
 by_cases h2 : nb l 1 = 92 ∨ nb l 1 = 39
 ·rw [if_pos h2] at h; cases h; omega
 rw [if_neg h2] at h
 by_cases h3 : nb l 1 = 110
 ·rw [if_pos h3] at h; cases h; omega
 rw [if_neg h3] at h
 by_cases h4 : nb l 1 = 116
 ·rw [if_pos h4] at h; cases h; omega
 rw [if_neg h4] at h
 by_cases h5 : nb l 1 = 114
 ·rw [if_pos h5] at h; cases h; omega
 rw [if_neg h5] at h
 by_cases h6 : l.length < 4 ∨ nb l 1 ≠ 120 ∨ hexv (nb l 2) < 0 ∨ hexv (nb l 3) < 0
 ·rw [if_pos h6] at h; cases h
 rw [if_neg h6] at h; cases h; omega
def bad (l : List UInt8) : Prop := sg l = 0 ∨ nb l 0 < 32 ∨ nb l 0 = 127
instance (l : List UInt8) : Decidable (bad l) := by unfold bad; infer_instance
def qdN : Nat → List UInt8 → Option (List UInt8 × List UInt8)
  | 0, _ => none
  | k + 1, l =>
    if l.length = 0 then none else if nb l 0 = 39 then some ([], l.drop 1) else if bad l then none
    else if nb l 0 = 92 then (match escV l with | none => none | some (x, n) => (qdN k (l.drop n)).map fun p => (x :: p.1, p.2))
    else (qdN k (l.drop (sg l))).map fun p => (l.take (sg l) ++ p.1, p.2)
def uqN : Nat → List UInt8 → Option (List UInt8)
  | 0, _ => some []
  | k + 1, l =>
    if l.length = 0 then some [] else if nb l 0 = 92 then (match escV l with | none => none | some (x, n) => (uqN k (l.drop n)).map fun p => x :: p)
    else if nb l 0 = 39 ∨ bad l then none
    else (uqN k (l.drop (sg l))).map fun p => l.take (sg l) ++ p
theorem bad_not {l : List UInt8} (h : ¬ bad l) : sg l ≠ 0 := fun e => h (.inl e)
theorem qdN_more : ∀ (k : Nat) (l : List UInt8), l.length ≤ k → qdN (k + 1) l = qdN (l.length + 1) l := by
 intro k
 induction k using Nat.strongRecOn with
 | _ k ih =>
  intro l hl
  by_cases hk : k = l.length
  ·rw [hk]
  obtain ⟨j, rfl⟩ : ∃ j, k = j + 1 := ⟨k - 1, by omega⟩
  by_cases h0 : l.length = 0
  ·simp [qdN, h0]
  have hstep : ∀ n, 1 ≤ n → n ≤ l.length → qdN (j + 1) (l.drop n) = qdN l.length (l.drop n) := fun n h1 h2 => by
   have a := ih j (by omega) (l.drop n) (by simp; omega)
   obtain ⟨m, hm⟩ : ∃ m, l.length = m + 1 := ⟨l.length - 1, by omega⟩
   rw [hm]
   by_cases hmj : m = j
   ·rw [hmj]
   have b := ih m (by omega) (l.drop n) (by simp; omega)
   rw [a, b]
  rw [qdN]
  conv => rhs; rw [qdN]
  rw [if_neg h0, if_neg h0]
  by_cases h1 : nb l 0 = 39
  ·rw [if_pos h1, if_pos h1]
  rw [if_neg h1, if_neg h1]
  by_cases h2 : bad l
  ·rw [if_pos h2, if_pos h2]
  rw [if_neg h2, if_neg h2]
  by_cases h3 : nb l 0 = 92
  ·rw [if_pos h3, if_pos h3]
   cases he : escV l with
   | none => rfl
   | some p =>
    obtain ⟨x, n⟩ := p
    have := escV_len he
    simp only []
    rw [hstep n (by omega) this.2]
  ·rw [if_neg h3, if_neg h3, hstep (sg l) (by have := bad_not h2; omega) (sg_le).2]
theorem uqN_more : ∀ (k : Nat) (l : List UInt8), l.length ≤ k → uqN k l = uqN l.length l := by
 intro k
 induction k using Nat.strongRecOn with
 | _ k ih =>
  intro l hl
  by_cases hk : k = l.length
  ·rw [hk]
  obtain ⟨j, rfl⟩ : ∃ j, k = j + 1 := ⟨k - 1, by omega⟩
  by_cases h0 : l.length = 0
  ·rw [uqN, if_pos h0, h0, uqN]
  obtain ⟨m, hm⟩ : ∃ m, l.length = m + 1 := ⟨l.length - 1, by omega⟩
  have hstep : ∀ n, 1 ≤ n → n ≤ l.length → uqN j (l.drop n) = uqN m (l.drop n) := fun n h1 h2 => by
   have a := ih j (by omega) (l.drop n) (by simp; omega)
   have b := ih m (by omega) (l.drop n) (by simp; omega)
   rw [a, b]
  rw [hm, uqN]
  conv => rhs; rw [uqN]
  rw [if_neg h0, if_neg h0]
  by_cases h3 : nb l 0 = 92
  ·rw [if_pos h3, if_pos h3]
   cases he : escV l with
   | none => rfl
   | some p =>
    obtain ⟨x, n⟩ := p
    have := escV_len he
    simp only []
    rw [hstep n (by omega) this.2]
  ·rw [if_neg h3, if_neg h3]
   by_cases h2 : nb l 0 = 39 ∨ bad l
   ·rw [if_pos h2, if_pos h2]
   rw [if_neg h2, if_neg h2, hstep (sg l) (by have := bad_not (fun h => h2 (.inr h)); omega) (sg_le).2]
def qd (l : List UInt8) : Option (List UInt8 × List UInt8) := qdN (l.length + 1) l
def uq (l : List UInt8) : Option (List UInt8) := uqN l.length l
theorem qd_eq (l : List UInt8) : qd l = if l.length = 0 then none else if nb l 0 = 39 then some ([], l.drop 1) else if bad l then none
    else if nb l 0 = 92 then (match escV l with | none => none | some (x, n) => (qd (l.drop n)).map fun p => (x :: p.1, p.2))
    else (qd (l.drop (sg l))).map fun p => (l.take (sg l) ++ p.1, p.2) := by
 unfold qd
 rw [qdN]
 by_cases h0 : l.length = 0
 ·rw [if_pos h0, if_pos h0]
 rw [if_neg h0, if_neg h0]
 obtain ⟨m, hm⟩ : ∃ m, l.length = m + 1 := ⟨l.length - 1, by omega⟩
 have hs : ∀ n, 1 ≤ n → n ≤ l.length → qdN l.length (l.drop n) = qdN ((l.drop n).length + 1) (l.drop n) := fun n h1 h2 => by
  rw [hm]; exact qdN_more m (l.drop n) (by simp; omega)
 by_cases h1 : nb l 0 = 39
 ·rw [if_pos h1, if_pos h1]
 rw [if_neg h1, if_neg h1]
 by_cases h2 : bad l
 ·rw [if_pos h2, if_pos h2]
 rw [if_neg h2, if_neg h2]
 by_cases h3 : nb l 0 = 92
 ·rw [if_pos h3, if_pos h3]
  cases he : escV l with
  | none => rfl
  | some p =>
   obtain ⟨x, n⟩ := p
   have := escV_len he
   simp only []
   rw [hs n (by omega) this.2]
 ·rw [if_neg h3, if_neg h3, hs (sg l) (by have := bad_not h2; omega) (sg_le).2]
theorem uq_eq (l : List UInt8) : uq l = if l.length = 0 then some [] else if nb l 0 = 92 then (match escV l with | none => none | some (x, n) => (uq (l.drop n)).map fun p => x :: p)
    else if nb l 0 = 39 ∨ bad l then none else (uq (l.drop (sg l))).map fun p => l.take (sg l) ++ p := by
 unfold uq
 by_cases h0 : l.length = 0
 ·rw [if_pos h0, h0, uqN]
 obtain ⟨m, hm⟩ : ∃ m, l.length = m + 1 := ⟨l.length - 1, by omega⟩
 have hs : ∀ n, 1 ≤ n → n ≤ l.length → uqN m (l.drop n) = uqN (l.drop n).length (l.drop n) := fun n h1 h2 => uqN_more m (l.drop n) (by simp; omega)
 rw [hm, uqN, if_neg h0, if_neg (show ¬ m + 1 = 0 from by omega)]
 by_cases h3 : nb l 0 = 92
 ·rw [if_pos h3, if_pos h3]
  cases he : escV l with
  | none => rfl
  | some p =>
   obtain ⟨x, n⟩ := p
   have := escV_len he
   simp only []
   rw [hs n (by omega) this.2]
 ·rw [if_neg h3, if_neg h3]
  by_cases h2 : nb l 0 = 39 ∨ bad l
  ·rw [if_pos h2, if_pos h2]
  rw [if_neg h2, if_neg h2, hs (sg l) (by have := bad_not (fun h => h2 (.inr h)); omega) (sg_le).2]
end Go.Proofs.YtndhpdclpgemfaaGreat
namespace Go.Proofs.YtndhpdclpgemfaaGreat
open Go.RowKit Go.Shelf
set_option linter.unusedSimpArgs false
set_option linter.unusedVariables false
theorem digV (c : Fin 256) : Lib.indexByte [48, 49, 50, 51, 52, 53, 54, 55, 56, 57, 97, 98, 99, 100, 101, 102] (UInt8.ofNat (if 65 ≤ c.val ∧ c.val ≤ 70 then c.val + 32 else c.val)) = hexv c.val := by
 revert c; decide +kernel
theorem indexHex_any (i : Int) (c : Nat) (hi : i = c) (v : Int) (hv : Lib.indexByte [48, 49, 50, 51, 52, 53, 54, 55, 56, 57, 97, 98, 99, 100, 101, 102] (UInt8.ofNat c) = v) (w : World) :
    Calls Tryz.prog 149 #[.string ⟨#[48, 49, 50, 51, 52, 53, 54, 55, 56, 57, 97, 98, 99, 100, 101, 102]⟩, .int .u8 i] w fun e w' => e = .returned (.int .i64 v) ∧ w = w' := by
 subst hi
 subst hv
 refine (Any.strings_IndexByte { shLays137 with } ⟨#[48, 49, 50, 51, 52, 53, 54, 55, 56, 57, 97, 98, 99, 100, 101, 102]⟩ c w).mono ?_
 rintro e w' ⟨rfl, rfl⟩
 exact ⟨rfl, rfl⟩
theorem Sq81 {P : Prop} (h : P := by
 first
 | (guard_hyp z81a; have b' : ¬ (c : Int) ≤ 70 := by omega)
 | (have a' : ¬ (65 : Int) ≤ c := by omega)
 rw [if_neg (by omega)] at hv
 have HV := Lib.hid hv
 clear hv
 go_enter Tryz.func145, Tryz.ntmps145
 go_wp2_with fail
 refine (indexHex_any _ c rfl v HV.out w).mono ?_
 rintro e w' ⟨rfl, rfl⟩
 go_wp2_with fail
 go_ret
 exact ⟨rfl, rfl⟩) : P := h
theorem sdigit_any (c : Nat) (hc : c < 256) (w : World) :
    Calls Tryz.prog 145 #[.int .u8 c] w fun e w' => e = .returned (.int .i64 (hexv c)) ∧ w = w' := by
 have hv := digV ⟨c, hc⟩
 simp only at hv
 generalize hexv c = v at *
 by_cases a : 65 ≤ c
 ·have a' : (65 : Int) ≤ c := by omega
  by_cases b : c ≤ 70
  ·have b' : (c : Int) ≤ 70 := by omega
   rw [if_pos ⟨a, b⟩] at hv
   have HV := Lib.hid hv
   clear hv
   go_enter Tryz.func145, Tryz.ntmps145
   go_wp2_with fail
   refine (indexHex_any _ (c + 32) (by omega) v HV.out w).mono ?_
   rintro e w' ⟨rfl, rfl⟩
   go_wp2_with fail
   go_ret
   exact ⟨rfl, rfl⟩
  ·have z81a := trivial
   exact Sq81
 ·exact Sq81
theorem sdigit_any2 (c : Nat) (hc : c < 256) (w : World) :
    Calls Tryz.prog 145 #[.int .u8 c] w fun e w' => e = .returned (.int .i64 (hexv c)) ∧ w' = w := (sdigit_any c hc w).mono fun _ _ ⟨h, k⟩ => ⟨h, k.symm⟩
theorem or16 : ∀ a b : Fin 16, bits BinOp.or IntKind.i64 ((a.val : Int) * 16) b.val % 256 = ((UInt8.ofNat ((a.val : Int) * (16 : Int) + b.val).toNat).toNat : Int) := by decide +kernel
theorem or_of {a b : Int} (h1 : 0 ≤ a) (h2 : a ≤ 15) (h3 : 0 ≤ b) (h4 : b ≤ 15) : bits BinOp.or IntKind.i64 (a * 16) b % 256 = ((UInt8.ofNat (a * (16 : Int) + b).toNat).toNat : Int) := by
 have h := or16 ⟨a.toNat, by omega⟩ ⟨b.toNat, by omega⟩
 simp only [Int.toNat_of_nonneg h1, Int.toNat_of_nonneg h3] at h
 exact h
theorem below_drewN (w : World) (n : Nat) : Below w.heap.size w (w.drewN n) := by
 induction n with
 | zero => exact Below.refl _ _
 | succ n ih => exact ih.drew
def escR (l : List UInt8) : Value := match escV l with | none => .tuple #[.int .u8 0, .int .i64 0] | some (x, n) => .tuple #[.int .u8 x.toNat, .int .i64 n]
theorem hexv_lt (c : Nat) : hexv c ≤ 15 := by unfold hexv; (repeat' split) <;> omega
theorem Sq62 {P : Prop} (h : P := by
 first
 | (guard_hyp z62a; have q92 : (((s[1].toNat : Nat) : Int) == 92) = true := by simp; omega)
 | (have q39 : (((s[1].toNat : Nat) : Int) == 39) = true := by simp; omega)
 have HE := Lib.hid (show escR s.data.toList = _ from by unfold escR; rw [show escV s.data.toList = some (UInt8.ofNat (nb s.data.toList 1), 2) from by (have hln : s.data.toList.length = s.size := by simp); have hx := HX1.out; unfold escV; rw [if_neg (by omega), if_pos (by omega)]])
 first
 | (guard_hyp z62a; clear a92)
 | (clear a39)
 rw [HE.out]
 go_enter Tryz.func134, Tryz.ntmps134
 go_wp2_with fail
 go_ret2
 exact ⟨by rw [← HX1.out]; simp, Below.refl _ _⟩) : P := h
set_option maxRecDepth 100000 in
set_option maxHeartbeats 1000000 in
theorem escaped_any (s : ByteArray) (w : World) (hs : s.size ≤ 9223372036854770000) :
    Calls Tryz.prog 134 #[.string s] w fun e w' => e = .returned (escR s.data.toList) ∧ Below w.heap.size w w' := by
 by_cases h1 : s.size < 2
 ·have q1 : (s.size : Int) < 2 := by omega
  have HE := Lib.hid (show escR s.data.toList = _ from by unfold escR; rw [show escV s.data.toList = none from by (have hln : s.data.toList.length = s.size := by simp); unfold escV; rw [if_pos (by omega)]])
  rw [HE.out]
  go_enter Tryz.func134, Tryz.ntmps134
  go_wp2_with fail
  go_ret2
  exact ⟨rfl, Below.refl _ _⟩
 have q1 : ¬ (s.size : Int) < 2 := by omega
 have HX1 : Hid (s[1].toNat = nb s.data.toList 1) := Lib.hid (nb_get s 1 (by omega))
 have hc1 : s[1].toNat < 256 := by have := s[1].toNat_lt; omega
 by_cases a92 : s[1].toNat = 92
 ·have z62a := trivial
  exact Sq62
 have q92 : (((s[1].toNat : Nat) : Int) == 92) = false := by simp; omega
 by_cases a39 : s[1].toNat = 39
 ·exact Sq62
 have q39 : (((s[1].toNat : Nat) : Int) == 39) = false := by simp; omega
 by_cases a110 : s[1].toNat = 110
 ·have q110 : (((s[1].toNat : Nat) : Int) == 110) = true := by simp; omega
  have HE := Lib.hid (show escR s.data.toList = _ from by unfold escR; rw [show escV s.data.toList = some (10, 2) from by (have hln : s.data.toList.length = s.size := by simp); have hx := HX1.out; unfold escV; rw [if_neg (by omega), if_neg (by omega), if_pos (by omega)]])
  clear a110
  rw [HE.out]
  go_enter Tryz.func134, Tryz.ntmps134
  go_wp2_with fail
  go_ret2
  exact ⟨rfl, Below.refl _ _⟩
 have q110 : (((s[1].toNat : Nat) : Int) == 110) = false := by simp; omega
 by_cases a116 : s[1].toNat = 116
 ·have q116 : (((s[1].toNat : Nat) : Int) == 116) = true := by simp; omega
  have HE := Lib.hid (show escR s.data.toList = _ from by unfold escR; rw [show escV s.data.toList = some (9, 2) from by (have hln : s.data.toList.length = s.size := by simp); have hx := HX1.out; unfold escV; rw [if_neg (by omega), if_neg (by omega), if_neg (by omega), if_pos (by omega)]])
  clear a116
  rw [HE.out]
  go_enter Tryz.func134, Tryz.ntmps134
  go_wp2_with fail
  go_ret2
  exact ⟨rfl, Below.refl _ _⟩
 have q116 : (((s[1].toNat : Nat) : Int) == 116) = false := by simp; omega
 by_cases a114 : s[1].toNat = 114
 ·have q114 : (((s[1].toNat : Nat) : Int) == 114) = true := by simp; omega
  have HE := Lib.hid (show escR s.data.toList = _ from by unfold escR; rw [show escV s.data.toList = some (13, 2) from by (have hln : s.data.toList.length = s.size := by simp); have hx := HX1.out; unfold escV; rw [if_neg (by omega), if_neg (by omega), if_neg (by omega), if_neg (by omega), if_pos (by omega)]])
  clear a114
  rw [HE.out]
  go_enter Tryz.func134, Tryz.ntmps134
  go_wp2_with fail
  go_ret2
  exact ⟨rfl, Below.refl _ _⟩
 have q114 : (((s[1].toNat : Nat) : Int) == 114) = false := by simp; omega
 by_cases h4 : s.size < 4
 ·have q4 : (s.size : Int) < 4 := by omega
  have HE := Lib.hid (show escR s.data.toList = _ from by unfold escR; rw [show escV s.data.toList = none from by (have hln : s.data.toList.length = s.size := by simp); have hx := HX1.out; unfold escV; rw [if_neg (by omega), if_neg (by omega), if_neg (by omega), if_neg (by omega), if_neg (by omega), if_pos (.inl (by omega))]])
  rw [HE.out]
  go_enter Tryz.func134, Tryz.ntmps134
  go_wp2_with fail
  go_ret2
  exact ⟨rfl, Below.refl _ _⟩
 have q4 : ¬ (s.size : Int) < 4 := by omega
 by_cases a120 : s[1].toNat = 120
 rotate_left
 ·have q120 : (((s[1].toNat : Nat) : Int) != 120) = true := by simp; omega
  have HE := Lib.hid (show escR s.data.toList = _ from by unfold escR; rw [show escV s.data.toList = none from by (have hln : s.data.toList.length = s.size := by simp); have hx := HX1.out; unfold escV; rw [if_neg (by omega), if_neg (by omega), if_neg (by omega), if_neg (by omega), if_neg (by omega), if_pos (.inr (.inl (by omega)))]])
  rw [HE.out]
  go_enter Tryz.func134, Tryz.ntmps134
  go_wp2_with fail
  go_ret2
  exact ⟨rfl, Below.refl _ _⟩
 have q120 : (((s[1].toNat : Nat) : Int) != 120) = false := by simp; omega
 have g2 : 2 < s.size := by omega
 have g3 : 3 < s.size := by omega
 have HX2 : Hid (s[2].toNat = nb s.data.toList 2) := Lib.hid (nb_get s 2 (by omega))
 have HX3 : Hid (s[3].toNat = nb s.data.toList 3) := Lib.hid (nb_get s 3 (by omega))
 have A120 := Lib.hid a120
 clear a120
 have hc2 : s[2].toNat < 256 := by have := s[2].toNat_lt; omega
 have hc3 : s[3].toNat < 256 := by have := s[3].toNat_lt; omega
 have D2 := Lib.hid (sdigit_any s[2].toNat hc2)
 have D3 := Lib.hid (sdigit_any s[3].toNat hc3)
 have l2 := hexv_lt s[2].toNat
 have l3 := hexv_lt s[3].toNat
 by_cases n2 : hexv s[2].toNat < 0
 ·have n2x := n2
  have HE := Lib.hid (show escR s.data.toList = _ from by unfold escR; rw [show escV s.data.toList = none from by (have hln : s.data.toList.length = s.size := by simp); have hx := HX1.out; have hx2 := HX2.out; have hx3 := HX3.out; have a120 := A120.out; unfold escV; rw [if_neg (by omega), if_neg (by omega), if_neg (by omega), if_neg (by omega), if_neg (by omega), if_pos (.inr (.inr (.inl (by rw [← hx2]; exact n2))))]])
  rw [HE.out]
  go_enter Tryz.func134, Tryz.ntmps134
  go_wp2_with fail
  refine (D2.out w).mono ?_
  rintro e w' ⟨rfl, rfl⟩
  go_wp2_with fail
  go_ret2
  exact ⟨rfl, Below.refl _ _⟩
 by_cases n3 : hexv s[3].toNat < 0
 ·have n3x := n3
  have HE := Lib.hid (show escR s.data.toList = _ from by unfold escR; rw [show escV s.data.toList = none from by (have hln : s.data.toList.length = s.size := by simp); have hx := HX1.out; have hx2 := HX2.out; have hx3 := HX3.out; have a120 := A120.out; unfold escV; rw [if_neg (by omega), if_neg (by omega), if_neg (by omega), if_neg (by omega), if_neg (by omega), if_pos (.inr (.inr (.inr (by rw [← hx3]; exact n3))))]])
  rw [HE.out]
  go_enter Tryz.func134, Tryz.ntmps134
  go_wp2_with fail
  refine (D2.out w).mono ?_
  rintro e w' ⟨rfl, rfl⟩
  go_wp2_with fail
  refine (D3.out w).mono ?_
  rintro e w' ⟨rfl, rfl⟩
  go_wp2_with fail
  go_ret2
  exact ⟨rfl, Below.refl _ _⟩
 ·have n4 : 0 ≤ hexv s[2].toNat := by omega
  have n5 : 0 ≤ hexv s[3].toNat := by omega
  have HE := Lib.hid (show escR s.data.toList = _ from by unfold escR; rw [show escV s.data.toList = some (UInt8.ofNat (hexv s[2].toNat * (16 : Int) + hexv s[3].toNat).toNat, (4 : Nat)) from by (have hln : s.data.toList.length = s.size := by simp); have hx := HX1.out; have hx2 := HX2.out; have hx3 := HX3.out; have a120 := A120.out; unfold escV; rw [if_neg (by omega), if_neg (by omega), if_neg (by omega), if_neg (by omega), if_neg (by omega), if_neg (by rw [← hx2, ← hx3]; omega), ← hx2, ← hx3]])
  rw [HE.out]
  go_enter Tryz.func134, Tryz.ntmps134
  go_wp2_with fail
  refine (D2.out w).mono ?_
  rintro e w' ⟨rfl, rfl⟩
  go_wp2_with fail
  refine (D3.out w).mono ?_
  rintro e w' ⟨rfl, rfl⟩
  go_wp2_with fail
  go_quiet ((exact Calls.quiet_of_same (sdigit_any2 _ (by assumption) _)))
  have HO := Lib.hid (or_of n4 l2 n5 l3)
  go_wp2_with fail
  go_ret2
  exact ⟨by rw [HO.out]; rfl, below_drewN _ _⟩
end Go.Proofs.YtndhpdclpgemfaaGreat
namespace Go.Proofs.YtndhpdclpgemfaaGreat
open Go.RowKit
set_option linter.unusedVariables false
theorem enc_eq (r : Nat) : (Utf8.encode (r : Int)).data.toList = Lib.encodeRune (r : Int) := by
 unfold Lib.encodeRune
 by_cases c1 : r < 128
 ·have v : Utf8.valid (r : Int) = true := by simp [Utf8.valid]; omega
  rw [Lib.encodeRuneZ_one (by omega) (by omega)]
  simp [Utf8.encode, v, c1]
 by_cases c2 : r < 2048
 ·have v : Utf8.valid (r : Int) = true := by simp [Utf8.valid]; omega
  rw [Lib.encodeRuneZ_two (by omega) (by omega)]
  have e0 : (192 + (r : Int) / 64).toNat = 192 + r / 64 := by omega
  have e1 : (128 + (r : Int) % 64).toNat = 128 + r % 64 := by omega
  simp [Utf8.encode, v, c1, c2, e0, e1]
 by_cases cb : (55296 ≤ r ∧ r ≤ 57343) ∨ 1114111 < r
 ·have v : Utf8.valid (r : Int) = false := by
   cases hv : Utf8.valid (r : Int) with
   | false => rfl
   | true => simp [Utf8.valid] at hv; omega
  rw [Lib.encodeRuneZ_bad (by omega)]
  simp [Utf8.encode, v, Utf8.runeError]
 have v : Utf8.valid (r : Int) = true := by simp [Utf8.valid]; omega
 by_cases c3 : r < 65536
 ·rw [Lib.encodeRuneZ_three (by omega)]
  have e0 : (224 + (r : Int) / 4096).toNat = 224 + r / 4096 := by omega
  have e1 : (128 + (r : Int) / 64 % 64).toNat = 128 + r / 64 % 64 := by omega
  have e2 : (128 + (r : Int) % 64).toNat = 128 + r % 64 := by omega
  simp [Utf8.encode, v, c1, c2, c3, e0, e1, e2]
 ·rw [Lib.encodeRuneZ_four (by omega) (by omega)]
  have e0 : (240 + (r : Int) / 262144).toNat = 240 + r / 262144 := by omega
  have e1 : (128 + (r : Int) / 4096 % 64).toNat = 128 + r / 4096 % 64 := by omega
  have e2 : (128 + (r : Int) / 64 % 64).toNat = 128 + r / 64 % 64 := by omega
  have e3 : (128 + (r : Int) % 64).toNat = 128 + r % 64 := by omega
  simp [Utf8.encode, v, c1, c2, c3, e0, e1, e2, e3]
theorem strOf_toList (B : ByteArray) : strOf B.data.toList = B := by apply ByteArray.ext; simp [strOf]
theorem enc_sign {l : List UInt8} (h : sg l ≠ 0) : Utf8.encode (rv l : Int) = strOf (l.take (sg l)) := by
 rw [← encode_sign h, ← enc_eq, strOf_toList]
theorem escV_ascii {l : List UInt8} {x : UInt8} {n : Nat} (h : escV l = some (x, n)) : ∀ j, 1 ≤ j → j < n → nb l j < 128 := by
 have hl := escV_len h
 have hx : ∀ c, ¬ hexv c < 0 → c < 128 := fun c hc => by
  unfold hexv at hc
  by_cases a : 48 ≤ c ∧ c ≤ 57
  ·omega
  rw [if_neg a] at hc
  by_cases b : 97 ≤ c ∧ c ≤ 102
  ·omega
  rw [if_neg b] at hc
  by_cases d : 65 ≤ c ∧ c ≤ 70
  ·omega
  rw [if_neg d] at hc
  omega
 unfold escV at h
 by_cases h1 : l.length < 2
 ·rw [if_pos h1] at h; cases h
 rw [if_neg h1] at h
 by_cases h2 : nb l 1 = 92 ∨ nb l 1 = 39
 ·rw [if_pos h2] at h; cases h; intro j j1 j2; obtain rfl : j = 1 := by omega
  omega
 rw [if_neg h2] at h
 by_cases h3 : nb l 1 = 110
 ·rw [if_pos h3] at h; cases h; intro j j1 j2; obtain rfl : j = 1 := by omega
  omega
 rw [if_neg h3] at h
 by_cases h4 : nb l 1 = 116
 ·rw [if_pos h4] at h; cases h; intro j j1 j2; obtain rfl : j = 1 := by omega
  omega
 rw [if_neg h4] at h
 by_cases h5 : nb l 1 = 114
 ·rw [if_pos h5] at h; cases h; intro j j1 j2; obtain rfl : j = 1 := by omega
  omega
 rw [if_neg h5] at h
 by_cases h6 : l.length < 4 ∨ nb l 1 ≠ 120 ∨ hexv (nb l 2) < 0 ∨ hexv (nb l 3) < 0
 ·rw [if_pos h6] at h; cases h
 rw [if_neg h6] at h; cases h
 intro j j1 j2
 have k2 := hx (nb l 2) (fun hh => h6 (.inr (.inr (.inl hh))))
 have k3 := hx (nb l 3) (fun hh => h6 (.inr (.inr (.inr hh))))
 have : j = 1 ∨ j = 2 ∨ j = 3 := by omega
 rcases this with rfl | rfl | rfl
 ·omega
 ·exact k2
 ·exact k3
def DoneU (l : List UInt8) (i k : Nat) (d : List UInt8) : Prop :=
  i ≤ l.length ∧ k ≤ l.length ∧ d.length ≤ max i k ∧ (∀ j, i ≤ j → j < k → nb l j < 128) ∧ uq l = (uq (l.drop (max i k))).map fun p => d ++ p
theorem doneU_zero (l : List UInt8) : DoneU l 0 0 [] := by
 refine ⟨by omega, by omega, by simp, fun j _ h => by omega, ?_⟩
 simp
theorem doneU_pass {l d : List UInt8} {i k : Nat} (h : DoneU l i k d) (hi : i < l.length) (hk : i < k) : sg (l.drop i) = 1 ∧ DoneU l (i + 1) k d := by
 obtain ⟨h1, h2, h3, h4, h5⟩ := h
 refine ⟨sg_one.2 ⟨by simp; omega, by rw [nb_drop, Nat.add_zero]; exact h4 i (by omega) hk⟩, by omega, h2, by rw [show max (i + 1) k = max i k from by omega]; exact h3, fun j a b => h4 j (by omega) b, by rw [show max (i + 1) k = max i k from by omega]; exact h5⟩
theorem doneU_esc {l d : List UInt8} {i k : Nat} (h : DoneU l i k d) (hi : i < l.length) (hk : ¬ i < k) (h92 : nb (l.drop i) 0 = 92) : match escV (l.drop i) with
    | none => uq l = none
    | some (x, n) => sg (l.drop i) = 1 ∧ (n = 2 ∨ n = 4) ∧ i + n ≤ l.length ∧ DoneU l (i + 1) (i + n) (d ++ [x]) := by
 obtain ⟨h1, h2, h3, h4, h5⟩ := h
 have h0 : (l.drop i).length ≠ 0 := by simp; omega
 rw [show max i k = i from by omega, uq_eq (l.drop i), if_neg h0, if_pos h92] at h5
 cases he : escV (l.drop i) with
 | none => rw [he] at h5; exact h5
 | some p =>
  obtain ⟨x, n⟩ := p
  rw [he] at h5
  have hl := escV_len he
  have ha := escV_ascii he
  rw [List.length_drop] at hl
  refine ⟨sg_one.2 ⟨h0, by omega⟩, hl.1, by omega, by omega, by omega, ?_, ?_, ?_⟩
  ·rw [show max i k = i from by omega] at h3
   rw [List.length_append, show max (i + 1) (i + n) = i + n from by omega]; simp; omega
  ·intro j a b
   have := ha (j - i) (by omega) (by omega)
   rw [nb_drop, show i + (j - i) = j from by omega] at this
   exact this
  ·rw [h5, show max (i + 1) (i + n) = i + n from by omega]
   dsimp only
   rw [List.drop_drop]
   cases uq (l.drop (i + n)) with
   | none => rfl
   | some q => simp
theorem doneU_bad {l d : List UInt8} {i k : Nat} (h : DoneU l i k d) (hi : i < l.length) (hk : ¬ i < k) (h92 : nb (l.drop i) 0 ≠ 92) (hb : nb (l.drop i) 0 = 39 ∨ bad (l.drop i)) : uq l = none := by
 obtain ⟨h1, h2, h3, h4, h5⟩ := h
 have h0 : (l.drop i).length ≠ 0 := by simp; omega
 rw [show max i k = i from by omega, uq_eq (l.drop i), if_neg h0, if_neg h92, if_pos hb] at h5
 exact h5
theorem doneU_sign {l d : List UInt8} {i k : Nat} (h : DoneU l i k d) (hi : i < l.length) (hk : ¬ i < k) (h92 : nb (l.drop i) 0 ≠ 92) (hb : ¬ (nb (l.drop i) 0 = 39 ∨ bad (l.drop i))) :
    DoneU l (i + sg (l.drop i)) k (d ++ (l.drop i).take (sg (l.drop i))) := by
 obtain ⟨h1, h2, h3, h4, h5⟩ := h
 have h0 : (l.drop i).length ≠ 0 := by simp; omega
 rw [show max i k = i from by omega, uq_eq (l.drop i), if_neg h0, if_neg h92, if_neg hb] at h5
 have h6 := bad_not (fun hh => hb (.inr hh))
 have h7 := (sg_le (l := l.drop i)).2
 rw [List.length_drop] at h7
 refine ⟨by omega, h2, ?_, fun j a b => by omega, ?_⟩
 ·rw [show max i k = i from by omega] at h3
  rw [List.length_append, List.length_take, show max (i + sg (l.drop i)) k = i + sg (l.drop i) from by omega]
  omega
 ·rw [h5, show max (i + sg (l.drop i)) k = i + sg (l.drop i) from by omega, List.drop_drop]
  cases uq (l.drop (i + sg (l.drop i))) with
  | none => rfl
  | some q => simp
theorem doneU_end {l d : List UInt8} {i k : Nat} (h : DoneU l i k d) (hi : l.length ≤ i) : uq l = some d := by
 obtain ⟨h1, h2, h3, h4, h5⟩ := h
 rw [h5, show max i k = l.length from by omega, uq_eq (l.drop l.length), if_pos (by simp)]
 simp
theorem rv_39 {l : List UInt8} (h0 : l.length ≠ 0) (h : rv l = 39) : nb l 0 ≠ 92 ∧ (nb l 0 = 39 ∨ bad l) := by
 have := rv_small h0 (by omega); exact ⟨by omega, .inl (by omega)⟩
theorem rv_92 {l : List UInt8} (h0 : l.length ≠ 0) (h : rv l = 92) : nb l 0 = 92 := by
 have := rv_small h0 (by omega); omega
theorem rv_bad {l : List UInt8} (h0 : l.length ≠ 0) (h : rv l < 32 ∨ rv l = 127 ∨ (rv l = 65533 ∧ Lib.hasPrefix l [239, 191, 189] = false)) : nb l 0 ≠ 92 ∧ (nb l 0 = 39 ∨ bad l) := by
 rcases h with h | h | h
 ·have := rv_small h0 (by omega); exact ⟨by omega, .inr (.inr (.inl (by omega)))⟩
 ·have := rv_small h0 (by omega); exact ⟨by omega, .inr (.inr (.inr (by omega)))⟩
 ·have h1 := (bad_iff h0).1 h
  refine ⟨fun hh => ?_, .inr (.inl h1)⟩
  have := sg_one.2 ⟨h0, by omega⟩
  omega
theorem rv_good {l : List UInt8} (h0 : l.length ≠ 0) (h1 : rv l ≠ 92) (h2 : rv l ≠ 39) (h3 : ¬ rv l < 32) (h4 : rv l ≠ 127) (h5 : rv l ≠ 65533 ∨ Lib.hasPrefix l [239, 191, 189] = true) : nb l 0 ≠ 92 ∧ ¬ (nb l 0 = 39 ∨ bad l) := by
 have hs : sg l ≠ 0 := fun e => by
  have := (bad_iff h0).2 e
  rcases h5 with h5 | h5
  ·exact h5 this.1
  ·rw [h5] at this; cases this.2
 by_cases hb : nb l 0 < 128
 ·have h6 := sg_one.2 ⟨h0, hb⟩
  have h7 : rv l = nb l 0 := by unfold rv; rw [if_pos h6]
  refine ⟨by omega, fun h => ?_⟩
  rcases h with h | h | h | h <;> omega
 ·refine ⟨by omega, fun h => ?_⟩
  rcases h with h | h | h | h <;> omega
theorem ownsRow_other {w w' : World} {base : Nat} {e : TypeId} {size : Nat} {v : Value} {n : Nat} {xs : List Value} (h : w.ownsRow base e size v n xs) (hk : ∀ k, base ≤ k → w'.heap[k]? = w.heap[k]?) : w'.ownsRow base e size v n xs := by
 refine ⟨h.1, ?_⟩
 rcases h.2 with hn | ⟨g, cap, cur, rfl, hb, hg, rest⟩
 ·exact .inl hn
 ·exact .inr ⟨g, cap, cur, rfl, hb, (hk g hb).trans hg, rest⟩
theorem ownsRow_below {w w' : World} {base : Nat} {e : TypeId} {size : Nat} {v : Value} {n : Nat} {xs : List Value} (h : w.ownsRow base e size v n xs) (hb : Below w.heap.size w w') : w'.ownsRow base e size v n xs := by
 refine ⟨h.1, ?_⟩
 rcases h.2 with hn | ⟨g, cap, cur, rfl, hbb, hg, rest⟩
 ·exact .inl hn
 ·exact .inr ⟨g, cap, cur, rfl, hbb, (hb.block g (Array.getElem?_eq_some_iff.1 hg).1).trans hg, rest⟩
end Go.Proofs.YtndhpdclpgemfaaGreat

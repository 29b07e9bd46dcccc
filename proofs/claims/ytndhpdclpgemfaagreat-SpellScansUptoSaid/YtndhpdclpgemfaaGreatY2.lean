/- Parts May of this seat (pruned, scripts that are alike kept once as default arguments: q1, q2, ..). Conditions: each says its own. -/
import Derived.Test.YtndhpdclpgemfaaGreatProg
import Derived.WalkKit
import Derived.WalkLawsBesides
import Derived.Outline
import Derived.BigQuiet
import Derived.IntWalk
import Derived.Test.YtndhpdclpgemfaaGreatY1
namespace Go.Proofs.YtndhpdclpgemfaaGreat
open Go.RowKit
set_option linter.unusedSimpArgs false
set_option linter.unusedVariables false
theorem below_draws {B : Nat} {a w : World} (h : Below B a w) (n : Nat) : Below B a (w.drewN n) := by
 induction n with
 | zero => exact h
 | succ n ih => exact ih.drew
theorem ba_list (s : ByteArray) : s.toList = s.data.toList := by
 have h0 : ∀ l : List UInt8, (ByteArray.mk l.toArray).toList = l := fun l => by simp
 have h := h0 s.data.toList
 rwa [show (⟨s.data.toList.toArray⟩ : ByteArray) = s from by apply ByteArray.ext; simp] at h
theorem str_empty {s : ByteArray} (h : s.size = 0) : s.toList = [] ∧ s.toList.isEmpty = true := by
 have h1 : s.toList = [] := by rw [ba_list]; exact List.length_eq_zero_iff.1 (by simpa using h)
 exact ⟨h1, by rw [h1]; rfl⟩
theorem str_full {s : ByteArray} (h : ¬ s.size = 0) : ¬ s.toList = [] ∧ s.toList.isEmpty = false := by
 have h1 : ¬ s.toList = [] := fun hh => h (by rw [ba_list] at hh; have := congrArg List.length hh; simpa using this)
 exact ⟨h1, by rw [List.isEmpty_eq_false_iff]; exact h1⟩
set_option maxRecDepth 100000 in
theorem Sq2 {P : Prop} (h : P := by
 first
 |(
  guard_hyp z2b
  have hcase : k = 0 ∨ k = 1 ∨ k = 2 ∨ k = 3 ∨ k = 4 ∨ k = 5 ∨ k = 6 ∨ k = 7 := by omega
  clear h0 h7
  rcases hcase with rfl | rfl | rfl | rfl | rfl | rfl | rfl | rfl
  ·by_cases hb : b = true
   ·subst hb
    have HV := Lib.hid (show unusedV (0 : Int) true i s n m = false from decide_eq_false (fun hh => by rcases hh with ⟨h1, h2, h3, h4, h5⟩; first | omega | (simp_all; done) | (simp_all; omega)))
    rw [HV.out]
    go_enter Tryz.func154, Tryz.ntmps154
    go_wp2_with fail
    go_ret
    exact ⟨rfl, (Below.refl _ _).alloc (Nat.le_refl _) _⟩
   have hb : b = false := by simpa using hb
   subst hb
   by_cases hi : i = 0
   rotate_left
   ·have hib : (i == 0) = false := by simp; exact hi
    have HV := Lib.hid (show unusedV (0 : Int) false i s n m = false from decide_eq_false (fun hh => by rcases hh with ⟨h1, h2, h3, h4, h5⟩; first | omega | (simp_all; done) | (simp_all; omega)))
    rw [HV.out]
    go_enter Tryz.func154, Tryz.ntmps154
    go_wp2_with fail
    go_ret
    exact ⟨rfl, (Below.refl _ _).alloc (Nat.le_refl _) _⟩
   have hib : (i == 0) = true := by simp; exact hi
   have HI := Lib.hid hi
   clear hi
   by_cases hs : s.size = 0
   rotate_left
   ·obtain ⟨hs1, hs2⟩ := str_full hs
    have HV := Lib.hid (show unusedV (0 : Int) false i s n m = false from decide_eq_false (fun hh => by rcases hh with ⟨h1, h2, h3, h4, h5⟩; first | omega | (simp_all; done) | (simp_all; omega)))
    rw [HV.out]
    go_enter Tryz.func154, Tryz.ntmps154
    go_wp2_with fail
    go_ret
    exact ⟨rfl, (Below.refl _ _).alloc (Nat.le_refl _) _⟩
   obtain ⟨hs1, hs2⟩ := str_empty hs
   have HS := Lib.hid hs
   clear hs
   by_cases hn : n = 0
   rotate_left
   ·have hn1 : ((n : Int) == 0) = false := by simp; exact hn
    have HV := Lib.hid (show unusedV (0 : Int) false i s n m = false from decide_eq_false (fun hh => by rcases hh with ⟨h1, h2, h3, h4, h5⟩; first | omega | (simp_all; done) | (simp_all; omega)))
    rw [HV.out]
    go_enter Tryz.func154, Tryz.ntmps154
    go_wp2_with fail
    go_ret
    exact ⟨rfl, (Below.refl _ _).alloc (Nat.le_refl _) _⟩
   have hn1 : ((n : Int) == 0) = true := by simp; exact hn
   have HN := Lib.hid hn
   clear hn
   by_cases hm : m = 0
   rotate_left
   ·have hm1 : ((m : Int) == 0) = false := by simp; exact hm
    have HV := Lib.hid (show unusedV (0 : Int) false i s n m = false from decide_eq_false (fun hh => by rcases hh with ⟨h1, h2, h3, h4, h5⟩; first | omega | (simp_all; done) | (simp_all; omega)))
    rw [HV.out]
    go_enter Tryz.func154, Tryz.ntmps154
    go_wp2_with fail
    go_ret
    exact ⟨rfl, (Below.refl _ _).alloc (Nat.le_refl _) _⟩
   have hm1 : ((m : Int) == 0) = true := by simp; exact hm
   have HM := Lib.hid hm
   clear hm
   have HV := Lib.hid (show unusedV (0 : Int) false i s n m = true from decide_eq_true (by have h0 := HI.out; have h1 := HS.out; have h2 := HN.out; have h3 := HM.out; simp [*]))
   rw [HV.out]
   go_enter Tryz.func154, Tryz.ntmps154
   go_wp2_with fail
   go_ret
   exact ⟨rfl, (Below.refl _ _).alloc (Nat.le_refl _) _⟩)
 | (by_cases k1 : k = 1)
 ·first
  | (guard_hyp z2a; subst k1)
  | skip
  by_cases hi : i = 0
  rotate_left
  ·have z97a := trivial
   exact Sq97
  first
  | (guard_hyp z2a; have hib : (i != 0) = false := by simp; exact hi)
  | (have hib : (i == 0) = true := by simp; exact hi)
  have HI := Lib.hid hi
  clear hi
  by_cases hs : s.size = 0
  rotate_left
  ·exact Sq97
  obtain ⟨hs1, hs2⟩ := str_empty hs
  have HS := Lib.hid hs
  clear hs
  by_cases hn : n = 0
  rotate_left
  ·have z97c := trivial
   exact Sq97
  first
  | (guard_hyp z2b; have hn1 : ((n : Int) == 0) = true := by simp; exact hn)
  | (have hn1 : ¬ (0 : Int) < n := by omega)
  have HN := Lib.hid hn
  clear hn
  by_cases hm : m = 0
  rotate_left
  ·have z97b := trivial
   exact Sq97
  have hm1 : ((m : Int) == 0) = true := by simp; exact hm
  have HM := Lib.hid hm
  clear hm
  have HV := Lib.hid (show unusedV (1 : Int) b i s n m = true from decide_eq_true (by have h0 := HI.out; have h1 := HS.out; have h2 := HN.out; have h3 := HM.out; simp [*]))
  rw [HV.out]
  first
  | (guard_hyp z2a; go_enter Tryz.func147, Tryz.ntmps147)
  | (go_enter Tryz.func154, Tryz.ntmps154)
  go_wp2_with fail
  go_ret
  exact ⟨rfl, (Below.refl _ _).alloc (Nat.le_refl _) _⟩
 first
 |(
  guard_hyp z2a
  have p1 : (k == 1) = false := by simp; exact k1
  have r1 : (k != 1) = true := by simp; exact k1
  by_cases k2 : k = 2)
 | skip
 ·have z89a := trivial
  exact Sq89
 first
 |(
  guard_hyp z2a
  have p2 : (k == 2) = false := by simp; exact k2
  have r2 : (k != 2) = true := by simp; exact k2
  by_cases k3 : k = 3)
 | skip
 ·first
  | (guard_hyp z2a; subst k3)
  | skip
  by_cases hb : b = true
  ·subst hb
   have HV := Lib.hid (show unusedV (3 : Int) true i s n m = false from decide_eq_false (fun hh => by rcases hh with ⟨h1, h2, h3, h4, h5⟩; first | omega | (simp_all; done) | (simp_all; omega)))
   rw [HV.out]
   first
   | (guard_hyp z2a; go_enter Tryz.func147, Tryz.ntmps147)
   | (go_enter Tryz.func154, Tryz.ntmps154)
   go_wp2_with fail
   go_ret
   exact ⟨rfl, (Below.refl _ _).alloc (Nat.le_refl _) _⟩
  have hb : b = false := by simpa using hb
  subst hb
  by_cases hi : i = 0
  rotate_left
  ·have z94a := trivial
   exact Sq94
  first
  | (guard_hyp z2a; have hib : (i != 0) = false := by simp; exact hi)
  | (have hib : (i == 0) = true := by simp; exact hi)
  have HI := Lib.hid hi
  clear hi
  by_cases hn : n = 0
  rotate_left
  ·have z94c := trivial
   exact Sq94
  first
  | (guard_hyp z2b; have hn1 : ((n : Int) == 0) = true := by simp; exact hn)
  | (have hn1 : ¬ (0 : Int) < n := by omega)
  have HN := Lib.hid hn
  clear hn
  by_cases hm : m = 0
  rotate_left
  ·exact Sq94
  have hm1 : ((m : Int) == 0) = true := by simp; exact hm
  have HM := Lib.hid hm
  clear hm
  have HV := Lib.hid (show unusedV (3 : Int) false i s n m = true from decide_eq_true (by have h0 := HI.out; have h1 := HN.out; have h2 := HM.out; simp [*]))
  rw [HV.out]
  first
  | (guard_hyp z2a; go_enter Tryz.func147, Tryz.ntmps147)
  | (go_enter Tryz.func154, Tryz.ntmps154)
  go_wp2_with fail
  go_ret
  exact ⟨rfl, (Below.refl _ _).alloc (Nat.le_refl _) _⟩
 first
 |(
  guard_hyp z2a
  have p3 : (k == 3) = false := by simp; exact k3
  have r3 : (k != 3) = true := by simp; exact k3
  by_cases k4 : k = 4)
 | skip
 ·first
  | (guard_hyp z2a; subst k4)
  | skip
  by_cases hb : b = true
  ·subst hb
   have HV := Lib.hid (show unusedV (4 : Int) true i s n m = false from decide_eq_false (fun hh => by rcases hh with ⟨h1, h2, h3, h4, h5⟩; first | omega | (simp_all; done) | (simp_all; omega)))
   rw [HV.out]
   first
   | (guard_hyp z2a; go_enter Tryz.func147, Tryz.ntmps147)
   | (go_enter Tryz.func154, Tryz.ntmps154)
   go_wp2_with fail
   go_ret
   exact ⟨rfl, (Below.refl _ _).alloc (Nat.le_refl _) _⟩
  have hb : b = false := by simpa using hb
  subst hb
  by_cases hi : i = 0
  rotate_left
  ·have z95a := trivial
   exact Sq95
  first
  | (guard_hyp z2a; have hib : (i != 0) = false := by simp; exact hi)
  | (have hib : (i == 0) = true := by simp; exact hi)
  have HI := Lib.hid hi
  clear hi
  by_cases hs : s.size = 0
  rotate_left
  ·exact Sq95
  obtain ⟨hs1, hs2⟩ := str_empty hs
  have HS := Lib.hid hs
  clear hs
  by_cases hm : m = 0
  rotate_left
  ·have z95b := trivial
   exact Sq95
  have hm1 : ((m : Int) == 0) = true := by simp; exact hm
  have HM := Lib.hid hm
  clear hm
  have HV := Lib.hid (show unusedV (4 : Int) false i s n m = true from decide_eq_true (by have h0 := HI.out; have h1 := HS.out; have h2 := HM.out; simp [*]))
  rw [HV.out]
  first
  | (guard_hyp z2a; go_enter Tryz.func147, Tryz.ntmps147)
  | (go_enter Tryz.func154, Tryz.ntmps154)
  go_wp2_with fail
  go_ret
  exact ⟨rfl, (Below.refl _ _).alloc (Nat.le_refl _) _⟩
 first
 |(
  guard_hyp z2a
  have p4 : (k == 4) = false := by simp; exact k4
  have r4 : (k != 4) = true := by simp; exact k4
  by_cases k5 : k = 5)
 | skip
 ·first
  | (guard_hyp z2a; subst k5)
  | skip
  by_cases hb : b = true
  ·subst hb
   have HV := Lib.hid (show unusedV (5 : Int) true i s n m = false from decide_eq_false (fun hh => by rcases hh with ⟨h1, h2, h3, h4, h5⟩; first | omega | (simp_all; done) | (simp_all; omega)))
   rw [HV.out]
   first
   | (guard_hyp z2a; go_enter Tryz.func147, Tryz.ntmps147)
   | (go_enter Tryz.func154, Tryz.ntmps154)
   go_wp2_with fail
   go_ret
   exact ⟨rfl, (Below.refl _ _).alloc (Nat.le_refl _) _⟩
  have hb : b = false := by simpa using hb
  subst hb
  by_cases hi : i = 0
  rotate_left
  ·have z96a := trivial
   exact Sq96
  first
  | (guard_hyp z2a; have hib : (i != 0) = false := by simp; exact hi)
  | (have hib : (i == 0) = true := by simp; exact hi)
  have HI := Lib.hid hi
  clear hi
  by_cases hs : s.size = 0
  rotate_left
  ·exact Sq96
  obtain ⟨hs1, hs2⟩ := str_empty hs
  have HS := Lib.hid hs
  clear hs
  have HV := Lib.hid (show unusedV (5 : Int) false i s n m = true from decide_eq_true (by have h0 := HI.out; have h1 := HS.out; simp [*]))
  rw [HV.out]
  first
  | (guard_hyp z2a; go_enter Tryz.func147, Tryz.ntmps147)
  | (go_enter Tryz.func154, Tryz.ntmps154)
  go_wp2_with fail
  go_ret
  exact ⟨rfl, (Below.refl _ _).alloc (Nat.le_refl _) _⟩
 first
 |(
  guard_hyp z2a
  have p5 : (k == 5) = false := by simp; exact k5
  have r5 : (k != 5) = true := by simp; exact k5
  by_cases k6 : k = 6)
 | skip
 ·exact Sq89
 first
 |(
  guard_hyp z2a
  have p6 : (k == 6) = false := by simp; exact k6
  have r6 : (k != 6) = true := by simp; exact k6
  by_cases k7 : k = 7)
 | skip
 ·have z89b := trivial
  exact Sq89
 first
 |(
  guard_hyp z2a
  have p7 : (k == 7) = false := by simp; exact k7
  have r7 : (k != 7) = true := by simp; exact k7
  by_cases hb : b = true
  ·subst hb
   have HV := Lib.hid (show unusedV k true i s n m = false from decide_eq_false (fun hh => by rcases hh with ⟨h1, h2, h3, h4, h5⟩; first | omega | (simp_all; done) | (simp_all; omega)))
   rw [HV.out]
   go_enter Tryz.func147, Tryz.ntmps147
   go_wp2_with fail
   go_ret
   exact ⟨rfl, (Below.refl _ _).alloc (Nat.le_refl _) _⟩
  have hb : b = false := by simpa using hb
  subst hb
  by_cases hi : i = 0
  rotate_left
  ·have hib : (i != 0) = true := by simp; exact hi
   have HV := Lib.hid (show unusedV k false i s n m = false from decide_eq_false (fun hh => by rcases hh with ⟨h1, h2, h3, h4, h5⟩; first | omega | (simp_all; done) | (simp_all; omega)))
   rw [HV.out]
   go_enter Tryz.func147, Tryz.ntmps147
   go_wp2_with fail
   go_ret
   exact ⟨rfl, (Below.refl _ _).alloc (Nat.le_refl _) _⟩
  have hib : (i != 0) = false := by simp; exact hi
  have HI := Lib.hid hi
  clear hi
  by_cases hs : s.size = 0
  rotate_left
  ·obtain ⟨hs1, hs2⟩ := str_full hs
   have HV := Lib.hid (show unusedV k false i s n m = false from decide_eq_false (fun hh => by rcases hh with ⟨h1, h2, h3, h4, h5⟩; first | omega | (simp_all; done) | (simp_all; omega)))
   rw [HV.out]
   go_enter Tryz.func147, Tryz.ntmps147
   go_wp2_with fail
   go_ret
   exact ⟨rfl, (Below.refl _ _).alloc (Nat.le_refl _) _⟩
  obtain ⟨hs1, hs2⟩ := str_empty hs
  have HS := Lib.hid hs
  clear hs
  by_cases hn : n = 0
  rotate_left
  ·have hn1 : (0 : Int) < n := by omega
   have HV := Lib.hid (show unusedV k false i s n m = false from decide_eq_false (fun hh => by rcases hh with ⟨h1, h2, h3, h4, h5⟩; first | omega | (simp_all; done) | (simp_all; omega)))
   rw [HV.out]
   go_enter Tryz.func147, Tryz.ntmps147
   go_wp2_with fail
   go_ret
   exact ⟨rfl, (Below.refl _ _).alloc (Nat.le_refl _) _⟩
  have hn1 : ¬ (0 : Int) < n := by omega
  have HN := Lib.hid hn
  clear hn
  by_cases hm : m = 0
  rotate_left
  ·have hm1 : ((m : Int) == 0) = false := by simp; exact hm
   have HV := Lib.hid (show unusedV k false i s n m = false from decide_eq_false (fun hh => by rcases hh with ⟨h1, h2, h3, h4, h5⟩; first | omega | (simp_all; done) | (simp_all; omega)))
   rw [HV.out]
   go_enter Tryz.func147, Tryz.ntmps147
   go_wp2_with fail
   go_ret
   exact ⟨rfl, (Below.refl _ _).alloc (Nat.le_refl _) _⟩
  have hm1 : ((m : Int) == 0) = true := by simp; exact hm
  have HM := Lib.hid hm
  clear hm
  have HV := Lib.hid (show unusedV k false i s n m = true from decide_eq_true (by have h0 := HI.out; have h1 := HS.out; have h2 := HN.out; have h3 := HM.out; simp [*]))
  rw [HV.out]
  go_enter Tryz.func147, Tryz.ntmps147
  go_wp2_with fail
  go_ret
  exact ⟨rfl, (Below.refl _ _).alloc (Nat.le_refl _) _⟩)
 | skip) : P := h
theorem Sq97 {P : Prop} (h : P := by
 first
 |(
  guard_hyp z97a
  first
  | (guard_hyp z2b; have hib : (i == 0) = false := by simp; exact hi)
  | (have hib : (i != 0) = true := by simp; exact hi))
 |(
  guard_hyp z97c
  first
  | (guard_hyp z2b; have hn1 : ((n : Int) == 0) = false := by simp; exact hn)
  | (have hn1 : (0 : Int) < n := by omega))
 | (guard_hyp z97b; have hm1 : ((m : Int) == 0) = false := by simp; exact hm)
 | (obtain ⟨hs1, hs2⟩ := str_full hs)
 have HV := Lib.hid (show unusedV (1 : Int) b i s n m = false from decide_eq_false (fun hh => by rcases hh with ⟨h1, h2, h3, h4, h5⟩; first | omega | (simp_all; done) | (simp_all; omega)))
 rw [HV.out]
 first
 | (guard_hyp z2a; go_enter Tryz.func147, Tryz.ntmps147)
 | (go_enter Tryz.func154, Tryz.ntmps154)
 go_wp2_with fail
 go_ret
 exact ⟨rfl, (Below.refl _ _).alloc (Nat.le_refl _) _⟩) : P := h
theorem Sq89 {P : Prop} (h : P := by
 first
 |(
  guard_hyp z89a
  first
  | (guard_hyp z2a; subst k2)
  | skip)
 |(
  guard_hyp z89b
  first
  | (guard_hyp z2a; subst k7)
  | skip)
 |(
  first
  | (guard_hyp z2a; subst k6)
  | skip)
 by_cases hb : b = true
 ·subst hb
  first
  | (guard_hyp z89a; have HV := Lib.hid (show unusedV (2 : Int) true i s n m = false from decide_eq_false (fun hh => by rcases hh with ⟨h1, h2, h3, h4, h5⟩; first | omega | (simp_all; done) | (simp_all; omega))))
  | (guard_hyp z89b; have HV := Lib.hid (show unusedV (7 : Int) true i s n m = false from decide_eq_false (fun hh => by rcases hh with ⟨h1, h2, h3, h4, h5⟩; first | omega | (simp_all; done) | (simp_all; omega))))
  | (have HV := Lib.hid (show unusedV (6 : Int) true i s n m = false from decide_eq_false (fun hh => by rcases hh with ⟨h1, h2, h3, h4, h5⟩; first | omega | (simp_all; done) | (simp_all; omega))))
  rw [HV.out]
  first
  | (guard_hyp z2a; go_enter Tryz.func147, Tryz.ntmps147)
  | (go_enter Tryz.func154, Tryz.ntmps154)
  go_wp2_with fail
  go_ret
  exact ⟨rfl, (Below.refl _ _).alloc (Nat.le_refl _) _⟩
 have hb : b = false := by simpa using hb
 subst hb
 by_cases hs : s.size = 0
 rotate_left
 ·exact Sq107
 obtain ⟨hs1, hs2⟩ := str_empty hs
 have HS := Lib.hid hs
 clear hs
 by_cases hn : n = 0
 rotate_left
 ·have z107a := trivial
  exact Sq107
 first
 | (guard_hyp z2b; have hn1 : ((n : Int) == 0) = true := by simp; exact hn)
 | (have hn1 : ¬ (0 : Int) < n := by omega)
 have HN := Lib.hid hn
 clear hn
 by_cases hm : m = 0
 rotate_left
 ·have z107b := trivial
  exact Sq107
 have hm1 : ((m : Int) == 0) = true := by simp; exact hm
 have HM := Lib.hid hm
 clear hm
 first
 | (guard_hyp z89a; have HV := Lib.hid (show unusedV (2 : Int) false i s n m = true from decide_eq_true (by have h0 := HS.out; have h1 := HN.out; have h2 := HM.out; simp [*])))
 | (guard_hyp z89b; have HV := Lib.hid (show unusedV (7 : Int) false i s n m = true from decide_eq_true (by have h0 := HS.out; have h1 := HN.out; have h2 := HM.out; simp [*])))
 | (have HV := Lib.hid (show unusedV (6 : Int) false i s n m = true from decide_eq_true (by have h0 := HS.out; have h1 := HN.out; have h2 := HM.out; simp [*])))
 rw [HV.out]
 first
 | (guard_hyp z2a; go_enter Tryz.func147, Tryz.ntmps147)
 | (go_enter Tryz.func154, Tryz.ntmps154)
 go_wp2_with fail
 go_ret
 exact ⟨rfl, (Below.refl _ _).alloc (Nat.le_refl _) _⟩) : P := h
theorem Sq107 {P : Prop} (h : P := by
 first
 |(
  guard_hyp z107a
  first
  | (guard_hyp z2b; have hn1 : ((n : Int) == 0) = false := by simp; exact hn)
  | (have hn1 : (0 : Int) < n := by omega))
 | (guard_hyp z107b; have hm1 : ((m : Int) == 0) = false := by simp; exact hm)
 | (obtain ⟨hs1, hs2⟩ := str_full hs)
 first
 | (guard_hyp z89a; have HV := Lib.hid (show unusedV (2 : Int) false i s n m = false from decide_eq_false (fun hh => by rcases hh with ⟨h1, h2, h3, h4, h5⟩; first | omega | (simp_all; done) | (simp_all; omega))))
 | (guard_hyp z89b; have HV := Lib.hid (show unusedV (7 : Int) false i s n m = false from decide_eq_false (fun hh => by rcases hh with ⟨h1, h2, h3, h4, h5⟩; first | omega | (simp_all; done) | (simp_all; omega))))
 | (have HV := Lib.hid (show unusedV (6 : Int) false i s n m = false from decide_eq_false (fun hh => by rcases hh with ⟨h1, h2, h3, h4, h5⟩; first | omega | (simp_all; done) | (simp_all; omega))))
 rw [HV.out]
 first
 | (guard_hyp z2a; go_enter Tryz.func147, Tryz.ntmps147)
 | (go_enter Tryz.func154, Tryz.ntmps154)
 go_wp2_with fail
 go_ret
 exact ⟨rfl, (Below.refl _ _).alloc (Nat.le_refl _) _⟩) : P := h
theorem Sq94 {P : Prop} (h : P := by
 first
 |(
  guard_hyp z94a
  first
  | (guard_hyp z2b; have hib : (i == 0) = false := by simp; exact hi)
  | (have hib : (i != 0) = true := by simp; exact hi))
 |(
  guard_hyp z94c
  first
  | (guard_hyp z2b; have hn1 : ((n : Int) == 0) = false := by simp; exact hn)
  | (have hn1 : (0 : Int) < n := by omega))
 | (have hm1 : ((m : Int) == 0) = false := by simp; exact hm)
 have HV := Lib.hid (show unusedV (3 : Int) false i s n m = false from decide_eq_false (fun hh => by rcases hh with ⟨h1, h2, h3, h4, h5⟩; first | omega | (simp_all; done) | (simp_all; omega)))
 rw [HV.out]
 first
 | (guard_hyp z2a; go_enter Tryz.func147, Tryz.ntmps147)
 | (go_enter Tryz.func154, Tryz.ntmps154)
 go_wp2_with fail
 go_ret
 exact ⟨rfl, (Below.refl _ _).alloc (Nat.le_refl _) _⟩) : P := h
theorem Sq95 {P : Prop} (h : P := by
 first
 |(
  guard_hyp z95a
  first
  | (guard_hyp z2b; have hib : (i == 0) = false := by simp; exact hi)
  | (have hib : (i != 0) = true := by simp; exact hi))
 | (guard_hyp z95b; have hm1 : ((m : Int) == 0) = false := by simp; exact hm)
 | (obtain ⟨hs1, hs2⟩ := str_full hs)
 have HV := Lib.hid (show unusedV (4 : Int) false i s n m = false from decide_eq_false (fun hh => by rcases hh with ⟨h1, h2, h3, h4, h5⟩; first | omega | (simp_all; done) | (simp_all; omega)))
 rw [HV.out]
 first
 | (guard_hyp z2a; go_enter Tryz.func147, Tryz.ntmps147)
 | (go_enter Tryz.func154, Tryz.ntmps154)
 go_wp2_with fail
 go_ret
 exact ⟨rfl, (Below.refl _ _).alloc (Nat.le_refl _) _⟩) : P := h
theorem Sq96 {P : Prop} (h : P := by
 first
 |(
  guard_hyp z96a
  first
  | (guard_hyp z2b; have hib : (i == 0) = false := by simp; exact hi)
  | (have hib : (i != 0) = true := by simp; exact hi))
 | (obtain ⟨hs1, hs2⟩ := str_full hs)
 have HV := Lib.hid (show unusedV (5 : Int) false i s n m = false from decide_eq_false (fun hh => by rcases hh with ⟨h1, h2, h3, h4, h5⟩; first | omega | (simp_all; done) | (simp_all; omega)))
 rw [HV.out]
 first
 | (guard_hyp z2a; go_enter Tryz.func147, Tryz.ntmps147)
 | (go_enter Tryz.func154, Tryz.ntmps154)
 go_wp2_with fail
 go_ret
 exact ⟨rfl, (Below.refl _ _).alloc (Nat.le_refl _) _⟩) : P := h
set_option maxRecDepth 100000 in
set_option maxHeartbeats 4000000 in
theorem unused_any (k : Int) (b : Bool) (i : Int) (s : ByteArray) (la ka : Option Addr) (n lc m kc : Nat) (w : World) :
    Calls Tryz.prog 147 #[.agg #[.int .i64 k, .bool b, .int .i64 i, .string s, .slice la n lc, .slice ka m kc]] w fun e w' => e = .returned (.bool (unusedV k b i s n m)) ∧ Below w.heap.size w w' := by
 have z2a := trivial
 exact Sq2
end Go.Proofs.YtndhpdclpgemfaaGreat

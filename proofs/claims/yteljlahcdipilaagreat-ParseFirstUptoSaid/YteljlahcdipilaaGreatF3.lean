/- Parts Look, Parts of this seat (pruned, scripts that are alike kept once as default arguments: q1, q2, ..). Conditions: each says its own. -/
import Derived.Test.YteljlahcdipilaaGreatF1
namespace Go.Proofs.YteljlahcdipilaaGreat
open Go.RowKit
set_option linter.unusedSimpArgs false
set_option linter.unusedVariables false
theorem bl_tri : ∀ x y : List UInt8, (Op.bytesLess x y = true ∧ Op.bytesLess y x = false ∧ x ≠ y) ∨ (x = y ∧ Op.bytesLess x y = false ∧ Op.bytesLess y x = false) ∨ (Op.bytesLess y x = true ∧ Op.bytesLess x y = false ∧ x ≠ y)
  | [], [] => .inr (.inl ⟨rfl, rfl, rfl⟩)
  | [], b :: y => .inl ⟨rfl, rfl, by simp⟩
  | a :: x, [] => .inr (.inr ⟨rfl, rfl, by simp⟩)
  | a :: x, b :: y => by
    have hs : ∀ (c d : UInt8) u v, Op.bytesLess (c :: u) (d :: v) = (decide (c < d) || (c == d && Op.bytesLess u v)) := fun _ _ _ _ => rfl
    rw [hs, hs]
    by_cases h1 : a < b
    · have h2 : ¬ b < a := by rw [UInt8.lt_iff_toNat_lt] at h1 ⊢; omega
      have h3 : a ≠ b := by intro e; subst e; exact h2 h1
      have h4 : (b == a) = false := beq_eq_false_iff_ne.2 (Ne.symm h3)
      exact .inl ⟨by simp [h1], by simp [h2, h4], fun e => h3 (List.cons.inj e).1⟩
    · by_cases h2 : b < a
      · have h3 : a ≠ b := by intro e; subst e; exact h1 h2
        have h4 : (a == b) = false := beq_eq_false_iff_ne.2 h3
        exact .inr (.inr ⟨by simp [h2], by simp [h1, h4], fun e => h3 (List.cons.inj e).1⟩)
      · have h3 : a = b := by rw [UInt8.lt_iff_toNat_lt] at h1 h2; exact UInt8.toNat_inj.1 (by omega)
        subst h3
        rcases bl_tri x y with ⟨p, q, r⟩ | ⟨p, q, r⟩ | ⟨p, q, r⟩
        · exact .inl ⟨by simp [p], by simp [h1, q], fun e => r (List.cons.inj e).2⟩
        · exact .inr (.inl ⟨by rw [p], by simp [h1, q], by simp [h1, r]⟩)
        · exact .inr (.inr ⟨by simp [p], by simp [h1, q], fun e => r (List.cons.inj e).2⟩)
theorem Sq130572 {P : Prop} (h : P := by
 first
 | (guard_hyp z130572a; have hn1 : ((n : Int) == 0) = false := by simp; exact hn)
 | (guard_hyp z130572b; have hm1 : ((m : Int) == 0) = false := by simp; exact hm)
 | (guard_hyp z130572d; have hib : (i == 0) = false := by simp; exact hi)
 | (obtain ⟨hs1, hs2⟩ := str_full hs)
 have HV := Lib.hid (show unusedV (0 : Int) false i s n m = false from decide_eq_false (fun hh => by rcases hh with ⟨h1, h2, h3, h4, h5⟩; first | omega | (simp_all; done) | (simp_all; omega)))
 rw [HV.out]
 go_enter Tryz.func183, Tryz.ntmps183
 go_wp2_with fail
 go_ret
 exact ⟨rfl, (Below.refl _ _).alloc (Nat.le_refl _) _⟩) : P := h
theorem Sq158396 {P : Prop} (h : P := by
 first
 | (guard_hyp z158396a; have hn1 : ((n : Int) == 0) = false := by simp; exact hn)
 | (guard_hyp z158396b; have hm1 : ((m : Int) == 0) = false := by simp; exact hm)
 | (guard_hyp z158396d; have hib : (i == 0) = false := by simp; exact hi)
 | (obtain ⟨hs1, hs2⟩ := str_full hs)
 have HV := Lib.hid (show unusedV (1 : Int) b i s n m = false from decide_eq_false (fun hh => by rcases hh with ⟨h1, h2, h3, h4, h5⟩; first | omega | (simp_all; done) | (simp_all; omega)))
 rw [HV.out]
 go_enter Tryz.func183, Tryz.ntmps183
 go_wp2_with fail
 go_ret
 exact ⟨rfl, (Below.refl _ _).alloc (Nat.le_refl _) _⟩) : P := h
theorem Sq417337 {P : Prop} (h : P := by
 first
 | (guard_hyp z417337a; have hn1 : ((n : Int) == 0) = false := by simp; exact hn)
 | (guard_hyp z417337b; have hm1 : ((m : Int) == 0) = false := by simp; exact hm)
 | (obtain ⟨hs1, hs2⟩ := str_full hs)
 have HV := Lib.hid (show unusedV (2 : Int) false i s n m = false from decide_eq_false (fun hh => by rcases hh with ⟨h1, h2, h3, h4, h5⟩; first | omega | (simp_all; done) | (simp_all; omega)))
 rw [HV.out]
 go_enter Tryz.func183, Tryz.ntmps183
 go_wp2_with fail
 go_ret
 exact ⟨rfl, (Below.refl _ _).alloc (Nat.le_refl _) _⟩) : P := h
theorem Sq181150 {P : Prop} (h : P := by
 first
 | (guard_hyp z181150a; have hn1 : ((n : Int) == 0) = false := by simp; exact hn)
 | (guard_hyp z181150b; have hm1 : ((m : Int) == 0) = false := by simp; exact hm)
 | (have hib : (i == 0) = false := by simp; exact hi)
 have HV := Lib.hid (show unusedV (3 : Int) false i s n m = false from decide_eq_false (fun hh => by rcases hh with ⟨h1, h2, h3, h4, h5⟩; first | omega | (simp_all; done) | (simp_all; omega)))
 rw [HV.out]
 go_enter Tryz.func183, Tryz.ntmps183
 go_wp2_with fail
 go_ret
 exact ⟨rfl, (Below.refl _ _).alloc (Nat.le_refl _) _⟩) : P := h
theorem Sq220312 {P : Prop} (h : P := by
 first
 | (guard_hyp z220312a; have hm1 : ((m : Int) == 0) = false := by simp; exact hm)
 | (guard_hyp z220312c; have hib : (i == 0) = false := by simp; exact hi)
 | (obtain ⟨hs1, hs2⟩ := str_full hs)
 have HV := Lib.hid (show unusedV (4 : Int) false i s n m = false from decide_eq_false (fun hh => by rcases hh with ⟨h1, h2, h3, h4, h5⟩; first | omega | (simp_all; done) | (simp_all; omega)))
 rw [HV.out]
 go_enter Tryz.func183, Tryz.ntmps183
 go_wp2_with fail
 go_ret
 exact ⟨rfl, (Below.refl _ _).alloc (Nat.le_refl _) _⟩) : P := h
theorem Sq243575 {P : Prop} (h : P := by
 first
 | (guard_hyp z243575a; have hib : (i == 0) = false := by simp; exact hi)
 | (obtain ⟨hs1, hs2⟩ := str_full hs)
 have HV := Lib.hid (show unusedV (5 : Int) false i s n m = false from decide_eq_false (fun hh => by rcases hh with ⟨h1, h2, h3, h4, h5⟩; first | omega | (simp_all; done) | (simp_all; omega)))
 rw [HV.out]
 go_enter Tryz.func183, Tryz.ntmps183
 go_wp2_with fail
 go_ret
 exact ⟨rfl, (Below.refl _ _).alloc (Nat.le_refl _) _⟩) : P := h
theorem Sq899924 {P : Prop} (h : P := by
 first
 | (guard_hyp z899924a; have hn1 : ((n : Int) == 0) = false := by simp; exact hn)
 | (guard_hyp z899924b; have hm1 : ((m : Int) == 0) = false := by simp; exact hm)
 | (obtain ⟨hs1, hs2⟩ := str_full hs)
 have HV := Lib.hid (show unusedV (6 : Int) false i s n m = false from decide_eq_false (fun hh => by rcases hh with ⟨h1, h2, h3, h4, h5⟩; first | omega | (simp_all; done) | (simp_all; omega)))
 rw [HV.out]
 go_enter Tryz.func183, Tryz.ntmps183
 go_wp2_with fail
 go_ret
 exact ⟨rfl, (Below.refl _ _).alloc (Nat.le_refl _) _⟩) : P := h
theorem Sq774055 {P : Prop} (h : P := by
 first
 | (guard_hyp z774055a; have hn1 : ((n : Int) == 0) = false := by simp; exact hn)
 | (guard_hyp z774055b; have hm1 : ((m : Int) == 0) = false := by simp; exact hm)
 | (obtain ⟨hs1, hs2⟩ := str_full hs)
 have HV := Lib.hid (show unusedV (7 : Int) false i s n m = false from decide_eq_false (fun hh => by rcases hh with ⟨h1, h2, h3, h4, h5⟩; first | omega | (simp_all; done) | (simp_all; omega)))
 rw [HV.out]
 go_enter Tryz.func183, Tryz.ntmps183
 go_wp2_with fail
 go_ret
 exact ⟨rfl, (Below.refl _ _).alloc (Nat.le_refl _) _⟩) : P := h
set_option maxRecDepth 100000 in
set_option maxHeartbeats 4000000 in
theorem bare_any (k : Int) (b : Bool) (i : Int) (s : ByteArray) (la ka : Option Addr) (n lc m kc : Nat) (w : World) (h0 : 0 ≤ k) (h7 : k ≤ 7) :
    Calls Tryz.prog 183 #[.agg #[.int .i64 k, .bool b, .int .i64 i, .string s, .slice la n lc, .slice ka m kc]] w fun e w' => e = .returned (.bool (unusedV k b i s n m)) ∧ Below w.heap.size w w' := by
 have hcase : k = 0 ∨ k = 1 ∨ k = 2 ∨ k = 3 ∨ k = 4 ∨ k = 5 ∨ k = 6 ∨ k = 7 := by omega
 clear h0 h7
 rcases hcase with rfl | rfl | rfl | rfl | rfl | rfl | rfl | rfl
 ·by_cases hb : b = true
  ·subst hb
   have HV := Lib.hid (show unusedV (0 : Int) true i s n m = false from decide_eq_false (fun hh => by rcases hh with ⟨h1, h2, h3, h4, h5⟩; first | omega | (simp_all; done) | (simp_all; omega)))
   rw [HV.out]
   go_enter Tryz.func183, Tryz.ntmps183
   go_wp2_with fail
   go_ret
   exact ⟨rfl, (Below.refl _ _).alloc (Nat.le_refl _) _⟩
  have hb : b = false := by simpa using hb
  subst hb
  by_cases hi : i = 0
  rotate_left
  ·have z130572d := trivial
   exact Sq130572
  have hib : (i == 0) = true := by simp; exact hi
  have HI := Lib.hid hi
  clear hi
  by_cases hs : s.size = 0
  rotate_left
  ·exact Sq130572
  obtain ⟨hs1, hs2⟩ := str_empty hs
  have HS := Lib.hid hs
  clear hs
  by_cases hn : n = 0
  rotate_left
  ·have z130572a := trivial
   exact Sq130572
  have hn1 : ((n : Int) == 0) = true := by simp; exact hn
  have HN := Lib.hid hn
  clear hn
  by_cases hm : m = 0
  rotate_left
  ·have z130572b := trivial
   exact Sq130572
  have hm1 : ((m : Int) == 0) = true := by simp; exact hm
  have HM := Lib.hid hm
  clear hm
  have HV := Lib.hid (show unusedV (0 : Int) false i s n m = true from decide_eq_true (by have h0 := HI.out; have h1 := HS.out; have h2 := HN.out; have h3 := HM.out; simp [*]))
  rw [HV.out]
  go_enter Tryz.func183, Tryz.ntmps183
  go_wp2_with fail
  go_ret
  exact ⟨rfl, (Below.refl _ _).alloc (Nat.le_refl _) _⟩
 ·by_cases hi : i = 0
  rotate_left
  ·have z158396d := trivial
   exact Sq158396
  have hib : (i == 0) = true := by simp; exact hi
  have HI := Lib.hid hi
  clear hi
  by_cases hs : s.size = 0
  rotate_left
  ·exact Sq158396
  obtain ⟨hs1, hs2⟩ := str_empty hs
  have HS := Lib.hid hs
  clear hs
  by_cases hn : n = 0
  rotate_left
  ·have z158396a := trivial
   exact Sq158396
  have hn1 : ((n : Int) == 0) = true := by simp; exact hn
  have HN := Lib.hid hn
  clear hn
  by_cases hm : m = 0
  rotate_left
  ·have z158396b := trivial
   exact Sq158396
  have hm1 : ((m : Int) == 0) = true := by simp; exact hm
  have HM := Lib.hid hm
  clear hm
  have HV := Lib.hid (show unusedV (1 : Int) b i s n m = true from decide_eq_true (by have h0 := HI.out; have h1 := HS.out; have h2 := HN.out; have h3 := HM.out; simp [*]))
  rw [HV.out]
  go_enter Tryz.func183, Tryz.ntmps183
  go_wp2_with fail
  go_ret
  exact ⟨rfl, (Below.refl _ _).alloc (Nat.le_refl _) _⟩
 ·by_cases hb : b = true
  ·subst hb
   have HV := Lib.hid (show unusedV (2 : Int) true i s n m = false from decide_eq_false (fun hh => by rcases hh with ⟨h1, h2, h3, h4, h5⟩; first | omega | (simp_all; done) | (simp_all; omega)))
   rw [HV.out]
   go_enter Tryz.func183, Tryz.ntmps183
   go_wp2_with fail
   go_ret
   exact ⟨rfl, (Below.refl _ _).alloc (Nat.le_refl _) _⟩
  have hb : b = false := by simpa using hb
  subst hb
  by_cases hs : s.size = 0
  rotate_left
  ·exact Sq417337
  obtain ⟨hs1, hs2⟩ := str_empty hs
  have HS := Lib.hid hs
  clear hs
  by_cases hn : n = 0
  rotate_left
  ·have z417337a := trivial
   exact Sq417337
  have hn1 : ((n : Int) == 0) = true := by simp; exact hn
  have HN := Lib.hid hn
  clear hn
  by_cases hm : m = 0
  rotate_left
  ·have z417337b := trivial
   exact Sq417337
  have hm1 : ((m : Int) == 0) = true := by simp; exact hm
  have HM := Lib.hid hm
  clear hm
  have HV := Lib.hid (show unusedV (2 : Int) false i s n m = true from decide_eq_true (by have h0 := HS.out; have h1 := HN.out; have h2 := HM.out; simp [*]))
  rw [HV.out]
  go_enter Tryz.func183, Tryz.ntmps183
  go_wp2_with fail
  go_ret
  exact ⟨rfl, (Below.refl _ _).alloc (Nat.le_refl _) _⟩
 ·by_cases hb : b = true
  ·subst hb
   have HV := Lib.hid (show unusedV (3 : Int) true i s n m = false from decide_eq_false (fun hh => by rcases hh with ⟨h1, h2, h3, h4, h5⟩; first | omega | (simp_all; done) | (simp_all; omega)))
   rw [HV.out]
   go_enter Tryz.func183, Tryz.ntmps183
   go_wp2_with fail
   go_ret
   exact ⟨rfl, (Below.refl _ _).alloc (Nat.le_refl _) _⟩
  have hb : b = false := by simpa using hb
  subst hb
  by_cases hi : i = 0
  rotate_left
  ·exact Sq181150
  have hib : (i == 0) = true := by simp; exact hi
  have HI := Lib.hid hi
  clear hi
  by_cases hn : n = 0
  rotate_left
  ·have z181150a := trivial
   exact Sq181150
  have hn1 : ((n : Int) == 0) = true := by simp; exact hn
  have HN := Lib.hid hn
  clear hn
  by_cases hm : m = 0
  rotate_left
  ·have z181150b := trivial
   exact Sq181150
  have hm1 : ((m : Int) == 0) = true := by simp; exact hm
  have HM := Lib.hid hm
  clear hm
  have HV := Lib.hid (show unusedV (3 : Int) false i s n m = true from decide_eq_true (by have h0 := HI.out; have h1 := HN.out; have h2 := HM.out; simp [*]))
  rw [HV.out]
  go_enter Tryz.func183, Tryz.ntmps183
  go_wp2_with fail
  go_ret
  exact ⟨rfl, (Below.refl _ _).alloc (Nat.le_refl _) _⟩
 ·by_cases hb : b = true
  ·subst hb
   have HV := Lib.hid (show unusedV (4 : Int) true i s n m = false from decide_eq_false (fun hh => by rcases hh with ⟨h1, h2, h3, h4, h5⟩; first | omega | (simp_all; done) | (simp_all; omega)))
   rw [HV.out]
   go_enter Tryz.func183, Tryz.ntmps183
   go_wp2_with fail
   go_ret
   exact ⟨rfl, (Below.refl _ _).alloc (Nat.le_refl _) _⟩
  have hb : b = false := by simpa using hb
  subst hb
  by_cases hi : i = 0
  rotate_left
  ·have z220312c := trivial
   exact Sq220312
  have hib : (i == 0) = true := by simp; exact hi
  have HI := Lib.hid hi
  clear hi
  by_cases hs : s.size = 0
  rotate_left
  ·exact Sq220312
  obtain ⟨hs1, hs2⟩ := str_empty hs
  have HS := Lib.hid hs
  clear hs
  by_cases hm : m = 0
  rotate_left
  ·have z220312a := trivial
   exact Sq220312
  have hm1 : ((m : Int) == 0) = true := by simp; exact hm
  have HM := Lib.hid hm
  clear hm
  have HV := Lib.hid (show unusedV (4 : Int) false i s n m = true from decide_eq_true (by have h0 := HI.out; have h1 := HS.out; have h2 := HM.out; simp [*]))
  rw [HV.out]
  go_enter Tryz.func183, Tryz.ntmps183
  go_wp2_with fail
  go_ret
  exact ⟨rfl, (Below.refl _ _).alloc (Nat.le_refl _) _⟩
 ·by_cases hb : b = true
  ·subst hb
   have HV := Lib.hid (show unusedV (5 : Int) true i s n m = false from decide_eq_false (fun hh => by rcases hh with ⟨h1, h2, h3, h4, h5⟩; first | omega | (simp_all; done) | (simp_all; omega)))
   rw [HV.out]
   go_enter Tryz.func183, Tryz.ntmps183
   go_wp2_with fail
   go_ret
   exact ⟨rfl, (Below.refl _ _).alloc (Nat.le_refl _) _⟩
  have hb : b = false := by simpa using hb
  subst hb
  by_cases hi : i = 0
  rotate_left
  ·have z243575a := trivial
   exact Sq243575
  have hib : (i == 0) = true := by simp; exact hi
  have HI := Lib.hid hi
  clear hi
  by_cases hs : s.size = 0
  rotate_left
  ·exact Sq243575
  obtain ⟨hs1, hs2⟩ := str_empty hs
  have HS := Lib.hid hs
  clear hs
  have HV := Lib.hid (show unusedV (5 : Int) false i s n m = true from decide_eq_true (by have h0 := HI.out; have h1 := HS.out; simp [*]))
  rw [HV.out]
  go_enter Tryz.func183, Tryz.ntmps183
  go_wp2_with fail
  go_ret
  exact ⟨rfl, (Below.refl _ _).alloc (Nat.le_refl _) _⟩
 ·by_cases hb : b = true
  ·subst hb
   have HV := Lib.hid (show unusedV (6 : Int) true i s n m = false from decide_eq_false (fun hh => by rcases hh with ⟨h1, h2, h3, h4, h5⟩; first | omega | (simp_all; done) | (simp_all; omega)))
   rw [HV.out]
   go_enter Tryz.func183, Tryz.ntmps183
   go_wp2_with fail
   go_ret
   exact ⟨rfl, (Below.refl _ _).alloc (Nat.le_refl _) _⟩
  have hb : b = false := by simpa using hb
  subst hb
  by_cases hs : s.size = 0
  rotate_left
  ·exact Sq899924
  obtain ⟨hs1, hs2⟩ := str_empty hs
  have HS := Lib.hid hs
  clear hs
  by_cases hn : n = 0
  rotate_left
  ·have z899924a := trivial
   exact Sq899924
  have hn1 : ((n : Int) == 0) = true := by simp; exact hn
  have HN := Lib.hid hn
  clear hn
  by_cases hm : m = 0
  rotate_left
  ·have z899924b := trivial
   exact Sq899924
  have hm1 : ((m : Int) == 0) = true := by simp; exact hm
  have HM := Lib.hid hm
  clear hm
  have HV := Lib.hid (show unusedV (6 : Int) false i s n m = true from decide_eq_true (by have h0 := HS.out; have h1 := HN.out; have h2 := HM.out; simp [*]))
  rw [HV.out]
  go_enter Tryz.func183, Tryz.ntmps183
  go_wp2_with fail
  go_ret
  exact ⟨rfl, (Below.refl _ _).alloc (Nat.le_refl _) _⟩
 ·by_cases hb : b = true
  ·subst hb
   have HV := Lib.hid (show unusedV (7 : Int) true i s n m = false from decide_eq_false (fun hh => by rcases hh with ⟨h1, h2, h3, h4, h5⟩; first | omega | (simp_all; done) | (simp_all; omega)))
   rw [HV.out]
   go_enter Tryz.func183, Tryz.ntmps183
   go_wp2_with fail
   go_ret
   exact ⟨rfl, (Below.refl _ _).alloc (Nat.le_refl _) _⟩
  have hb : b = false := by simpa using hb
  subst hb
  by_cases hs : s.size = 0
  rotate_left
  ·exact Sq774055
  obtain ⟨hs1, hs2⟩ := str_empty hs
  have HS := Lib.hid hs
  clear hs
  by_cases hn : n = 0
  rotate_left
  ·have z774055a := trivial
   exact Sq774055
  have hn1 : ((n : Int) == 0) = true := by simp; exact hn
  have HN := Lib.hid hn
  clear hn
  by_cases hm : m = 0
  rotate_left
  ·have z774055b := trivial
   exact Sq774055
  have hm1 : ((m : Int) == 0) = true := by simp; exact hm
  have HM := Lib.hid hm
  clear hm
  have HV := Lib.hid (show unusedV (7 : Int) false i s n m = true from decide_eq_true (by have h0 := HS.out; have h1 := HN.out; have h2 := HM.out; simp [*]))
  rw [HV.out]
  go_enter Tryz.func183, Tryz.ntmps183
  go_wp2_with fail
  go_ret
  exact ⟨rfl, (Below.refl _ _).alloc (Nat.le_refl _) _⟩
set_option maxRecDepth 100000 in
set_option maxHeartbeats 4000000 in
theorem keys_any (ks : List ByteArray) (ka : Option Addr) (kc : Nat) (B : Nat) (w : World) (hK : StrRow B w ka ks) (hl : ks.length ≤ 9223372036854775807) :
    Calls Tryz.prog 184 #[.slice ka ks.length kc] w fun e w' => e = .returned (.bool (keysOk ks)) ∧ w = w' := by
 obtain ⟨R, hR⟩ := nam (keysOk ks)
 have HR := Lib.hid hR
 rw [hR]
 clear hR
 have HK := Lib.hid hK
 clear hK
 go_enter Tryz.func184, Tryz.ntmps184
 go_wp2_with fail
 go_loop [7] (fun iv => ∃ (j : Nat), iv = .int .i64 j ∧ j ≤ ks.length ∧ Hid (∀ n, n < j → kOk ks n = true)) (fun iv => ks.length - (intOf iv).toNat)
 case atStart => exact ⟨0, rfl, Nat.zero_le _, Lib.hid (fun n h => by omega)⟩
 case round =>
  obtain ⟨j, rfl, hj, hm⟩ := hrel
  by_cases hlt : j < ks.length
  ·have hlt' : (j : Int) < ks.length := by omega
   obtain ⟨x, hx⟩ := get_some hlt
   rcases HK.out with h0 | ⟨kb, ko, rfl, hkb, hkc'⟩
   ·exfalso; rw [List.map_eq_nil_iff] at h0; rw [h0] at hlt; simp at hlt
   have g : w.cell? ⟨kb, ko + j, none⟩ = some (.string x) := hkc' j _ (by rw [List.getElem?_map, hx]; rfl)
   have HKC := Lib.hid hkc'
   clear hkc'
   have p0 : (0 : Int) ≤ (j : Int) := by omega
   have HX := Lib.hid hx
   clear hx
   by_cases z1 : x.size = 0
   ·obtain ⟨e1, e2⟩ := str_empty z1
    have HN : Hid (R = false) := Lib.hid (by rw [← HR.out]; exact keysOk_no hlt (kOk_no1 HX.out (by omega)))
    go_wp2_with fail
    go_ret
    exact ⟨by rw [HN.out]; rfl, rfl⟩
   obtain ⟨e1, e2⟩ := str_full z1
   by_cases z2 : 64 < x.size
   ·have z2d : (64 : Int) < x.size := by omega
    have HN : Hid (R = false) := Lib.hid (by rw [← HR.out]; exact keysOk_no hlt (kOk_no1 HX.out (by omega)))
    go_wp2_with fail
    go_ret
    exact ⟨by rw [HN.out]; rfl, rfl⟩
   have z2d : ¬ (64 : Int) < x.size := by omega
   by_cases z3 : j = 0
   ·have z3d : ¬ (0 : Int) < j := by omega
    have z3n : decide (0 < j) = false := by simp; omega
    have HKJ : Hid (kOk ks j = true) := Lib.hid (kOk_yes HX.out (by omega) (by omega) (.inl z3))
    clear z3
    go_wp2_with fail
    go_round
    case rel => exact ⟨j + 1, by go_num, by omega, Lib.hid (fun n hn => by
     by_cases hnj : n = j
     ·rw [hnj]; exact HKJ.out
     ·exact hm.out n (by omega))⟩
    case measure => simp [intOf]; omega
   have z3d : (0 : Int) < j := by omega
   have z3n : decide (0 < j) = true := by simp; omega
   obtain ⟨y, hy⟩ := get_some (l := ks) (j := j - 1) (by omega)
   have g' : w.cell? ⟨kb, ko + (j - 1), none⟩ = some (.string y) := HKC.out (j - 1) _ (by rw [List.getElem?_map, hy]; rfl)
   have HY := Lib.hid hy
   clear hy
   have u2 : (0 : Int) ≤ (j : Int) - 1 := by omega
   have u3 : (j : Int) - 1 < ks.length := by omega
   have u4 : ((j : Int) - 1).toNat = j - 1 := by omega
   have u5 : (1 : Int) ≤ j := by omega
   rcases bl_tri x.toList y.toList with ⟨e3, e4, e5⟩ | ⟨e3, e4, e5⟩ | ⟨e3, e4, e5⟩
   ·have HN : Hid (R = false) := Lib.hid (by rw [← HR.out]; exact keysOk_no hlt (kOk_no2 HX.out (by omega) HY.out (by unfold strLe; rw [e3]; rfl)))
    clear e3 e5
    go_wp2_with fail
    go_ret
    exact ⟨by rw [HN.out]; rfl, rfl⟩
   ·have HN : Hid (R = false) := Lib.hid (by rw [← HR.out]; exact keysOk_no hlt (kOk_no2 HX.out (by omega) HY.out (by unfold strLe; rw [e3]; simp)))
    clear e3 e4
    go_wp2_with fail
    go_ret
    exact ⟨by rw [HN.out]; rfl, rfl⟩
   ·have HKJ : Hid (kOk ks j = true) := Lib.hid (kOk_yes HX.out (by omega) (by omega) (.inr ⟨y, HY.out, by unfold strLe; rw [e4, beq_eq_false_iff_ne.2 e5]; rfl⟩))
    clear e4 e5
    go_wp2_with fail
    go_round
    case rel => exact ⟨j + 1, by go_num, by omega, Lib.hid (fun n hn => by
     by_cases hnj : n = j
     ·rw [hnj]; exact HKJ.out
     ·exact hm.out n (by omega))⟩
    case measure => simp [intOf]; omega
  ·have hlt' : ¬ (j : Int) < ks.length := by omega
   have HD : Hid (R = true) := Lib.hid (by rw [← HR.out]; exact keysOk_yes (fun n hn => hm.out n (by omega)))
   go_wp2_with fail
   go_ret
   exact ⟨by rw [HD.out]; rfl, rfl⟩
def LookSaid (t : Vt) : Prop := ∀ (cs : List Value) (B : Nat) (w : World) (d : Int) (p : Nat), IsV B w cs t → B ≤ w.heap.size → 0 ≤ d → d ≤ 1000000 → p ≤ 4096 →
    Calls Tryz.prog 180 #[.agg cs.toArray, .int .i64 d, .int .i64 p] w fun e w' => e = .returned (mayR (mayV t d p)) ∧ Below w.heap.size w w'
theorem Sq299713 {P : Prop} (h : P := by
 first
 |(
  guard_hyp z299713a
  have k5b : (k == 5) = false := by simp; omega
  by_cases i1 : i < 1
  ·have HN := Lib.hid (NO.out (headOk_no (fun h => h.2.2.2.2.2.1 ⟨by omega, i1⟩)))
   go_enter Tryz.func180, Tryz.ntmps180
   go_wp2_with fail
   refine (HU.out _).mono ?_
   rintro e w1 ⟨rfl, hb1⟩
   have hBX := (Block.new w [.int .i64 k, .bool b, .int .i64 i, .string s, .slice la l.length lc, .slice ka ks.length kc] 64).below hb1 (by simp)
   have x0 := hBX.cell (i := 0) rfl
   have x1 := hBX.cell (i := 1) rfl
   have x2 := hBX.cell (i := 2) rfl
   have x3 := hBX.cell (i := 3) rfl
   have x4 := hBX.cell (i := 4) rfl
   have x5 := hBX.cell (i := 5) rfl
   have HB1 := Lib.hid (hb1.mono (B' := w.heap.size + 1) (by simp))
   have HKW := Lib.hid (HKY.out w1 (below_step ((Below.refl _ _).alloc (Nat.le_refl _) _) rfl hb1))
   clear hb1 hBX
   go_wp2_with fail
   go_ret2
   exact ⟨by rw [HN.out]; rfl, ((Below.refl _ _).alloc (Nat.le_refl _) _).trans (HB1.out.mono (by omega))⟩
  have HD : Hid (headOk k b i s l.length ks d p = true) := Lib.hid (headOk_parts (by omega) d1 (by omega) (by omega) C5.out (by omega) (fun h => by omega)))
 |(
  guard_hyp z299713b
  have k5b : (k == 5) = false := by simp; omega
  have HD : Hid (headOk k b i s l.length ks d p = true) := Lib.hid (headOk_parts (by omega) d1 (by omega) (by omega) C5.out (by omega) (fun h => absurd h k5))
  clear k5)
 |(
  have HD : Hid (headOk k b i s l.length ks d p = true) := Lib.hid (headOk_parts (by omega) d1 (by omega) (by omega) C5.out (by omega) (fun _ => ⟨HNL.out, hko⟩))
  rw [hko] at HKY
  clear hko)
 go_enter Tryz.func180, Tryz.ntmps180
 go_wp2_with fail
 refine (HU.out _).mono ?_
 rintro e w1 ⟨rfl, hb1⟩
 have hBX := (Block.new w [.int .i64 k, .bool b, .int .i64 i, .string s, .slice la l.length lc, .slice ka ks.length kc] 64).below hb1 (by simp)
 have x0 := hBX.cell (i := 0) rfl
 have x1 := hBX.cell (i := 1) rfl
 have x2 := hBX.cell (i := 2) rfl
 have x3 := hBX.cell (i := 3) rfl
 have x4 := hBX.cell (i := 4) rfl
 have x5 := hBX.cell (i := 5) rfl
 have HB1 := Lib.hid (hb1.mono (B' := w.heap.size + 1) (by simp))
 have HKW := Lib.hid (HKY.out w1 (below_step ((Below.refl _ _).alloc (Nat.le_refl _) _) rfl hb1))
 clear hb1 hBX
 go_wp2_with fail
 first
 |(
  guard_hyp z299713c
  refine HKW.out.mono ?_
  rintro e w2 ⟨rfl, rfl⟩
  go_wp2_with fail)
 | skip
 go_loopw [2, 8, 9] (fun pv kv iv wr => ∃ (j q : Nat) (okb : Bool), iv = .int .i64 j ∧ pv = .int .i64 q ∧ kv = .bool okb ∧ j ≤ l.length ∧ q ≤ 4097 ∧ (okb = true → q ≤ 4096) ∧ Below (w.heap.size + 1) (w.alloc (.cells #[.int .i64 k, .bool b, .int .i64 i, .string s, .slice la l.length lc, .slice ka ks.length kc] 64)) wr ∧ Hid (R = if okb then mayR (mayVs (l.drop j) (d - 1) q) else mayR (q, false))) (fun _ _ iv _ => l.length - (intOf iv).toNat)
 case atStart => exact ⟨0, p + 1, true, by go_num, by go_num, rfl, Nat.zero_le _, by omega, fun _ => by omega, HB1.out, Lib.hid (by rw [← HR.out, mayV_go HD.out]; rfl)⟩
 case round =>
  obtain ⟨j, q, okb, rfl, rfl, rfl, hj, hq, hqk, hbr, hm⟩ := hrel
  have hBR := (Block.new w [.int .i64 k, .bool b, .int .i64 i, .string s, .slice la l.length lc, .slice ka ks.length kc] 64).below hbr (by simp)
  have y4 := hBR.cell (i := 4) rfl
  clear hBR
  have HBR := Lib.hid hbr
  clear hbr
  by_cases hlt : j < l.length
  ·have hlt' : (j : Int) < l.length := by omega
   cases okb with
   | false =>
    clear hqk
    go_wp2_with fail
    go_ret2
    exact ⟨by rw [hm.out]; rfl, ((Below.refl w.heap.size w).alloc (Nat.le_refl _) _).trans (HBR.out.mono (by omega))⟩
   | true =>
    have hq2 := hqk rfl
    clear hqk
    obtain ⟨t, ht⟩ := get_some hlt
    obtain ⟨eb, eo, cs, rfl, heb, hce, hVt⟩ := HLs.out.get j t ht
    have hVr : IsV B wr cs t := IsV.below (((Below.refl w.heap.size w).alloc (Nat.le_refl _) _).trans (HBR.out.mono (by omega))) hB t cs hVt
    have HI := Lib.hid (IH.out j t ht cs B wr (d - 1) q hVr (Nat.le_trans hB (Nat.le_trans (by simp) HBR.out.size)) (by omega) (by omega) hq2)
    have hst := mayVs_step ht (d - 1) q
    have hle := mayV_le t (d - 1) q hq2
    obtain ⟨k2, b2, i2, s2, l2, ks2⟩ := t
    unfold IsV at hVt
    obtain ⟨la2, lc2, ka2, kc2, rfl, _⟩ := hVt
    have g : ∀ (n : Nat) v, ([.int .i64 k2, .bool b2, .int .i64 i2, .string s2, .slice la2 l2.length lc2, .slice ka2 ks2.length kc2] : List Value)[n]? = some v → wr.cell? ⟨eb, eo + j * 6 + n, none⟩ = some v := fun n v hv => by
     have h1 := hce n v hv
     rw [Nat.zero_add] at h1
     rw [Nat.add_assoc]
     rw [HBR.out.cell (by show eb < w.heap.size + 1; omega)]
     rw [(Below.alloc (Below.refl w.heap.size w) (Nat.le_refl _) (.cells #[.int .i64 k, .bool b, .int .i64 i, .string s, .slice (some ⟨eb, eo, none⟩) l.length lc, .slice ka ks.length kc] 64)).cell (by show eb < w.heap.size; omega)]
     exact h1
    have g0 := g 0 _ rfl
    have g1 := g 1 _ rfl
    have g2 := g 2 _ rfl
    have g3 := g 3 _ rfl
    have g4 := g 4 _ rfl
    have g5 := g 5 _ rfl
    rw [Nat.add_zero] at g0
    clear g hce
    cases hm2 : mayV (.mk k2 b2 i2 s2 l2 ks2) (d - 1) q with
    | mk n ok =>
     rw [hm2] at HI hst hle
     unfold mayR at HI
     dsimp only at HI hst hle
     have HST := Lib.hid hst
     have HLE := Lib.hid hle.2
     have hle1 := hle.1
     clear hst hm2 hle
     go_wp2_with fail
     refine HI.out.mono ?_
     rintro e w2 ⟨rfl, hb2⟩
     have HB2 := Lib.hid hb2
     clear hb2
     go_wp2_with fail
     go_roundw
     case rel => exact ⟨j + 1, n, ok, by go_num, rfl, rfl, by omega, hle1, HLE.out, HBR.out.trans (HB2.out.mono (Nat.le_trans (by simp) HBR.out.size)), Lib.hid (by have h := hm.out; simp at h; rw [h, HST.out]; cases ok <;> simp)⟩
     case measure => simp [intOf]; omega
  ·have hlt' : ¬ (j : Int) < l.length := by omega
   have HF : Hid (R = mayR (q, okb)) := Lib.hid (by rw [hm.out, List.drop_of_length_le (by omega)]; cases okb <;> rfl)
   clear hqk
   go_wp2_with fail
   go_ret2
   exact ⟨by rw [HF.out]; rfl, ((Below.refl w.heap.size w).alloc (Nat.le_refl _) _).trans (HBR.out.mono (by omega))⟩) : P := h
theorem Sq793954 {P : Prop} (h : P := by
 first
 |(
  guard_hyp z793954b
  have hnb : ((ks.length : Int) != (l.length : Int)) = true := by simp; omega
  have HN := Lib.hid (NO.out (headOk_no (fun h => hn (h.2.2.2.2.2.2 K5.out).1))))
 |(
  have HN := Lib.hid (NO.out (headOk_no (fun h => by have := (h.2.2.2.2.2.2 K5.out).2; rw [hko] at this; cases this)))
  rw [hko] at HKY
  clear hko)
 go_enter Tryz.func180, Tryz.ntmps180
 go_wp2_with fail
 refine (HU.out _).mono ?_
 rintro e w1 ⟨rfl, hb1⟩
 have hBX := (Block.new w [.int .i64 k, .bool b, .int .i64 i, .string s, .slice la l.length lc, .slice ka ks.length kc] 64).below hb1 (by simp)
 have x0 := hBX.cell (i := 0) rfl
 have x1 := hBX.cell (i := 1) rfl
 have x2 := hBX.cell (i := 2) rfl
 have x3 := hBX.cell (i := 3) rfl
 have x4 := hBX.cell (i := 4) rfl
 have x5 := hBX.cell (i := 5) rfl
 have HB1 := Lib.hid (hb1.mono (B' := w.heap.size + 1) (by simp))
 have HKW := Lib.hid (HKY.out w1 (below_step ((Below.refl _ _).alloc (Nat.le_refl _) _) rfl hb1))
 clear hb1 hBX
 go_wp2_with fail
 first
 |(
  guard_hyp z793954a
  refine HKW.out.mono ?_
  rintro e w2 ⟨rfl, rfl⟩
  go_wp2_with fail)
 | skip
 go_ret2
 exact ⟨by rw [HN.out]; rfl, ((Below.refl _ _).alloc (Nat.le_refl _) _).trans (HB1.out.mono (by omega))⟩) : P := h
set_option maxRecDepth 1000000 in
set_option maxHeartbeats 4000000 in
theorem look_any (t : Vt) : LookSaid t := by
 refine t.down (p := LookSaid) fun k b i s l ks ih cs B w d p hV hB hd0 hd1 hp => ?_
 unfold IsV at hV
 obtain ⟨la, lc, ka, kc, rfl, hk64, hi64, ⟨hlc, hlm⟩, ⟨hkc, hkm⟩, hla, hka, hK, hL⟩ := hV
 simp only [in64] at hk64 hi64
 have IH := Lib.hid ih
 have HK := Lib.hid hK
 have HLs := Lib.hid hL
 clear ih hK hL hla hka
 show Calls Tryz.prog 180 #[.agg #[.int .i64 k, .bool b, .int .i64 i, .string s, .slice la l.length lc, .slice ka ks.length kc], .int .i64 d, .int .i64 p] w _
 obtain ⟨R, hR⟩ := nam (mayR (mayV (.mk k b i s l ks) d p))
 have HR := Lib.hid hR
 rw [hR]
 clear hR
 have NO : Hid (headOk k b i s l.length ks d p = false → R = .tuple #[.int .i64 ((p : Int) + 1), .bool false]) := Lib.hid (fun h => by rw [← HR.out]; exact mayV_no h)
 by_cases c2 : d < 1
 ·have q2 : d < 1 := c2
  have HN := Lib.hid (NO.out (headOk_no (fun h => by omega)))
  go_enter Tryz.func180, Tryz.ntmps180
  go_wp2_with fail
  go_ret2
  exact ⟨by rw [HN.out]; rfl, (Below.refl _ _).alloc (Nat.le_refl _) _⟩
 have q2 : ¬ d < 1 := c2
 by_cases c1 : 4096 < p + 1
 ·have q1 : (4096 : Int) < (p : Int) + 1 := by omega
  have HN := Lib.hid (NO.out (headOk_no (fun h => by omega)))
  go_enter Tryz.func180, Tryz.ntmps180
  go_wp2_with fail
  go_ret2
  exact ⟨by rw [HN.out]; rfl, (Below.refl _ _).alloc (Nat.le_refl _) _⟩
 have q1 : ¬ (4096 : Int) < (p : Int) + 1 := by omega
 by_cases c3 : k < 0
 ·have q3 : k < 0 := c3
  have HN := Lib.hid (NO.out (headOk_no (fun h => by omega)))
  go_enter Tryz.func180, Tryz.ntmps180
  go_wp2_with fail
  go_ret2
  exact ⟨by rw [HN.out]; rfl, (Below.refl _ _).alloc (Nat.le_refl _) _⟩
 have q3 : ¬ k < 0 := c3
 by_cases c4 : 7 < k
 ·have q4 : 7 < k := c4
  have HN := Lib.hid (NO.out (headOk_no (fun h => by omega)))
  go_enter Tryz.func180, Tryz.ntmps180
  go_wp2_with fail
  go_ret2
  exact ⟨by rw [HN.out]; rfl, (Below.refl _ _).alloc (Nat.le_refl _) _⟩
 have q4 : ¬ 7 < k := c4
 have HU := Lib.hid (fun w => bare_any k b i s la ka l.length lc ks.length kc w (by omega) (by omega))
 have HKY := Lib.hid (fun w' (hb : Below w.heap.size w w') => keys_any ks ka kc B w' (HK.out.below hb hB) (by omega))
 by_cases c5 : unusedV k b i s l.length ks.length = true
 rotate_left
 ·have c5f : unusedV k b i s l.length ks.length = false := by simpa using c5
  have HN := Lib.hid (NO.out (headOk_no (fun h => c5 h.2.2.2.2.1)))
  rw [c5f] at HU
  clear c5 c5f
  go_enter Tryz.func180, Tryz.ntmps180
  go_wp2_with fail
  refine (HU.out _).mono ?_
  rintro e w1 ⟨rfl, hb1⟩
  go_wp2_with fail
  go_ret2
  exact ⟨by rw [HN.out]; rfl, below_step ((Below.refl _ _).alloc (Nat.le_refl _) _) rfl hb1⟩
 rw [c5] at HU
 have C5 := Lib.hid c5
 clear c5
 have d1 : 1 ≤ d := by omega
 by_cases k6 : 6 ≤ k
 ·have z299713a := trivial
  exact Sq299713
 by_cases k5 : k = 5
 rotate_left
 ·have z299713b := trivial
  exact Sq299713
 have k5b : (k == 5) = true := by simp; omega
 have K5 := Lib.hid k5
 clear k5
 by_cases hn : ks.length = l.length
 rotate_left
 ·have z793954b := trivial
  exact Sq793954
 have hnb : ((ks.length : Int) != (l.length : Int)) = false := by simp; omega
 have HNL := Lib.hid hn
 clear hn
 cases hko : keysOk ks with
 | false =>
  have z793954a := trivial
  exact Sq793954
 | true =>
  have z299713c := trivial
  exact Sq299713
theorem check_any (t : Vt) (cs : List Value) (B : Nat) (w : World) (hV : IsV B w cs t) (hB : B ≤ w.heap.size) :
    Calls Tryz.prog 175 #[.agg cs.toArray] w fun e w' => e = .returned (.int .i64 (if mayB t then 0 else 20)) ∧ Below w.heap.size w w' := by
 have HM := Lib.hid (fun w' (hb : Below w.heap.size w w') => look_any t cs B w' 32 0 (IsV.below hb hB t cs hV) (Nat.le_trans hB hb.size) (by omega) (by omega) (by omega))
 obtain ⟨k, b, i, s, l, ks⟩ := t
 unfold IsV at hV
 obtain ⟨la, lc, ka, kc, rfl, -, -, -, -, -, -, -, -⟩ := hV
 unfold mayB
 cases hm : mayV (.mk k b i s l ks) 32 0 with
 | mk n ok =>
  rw [hm] at HM
  clear hm
  unfold mayR at HM
  dsimp only at HM
  show Calls Tryz.prog 175 #[.agg #[.int .i64 k, .bool b, .int .i64 i, .string s, .slice la l.length lc, .slice ka ks.length kc]] w _
  have HB0 := Lib.hid ((Below.refl w.heap.size w).alloc (Nat.le_refl _) (.cells #[.int .i64 k, .bool b, .int .i64 i, .string s, .slice la l.length lc, .slice ka ks.length kc] 64))
  cases ok with
  | true =>
   go_enter Tryz.func175, Tryz.ntmps175
   go_wp2_with fail
   refine (HM.out _ HB0.out).mono ?_
   rintro e w1 ⟨rfl, hb1⟩
   go_wp2_with fail
   go_ret
   exact ⟨rfl, below_step HB0.out rfl hb1⟩
  | false =>
   go_enter Tryz.func175, Tryz.ntmps175
   go_wp2_with fail
   refine (HM.out _ HB0.out).mono ?_
   rintro e w1 ⟨rfl, hb1⟩
   go_wp2_with fail
   go_ret
   exact ⟨rfl, below_step HB0.out rfl hb1⟩
theorem IsVs.below {B B' : Nat} {w w' : World} {a : Option Addr} {l : List Vt} (h : IsVs B w a 0 l) (hb : Below B' w w') (hB : B ≤ B') : IsVs B w' a 0 l :=
  IsVs.mk (fun i t hi => by
    obtain ⟨b, off, cs, h1, h2, h3, h4⟩ := h.get i t hi
    exact ⟨b, off, cs, h1, h2, fun j v hj => by rw [hb.cell (by show b < B'; omega)]; exact h3 j v hj, IsV.below hb hB t cs h4⟩)
theorem IsVs.at {B : Nat} {w : World} {a : Option Addr} {l : List Vt} (h : IsVs B w a 0 l) {j : Nat} {t : Vt} (ht : l[j]? = some t) :
    ∃ eb eo k b i s l2 ks la lc ka kc, t = .mk k b i s l2 ks ∧ a = some ⟨eb, eo, none⟩ ∧ eb < B ∧
      (w.cell? ⟨eb, eo + j * 6, none⟩ = some (.int .i64 k) ∧ w.cell? ⟨eb, eo + j * 6 + 1, none⟩ = some (.bool b) ∧ w.cell? ⟨eb, eo + j * 6 + 2, none⟩ = some (.int .i64 i) ∧ w.cell? ⟨eb, eo + j * 6 + 3, none⟩ = some (.string s) ∧ w.cell? ⟨eb, eo + j * 6 + 4, none⟩ = some (.slice la l2.length lc) ∧ w.cell? ⟨eb, eo + j * 6 + 5, none⟩ = some (.slice ka ks.length kc)) ∧
      IsV B w [.int .i64 k, .bool b, .int .i64 i, .string s, .slice la l2.length lc, .slice ka ks.length kc] (.mk k b i s l2 ks) := by
 obtain ⟨eb, eo, cs, h1, h2, h3, h4⟩ := h.get j t ht
 obtain ⟨k, b, i, s, l2, ks⟩ := t
 have h5 := h4
 unfold IsV at h5
 obtain ⟨la, lc, ka, kc, rfl, _⟩ := h5
 have g := fun n v hv => by have := h3 n v hv; rwa [Nat.zero_add, ← Nat.add_assoc] at this
 exact ⟨eb, eo, k, b, i, s, l2, ks, la, lc, ka, kc, rfl, h1, h2, ⟨by have := g 0 _ rfl; rwa [Nat.add_zero] at this, g 1 _ rfl, g 2 _ rfl, g 3 _ rfl, g 4 _ rfl, g 5 _ rfl⟩, h4⟩
end Go.Proofs.YteljlahcdipilaaGreat

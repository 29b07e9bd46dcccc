/- The contracts of unused, may and May (wattleref03) over trees. Written by genmay.py. Conditions: none. -/
import Derived.Test.YtdkgjbjlpofieaaMayP
import Derived.Test.YtdkgjbjlpofieaaProg
import Derived.WalkKit
import Derived.WalkLawsBesides
import Derived.Outline
import Derived.BigQuiet
import Derived.IntWalk
namespace Go.Proofs.Ytdkgjbjlpofieaa
open Go.RowKit
set_option linter.unusedSimpArgs false
set_option linter.unusedVariables false

theorem below_draws {B : Nat} {a w : World} (h : Below B a w) (n : Nat) : Below B a (w.drewN n) := by
  induction n with
  | zero => exact h
  | succ n ih => exact ih.drew
theorem ba_list (s : ByteArray) : s.toList = s.data.toList := by
  have h0 : ∀ l : List UInt8, (ByteArray.mk l.toArray).toList = l := fun l => by simp
  have h := h0 s.data.toList
  rwa [show (⟨s.data.toList.toArray⟩ : ByteArray) = s from by apply ByteArray.ext; simp] at h
theorem str_empty {s : ByteArray} (h : s.size = 0) : s.toList = [] ∧ s.toList.isEmpty = true := by
  have h1 : s.toList = [] := by rw [ba_list]; exact List.length_eq_zero_iff.1 (by simpa using h)
  exact ⟨h1, by rw [h1]; rfl⟩
theorem str_full {s : ByteArray} (h : ¬ s.size = 0) : ¬ s.toList = [] ∧ s.toList.isEmpty = false := by
  have h1 : ¬ s.toList = [] := fun hh => h (by rw [ba_list] at hh; have := congrArg List.length hh; simpa using this)
  exact ⟨h1, by rw [List.isEmpty_eq_false_iff]; exact h1⟩

set_option maxRecDepth 100000 in
set_option maxHeartbeats 4000000 in
theorem unused_any (k : Int) (b : Bool) (i : Int) (s : ByteArray) (la ka : Option Addr) (n lc m kc : Nat) (w : World) :
    Calls Try.prog 48 #[.agg #[.int .i64 k, .bool b, .int .i64 i, .string s, .slice la n lc, .slice ka m kc]] w fun e w' => e = .returned (.bool (unusedV k b i s n m)) ∧ Below w.heap.size w w' := by
  by_cases k1 : k = 1
  · subst k1
    by_cases hi : i = 0
    rotate_left
    · have hib : (i != 0) = true := by simp; exact hi
      have HV := Lib.hid (show unusedV (1 : Int) b i s n m = false from decide_eq_false (fun hh => by rcases hh with ⟨h1, h2, h3, h4, h5⟩; first | omega | (simp_all; done) | (simp_all; omega)))
      rw [HV.out]
      go_enter Try.func48, Try.ntmps48
      go_wp2_with fail
      go_ret
      exact ⟨rfl, (Below.refl _ _).alloc (Nat.le_refl _) _⟩
    have hib : (i != 0) = false := by simp; exact hi
    have HI := Lib.hid hi
    clear hi
    by_cases hs : s.size = 0
    rotate_left
    · obtain ⟨hs1, hs2⟩ := str_full hs
      have HV := Lib.hid (show unusedV (1 : Int) b i s n m = false from decide_eq_false (fun hh => by rcases hh with ⟨h1, h2, h3, h4, h5⟩; first | omega | (simp_all; done) | (simp_all; omega)))
      rw [HV.out]
      go_enter Try.func48, Try.ntmps48
      go_wp2_with fail
      go_ret
      exact ⟨rfl, (Below.refl _ _).alloc (Nat.le_refl _) _⟩
    obtain ⟨hs1, hs2⟩ := str_empty hs
    have HS := Lib.hid hs
    clear hs
    by_cases hn : n = 0
    rotate_left
    · have hn1 : (0 : Int) < n := by omega
      have HV := Lib.hid (show unusedV (1 : Int) b i s n m = false from decide_eq_false (fun hh => by rcases hh with ⟨h1, h2, h3, h4, h5⟩; first | omega | (simp_all; done) | (simp_all; omega)))
      rw [HV.out]
      go_enter Try.func48, Try.ntmps48
      go_wp2_with fail
      go_ret
      exact ⟨rfl, (Below.refl _ _).alloc (Nat.le_refl _) _⟩
    have hn1 : ¬ (0 : Int) < n := by omega
    have HN := Lib.hid hn
    clear hn
    by_cases hm : m = 0
    rotate_left
    · have hm1 : ((m : Int) == 0) = false := by simp; exact hm
      have HV := Lib.hid (show unusedV (1 : Int) b i s n m = false from decide_eq_false (fun hh => by rcases hh with ⟨h1, h2, h3, h4, h5⟩; first | omega | (simp_all; done) | (simp_all; omega)))
      rw [HV.out]
      go_enter Try.func48, Try.ntmps48
      go_wp2_with fail
      go_ret
      exact ⟨rfl, (Below.refl _ _).alloc (Nat.le_refl _) _⟩
    have hm1 : ((m : Int) == 0) = true := by simp; exact hm
    have HM := Lib.hid hm
    clear hm
    have HV := Lib.hid (show unusedV (1 : Int) b i s n m = true from decide_eq_true (by have h0 := HI.out; have h1 := HS.out; have h2 := HN.out; have h3 := HM.out; simp [*]))
    rw [HV.out]
    go_enter Try.func48, Try.ntmps48
    go_wp2_with fail
    go_ret
    exact ⟨rfl, (Below.refl _ _).alloc (Nat.le_refl _) _⟩
  have p1 : (k == 1) = false := by simp; exact k1
  have r1 : (k != 1) = true := by simp; exact k1
  by_cases k2 : k = 2
  · subst k2
    by_cases hb : b = true
    · subst hb
      have HV := Lib.hid (show unusedV (2 : Int) true i s n m = false from decide_eq_false (fun hh => by rcases hh with ⟨h1, h2, h3, h4, h5⟩; first | omega | (simp_all; done) | (simp_all; omega)))
      rw [HV.out]
      go_enter Try.func48, Try.ntmps48
      go_wp2_with fail
      go_ret
      exact ⟨rfl, (Below.refl _ _).alloc (Nat.le_refl _) _⟩
    have hb : b = false := by simpa using hb
    subst hb
    by_cases hs : s.size = 0
    rotate_left
    · obtain ⟨hs1, hs2⟩ := str_full hs
      have HV := Lib.hid (show unusedV (2 : Int) false i s n m = false from decide_eq_false (fun hh => by rcases hh with ⟨h1, h2, h3, h4, h5⟩; first | omega | (simp_all; done) | (simp_all; omega)))
      rw [HV.out]
      go_enter Try.func48, Try.ntmps48
      go_wp2_with fail
      go_ret
      exact ⟨rfl, (Below.refl _ _).alloc (Nat.le_refl _) _⟩
    obtain ⟨hs1, hs2⟩ := str_empty hs
    have HS := Lib.hid hs
    clear hs
    by_cases hn : n = 0
    rotate_left
    · have hn1 : (0 : Int) < n := by omega
      have HV := Lib.hid (show unusedV (2 : Int) false i s n m = false from decide_eq_false (fun hh => by rcases hh with ⟨h1, h2, h3, h4, h5⟩; first | omega | (simp_all; done) | (simp_all; omega)))
      rw [HV.out]
      go_enter Try.func48, Try.ntmps48
      go_wp2_with fail
      go_ret
      exact ⟨rfl, (Below.refl _ _).alloc (Nat.le_refl _) _⟩
    have hn1 : ¬ (0 : Int) < n := by omega
    have HN := Lib.hid hn
    clear hn
    by_cases hm : m = 0
    rotate_left
    · have hm1 : ((m : Int) == 0) = false := by simp; exact hm
      have HV := Lib.hid (show unusedV (2 : Int) false i s n m = false from decide_eq_false (fun hh => by rcases hh with ⟨h1, h2, h3, h4, h5⟩; first | omega | (simp_all; done) | (simp_all; omega)))
      rw [HV.out]
      go_enter Try.func48, Try.ntmps48
      go_wp2_with fail
      go_ret
      exact ⟨rfl, (Below.refl _ _).alloc (Nat.le_refl _) _⟩
    have hm1 : ((m : Int) == 0) = true := by simp; exact hm
    have HM := Lib.hid hm
    clear hm
    have HV := Lib.hid (show unusedV (2 : Int) false i s n m = true from decide_eq_true (by have h0 := HS.out; have h1 := HN.out; have h2 := HM.out; simp [*]))
    rw [HV.out]
    go_enter Try.func48, Try.ntmps48
    go_wp2_with fail
    go_ret
    exact ⟨rfl, (Below.refl _ _).alloc (Nat.le_refl _) _⟩
  have p2 : (k == 2) = false := by simp; exact k2
  have r2 : (k != 2) = true := by simp; exact k2
  by_cases k3 : k = 3
  · subst k3
    by_cases hb : b = true
    · subst hb
      have HV := Lib.hid (show unusedV (3 : Int) true i s n m = false from decide_eq_false (fun hh => by rcases hh with ⟨h1, h2, h3, h4, h5⟩; first | omega | (simp_all; done) | (simp_all; omega)))
      rw [HV.out]
      go_enter Try.func48, Try.ntmps48
      go_wp2_with fail
      go_ret
      exact ⟨rfl, (Below.refl _ _).alloc (Nat.le_refl _) _⟩
    have hb : b = false := by simpa using hb
    subst hb
    by_cases hi : i = 0
    rotate_left
    · have hib : (i != 0) = true := by simp; exact hi
      have HV := Lib.hid (show unusedV (3 : Int) false i s n m = false from decide_eq_false (fun hh => by rcases hh with ⟨h1, h2, h3, h4, h5⟩; first | omega | (simp_all; done) | (simp_all; omega)))
      rw [HV.out]
      go_enter Try.func48, Try.ntmps48
      go_wp2_with fail
      go_ret
      exact ⟨rfl, (Below.refl _ _).alloc (Nat.le_refl _) _⟩
    have hib : (i != 0) = false := by simp; exact hi
    have HI := Lib.hid hi
    clear hi
    by_cases hn : n = 0
    rotate_left
    · have hn1 : (0 : Int) < n := by omega
      have HV := Lib.hid (show unusedV (3 : Int) false i s n m = false from decide_eq_false (fun hh => by rcases hh with ⟨h1, h2, h3, h4, h5⟩; first | omega | (simp_all; done) | (simp_all; omega)))
      rw [HV.out]
      go_enter Try.func48, Try.ntmps48
      go_wp2_with fail
      go_ret
      exact ⟨rfl, (Below.refl _ _).alloc (Nat.le_refl _) _⟩
    have hn1 : ¬ (0 : Int) < n := by omega
    have HN := Lib.hid hn
    clear hn
    by_cases hm : m = 0
    rotate_left
    · have hm1 : ((m : Int) == 0) = false := by simp; exact hm
      have HV := Lib.hid (show unusedV (3 : Int) false i s n m = false from decide_eq_false (fun hh => by rcases hh with ⟨h1, h2, h3, h4, h5⟩; first | omega | (simp_all; done) | (simp_all; omega)))
      rw [HV.out]
      go_enter Try.func48, Try.ntmps48
      go_wp2_with fail
      go_ret
      exact ⟨rfl, (Below.refl _ _).alloc (Nat.le_refl _) _⟩
    have hm1 : ((m : Int) == 0) = true := by simp; exact hm
    have HM := Lib.hid hm
    clear hm
    have HV := Lib.hid (show unusedV (3 : Int) false i s n m = true from decide_eq_true (by have h0 := HI.out; have h1 := HN.out; have h2 := HM.out; simp [*]))
    rw [HV.out]
    go_enter Try.func48, Try.ntmps48
    go_wp2_with fail
    go_ret
    exact ⟨rfl, (Below.refl _ _).alloc (Nat.le_refl _) _⟩
  have p3 : (k == 3) = false := by simp; exact k3
  have r3 : (k != 3) = true := by simp; exact k3
  by_cases k4 : k = 4
  · subst k4
    by_cases hb : b = true
    · subst hb
      have HV := Lib.hid (show unusedV (4 : Int) true i s n m = false from decide_eq_false (fun hh => by rcases hh with ⟨h1, h2, h3, h4, h5⟩; first | omega | (simp_all; done) | (simp_all; omega)))
      rw [HV.out]
      go_enter Try.func48, Try.ntmps48
      go_wp2_with fail
      go_ret
      exact ⟨rfl, (Below.refl _ _).alloc (Nat.le_refl _) _⟩
    have hb : b = false := by simpa using hb
    subst hb
    by_cases hi : i = 0
    rotate_left
    · have hib : (i != 0) = true := by simp; exact hi
      have HV := Lib.hid (show unusedV (4 : Int) false i s n m = false from decide_eq_false (fun hh => by rcases hh with ⟨h1, h2, h3, h4, h5⟩; first | omega | (simp_all; done) | (simp_all; omega)))
      rw [HV.out]
      go_enter Try.func48, Try.ntmps48
      go_wp2_with fail
      go_ret
      exact ⟨rfl, (Below.refl _ _).alloc (Nat.le_refl _) _⟩
    have hib : (i != 0) = false := by simp; exact hi
    have HI := Lib.hid hi
    clear hi
    by_cases hs : s.size = 0
    rotate_left
    · obtain ⟨hs1, hs2⟩ := str_full hs
      have HV := Lib.hid (show unusedV (4 : Int) false i s n m = false from decide_eq_false (fun hh => by rcases hh with ⟨h1, h2, h3, h4, h5⟩; first | omega | (simp_all; done) | (simp_all; omega)))
      rw [HV.out]
      go_enter Try.func48, Try.ntmps48
      go_wp2_with fail
      go_ret
      exact ⟨rfl, (Below.refl _ _).alloc (Nat.le_refl _) _⟩
    obtain ⟨hs1, hs2⟩ := str_empty hs
    have HS := Lib.hid hs
    clear hs
    by_cases hm : m = 0
    rotate_left
    · have hm1 : ((m : Int) == 0) = false := by simp; exact hm
      have HV := Lib.hid (show unusedV (4 : Int) false i s n m = false from decide_eq_false (fun hh => by rcases hh with ⟨h1, h2, h3, h4, h5⟩; first | omega | (simp_all; done) | (simp_all; omega)))
      rw [HV.out]
      go_enter Try.func48, Try.ntmps48
      go_wp2_with fail
      go_ret
      exact ⟨rfl, (Below.refl _ _).alloc (Nat.le_refl _) _⟩
    have hm1 : ((m : Int) == 0) = true := by simp; exact hm
    have HM := Lib.hid hm
    clear hm
    have HV := Lib.hid (show unusedV (4 : Int) false i s n m = true from decide_eq_true (by have h0 := HI.out; have h1 := HS.out; have h2 := HM.out; simp [*]))
    rw [HV.out]
    go_enter Try.func48, Try.ntmps48
    go_wp2_with fail
    go_ret
    exact ⟨rfl, (Below.refl _ _).alloc (Nat.le_refl _) _⟩
  have p4 : (k == 4) = false := by simp; exact k4
  have r4 : (k != 4) = true := by simp; exact k4
  by_cases k5 : k = 5
  · subst k5
    by_cases hb : b = true
    · subst hb
      have HV := Lib.hid (show unusedV (5 : Int) true i s n m = false from decide_eq_false (fun hh => by rcases hh with ⟨h1, h2, h3, h4, h5⟩; first | omega | (simp_all; done) | (simp_all; omega)))
      rw [HV.out]
      go_enter Try.func48, Try.ntmps48
      go_wp2_with fail
      go_ret
      exact ⟨rfl, (Below.refl _ _).alloc (Nat.le_refl _) _⟩
    have hb : b = false := by simpa using hb
    subst hb
    by_cases hi : i = 0
    rotate_left
    · have hib : (i != 0) = true := by simp; exact hi
      have HV := Lib.hid (show unusedV (5 : Int) false i s n m = false from decide_eq_false (fun hh => by rcases hh with ⟨h1, h2, h3, h4, h5⟩; first | omega | (simp_all; done) | (simp_all; omega)))
      rw [HV.out]
      go_enter Try.func48, Try.ntmps48
      go_wp2_with fail
      go_ret
      exact ⟨rfl, (Below.refl _ _).alloc (Nat.le_refl _) _⟩
    have hib : (i != 0) = false := by simp; exact hi
    have HI := Lib.hid hi
    clear hi
    by_cases hs : s.size = 0
    rotate_left
    · obtain ⟨hs1, hs2⟩ := str_full hs
      have HV := Lib.hid (show unusedV (5 : Int) false i s n m = false from decide_eq_false (fun hh => by rcases hh with ⟨h1, h2, h3, h4, h5⟩; first | omega | (simp_all; done) | (simp_all; omega)))
      rw [HV.out]
      go_enter Try.func48, Try.ntmps48
      go_wp2_with fail
      go_ret
      exact ⟨rfl, (Below.refl _ _).alloc (Nat.le_refl _) _⟩
    obtain ⟨hs1, hs2⟩ := str_empty hs
    have HS := Lib.hid hs
    clear hs
    have HV := Lib.hid (show unusedV (5 : Int) false i s n m = true from decide_eq_true (by have h0 := HI.out; have h1 := HS.out; simp [*]))
    rw [HV.out]
    go_enter Try.func48, Try.ntmps48
    go_wp2_with fail
    go_ret
    exact ⟨rfl, (Below.refl _ _).alloc (Nat.le_refl _) _⟩
  have p5 : (k == 5) = false := by simp; exact k5
  have r5 : (k != 5) = true := by simp; exact k5
  by_cases k6 : k = 6
  · subst k6
    by_cases hb : b = true
    · subst hb
      have HV := Lib.hid (show unusedV (6 : Int) true i s n m = false from decide_eq_false (fun hh => by rcases hh with ⟨h1, h2, h3, h4, h5⟩; first | omega | (simp_all; done) | (simp_all; omega)))
      rw [HV.out]
      go_enter Try.func48, Try.ntmps48
      go_wp2_with fail
      go_ret
      exact ⟨rfl, (Below.refl _ _).alloc (Nat.le_refl _) _⟩
    have hb : b = false := by simpa using hb
    subst hb
    by_cases hs : s.size = 0
    rotate_left
    · obtain ⟨hs1, hs2⟩ := str_full hs
      have HV := Lib.hid (show unusedV (6 : Int) false i s n m = false from decide_eq_false (fun hh => by rcases hh with ⟨h1, h2, h3, h4, h5⟩; first | omega | (simp_all; done) | (simp_all; omega)))
      rw [HV.out]
      go_enter Try.func48, Try.ntmps48
      go_wp2_with fail
      go_ret
      exact ⟨rfl, (Below.refl _ _).alloc (Nat.le_refl _) _⟩
    obtain ⟨hs1, hs2⟩ := str_empty hs
    have HS := Lib.hid hs
    clear hs
    by_cases hn : n = 0
    rotate_left
    · have hn1 : (0 : Int) < n := by omega
      have HV := Lib.hid (show unusedV (6 : Int) false i s n m = false from decide_eq_false (fun hh => by rcases hh with ⟨h1, h2, h3, h4, h5⟩; first | omega | (simp_all; done) | (simp_all; omega)))
      rw [HV.out]
      go_enter Try.func48, Try.ntmps48
      go_wp2_with fail
      go_ret
      exact ⟨rfl, (Below.refl _ _).alloc (Nat.le_refl _) _⟩
    have hn1 : ¬ (0 : Int) < n := by omega
    have HN := Lib.hid hn
    clear hn
    by_cases hm : m = 0
    rotate_left
    · have hm1 : ((m : Int) == 0) = false := by simp; exact hm
      have HV := Lib.hid (show unusedV (6 : Int) false i s n m = false from decide_eq_false (fun hh => by rcases hh with ⟨h1, h2, h3, h4, h5⟩; first | omega | (simp_all; done) | (simp_all; omega)))
      rw [HV.out]
      go_enter Try.func48, Try.ntmps48
      go_wp2_with fail
      go_ret
      exact ⟨rfl, (Below.refl _ _).alloc (Nat.le_refl _) _⟩
    have hm1 : ((m : Int) == 0) = true := by simp; exact hm
    have HM := Lib.hid hm
    clear hm
    have HV := Lib.hid (show unusedV (6 : Int) false i s n m = true from decide_eq_true (by have h0 := HS.out; have h1 := HN.out; have h2 := HM.out; simp [*]))
    rw [HV.out]
    go_enter Try.func48, Try.ntmps48
    go_wp2_with fail
    go_ret
    exact ⟨rfl, (Below.refl _ _).alloc (Nat.le_refl _) _⟩
  have p6 : (k == 6) = false := by simp; exact k6
  have r6 : (k != 6) = true := by simp; exact k6
  by_cases k7 : k = 7
  · subst k7
    by_cases hb : b = true
    · subst hb
      have HV := Lib.hid (show unusedV (7 : Int) true i s n m = false from decide_eq_false (fun hh => by rcases hh with ⟨h1, h2, h3, h4, h5⟩; first | omega | (simp_all; done) | (simp_all; omega)))
      rw [HV.out]
      go_enter Try.func48, Try.ntmps48
      go_wp2_with fail
      go_ret
      exact ⟨rfl, (Below.refl _ _).alloc (Nat.le_refl _) _⟩
    have hb : b = false := by simpa using hb
    subst hb
    by_cases hs : s.size = 0
    rotate_left
    · obtain ⟨hs1, hs2⟩ := str_full hs
      have HV := Lib.hid (show unusedV (7 : Int) false i s n m = false from decide_eq_false (fun hh => by rcases hh with ⟨h1, h2, h3, h4, h5⟩; first | omega | (simp_all; done) | (simp_all; omega)))
      rw [HV.out]
      go_enter Try.func48, Try.ntmps48
      go_wp2_with fail
      go_ret
      exact ⟨rfl, (Below.refl _ _).alloc (Nat.le_refl _) _⟩
    obtain ⟨hs1, hs2⟩ := str_empty hs
    have HS := Lib.hid hs
    clear hs
    by_cases hn : n = 0
    rotate_left
    · have hn1 : (0 : Int) < n := by omega
      have HV := Lib.hid (show unusedV (7 : Int) false i s n m = false from decide_eq_false (fun hh => by rcases hh with ⟨h1, h2, h3, h4, h5⟩; first | omega | (simp_all; done) | (simp_all; omega)))
      rw [HV.out]
      go_enter Try.func48, Try.ntmps48
      go_wp2_with fail
      go_ret
      exact ⟨rfl, (Below.refl _ _).alloc (Nat.le_refl _) _⟩
    have hn1 : ¬ (0 : Int) < n := by omega
    have HN := Lib.hid hn
    clear hn
    by_cases hm : m = 0
    rotate_left
    · have hm1 : ((m : Int) == 0) = false := by simp; exact hm
      have HV := Lib.hid (show unusedV (7 : Int) false i s n m = false from decide_eq_false (fun hh => by rcases hh with ⟨h1, h2, h3, h4, h5⟩; first | omega | (simp_all; done) | (simp_all; omega)))
      rw [HV.out]
      go_enter Try.func48, Try.ntmps48
      go_wp2_with fail
      go_ret
      exact ⟨rfl, (Below.refl _ _).alloc (Nat.le_refl _) _⟩
    have hm1 : ((m : Int) == 0) = true := by simp; exact hm
    have HM := Lib.hid hm
    clear hm
    have HV := Lib.hid (show unusedV (7 : Int) false i s n m = true from decide_eq_true (by have h0 := HS.out; have h1 := HN.out; have h2 := HM.out; simp [*]))
    rw [HV.out]
    go_enter Try.func48, Try.ntmps48
    go_wp2_with fail
    go_ret
    exact ⟨rfl, (Below.refl _ _).alloc (Nat.le_refl _) _⟩
  have p7 : (k == 7) = false := by simp; exact k7
  have r7 : (k != 7) = true := by simp; exact k7
  by_cases hb : b = true
  · subst hb
    have HV := Lib.hid (show unusedV k true i s n m = false from decide_eq_false (fun hh => by rcases hh with ⟨h1, h2, h3, h4, h5⟩; first | omega | (simp_all; done) | (simp_all; omega)))
    rw [HV.out]
    go_enter Try.func48, Try.ntmps48
    go_wp2_with fail
    go_ret
    exact ⟨rfl, (Below.refl _ _).alloc (Nat.le_refl _) _⟩
  have hb : b = false := by simpa using hb
  subst hb
  by_cases hi : i = 0
  rotate_left
  · have hib : (i != 0) = true := by simp; exact hi
    have HV := Lib.hid (show unusedV k false i s n m = false from decide_eq_false (fun hh => by rcases hh with ⟨h1, h2, h3, h4, h5⟩; first | omega | (simp_all; done) | (simp_all; omega)))
    rw [HV.out]
    go_enter Try.func48, Try.ntmps48
    go_wp2_with fail
    go_ret
    exact ⟨rfl, (Below.refl _ _).alloc (Nat.le_refl _) _⟩
  have hib : (i != 0) = false := by simp; exact hi
  have HI := Lib.hid hi
  clear hi
  by_cases hs : s.size = 0
  rotate_left
  · obtain ⟨hs1, hs2⟩ := str_full hs
    have HV := Lib.hid (show unusedV k false i s n m = false from decide_eq_false (fun hh => by rcases hh with ⟨h1, h2, h3, h4, h5⟩; first | omega | (simp_all; done) | (simp_all; omega)))
    rw [HV.out]
    go_enter Try.func48, Try.ntmps48
    go_wp2_with fail
    go_ret
    exact ⟨rfl, (Below.refl _ _).alloc (Nat.le_refl _) _⟩
  obtain ⟨hs1, hs2⟩ := str_empty hs
  have HS := Lib.hid hs
  clear hs
  by_cases hn : n = 0
  rotate_left
  · have hn1 : (0 : Int) < n := by omega
    have HV := Lib.hid (show unusedV k false i s n m = false from decide_eq_false (fun hh => by rcases hh with ⟨h1, h2, h3, h4, h5⟩; first | omega | (simp_all; done) | (simp_all; omega)))
    rw [HV.out]
    go_enter Try.func48, Try.ntmps48
    go_wp2_with fail
    go_ret
    exact ⟨rfl, (Below.refl _ _).alloc (Nat.le_refl _) _⟩
  have hn1 : ¬ (0 : Int) < n := by omega
  have HN := Lib.hid hn
  clear hn
  by_cases hm : m = 0
  rotate_left
  · have hm1 : ((m : Int) == 0) = false := by simp; exact hm
    have HV := Lib.hid (show unusedV k false i s n m = false from decide_eq_false (fun hh => by rcases hh with ⟨h1, h2, h3, h4, h5⟩; first | omega | (simp_all; done) | (simp_all; omega)))
    rw [HV.out]
    go_enter Try.func48, Try.ntmps48
    go_wp2_with fail
    go_ret
    exact ⟨rfl, (Below.refl _ _).alloc (Nat.le_refl _) _⟩
  have hm1 : ((m : Int) == 0) = true := by simp; exact hm
  have HM := Lib.hid hm
  clear hm
  have HV := Lib.hid (show unusedV k false i s n m = true from decide_eq_true (by have h0 := HI.out; have h1 := HS.out; have h2 := HN.out; have h3 := HM.out; simp [*]))
  rw [HV.out]
  go_enter Try.func48, Try.ntmps48
  go_wp2_with fail
  go_ret
  exact ⟨rfl, (Below.refl _ _).alloc (Nat.le_refl _) _⟩
end Go.Proofs.Ytdkgjbjlpofieaa

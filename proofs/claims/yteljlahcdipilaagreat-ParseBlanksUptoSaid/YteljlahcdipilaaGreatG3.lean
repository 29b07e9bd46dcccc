/- Parts Look, Parts, PSame of this seat (pruned, scripts that are alike kept once as default arguments: q1, q2, ..). Conditions: each says its own. -/
import Derived.Test.YteljlahcdipilaaGreatG2
set_option linter.unusedSimpArgs false
set_option linter.unusedVariables false
set_option maxRecDepth 1000000
set_option maxHeartbeats 64000000
namespace Go.Proofs.YteljlahcdipilaaGreat
open Go.RowKit
theorem vy : ∀ x y : List UInt8, (Op.bytesLess x y = true /\ Op.bytesLess y x = false /\ x ≠ y) \/ (x = y /\ Op.bytesLess x y = false /\ Op.bytesLess y x = false) \/ (Op.bytesLess y x = true /\ Op.bytesLess x y = false /\ x ≠ y)
  | [], [] => .inr (.inl ⟨rfl, rfl, rfl⟩)
  | [], b :: y => .inl ⟨rfl, rfl, by simp⟩
  | a :: x, [] => .inr (.inr ⟨rfl, rfl, by simp⟩)
  | a :: x, b :: y => by
    have hs : ∀ (c d : UInt8) u v, Op.bytesLess (c :: u) (d :: v) = (decide (c < d) || (c == d && Op.bytesLess u v)) := fun _ _ _ _ => rfl
    rw [hs, hs]
    by_cases h1 : a < b
    · have h2 : ¬ b < a := by rw [UInt8.lt_iff_toNat_lt] at h1 ⊢; omega
      have h3 : a ≠ b := by intro e; subst e; exact h2 h1
      have h4 : (b == a) = false := beq_eq_false_iff_ne.2 (Ne.symm h3);exact .inl ⟨by simp [h1], by simp [h2, h4], fun e => h3 (List.cons.inj e).1⟩
    · by_cases h2 : b < a
      · have h3 : a ≠ b := by intro e; subst e; exact h1 h2
        have h4 : (a == b) = false := beq_eq_false_iff_ne.2 h3;exact .inr (.inr ⟨by simp [h2], by simp [h1, h4], fun e => h3 (List.cons.inj e).1⟩)
      · have h3 : a = b := by rw [UInt8.lt_iff_toNat_lt] at h1 h2; exact UInt8.toNat_inj.1 (by omega)
        subst h3;rcases vy x y with ⟨p, q, r⟩ | ⟨p, q, r⟩ | ⟨p, q, r⟩
        · exact .inl ⟨by simp [p], by simp [h1, q], fun e => r (List.cons.inj e).2⟩
        · exact .inr (.inl ⟨by rw [p], by simp [h1, q], by simp [h1, r]⟩)
        · exact .inr (.inr ⟨by simp [p], by simp [h1, q], fun e => r (List.cons.inj e).2⟩)
theorem Sq126772 {P : Prop} (h : P := by
 first
 | (guard_hyp z126772a; have hn1 : ((n : Int) == 0) = false := by simp; exact hn)
 | (guard_hyp z126772b; have hm1 : ((m : Int) == 0) = false := by simp; exact hm)
 | (guard_hyp z126772d; have hib : (i == 0) = false := by simp; exact hi)
 | (obtain ⟨hs1, hs2⟩ := eZ hs)
 have HV := aa (show aS (0 : Int) false i s n m = false from decide_eq_false (fun hh => by rcases hh with ⟨h1, h2, h3, h4, h5⟩; first | omega | (simp_all; done) | (simp_all; omega)));rw [HV.out];go_enter Tryz.func183, Tryz.ntmps183;go_wp2_with fail;go_ret;exact ⟨rfl, (Below.refl _ _).alloc (Nat.le_refl _) _⟩) : P := h
theorem Sq787595 {P : Prop} (h : P := by
 first
 | (guard_hyp z787595a; have hn1 : ((n : Int) == 0) = false := by simp; exact hn)
 | (guard_hyp z787595b; have hm1 : ((m : Int) == 0) = false := by simp; exact hm)
 | (guard_hyp z787595d; have hib : (i == 0) = false := by simp; exact hi)
 | (obtain ⟨hs1, hs2⟩ := eZ hs)
 have HV := aa (show aS (1 : Int) b i s n m = false from decide_eq_false (fun hh => by rcases hh with ⟨h1, h2, h3, h4, h5⟩; first | omega | (simp_all; done) | (simp_all; omega)));rw [HV.out];go_enter Tryz.func183, Tryz.ntmps183;go_wp2_with fail;go_ret;exact ⟨rfl, (Below.refl _ _).alloc (Nat.le_refl _) _⟩) : P := h
theorem Sq634921 {P : Prop} (h : P := by
 first
 | (guard_hyp z634921a; have hn1 : ((n : Int) == 0) = false := by simp; exact hn)
 | (guard_hyp z634921b; have hm1 : ((m : Int) == 0) = false := by simp; exact hm)
 | (obtain ⟨hs1, hs2⟩ := eZ hs)
 have HV := aa (show aS (2 : Int) false i s n m = false from decide_eq_false (fun hh => by rcases hh with ⟨h1, h2, h3, h4, h5⟩; first | omega | (simp_all; done) | (simp_all; omega)));rw [HV.out];go_enter Tryz.func183, Tryz.ntmps183;go_wp2_with fail;go_ret;exact ⟨rfl, (Below.refl _ _).alloc (Nat.le_refl _) _⟩) : P := h
theorem Sq202314 {P : Prop} (h : P := by
 first
 | (guard_hyp z202314a; have hn1 : ((n : Int) == 0) = false := by simp; exact hn)
 | (guard_hyp z202314b; have hm1 : ((m : Int) == 0) = false := by simp; exact hm)
 | (have hib : (i == 0) = false := by simp; exact hi)
 have HV := aa (show aS (3 : Int) false i s n m = false from decide_eq_false (fun hh => by rcases hh with ⟨h1, h2, h3, h4, h5⟩; first | omega | (simp_all; done) | (simp_all; omega)));rw [HV.out];go_enter Tryz.func183, Tryz.ntmps183;go_wp2_with fail;go_ret;exact ⟨rfl, (Below.refl _ _).alloc (Nat.le_refl _) _⟩) : P := h
theorem Sq735148 {P : Prop} (h : P := by
 first
 | (guard_hyp z735148a; have hm1 : ((m : Int) == 0) = false := by simp; exact hm)
 | (guard_hyp z735148c; have hib : (i == 0) = false := by simp; exact hi)
 | (obtain ⟨hs1, hs2⟩ := eZ hs)
 have HV := aa (show aS (4 : Int) false i s n m = false from decide_eq_false (fun hh => by rcases hh with ⟨h1, h2, h3, h4, h5⟩; first | omega | (simp_all; done) | (simp_all; omega)));rw [HV.out];go_enter Tryz.func183, Tryz.ntmps183;go_wp2_with fail;go_ret;exact ⟨rfl, (Below.refl _ _).alloc (Nat.le_refl _) _⟩) : P := h
theorem Sq224890 {P : Prop} (h : P := by
 first
 | (guard_hyp z224890a; have hib : (i == 0) = false := by simp; exact hi)
 | (obtain ⟨hs1, hs2⟩ := eZ hs)
 have HV := aa (show aS (5 : Int) false i s n m = false from decide_eq_false (fun hh => by rcases hh with ⟨h1, h2, h3, h4, h5⟩; first | omega | (simp_all; done) | (simp_all; omega)));rw [HV.out];go_enter Tryz.func183, Tryz.ntmps183;go_wp2_with fail;go_ret;exact ⟨rfl, (Below.refl _ _).alloc (Nat.le_refl _) _⟩) : P := h
theorem Sq226244 {P : Prop} (h : P := by
 first
 | (guard_hyp z226244a; have hn1 : ((n : Int) == 0) = false := by simp; exact hn)
 | (guard_hyp z226244b; have hm1 : ((m : Int) == 0) = false := by simp; exact hm)
 | (obtain ⟨hs1, hs2⟩ := eZ hs)
 have HV := aa (show aS (6 : Int) false i s n m = false from decide_eq_false (fun hh => by rcases hh with ⟨h1, h2, h3, h4, h5⟩; first | omega | (simp_all; done) | (simp_all; omega)));rw [HV.out];go_enter Tryz.func183, Tryz.ntmps183;go_wp2_with fail;go_ret;exact ⟨rfl, (Below.refl _ _).alloc (Nat.le_refl _) _⟩) : P := h
theorem Sq742295 {P : Prop} (h : P := by
 first
 | (guard_hyp z742295a; have hn1 : ((n : Int) == 0) = false := by simp; exact hn)
 | (guard_hyp z742295b; have hm1 : ((m : Int) == 0) = false := by simp; exact hm)
 | (obtain ⟨hs1, hs2⟩ := eZ hs)
 have HV := aa (show aS (7 : Int) false i s n m = false from decide_eq_false (fun hh => by rcases hh with ⟨h1, h2, h3, h4, h5⟩; first | omega | (simp_all; done) | (simp_all; omega)));rw [HV.out];go_enter Tryz.func183, Tryz.ntmps183;go_wp2_with fail;go_ret;exact ⟨rfl, (Below.refl _ _).alloc (Nat.le_refl _) _⟩) : P := h
theorem vz (k : Int) (b : Bool) (i : Int) (s : ByteArray) (la ka : Option Addr) (n lc m kc : Nat) (w : World) (h0 : 0 <= k) (h7 : k <= 7) :
    Calls Tryz.prog 183 #[.agg #[.int .i64 k, .bool b, .int .i64 i, .string s, .slice la n lc, .slice ka m kc]] w fun e w' => e = .returned (.bool (aS k b i s n m)) /\ Below w.heap.size w w' := by
 have hcase : k = 0 \/ k = 1 \/ k = 2 \/ k = 3 \/ k = 4 \/ k = 5 \/ k = 6 \/ k = 7 := by omega
 clear h0 h7;rcases hcase with rfl | rfl | rfl | rfl | rfl | rfl | rfl | rfl
 ·by_cases hb : b = true
  ·subst hb;have HV := aa (show aS (0 : Int) true i s n m = false from decide_eq_false (fun hh => by rcases hh with ⟨h1, h2, h3, h4, h5⟩; first | omega | (simp_all; done) | (simp_all; omega)));rw [HV.out];go_enter Tryz.func183, Tryz.ntmps183;go_wp2_with fail;go_ret;exact ⟨rfl, (Below.refl _ _).alloc (Nat.le_refl _) _⟩
  have hb : b = false := by simpa using hb
  subst hb
  by_cases hi : i = 0
  rotate_left
  ·have z126772d := trivial;exact Sq126772
  have hib : (i == 0) = true := by simp; exact hi
  have HI := aa hi;clear hi
  by_cases hs : s.size = 0
  rotate_left
  ·exact Sq126772
  obtain ⟨hs1, hs2⟩ := et hs;have HS := aa hs;clear hs
  by_cases hn : n = 0
  rotate_left
  ·have z126772a := trivial;exact Sq126772
  have hn1 : ((n : Int) == 0) = true := by simp; exact hn
  have HN := aa hn;clear hn
  by_cases hm : m = 0
  rotate_left
  ·have z126772b := trivial;exact Sq126772
  have hm1 : ((m : Int) == 0) = true := by simp; exact hm
  have HM := aa hm;clear hm;have HV := aa (show aS (0 : Int) false i s n m = true from decide_eq_true (by have h0 := HI.out; have h1 := HS.out; have h2 := HN.out; have h3 := HM.out; simp [*]));rw [HV.out];go_enter Tryz.func183, Tryz.ntmps183;go_wp2_with fail;go_ret;exact ⟨rfl, (Below.refl _ _).alloc (Nat.le_refl _) _⟩
 ·by_cases hi : i = 0
  rotate_left
  ·have z787595d := trivial;exact Sq787595
  have hib : (i == 0) = true := by simp; exact hi
  have HI := aa hi;clear hi
  by_cases hs : s.size = 0
  rotate_left
  ·exact Sq787595
  obtain ⟨hs1, hs2⟩ := et hs;have HS := aa hs;clear hs
  by_cases hn : n = 0
  rotate_left
  ·have z787595a := trivial;exact Sq787595
  have hn1 : ((n : Int) == 0) = true := by simp; exact hn
  have HN := aa hn;clear hn
  by_cases hm : m = 0
  rotate_left
  ·have z787595b := trivial;exact Sq787595
  have hm1 : ((m : Int) == 0) = true := by simp; exact hm
  have HM := aa hm;clear hm;have HV := aa (show aS (1 : Int) b i s n m = true from decide_eq_true (by have h0 := HI.out; have h1 := HS.out; have h2 := HN.out; have h3 := HM.out; simp [*]));rw [HV.out];go_enter Tryz.func183, Tryz.ntmps183;go_wp2_with fail;go_ret;exact ⟨rfl, (Below.refl _ _).alloc (Nat.le_refl _) _⟩
 ·by_cases hb : b = true
  ·subst hb;have HV := aa (show aS (2 : Int) true i s n m = false from decide_eq_false (fun hh => by rcases hh with ⟨h1, h2, h3, h4, h5⟩; first | omega | (simp_all; done) | (simp_all; omega)));rw [HV.out];go_enter Tryz.func183, Tryz.ntmps183;go_wp2_with fail;go_ret;exact ⟨rfl, (Below.refl _ _).alloc (Nat.le_refl _) _⟩
  have hb : b = false := by simpa using hb
  subst hb
  by_cases hs : s.size = 0
  rotate_left
  ·exact Sq634921
  obtain ⟨hs1, hs2⟩ := et hs;have HS := aa hs;clear hs
  by_cases hn : n = 0
  rotate_left
  ·have z634921a := trivial;exact Sq634921
  have hn1 : ((n : Int) == 0) = true := by simp; exact hn
  have HN := aa hn;clear hn
  by_cases hm : m = 0
  rotate_left
  ·have z634921b := trivial;exact Sq634921
  have hm1 : ((m : Int) == 0) = true := by simp; exact hm
  have HM := aa hm;clear hm;have HV := aa (show aS (2 : Int) false i s n m = true from decide_eq_true (by have h0 := HS.out; have h1 := HN.out; have h2 := HM.out; simp [*]));rw [HV.out];go_enter Tryz.func183, Tryz.ntmps183;go_wp2_with fail;go_ret;exact ⟨rfl, (Below.refl _ _).alloc (Nat.le_refl _) _⟩
 ·by_cases hb : b = true
  ·subst hb;have HV := aa (show aS (3 : Int) true i s n m = false from decide_eq_false (fun hh => by rcases hh with ⟨h1, h2, h3, h4, h5⟩; first | omega | (simp_all; done) | (simp_all; omega)));rw [HV.out];go_enter Tryz.func183, Tryz.ntmps183;go_wp2_with fail;go_ret;exact ⟨rfl, (Below.refl _ _).alloc (Nat.le_refl _) _⟩
  have hb : b = false := by simpa using hb
  subst hb
  by_cases hi : i = 0
  rotate_left
  ·exact Sq202314
  have hib : (i == 0) = true := by simp; exact hi
  have HI := aa hi;clear hi
  by_cases hn : n = 0
  rotate_left
  ·have z202314a := trivial;exact Sq202314
  have hn1 : ((n : Int) == 0) = true := by simp; exact hn
  have HN := aa hn;clear hn
  by_cases hm : m = 0
  rotate_left
  ·have z202314b := trivial;exact Sq202314
  have hm1 : ((m : Int) == 0) = true := by simp; exact hm
  have HM := aa hm;clear hm;have HV := aa (show aS (3 : Int) false i s n m = true from decide_eq_true (by have h0 := HI.out; have h1 := HN.out; have h2 := HM.out; simp [*]));rw [HV.out];go_enter Tryz.func183, Tryz.ntmps183;go_wp2_with fail;go_ret;exact ⟨rfl, (Below.refl _ _).alloc (Nat.le_refl _) _⟩
 ·by_cases hb : b = true
  ·subst hb;have HV := aa (show aS (4 : Int) true i s n m = false from decide_eq_false (fun hh => by rcases hh with ⟨h1, h2, h3, h4, h5⟩; first | omega | (simp_all; done) | (simp_all; omega)));rw [HV.out];go_enter Tryz.func183, Tryz.ntmps183;go_wp2_with fail;go_ret;exact ⟨rfl, (Below.refl _ _).alloc (Nat.le_refl _) _⟩
  have hb : b = false := by simpa using hb
  subst hb
  by_cases hi : i = 0
  rotate_left
  ·have z735148c := trivial;exact Sq735148
  have hib : (i == 0) = true := by simp; exact hi
  have HI := aa hi;clear hi
  by_cases hs : s.size = 0
  rotate_left
  ·exact Sq735148
  obtain ⟨hs1, hs2⟩ := et hs;have HS := aa hs;clear hs
  by_cases hm : m = 0
  rotate_left
  ·have z735148a := trivial;exact Sq735148
  have hm1 : ((m : Int) == 0) = true := by simp; exact hm
  have HM := aa hm;clear hm;have HV := aa (show aS (4 : Int) false i s n m = true from decide_eq_true (by have h0 := HI.out; have h1 := HS.out; have h2 := HM.out; simp [*]));rw [HV.out];go_enter Tryz.func183, Tryz.ntmps183;go_wp2_with fail;go_ret;exact ⟨rfl, (Below.refl _ _).alloc (Nat.le_refl _) _⟩
 ·by_cases hb : b = true
  ·subst hb;have HV := aa (show aS (5 : Int) true i s n m = false from decide_eq_false (fun hh => by rcases hh with ⟨h1, h2, h3, h4, h5⟩; first | omega | (simp_all; done) | (simp_all; omega)));rw [HV.out];go_enter Tryz.func183, Tryz.ntmps183;go_wp2_with fail;go_ret;exact ⟨rfl, (Below.refl _ _).alloc (Nat.le_refl _) _⟩
  have hb : b = false := by simpa using hb
  subst hb
  by_cases hi : i = 0
  rotate_left
  ·have z224890a := trivial;exact Sq224890
  have hib : (i == 0) = true := by simp; exact hi
  have HI := aa hi;clear hi
  by_cases hs : s.size = 0
  rotate_left
  ·exact Sq224890
  obtain ⟨hs1, hs2⟩ := et hs;have HS := aa hs;clear hs;have HV := aa (show aS (5 : Int) false i s n m = true from decide_eq_true (by have h0 := HI.out; have h1 := HS.out; simp [*]));rw [HV.out];go_enter Tryz.func183, Tryz.ntmps183;go_wp2_with fail;go_ret;exact ⟨rfl, (Below.refl _ _).alloc (Nat.le_refl _) _⟩
 ·by_cases hb : b = true
  ·subst hb;have HV := aa (show aS (6 : Int) true i s n m = false from decide_eq_false (fun hh => by rcases hh with ⟨h1, h2, h3, h4, h5⟩; first | omega | (simp_all; done) | (simp_all; omega)));rw [HV.out];go_enter Tryz.func183, Tryz.ntmps183;go_wp2_with fail;go_ret;exact ⟨rfl, (Below.refl _ _).alloc (Nat.le_refl _) _⟩
  have hb : b = false := by simpa using hb
  subst hb
  by_cases hs : s.size = 0
  rotate_left
  ·exact Sq226244
  obtain ⟨hs1, hs2⟩ := et hs;have HS := aa hs;clear hs
  by_cases hn : n = 0
  rotate_left
  ·have z226244a := trivial;exact Sq226244
  have hn1 : ((n : Int) == 0) = true := by simp; exact hn
  have HN := aa hn;clear hn
  by_cases hm : m = 0
  rotate_left
  ·have z226244b := trivial;exact Sq226244
  have hm1 : ((m : Int) == 0) = true := by simp; exact hm
  have HM := aa hm;clear hm;have HV := aa (show aS (6 : Int) false i s n m = true from decide_eq_true (by have h0 := HS.out; have h1 := HN.out; have h2 := HM.out; simp [*]));rw [HV.out];go_enter Tryz.func183, Tryz.ntmps183;go_wp2_with fail;go_ret;exact ⟨rfl, (Below.refl _ _).alloc (Nat.le_refl _) _⟩
 ·by_cases hb : b = true
  ·subst hb;have HV := aa (show aS (7 : Int) true i s n m = false from decide_eq_false (fun hh => by rcases hh with ⟨h1, h2, h3, h4, h5⟩; first | omega | (simp_all; done) | (simp_all; omega)));rw [HV.out];go_enter Tryz.func183, Tryz.ntmps183;go_wp2_with fail;go_ret;exact ⟨rfl, (Below.refl _ _).alloc (Nat.le_refl _) _⟩
  have hb : b = false := by simpa using hb
  subst hb
  by_cases hs : s.size = 0
  rotate_left
  ·exact Sq742295
  obtain ⟨hs1, hs2⟩ := et hs;have HS := aa hs;clear hs
  by_cases hn : n = 0
  rotate_left
  ·have z742295a := trivial;exact Sq742295
  have hn1 : ((n : Int) == 0) = true := by simp; exact hn
  have HN := aa hn;clear hn
  by_cases hm : m = 0
  rotate_left
  ·have z742295b := trivial;exact Sq742295
  have hm1 : ((m : Int) == 0) = true := by simp; exact hm
  have HM := aa hm;clear hm;have HV := aa (show aS (7 : Int) false i s n m = true from decide_eq_true (by have h0 := HS.out; have h1 := HN.out; have h2 := HM.out; simp [*]));rw [HV.out];go_enter Tryz.func183, Tryz.ntmps183;go_wp2_with fail;go_ret;exact ⟨rfl, (Below.refl _ _).alloc (Nat.le_refl _) _⟩
theorem vA (ks : List ByteArray) (ka : Option Addr) (kc : Nat) (B : Nat) (w : World) (hK : co B w ka ks) (hl : ks.length <= 9223372036854775807) :
    Calls Tryz.prog 184 #[.slice ka ks.length kc] w fun e w' => e = .returned (.bool (gC ks)) /\ w = w' := by
 obtain ⟨R, hR⟩ := nam (gC ks);have HR := aa hR;rw [hR];clear hR;have HK := aa hK;clear hK;go_enter Tryz.func184, Tryz.ntmps184;go_wp2_with fail
 go_loop [7] (fun iv => ∃ (j : Nat), iv = .int .i64 j /\ j <= ks.length /\ Hid (∀ n, n < j -> uE ks n = true)) (fun iv => ks.length - (intOf iv).toNat)
 case atStart => exact ⟨0, rfl, Nat.zero_le _, aa (fun n h => by omega)⟩
 case round =>
  obtain ⟨j, rfl, hj, hm⟩ := hrel
  by_cases hlt : j < ks.length
  ·have hlt' : (j : Int) < ks.length := by omega
   obtain ⟨x, hx⟩ := aB hlt;rcases HK.out with h0 | ⟨kb, ko, rfl, hkb, hkc'⟩
   ·exfalso; rw [List.map_eq_nil_iff] at h0; rw [h0] at hlt; simp at hlt
   have g : w.cell? ⟨kb, ko + j, none⟩ = some (.string x) := hkc' j _ (by rw [List.getElem?_map, hx]; rfl);have HKC := aa hkc';clear hkc';have p0 : (0 : Int) <= (j : Int) := by omega
   have HX := aa hx;clear hx
   by_cases z1 : x.size = 0
   ·obtain ⟨e1, e2⟩ := et z1;have HN : Hid (R = false) := aa (by rw [<- HR.out]; exact hO hlt (rR HX.out (by omega)));go_wp2_with fail;go_ret;exact ⟨by rw [HN.out]; rfl, rfl⟩
   obtain ⟨e1, e2⟩ := eZ z1
   by_cases z2 : 64 < x.size
   ·have z2d : (64 : Int) < x.size := by omega
    have HN : Hid (R = false) := aa (by rw [<- HR.out]; exact hO hlt (rR HX.out (by omega)));go_wp2_with fail;go_ret;exact ⟨by rw [HN.out]; rfl, rfl⟩
   have z2d : ¬ (64 : Int) < x.size := by omega
   by_cases z3 : j = 0
   ·have z3d : ¬ (0 : Int) < j := by omega
    have z3n : decide (0 < j) = false := by simp; omega
    have HKJ : Hid (uE ks j = true) := aa (rQ HX.out (by omega) (by omega) (.inl z3));clear z3;go_wp2_with fail;go_round;case rel => exact ⟨j + 1, by go_num, by omega, aa (fun n hn => by
     by_cases hnj : n = j
     ·rw [hnj]; exact HKJ.out
     ·exact hm.out n (by omega))⟩
    case measure => simp [intOf]; omega
   have z3d : (0 : Int) < j := by omega
   have z3n : decide (0 < j) = true := by simp; omega
   obtain ⟨y, hy⟩ := aB (l := ks) (j := j - 1) (by omega);have g' : w.cell? ⟨kb, ko + (j - 1), none⟩ = some (.string y) := HKC.out (j - 1) _ (by rw [List.getElem?_map, hy]; rfl);have HY := aa hy;clear hy;have u2 : (0 : Int) <= (j : Int) - 1 := by omega
   have u3 : (j : Int) - 1 < ks.length := by omega
   have u4 : ((j : Int) - 1).toNat = j - 1 := by omega
   have u5 : (1 : Int) <= j := by omega
   rcases vy x.toList y.toList with ⟨e3, e4, e5⟩ | ⟨e3, e4, e5⟩ | ⟨e3, e4, e5⟩
   ·have HN : Hid (R = false) := aa (by rw [<- HR.out]; exact hO hlt (rS HX.out (by omega) HY.out (by unfold lM; rw [e3]; rfl)));clear e3 e5;go_wp2_with fail;go_ret;exact ⟨by rw [HN.out]; rfl, rfl⟩
   ·have HN : Hid (R = false) := aa (by rw [<- HR.out]; exact hO hlt (rS HX.out (by omega) HY.out (by unfold lM; rw [e3]; simp)));clear e3 e4;go_wp2_with fail;go_ret;exact ⟨by rw [HN.out]; rfl, rfl⟩
   ·have HKJ : Hid (uE ks j = true) := aa (rQ HX.out (by omega) (by omega) (.inr ⟨y, HY.out, by unfold lM; rw [e4, beq_eq_false_iff_ne.2 e5]; rfl⟩));clear e4 e5;go_wp2_with fail;go_round;case rel => exact ⟨j + 1, by go_num, by omega, aa (fun n hn => by
     by_cases hnj : n = j
     ·rw [hnj]; exact HKJ.out
     ·exact hm.out n (by omega))⟩
    case measure => simp [intOf]; omega
  ·have hlt' : ¬ (j : Int) < ks.length := by omega
   have HD : Hid (R = true) := aa (by rw [<- HR.out]; exact qC (fun n hn => hm.out n (by omega)));go_wp2_with fail;go_ret;exact ⟨by rw [HD.out]; rfl, rfl⟩
def oY (t : Vt) : Prop := ∀ (cs : List Value) (B : Nat) (w : World) (d : Int) (p : Nat), dR B w cs t -> B <= w.heap.size -> 0 <= d -> d <= 1000000 -> p <= 4096 ->
    Calls Tryz.prog 180 #[.agg cs.toArray, .int .i64 d, .int .i64 p] w fun e w' => e = .returned (iy (eF t d p)) /\ Below w.heap.size w w'
theorem Sq249705 {P : Prop} (h : P := by
 first
 |(
  guard_hyp z249705a
  have k5b : (k == 5) = false := by simp; omega
  by_cases i1 : i < 1
  ·have HN := aa (NO.out (eu (fun h => h.2.2.2.2.2.1 ⟨by omega, i1⟩)));go_enter Tryz.func180, Tryz.ntmps180;go_wp2_with fail;refine (HU.out _).mono ?_;rintro e w1 ⟨rfl, hb1⟩;have hBX := (ae.new w [.int .i64 k, .bool b, .int .i64 i, .string s, .slice la l.length lc, .slice ka ks.length kc] 64).below hb1 (by simp);have x0 := hBX.cell (i := 0) rfl;have x1 := hBX.cell (i := 1) rfl;have x2 := hBX.cell (i := 2) rfl;have x3 := hBX.cell (i := 3) rfl;have x4 := hBX.cell (i := 4) rfl;have x5 := hBX.cell (i := 5) rfl;have HB1 := aa (hb1.mono (B' := w.heap.size + 1) (by simp));have HKW := aa (HKY.out w1 (aF ((Below.refl _ _).alloc (Nat.le_refl _) _) rfl hb1));clear hb1 hBX;go_wp2_with fail
   go_ret2
   exact ⟨by rw [HN.out]; rfl, ((Below.refl _ _).alloc (Nat.le_refl _) _).trans (HB1.out.mono (by omega))⟩
  have HD : Hid (fe k b i s l.length ks d p = true) := aa (gd (by omega) d1 (by omega) (by omega) C5.out (by omega) (fun h => by omega)))
 |(
  guard_hyp z249705b
  have k5b : (k == 5) = false := by simp; omega
  have HD : Hid (fe k b i s l.length ks d p = true) := aa (gd (by omega) d1 (by omega) (by omega) C5.out (by omega) (fun h => absurd h k5));clear k5)
 |(
  have HD : Hid (fe k b i s l.length ks d p = true) := aa (gd (by omega) d1 (by omega) (by omega) C5.out (by omega) (fun _ => ⟨HNL.out, hko⟩));rw [hko] at HKY;clear hko)
 go_enter Tryz.func180, Tryz.ntmps180;go_wp2_with fail;refine (HU.out _).mono ?_;rintro e w1 ⟨rfl, hb1⟩;have hBX := (ae.new w [.int .i64 k, .bool b, .int .i64 i, .string s, .slice la l.length lc, .slice ka ks.length kc] 64).below hb1 (by simp);have x0 := hBX.cell (i := 0) rfl;have x1 := hBX.cell (i := 1) rfl;have x2 := hBX.cell (i := 2) rfl;have x3 := hBX.cell (i := 3) rfl;have x4 := hBX.cell (i := 4) rfl;have x5 := hBX.cell (i := 5) rfl;have HB1 := aa (hb1.mono (B' := w.heap.size + 1) (by simp));have HKW := aa (HKY.out w1 (aF ((Below.refl _ _).alloc (Nat.le_refl _) _) rfl hb1));clear hb1 hBX;go_wp2_with fail
 first
 |(
  guard_hyp z249705c
  refine HKW.out.mono ?_;rintro e w2 ⟨rfl, rfl⟩;go_wp2_with fail)
 | skip
 go_loopw [2, 8, 9] (fun pv kv iv wr => ∃ (j q : Nat) (okb : Bool), iv = .int .i64 j /\ pv = .int .i64 q /\ kv = .bool okb /\ j <= l.length /\ q <= 4097 /\ (okb = true -> q <= 4096) /\ Below (w.heap.size + 1) (w.alloc (.cells #[.int .i64 k, .bool b, .int .i64 i, .string s, .slice la l.length lc, .slice ka ks.length kc] 64)) wr /\ Hid (R = if okb then iy (fv (l.drop j) (d - 1) q) else iy (q, false))) (fun _ _ iv _ => l.length - (intOf iv).toNat)
 case atStart => exact ⟨0, p + 1, true, by go_num, by go_num, rfl, Nat.zero_le _, by omega, fun _ => by omega, HB1.out, aa (by rw [<- HR.out, mW HD.out]; rfl)⟩
 case round =>
  obtain ⟨j, q, okb, rfl, rfl, rfl, hj, hq, hqk, hbr, hm⟩ := hrel;have hBR := (ae.new w [.int .i64 k, .bool b, .int .i64 i, .string s, .slice la l.length lc, .slice ka ks.length kc] 64).below hbr (by simp);have y4 := hBR.cell (i := 4) rfl;clear hBR;have HBR := aa hbr;clear hbr
  by_cases hlt : j < l.length
  ·have hlt' : (j : Int) < l.length := by omega
   cases okb with
   | false =>
    clear hqk;go_wp2_with fail
    go_ret2
    exact ⟨by rw [hm.out]; rfl, ((Below.refl w.heap.size w).alloc (Nat.le_refl _) _).trans (HBR.out.mono (by omega))⟩
   | true =>
    have hq2 := hqk rfl;clear hqk;obtain ⟨t, ht⟩ := aB hlt;obtain ⟨eb, eo, cs, rfl, heb, hce, hVt⟩ := HLs.out.get j t ht;have hVr : dR B wr cs t := dR.below (((Below.refl w.heap.size w).alloc (Nat.le_refl _) _).trans (HBR.out.mono (by omega))) hB t cs hVt;have HI := aa (IH.out j t ht cs B wr (d - 1) q hVr (Nat.le_trans hB (Nat.le_trans (by simp) HBR.out.size)) (by omega) (by omega) hq2);have hst := iI ht (d - 1) q;have hle := mK t (d - 1) q hq2;obtain ⟨k2, b2, i2, s2, l2, ks2⟩ := t;unfold dR at hVt;obtain ⟨la2, lc2, ka2, kc2, rfl, _⟩ := hVt;have g : ∀ (n : Nat) v, ([.int .i64 k2, .bool b2, .int .i64 i2, .string s2, .slice la2 l2.length lc2, .slice ka2 ks2.length kc2] : List Value)[n]? = some v -> wr.cell? ⟨eb, eo + j * 6 + n, none⟩ = some v := fun n v hv => by
     have h1 := hce n v hv;rw [Nat.zero_add] at h1;rw [Nat.add_assoc];rw [HBR.out.cell (by show eb < w.heap.size + 1; omega)];rw [(Below.alloc (Below.refl w.heap.size w) (Nat.le_refl _) (.cells #[.int .i64 k, .bool b, .int .i64 i, .string s, .slice (some ⟨eb, eo, none⟩) l.length lc, .slice ka ks.length kc] 64)).cell (by show eb < w.heap.size; omega)];exact h1
    have g0 := g 0 _ rfl;have g1 := g 1 _ rfl;have g2 := g 2 _ rfl;have g3 := g 3 _ rfl;have g4 := g 4 _ rfl;have g5 := g 5 _ rfl;rw [Nat.add_zero] at g0;clear g hce;cases hm2 : eF (.mk k2 b2 i2 s2 l2 ks2) (d - 1) q with
    | mk n ok =>
     rw [hm2] at HI hst hle;unfold iy at HI;dsimp only at HI hst hle;have HST := aa hst;have HLE := aa hle.2;have hle1 := hle.1;clear hst hm2 hle;go_wp2_with fail;refine HI.out.mono ?_;rintro e w2 ⟨rfl, hb2⟩;have HB2 := aa hb2;clear hb2;go_wp2_with fail;go_roundw;case rel => exact ⟨j + 1, n, ok, by go_num, rfl, rfl, by omega, hle1, HLE.out, HBR.out.trans (HB2.out.mono (Nat.le_trans (by simp) HBR.out.size)), aa (by have h := hm.out; simp at h; rw [h, HST.out]; cases ok <;> simp)⟩
     case measure => simp [intOf]; omega
  ·have hlt' : ¬ (j : Int) < l.length := by omega
   have HF : Hid (R = iy (q, okb)) := aa (by rw [hm.out, List.drop_of_length_le (by omega)]; cases okb <;> rfl);clear hqk;go_wp2_with fail
   go_ret2
   exact ⟨by rw [HF.out]; rfl, ((Below.refl w.heap.size w).alloc (Nat.le_refl _) _).trans (HBR.out.mono (by omega))⟩) : P := h
theorem Sq700420 {P : Prop} (h : P := by
 first
 |(
  guard_hyp z700420b
  have hnb : ((ks.length : Int) != (l.length : Int)) = true := by simp; omega
  have HN := aa (NO.out (eu (fun h => hn (h.2.2.2.2.2.2 K5.out).1))))
 |(
  have HN := aa (NO.out (eu (fun h => by have := (h.2.2.2.2.2.2 K5.out).2; rw [hko] at this; cases this)));rw [hko] at HKY;clear hko)
 go_enter Tryz.func180, Tryz.ntmps180;go_wp2_with fail;refine (HU.out _).mono ?_;rintro e w1 ⟨rfl, hb1⟩;have hBX := (ae.new w [.int .i64 k, .bool b, .int .i64 i, .string s, .slice la l.length lc, .slice ka ks.length kc] 64).below hb1 (by simp);have x0 := hBX.cell (i := 0) rfl;have x1 := hBX.cell (i := 1) rfl;have x2 := hBX.cell (i := 2) rfl;have x3 := hBX.cell (i := 3) rfl;have x4 := hBX.cell (i := 4) rfl;have x5 := hBX.cell (i := 5) rfl;have HB1 := aa (hb1.mono (B' := w.heap.size + 1) (by simp));have HKW := aa (HKY.out w1 (aF ((Below.refl _ _).alloc (Nat.le_refl _) _) rfl hb1));clear hb1 hBX;go_wp2_with fail
 first
 |(
  guard_hyp z700420a
  refine HKW.out.mono ?_;rintro e w2 ⟨rfl, rfl⟩;go_wp2_with fail)
 | skip
 go_ret2
 exact ⟨by rw [HN.out]; rfl, ((Below.refl _ _).alloc (Nat.le_refl _) _).trans (HB1.out.mono (by omega))⟩) : P := h
theorem vB (t : Vt) : oY t := by
 refine t.down (p := oY) fun k b i s l ks ih cs B w d p hV hB hd0 hd1 hp => ?_
 unfold dR at hV;obtain ⟨la, lc, ka, kc, rfl, hk64, hi64, ⟨hlc, hlm⟩, ⟨hkc, hkm⟩, hla, hka, hK, hL⟩ := hV;simp only [bJ] at hk64 hi64;have IH := aa ih;have HK := aa hK;have HLs := aa hL;clear ih hK hL hla hka;show Calls Tryz.prog 180 #[.agg #[.int .i64 k, .bool b, .int .i64 i, .string s, .slice la l.length lc, .slice ka ks.length kc], .int .i64 d, .int .i64 p] w _;obtain ⟨R, hR⟩ := nam (iy (eF (.mk k b i s l ks) d p));have HR := aa hR;rw [hR];clear hR;have NO : Hid (fe k b i s l.length ks d p = false -> R = .tuple #[.int .i64 ((p : Int) + 1), .bool false]) := aa (fun h => by rw [<- HR.out]; exact yg h)
 by_cases c2 : d < 1
 ·have q2 : d < 1 := c2;have HN := aa (NO.out (eu (fun h => by omega)));go_enter Tryz.func180, Tryz.ntmps180;go_wp2_with fail
  go_ret2
  exact ⟨by rw [HN.out]; rfl, (Below.refl _ _).alloc (Nat.le_refl _) _⟩
 have q2 : ¬ d < 1 := c2
 by_cases c1 : 4096 < p + 1
 ·have q1 : (4096 : Int) < (p : Int) + 1 := by omega
  have HN := aa (NO.out (eu (fun h => by omega)));go_enter Tryz.func180, Tryz.ntmps180;go_wp2_with fail
  go_ret2
  exact ⟨by rw [HN.out]; rfl, (Below.refl _ _).alloc (Nat.le_refl _) _⟩
 have q1 : ¬ (4096 : Int) < (p : Int) + 1 := by omega
 by_cases c3 : k < 0
 ·have q3 : k < 0 := c3;have HN := aa (NO.out (eu (fun h => by omega)));go_enter Tryz.func180, Tryz.ntmps180;go_wp2_with fail
  go_ret2
  exact ⟨by rw [HN.out]; rfl, (Below.refl _ _).alloc (Nat.le_refl _) _⟩
 have q3 : ¬ k < 0 := c3
 by_cases c4 : 7 < k
 ·have q4 : 7 < k := c4;have HN := aa (NO.out (eu (fun h => by omega)));go_enter Tryz.func180, Tryz.ntmps180;go_wp2_with fail
  go_ret2
  exact ⟨by rw [HN.out]; rfl, (Below.refl _ _).alloc (Nat.le_refl _) _⟩
 have q4 : ¬ 7 < k := c4;have HU := aa (fun w => vz k b i s la ka l.length lc ks.length kc w (by omega) (by omega));have HKY := aa (fun w' (hb : Below w.heap.size w w') => vA ks ka kc B w' (HK.out.below hb hB) (by omega))
 by_cases c5 : aS k b i s l.length ks.length = true
 rotate_left
 ·have c5f : aS k b i s l.length ks.length = false := by simpa using c5
  have HN := aa (NO.out (eu (fun h => c5 h.2.2.2.2.1)));rw [c5f] at HU;clear c5 c5f;go_enter Tryz.func180, Tryz.ntmps180;go_wp2_with fail;refine (HU.out _).mono ?_;rintro e w1 ⟨rfl, hb1⟩;go_wp2_with fail
  go_ret2
  exact ⟨by rw [HN.out]; rfl, aF ((Below.refl _ _).alloc (Nat.le_refl _) _) rfl hb1⟩
 rw [c5] at HU;have C5 := aa c5;clear c5;have d1 : 1 <= d := by omega
 by_cases k6 : 6 <= k
 ·have z249705a := trivial;exact Sq249705
 by_cases k5 : k = 5
 rotate_left
 ·have z249705b := trivial;exact Sq249705
 have k5b : (k == 5) = true := by simp; omega
 have K5 := aa k5;clear k5
 by_cases hn : ks.length = l.length
 rotate_left
 ·have z700420b := trivial;exact Sq700420
 have hnb : ((ks.length : Int) != (l.length : Int)) = false := by simp; omega
 have HNL := aa hn;clear hn;cases hko : gC ks with
 | false =>
  have z700420a := trivial;exact Sq700420
 | true =>
  have z249705c := trivial;exact Sq249705
theorem tN (t : Vt) (cs : List Value) (B : Nat) (w : World) (hV : dR B w cs t) (hB : B <= w.heap.size) :
    Calls Tryz.prog 175 #[.agg cs.toArray] w fun e w' => e = .returned (.int .i64 (if uH t then 0 else 20)) /\ Below w.heap.size w w' := by
 have HM := aa (fun w' (hb : Below w.heap.size w w') => vB t cs B w' 32 0 (dR.below hb hB t cs hV) (Nat.le_trans hB hb.size) (by omega) (by omega) (by omega));obtain ⟨k, b, i, s, l, ks⟩ := t;unfold dR at hV;obtain ⟨la, lc, ka, kc, rfl, -, -, -, -, -, -, -, -⟩ := hV;unfold uH;cases hm : eF (.mk k b i s l ks) 32 0 with
 | mk n ok =>
  rw [hm] at HM;clear hm;unfold iy at HM;dsimp only at HM;show Calls Tryz.prog 175 #[.agg #[.int .i64 k, .bool b, .int .i64 i, .string s, .slice la l.length lc, .slice ka ks.length kc]] w _;have HB0 := aa ((Below.refl w.heap.size w).alloc (Nat.le_refl _) (.cells #[.int .i64 k, .bool b, .int .i64 i, .string s, .slice la l.length lc, .slice ka ks.length kc] 64));cases ok with
  | true =>
   go_enter Tryz.func175, Tryz.ntmps175;go_wp2_with fail;refine (HM.out _ HB0.out).mono ?_;rintro e w1 ⟨rfl, hb1⟩;go_wp2_with fail;go_ret;exact ⟨rfl, aF HB0.out rfl hb1⟩
  | false =>
   go_enter Tryz.func175, Tryz.ntmps175;go_wp2_with fail;refine (HM.out _ HB0.out).mono ?_;rintro e w1 ⟨rfl, hb1⟩;go_wp2_with fail;go_ret;exact ⟨rfl, aF HB0.out rfl hb1⟩
theorem eN.below {B B' : Nat} {w w' : World} {a : Option Addr} {l : List Vt} (h : eN B w a 0 l) (hb : Below B' w w') (hB : B <= B') : eN B w' a 0 l :=
  eN.mk (fun i t hi => by
    obtain ⟨b, off, cs, h1, h2, h3, h4⟩ := h.get i t hi;exact ⟨b, off, cs, h1, h2, fun j v hj => by rw [hb.cell (by show b < B'; omega)]; exact h3 j v hj, dR.below hb hB t cs h4⟩)
theorem eN.at {B : Nat} {w : World} {a : Option Addr} {l : List Vt} (h : eN B w a 0 l) {j : Nat} {t : Vt} (ht : l[j]? = some t) :
    ∃ eb eo k b i s l2 ks la lc ka kc, t = .mk k b i s l2 ks /\ a = some ⟨eb, eo, none⟩ /\ eb < B /\
      (w.cell? ⟨eb, eo + j * 6, none⟩ = some (.int .i64 k) /\ w.cell? ⟨eb, eo + j * 6 + 1, none⟩ = some (.bool b) /\ w.cell? ⟨eb, eo + j * 6 + 2, none⟩ = some (.int .i64 i) /\ w.cell? ⟨eb, eo + j * 6 + 3, none⟩ = some (.string s) /\ w.cell? ⟨eb, eo + j * 6 + 4, none⟩ = some (.slice la l2.length lc) /\ w.cell? ⟨eb, eo + j * 6 + 5, none⟩ = some (.slice ka ks.length kc)) /\
      dR B w [.int .i64 k, .bool b, .int .i64 i, .string s, .slice la l2.length lc, .slice ka ks.length kc] (.mk k b i s l2 ks) := by
 obtain ⟨eb, eo, cs, h1, h2, h3, h4⟩ := h.get j t ht;obtain ⟨k, b, i, s, l2, ks⟩ := t;have h5 := h4;unfold dR at h5;obtain ⟨la, lc, ka, kc, rfl, _⟩ := h5;have g := fun n v hv => by have := h3 n v hv; rwa [Nat.zero_add, <- Nat.add_assoc] at this
 exact ⟨eb, eo, k, b, i, s, l2, ks, la, lc, ka, kc, rfl, h1, h2, ⟨by have := g 0 _ rfl; rwa [Nat.add_zero] at this, g 1 _ rfl, g 2 _ rfl, g 3 _ rfl, g 4 _ rfl, g 5 _ rfl⟩, h4⟩
theorem qL (ks ms : List ByteArray) (ka ma : Option Addr) (kc mc : Nat) (B : Nat) (w : World) (hk : co B w ka ks) (hm : co B w ma ms) (hB : B <= w.heap.size) (hkl : ks.length <= 9223372036854775807) (hml : ms.length <= 9223372036854775807) :
    Calls Tryz.prog 124 #[.slice ka ks.length kc, .slice ma ms.length mc] w fun e w' => e = .returned (.bool (decide (ks = ms))) /\ Below w.heap.size w w' := by
 have z793451a := trivial;exact Sq793451
def jA (a : Vt) : Prop := ∀ (b : Vt) (cs ds : List Value) (B : Nat) (w : World), dR B w cs a -> dR B w ds b -> B <= w.heap.size ->
    Calls Tryz.prog 105 #[.agg cs.toArray, .agg ds.toArray] w fun e w' => e = .returned (.bool (dV a b)) /\ Below w.heap.size w w'
theorem Sq459378 {P : Prop} (h : P := by
 go_wp2_with fail;refine (HCS.out _ (((Below.refl _ _).alloc (Nat.le_refl _) _).alloc (by simp) _)).mono ?_;rintro e w2 ⟨rfl, hb2⟩;have HB2 := aa (aF ((HBR.out.alloc hz _).alloc (by simp; omega) _) rfl hb2);clear hb2 g0 g1 g2 g3 g4 g5 f0 f1 f2 f3 f4 f5;go_wp2_with fail
 first
 |(
  guard_hyp z459378a
  go_roundw;case rel => exact ⟨j + 1, by go_num, by omega, HB2, aa (by rw [ht.out, HST.out, Bool.true_and])⟩
  case measure => simp [intOf]; omega)
 |(
  go_ret;exact ⟨by rw [ht.out, HST.out, Bool.false_and]; rfl, HB2.out⟩)) : P := h
theorem lK (l m : List Vt) (ih : ∀ (j : Nat) t, l[j]? = some t -> jA t) (la ma : Option Addr) (lc mc : Nat) (B : Nat) (w : World) (hl : eN B w la 0 l) (hm : eN B w ma 0 m) (hB : B <= w.heap.size) (hll : l.length <= 9223372036854775807) (hml : m.length <= 9223372036854775807) :
    Calls Tryz.prog 125 #[.slice la l.length lc, .slice ma m.length mc, .func (.func 105) #[] #[]] w fun e w' => e = .returned (.bool (dl l m)) /\ Below w.heap.size w w' := by
 have HL := aa hl;have HM := aa hm;have IH := aa ih;clear hl hm ih;obtain ⟨R, hR⟩ := nam (dl l m);have HR := aa hR;rw [hR];clear hR
 by_cases hn : l.length = m.length
 rotate_left
 ·have hnb : ((l.length : Int) != (m.length : Int)) = true := by simp; omega
  have HN : Hid (R = false) := aa (by rw [<- HR.out]; exact kF hn);go_enter Tryz.func125, Tryz.ntmps125;go_wp2_with fail;go_ret;exact ⟨by rw [HN.out]; rfl, Below.refl _ _⟩
 have hnb : ((l.length : Int) != (m.length : Int)) = false := by simp; omega
 have HNL := aa hn;clear hn;go_enter Tryz.func125, Tryz.ntmps125;go_wp2_with fail
 go_loopw [17] (fun iv wr => ∃ j : Nat, iv = .int .i64 j /\ j <= l.length /\ Hid (Below w.heap.size w wr) /\ Hid (R = dl (l.drop j) (m.drop j))) (fun iv _ => l.length - (intOf iv).toNat)
 case atStart => exact ⟨0, rfl, Nat.zero_le _, aa (Below.refl _ _), aa HR.out.symm⟩
 case round =>
  obtain ⟨j, rfl, hj, HBR, ht⟩ := hrel
  by_cases hlt : j < l.length
  ·have hlt' : (j : Int) < l.length := by omega
   have hlm : j < m.length := by have := HNL.out; omega
   have hlm' : (j : Int) < m.length := by omega
   have p0 : (0 : Int) <= (j : Int) := by omega
   obtain ⟨t, hx⟩ := aB hlt;obtain ⟨u, hy⟩ := aB hlm;have HST := aa (mh hx hy);have hz := HBR.out.size;obtain ⟨eb, eo, k1, b1, i1, s1, l1, ks1, la1, lc1, ka1, kc1, rfl, rfl, heb, ⟨g0, g1, g2, g3, g4, g5⟩, hV1⟩ := (HL.out.below HBR.out hB).at hx;obtain ⟨fb, fo, k2, b2, i2, s2, l2, ks2, la2, lc2, ka2, kc2, rfl, rfl, hfb, ⟨f0, f1, f2, f3, f4, f5⟩, hV2⟩ := (HM.out.below HBR.out hB).at hy;have HCS := aa (fun w' (hb : Below wr.heap.size wr w') => IH.out j _ hx _ _ _ B w' (dR.below hb (Nat.le_trans hB hz) _ _ hV1) (dR.below hb (Nat.le_trans hB hz) _ _ hV2) (Nat.le_trans hB (Nat.le_trans hz hb.size)));have hebr : eb < wr.heap.size := by omega
   have hfbr : fb < wr.heap.size := by omega
   clear hx hy hV1 hV2;obtain ⟨eq, heq⟩ := nam (dV (.mk k1 b1 i1 s1 l1 ks1) (.mk k2 b2 i2 s2 l2 ks2));rw [heq] at HCS HST;clear heq;cases eq with
   | true =>
    have z459378a := trivial;exact Sq459378
   | false =>
    exact Sq459378
  ·have hlt' : ¬ (j : Int) < l.length := by omega
   have HN : Hid (R = true) := aa (by rw [ht.out, List.drop_of_length_le (by omega), List.drop_of_length_le (by have := HNL.out; omega)]; rfl);go_wp2_with fail;go_ret;exact ⟨by rw [HN.out]; rfl, HBR.out⟩
theorem mi (a : Vt) : jA a := by
 have z521247a := trivial;exact Sq521247
end Go.Proofs.YteljlahcdipilaaGreat

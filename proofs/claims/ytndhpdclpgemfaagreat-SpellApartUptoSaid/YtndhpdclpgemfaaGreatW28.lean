/- Parts X66 of this seat (pruned, scripts that are alike kept once as default arguments: q1, q2, ..). Conditions: each says its own. -/
import Derived.Test.YtndhpdclpgemfaaGreatW19
import Derived.Test.YtndhpdclpgemfaaGreatW23
import Derived.Test.YtndhpdclpgemfaaGreatW27
namespace Go.Proofs.YtndhpdclpgemfaaGreat
open Go.RowKit Go.Shelf
set_option linter.unusedSimpArgs false
set_option linter.unusedVariables false
set_option maxRecDepth 100000
theorem print_or (s : Smt) : (printE s != 0) = true ∨ (rightB s = true ∧ printE s = 0 ∧ printT s = strOf (stmtX s.clauses) ∧ ∃ l, scanL (stmtX s.clauses) = .ok l) := by
 unfold printE printT
 cases hr : rightB s with
 | false => exact .inl rfl
 | true =>
  simp only [if_true]
  cases hs : scanL (stmtX s.clauses) with
  | ok l => exact .inr ⟨trivial, rfl, rfl, l, rfl⟩
  | bad q x =>
   have hx : (x == 0) = false := by simp; exact (scanL_bad hs).2
   refine .inl ?_
   simp only [scanOk, hx]
   rfl
theorem texts_eq {s t : Smt} (h1 : rightB s = true) (h2 : rightB t = true) (k1 : ∀ c ∈ s.clauses, c64 c) (k2 : ∀ c ∈ t.clauses, c64 c) {l : List (Tok × Nat)} (hs : scanL (stmtX s.clauses) = .ok l) : ((strOf (stmtX s.clauses)).toList == (strOf (stmtX t.clauses)).toList) = eqB s t := by
 have e : ∀ x : List UInt8, (strOf x).toList = x := fun x => by rw [ba_list]; rfl
 rw [e, e]
 by_cases h : s = t
 ·subst h; rw [eqB_refl]; simp
 ·have h3 : eqB s t = false := eqB_of (q := false) ⟨fun h => (by cases h), fun h4 => absurd h4 h⟩
  rw [h3, beq_eq_false_iff_ne]
  exact fun h4 => h (text_apart h1 h2 k1 k2 hs h4)
theorem Sg304445 {P : Prop} (h : P := by
 first
 |(
  guard_hyp z304445b
  have q3 : (P1 != 0) = false := by rw [q1.2.1]; rfl
  clear q1 hr k1 k2)
 | (guard_hyp z304445c; clear q2 hr k1 k2)
 | skip
 go_enter Tryz.func7, Tryz.ntmps7
 go_upto_region 1 with fail
 rw [HW0.out, HU0.out]
 go_wp2_with fail
 refine (HLG1.out _).mono ?_
 rintro e w2 ⟨⟨b, rfl⟩, v1, rfl⟩
 cases b with
 | true =>
  go_wp2_with fail
  refine (HWX.out _).mono ?_
  rintro e w9 ⟨rfl, u9, rfl⟩
  go_wp2_with fail
  go_ret
  exact ⟨by rfl, HBE.out _⟩
 | false =>
  go_wp2_with fail
  refine (HLG2.out _).mono ?_
  rintro e w2 ⟨⟨b, rfl⟩, v2, rfl⟩
  cases b with
  | true =>
   go_wp2_with fail
   refine (HWX.out _).mono ?_
   rintro e w9 ⟨rfl, u9, rfl⟩
   go_wp2_with fail
   go_ret
   exact ⟨by rfl, HBE.out _⟩
  | false =>
   go_wp2_with fail
   refine (HPR1.out _).mono ?_
   rintro e w3 ⟨rfl, p1, rfl⟩
   go_wp2_with fail
   refine (HPR2.out _).mono ?_
   rintro e w3 ⟨rfl, p2, rfl⟩
   go_wp2_with fail
   first
   |(
    guard_hyp z304445a
    refine (HSA.out _).mono ?_
    rintro e w4 ⟨rfl, v4, rfl⟩
    go_wp2_with fail)
   | skip
   refine (HWX.out _).mono ?_
   rintro e w9 ⟨rfl, u9, rfl⟩
   go_wp2_with fail
   go_ret
   exact ⟨by rfl, HBE.out _⟩) : P := h
set_option maxHeartbeats 64000000 in
theorem spellApart_any (s t : Smt) (cs ds : List Value) (w : World) (hX : IsSm w.heap.size w cs s) (hY : IsSm w.heap.size w ds t) (hML : ML w) (hw1 : wtSm s ≤ 1048576) (hw2 : wtSm t ≤ 1048576) :
    Calls Tryz.prog 7 #[.agg cs.toArray, .agg ds.toArray] w fun e w' => e = .returned (.bool true) ∧ Below w.heap.size w w' := by
 have hX1 := hX
 obtain ⟨s1, hs1⟩ := nam s
 rw [hs1] at hX1
 have hw1' : wtSm s1 ≤ 1048576 := by rw [← hs1]; exact hw1
 have k1 := sm_64 hX1
 obtain ⟨l1⟩ := s
 obtain ⟨a1, c1, rfl, -, -⟩ := hX
 simp only at hX1 ⊢
 obtain ⟨n1, hn1⟩ := nam l1.length
 rw [hn1] at hX1 ⊢
 have hX2 := hY
 obtain ⟨s2, hs2⟩ := nam t
 rw [hs2] at hX2
 have hw2' : wtSm s2 ≤ 1048576 := by rw [← hs2]; exact hw2
 have k2 := sm_64 hX2
 obtain ⟨l2⟩ := t
 obtain ⟨a2, c2, rfl, -, -⟩ := hY
 simp only at hX2 ⊢
 obtain ⟨n2, hn2⟩ := nam l2.length
 rw [hn2] at hX2 ⊢
 obtain ⟨W0, u0, HW0, HU0, HSZ, HBE, hc1, hc2⟩ := box2 w [.slice a1 n1 c1] [.slice a2 n2 c2] 24 24
 have e0 := fun u => hc1 u 0 _ rfl
 have f0 := fun u => hc2 u 0 _ rfl
 clear hc1 hc2
 have HML : Hid (∀ u : Ext (w.heap.size + 2) W0, ML u.w) := Lib.hid (fun u => hML.below (HBE.out u))
 have HLG1 : Hid (∀ u : Ext (w.heap.size + 2) W0, Calls Tryz.prog 8 #[.agg #[.slice a1 n1 c1]] u.w fun e w' => SomeBool e ∧ ∃ u' : Ext (w.heap.size + 2) W0, w' = u'.w) := Lib.hid (fun u => (stmtLarge_any s1 _ w.heap.size u.w (hX1.below (HBE.out u) (Nat.le_refl _)) (HBE.out u).size (by omega)).mono fun e w' ⟨h1, h2⟩ => ⟨h1, ⟨w', u.below.trans (h2.mono (Nat.le_trans HSZ.out u.below.size))⟩, rfl⟩)
 have HPR1 := Lib.hid (fun u : Ext (w.heap.size + 2) W0 => ext_call u HSZ.out (pprint_any s1 (fun c _ => groups_any c) _ w.heap.size u.w (hX1.below (HBE.out u) (Nat.le_refl _)) (HBE.out u).size (HML.out u) hw1'))
 have HLG2 : Hid (∀ u : Ext (w.heap.size + 2) W0, Calls Tryz.prog 8 #[.agg #[.slice a2 n2 c2]] u.w fun e w' => SomeBool e ∧ ∃ u' : Ext (w.heap.size + 2) W0, w' = u'.w) := Lib.hid (fun u => (stmtLarge_any s2 _ w.heap.size u.w (hX2.below (HBE.out u) (Nat.le_refl _)) (HBE.out u).size (by omega)).mono fun e w' ⟨h1, h2⟩ => ⟨h1, ⟨w', u.below.trans (h2.mono (Nat.le_trans HSZ.out u.below.size))⟩, rfl⟩)
 have HPR2 := Lib.hid (fun u : Ext (w.heap.size + 2) W0 => ext_call u HSZ.out (pprint_any s2 (fun c _ => groups_any c) _ w.heap.size u.w (hX2.below (HBE.out u) (Nat.le_refl _)) (HBE.out u).size (HML.out u) hw2'))
 have HWX := Lib.hid (fun u : Ext (w.heap.size + 2) W0 => ext_call u HSZ.out (works_any (groups_any wCl) u.w (HML.out u)))
 have HSA := Lib.hid (fun u : Ext (w.heap.size + 2) W0 => ext_call u HSZ.out (same_stmt s1 s2 _ _ w.heap.size u.w (hX1.below (HBE.out u) (Nat.le_refl _)) (hX2.below (HBE.out u) (Nat.le_refl _)) (HBE.out u).size (by omega) (by omega)))
 have q1 := print_or s1
 have q2 := print_or s2
 obtain ⟨T1, hT1⟩ := nam (printT s1)
 obtain ⟨P1, hP1⟩ := nam (printE s1)
 rw [hT1, hP1] at HPR1
 rw [hT1, hP1] at q1
 clear hT1 hP1
 obtain ⟨T2, hT2⟩ := nam (printT s2)
 obtain ⟨P2, hP2⟩ := nam (printE s2)
 rw [hT2, hP2] at HPR2
 rw [hT2, hP2] at q2
 clear hT2 hP2
 obtain ⟨r, hr⟩ := nam (eqB s1 s2)
 rw [hr] at HSA
 clear hn1 hn2 hX1 hX2 hw1 hw2 hw1' hw2' hs1 hs2
 rcases q1 with q1 | q1
 ·have z304445c := trivial
  exact Sg304445
 ·rcases q2 with q2 | q2
  ·have z304445b := trivial
   exact Sg304445
  ·obtain ⟨r1, h3, h4, l, h5⟩ := q1
   obtain ⟨r2, h6, h7, -, -⟩ := q2
   have htt := texts_eq r1 r2 k1 k2 h5
   rw [← h4, ← h7, hr] at htt
   subst h3 h6
   clear h4 h5 h7 r1 r2 k1 k2 hr
   cases r with
   | true =>
    have z304445a := trivial
    exact Sg304445
   | false =>
    have z304445a := trivial
    exact Sg304445
end Go.Proofs.YtndhpdclpgemfaaGreat

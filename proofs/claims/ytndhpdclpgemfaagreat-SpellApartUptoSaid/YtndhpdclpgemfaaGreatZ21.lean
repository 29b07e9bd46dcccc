/- Parts X12 of this seat (pruned, scripts that are alike kept once as default arguments: q1, q2, ..). Conditions: each says its own. -/
import Derived.Test.YtndhpdclpgemfaaGreatZ20
namespace Go.Proofs.YtndhpdclpgemfaaGreat
open Go.RowKit
set_option linter.unusedSimpArgs false
set_option linter.unusedVariables false
set_option maxRecDepth 100000
def lenOk (n : Int) (m : Nat) : Bool := !(decide (0 ≤ n) && !((m : Int) == n))
theorem Ext.alloc {C : Nat} {W : World} (u : Ext C W) (hC : C ≤ W.heap.size) (o : Obj) : ∃ u' : Ext C W, u.w.alloc o = u'.w :=
  ⟨⟨u.w.alloc o, u.below.alloc (Nat.le_trans hC u.below.size) o⟩, rfl⟩
theorem lenOk_neg (m : Nat) : lenOk (-1) m = true := by unfold lenOk; rw [decide_eq_false (by omega)]; rfl
theorem lenOk_nat (n m : Nat) : lenOk (n : Int) m = ((m : Int) == n) := by unfold lenOk; rw [decide_eq_true (by omega)]; cases ((m : Int) == n) <;> rfl
theorem lenOk_lit (n : Nat) (k : Int) (m : Nat) (h : k = n) : lenOk k m = ((m : Int) == k) := by rw [h]; exact lenOk_nat n m
theorem named_shape (op : Int) (nm : ByteArray) (v : Vt) (ns : List ByteArray) (az : List Ex) :
    namedB (.mk op nm v ns az) = ((shapeP (.mk op nm v ns az)).2 && (lenOk (shapeP (.mk op nm v ns az)).1 az.length && (!(op == 6) || ns.all keyB))) := by
 rw [namedB, shapeP]
 by_cases g1 : op = 1
 ·subst g1
  simp only [reduceIte, nf 1 2, nf 1 3, nf 1 4, nf 1 5, nf 1 6, nf 1 7, nf 1 8, nf 1 9, nf 1 11, nf 1 12, nf 1 10, nf 1 13, nf 1 14, nf 1 15, show (((1 : Int) == 6)) = false from by decide, Bool.not_true, Bool.not_false, Bool.true_or, Bool.false_or, Bool.and_true]
  rw [lenOk_lit 0 0 _ rfl]; cases (nm.toList == []) <;> cases ((az.length : Int) == 0) <;> cases litB v <;> rfl
 by_cases g2 : op = 2
 ·subst g2
  simp only [reduceIte, nf 2 1, nf 2 3, nf 2 4, nf 2 5, nf 2 6, nf 2 7, nf 2 8, nf 2 9, nf 2 11, nf 2 12, nf 2 10, nf 2 13, nf 2 14, nf 2 15, show (((2 : Int) == 6)) = false from by decide, Bool.not_true, Bool.not_false, Bool.true_or, Bool.false_or, Bool.and_true]
  rw [lenOk_lit 0 0 _ rfl]; cases ((az.length : Int) == 0) <;> cases plainB nm <;> rfl
 by_cases g3 : op = 3
 ·subst g3
  simp only [reduceIte, nf 3 1, nf 3 2, nf 3 4, nf 3 5, nf 3 6, nf 3 7, nf 3 8, nf 3 9, nf 3 11, nf 3 12, nf 3 10, nf 3 13, nf 3 14, nf 3 15, show (((3 : Int) == 6)) = false from by decide, Bool.not_true, Bool.not_false, Bool.true_or, Bool.false_or, Bool.and_true]
  rw [lenOk_lit 0 0 _ rfl]; cases ((az.length : Int) == 0) <;> cases plainB nm <;> rfl
 by_cases g4 : op = 4
 ·subst g4
  simp only [reduceIte, nf 4 1, nf 4 2, nf 4 3, nf 4 5, nf 4 6, nf 4 7, nf 4 8, nf 4 9, nf 4 11, nf 4 12, nf 4 10, nf 4 13, nf 4 14, nf 4 15, show (((4 : Int) == 6)) = false from by decide, Bool.not_true, Bool.not_false, Bool.true_or, Bool.false_or, Bool.and_true]
  rw [lenOk_lit 1 1 _ rfl]; cases ((az.length : Int) == 1) <;> cases keyB nm <;> rfl
 by_cases g15 : op = 15
 ·subst g15
  simp only [reduceIte, nf 15 1, nf 15 2, nf 15 3, nf 15 4, nf 15 5, nf 15 6, nf 15 7, nf 15 8, nf 15 9, nf 15 11, nf 15 12, nf 15 10, nf 15 13, nf 15 14, show (((15 : Int) == 6)) = false from by decide, Bool.not_true, Bool.not_false, Bool.true_or, Bool.false_or, Bool.and_true]
  rw [lenOk_lit 1 1 _ rfl]; cases ((az.length : Int) == 1) <;> cases keyB nm <;> cases (firstOp az == 2) <;> rfl
 by_cases g5 : op = 5
 ·subst g5
  simp only [reduceIte, nf 5 1, nf 5 2, nf 5 3, nf 5 4, nf 5 6, nf 5 7, nf 5 8, nf 5 9, nf 5 11, nf 5 12, nf 5 10, nf 5 13, nf 5 14, nf 5 15, show (((5 : Int) == 6)) = false from by decide, Bool.not_true, Bool.not_false, Bool.true_or, Bool.false_or, Bool.and_true]
  rw [lenOk_neg]; cases (nm.toList == []) <;> rfl
 by_cases g6 : op = 6
 ·subst g6
  simp only [reduceIte, nf 6 1, nf 6 2, nf 6 3, nf 6 4, nf 6 5, nf 6 7, nf 6 8, nf 6 9, nf 6 11, nf 6 12, nf 6 10, nf 6 13, nf 6 14, nf 6 15, show (((6 : Int) == 6)) = true from by decide, Bool.not_true, Bool.not_false, Bool.true_or, Bool.false_or, Bool.and_true]
  rw [lenOk_nat]; cases (nm.toList == []) <;> cases ((az.length : Int) == ns.length) <;> cases ns.all keyB <;> rfl
 by_cases g7 : op = 7
 ·subst g7
  simp only [reduceIte, nf 7 1, nf 7 2, nf 7 3, nf 7 4, nf 7 5, nf 7 6, nf 7 8, nf 7 9, nf 7 11, nf 7 12, nf 7 10, nf 7 13, nf 7 14, nf 7 15, show (((7 : Int) == 6)) = false from by decide, Bool.not_true, Bool.not_false, Bool.true_or, Bool.false_or, Bool.and_true]
  rw [lenOk_lit 2 2 _ rfl]
 by_cases g8 : op = 8
 ·subst g8
  simp only [reduceIte, nf 8 1, nf 8 2, nf 8 3, nf 8 4, nf 8 5, nf 8 6, nf 8 7, nf 8 9, nf 8 11, nf 8 12, nf 8 10, nf 8 13, nf 8 14, nf 8 15, show (((8 : Int) == 6)) = false from by decide, Bool.not_true, Bool.not_false, Bool.true_or, Bool.false_or, Bool.and_true]
  rw [lenOk_lit 1 1 _ rfl]
 by_cases g9 : op = 9
 ·subst g9
  simp only [reduceIte, nf 9 1, nf 9 2, nf 9 3, nf 9 4, nf 9 5, nf 9 6, nf 9 7, nf 9 8, nf 9 11, nf 9 12, nf 9 10, nf 9 13, nf 9 14, nf 9 15, show (((9 : Int) == 6)) = false from by decide, Bool.not_true, Bool.not_false, Bool.true_or, Bool.false_or, Bool.and_true]
  rw [lenOk_lit 1 1 _ rfl]
 by_cases g11 : op = 11
 ·subst g11
  simp only [reduceIte, nf 11 1, nf 11 2, nf 11 3, nf 11 4, nf 11 5, nf 11 6, nf 11 7, nf 11 8, nf 11 9, nf 11 12, nf 11 10, nf 11 13, nf 11 14, nf 11 15, show (((11 : Int) == 6)) = false from by decide, Bool.not_true, Bool.not_false, Bool.true_or, Bool.false_or, Bool.and_true]
  rw [lenOk_lit 1 1 _ rfl]
 by_cases g12 : op = 12
 ·subst g12
  simp only [reduceIte, nf 12 1, nf 12 2, nf 12 3, nf 12 4, nf 12 5, nf 12 6, nf 12 7, nf 12 8, nf 12 9, nf 12 11, nf 12 10, nf 12 13, nf 12 14, nf 12 15, show (((12 : Int) == 6)) = false from by decide, Bool.not_true, Bool.not_false, Bool.true_or, Bool.false_or, Bool.and_true]
  rw [lenOk_lit 1 1 _ rfl]
 by_cases g10 : op = 10
 ·subst g10
  simp only [reduceIte, nf 10 1, nf 10 2, nf 10 3, nf 10 4, nf 10 5, nf 10 6, nf 10 7, nf 10 8, nf 10 9, nf 10 11, nf 10 12, nf 10 13, nf 10 14, nf 10 15, show (((10 : Int) == 6)) = false from by decide, Bool.not_true, Bool.not_false, Bool.true_or, Bool.false_or, Bool.and_true]
  rw [lenOk_lit 2 2 _ rfl]; cases ((az.length : Int) == 2) <;> cases decide (0 < levelB nm) <;> rfl
 by_cases g13 : op = 13
 ·subst g13
  simp only [reduceIte, nf 13 1, nf 13 2, nf 13 3, nf 13 4, nf 13 5, nf 13 6, nf 13 7, nf 13 8, nf 13 9, nf 13 11, nf 13 12, nf 13 10, nf 13 14, nf 13 15, show (((13 : Int) == 6)) = false from by decide, Bool.not_true, Bool.not_false, Bool.true_or, Bool.false_or, Bool.and_true]
  rw [lenOk_neg, Bool.and_true]
 by_cases g14 : op = 14
 ·subst g14
  simp only [reduceIte, nf 14 1, nf 14 2, nf 14 3, nf 14 4, nf 14 5, nf 14 6, nf 14 7, nf 14 8, nf 14 9, nf 14 11, nf 14 12, nf 14 10, nf 14 13, nf 14 15, show (((14 : Int) == 6)) = false from by decide, Bool.not_true, Bool.not_false, Bool.true_or, Bool.false_or, Bool.and_true]
  by_cases h0 : az.length = 0
  ·rw [if_pos h0, h0, lenOk_lit 0 0 _ rfl]; cases (nm.toList == [99, 111, 117, 110, 116]) <;> simp
  ·rw [if_neg h0, lenOk_lit 1 1 _ rfl, show ((az.length : Int) == 0) = false from by simp; intro h; exact h0 (by simp [h])]; cases ((az.length : Int) == 1) <;> cases aggB nm <;> rfl
 simp only [eq_false g1, eq_false g2, eq_false g3, eq_false g4, eq_false g15, eq_false g5, eq_false g6, eq_false g7, eq_false g8, eq_false g9, eq_false g11, eq_false g12, eq_false g10, eq_false g13, eq_false g14, if_false, Bool.false_and]
theorem deep_shape (d : Nat) (op : Int) (nm : ByteArray) (v : Vt) (ns : List ByteArray) (az : List Ex) :
    deepB (d + 1) (.mk op nm v ns az) = ((((shapeP (.mk op nm v ns az)).2 && lenOk (shapeP (.mk op nm v ns az)).1 az.length) && (((op == 1) || sameV v emptyV) && ((op == 6) || decide (ns.length = 0)))) && (ns.all keyB && az.all (deepB d))) := by
 rw [deepB, ownB, named_shape]
 by_cases h6 : (op == 6) = true
 ·rw [h6]
  cases (shapeP (.mk op nm v ns az)).2 <;> cases lenOk (shapeP (.mk op nm v ns az)).1 az.length <;> cases ns.all keyB <;> cases ((op == 1) || sameV v emptyV) <;> simp
 ·have h6' : (op == 6) = false := by simpa using h6
  rw [h6']
  by_cases hz : ns.length = 0
  ·have : ns = [] := List.eq_nil_of_length_eq_zero hz
   subst this
   simp
  ·rw [decide_eq_false hz]; simp
def RightSaid (d : Nat) : Prop := ∀ (t : Ex) (cs : List Value) (B : Nat) (w : World) (D : Int), D = d → IsX B w cs t → B ≤ w.heap.size → ML w → wtX t ≤ 1099511627776 → d ≤ 1000 →
  Calls Tryz.prog 34 #[.agg cs.toArray, .int .i64 D] w fun e w' => e = .returned (.bool (deepB d t)) ∧ Below w.heap.size w w'
set_option maxHeartbeats 16000000 in
theorem right_zero : RightSaid 0 := by
 intro t cs B w D hD hX hB hML hw hd
 have hX0 := hX
 obtain ⟨op, nm, v, ns, az⟩ := t
 obtain ⟨k, b, i, s, l, ks, la, lc, ka, kc, na, nc, xa, xc, hv, rfl, hop, hV, hNA, hXA, hNS, hAZ⟩ := hX.cells
 clear hX
 have hn0 : ns.length ≤ 1099511627776 := by have := wtS_len ns; simp only [wtX] at hw; omega
 have hm0 : az.length ≤ 1099511627776 := by have := wtXs_len az; simp only [wtX] at hw; omega
 have hks0 : wtS ns ≤ 1099511627776 := by simp only [wtX] at hw; omega
 obtain ⟨p1, hp1⟩ := nam ((shapeP (.mk op nm v ns az)).1)
 obtain ⟨p2, hp2⟩ := nam ((shapeP (.mk op nm v ns az)).2)
 obtain ⟨m, hm⟩ := nam az.length
 obtain ⟨n, hn⟩ := nam ns.length
 rw [hm] at hX0 hm0 ⊢
 rw [hn] at hX0 hn0 ⊢
 have HM := Lib.hid hm
 have HN := Lib.hid hn
 obtain ⟨W0, u0, hW0, hu0, hsz, hbe, hce⟩ := box_ext w [.int .i64 op, .string nm, .int .i64 k, .bool b, .int .i64 i, .string s, .slice la l.length lc, .slice ka ks.length kc, .slice na n nc, .slice xa m xc] 36
 obtain ⟨e0, e1, e2, e3, e4, e5, e6, e7, e8, e9⟩ := ce10 hce
 obtain ⟨x0, x1, x2, x3, x4, x5, x6, x7, x8, x9⟩ := cx10 hce u0
 rw [← hu0, ← hW0] at x0 x1 x2 x3 x4 x5 x6 x7 x8 x9
 have HSH := Lib.hid (fun u : Ext (w.heap.size + 1) W0 => ext_call u hsz (shape_any _ _ B u.w (IsX.below (hbe u) hB _ _ hX0) (Nat.le_trans hB (hbe u).size) (hML.below (hbe u)) hw))
 rw [hp1, hp2] at HSH
 clear hp1 hp2
 obtain ⟨HBE, HW0, HU0, HSZ⟩ := hd4 hbe hW0 hu0 hsz
 have hd1 : D < 1 := by omega
 clear hbe hW0 hu0 hsz hce hNS hm hn hv hV hNA hXA hAZ hX0 hD hw hop
 cases p2 <;>
 · go_enter Tryz.func34, Tryz.ntmps34
   go_wp2_with (go_at_call 82; (try rw [HW0.out, HU0.out]); refine (HSH.out _).mono ?_; rintro e w2 ⟨rfl, u2, rfl⟩)
   go_ret
   exact ⟨by rfl, HBE.out _⟩
theorem Se365739 {P : Prop} (h : P := by
 first
 |(
  guard_hyp z365739a
  have hl : 0 ≤ p1 ∧ ¬ (m : Int) = p1 := by have h := HCL.out; unfold lenOk at h; simp at h; exact ⟨h.1, h.2⟩
  obtain ⟨hl1, hl2⟩ := hl
  have hl3 : ((m : Int) != p1) = true := by simp [hl2]
  have hl4 : ((m : Int) == p1) = false := by simp [hl2]
  clear hl2)
 | skip
 have hqq : q = false := by rw [← HQ.out]; simp
 subst hqq
 clear HQ
 go_enter Tryz.func34, Tryz.ntmps34
 go_wp2_with (first | (go_at_call 82; (try rw [HW0.out, HU0.out]); refine (HSH.out _).mono ?_; rintro e w2 ⟨rfl, u2, rfl⟩) | (go_at_call 83; refine (HSM.out _).mono ?_; rintro e w2 ⟨rfl, u3, rfl⟩))
 go_ret
 exact ⟨by rfl, HBE.out _⟩) : P := h
theorem Se502647 {P : Prop} (h : P := by
 first
 |(
  guard_hyp z502647a
  have hl3 : ((m : Int) != p1) = false := by simp [hl2]
  have hl4 : ((m : Int) == p1) = true := by simp [hl2]
  clear hl2)
 | skip
 cases c1 with
 | false =>
  cases b2 with
  | false =>
   exact Se294671
  | true =>
   exact Se917744
 | true =>
  exact Se917744) : P := h
theorem Se294671 {P : Prop} (h : P := by
 first
 |(
  guard_hyp z294671a
  have hn2 : 0 < n := by have h := HCN.out; simp at h; omega
  have hn1 : (0 : Int) < n := by omega)
 | skip
 have hqq : q = false := by rw [← HQ.out]; simp
 subst hqq
 clear HQ
 go_enter Tryz.func34, Tryz.ntmps34
 go_wp2_with (first | (go_at_call 82; (try rw [HW0.out, HU0.out]); refine (HSH.out _).mono ?_; rintro e w2 ⟨rfl, u2, rfl⟩) | (go_at_call 83; refine (HSM.out _).mono ?_; rintro e w2 ⟨rfl, u3, rfl⟩))
 go_ret
 exact ⟨by rfl, HBE.out _⟩) : P := h
theorem Se917744 {P : Prop} (h : P := by
 cases c6 with
 | false =>
  cases cn with
  | false =>
   have z294671a := trivial
   exact Se294671
  | true =>
   have z831970a := trivial
   exact Se831970
 | true =>
  exact Se831970) : P := h
theorem Se831970 {P : Prop} (h : P := by
 first
 |(
  guard_hyp z831970a
  have hn2 : ¬ 0 < n := by have h := HCN.out; simp at h; omega
  have hn1 : ¬ (0 : Int) < n := by omega)
 | skip
 have HQ2 : Hid ((ns.all keyB && az.all (deepB d)) = q) := Lib.hid (by have h := HQ.out; simpa using h)
 clear HQ
 go_enter Tryz.func34, Tryz.ntmps34
 go_wp2_with (first | (go_at_call 82; (try rw [HW0.out, HU0.out]); refine (HSH.out _).mono ?_; rintro e w2 ⟨rfl, u2, rfl⟩) | (go_at_call 83; refine (HSM.out _).mono ?_; rintro e w2 ⟨rfl, u3, rfl⟩))
 go_loopw [59] (fun iv wr => ∃ (j : Nat) (u : Ext (w.heap.size + 1) W0), iv = .int .i64 j ∧ j ≤ n ∧ Hid (∀ (i : Nat) x, i < j → ns[i]? = some x → keyB x = true) ∧ wr = u.w) (fun iv _ => n - (intOf iv).toNat)
 case atStart => exact ⟨0, _, rfl, Nat.zero_le _, Lib.hid (fun i x hi => by omega), rfl⟩
 case round =>
  obtain ⟨j, u, rfl, hj, HALL, rfl⟩ := hrel
  by_cases hlt : j < n
  ·have hlt' : (j : Int) < n := by omega
   have hj0 : (0 : Int) ≤ (j : Int) := by omega
   have hwi : IntKind.i64.wrap ((j : Int) + 1) = (j : Int) + 1 := IntWalk.i64_in _ (by omega)
   obtain ⟨x, hx⟩ := get_some (l := ns) (j := j) (by have := HN.out; omega)
   obtain ⟨eb, eo, rfl, heb, hc⟩ := HNT.out j x hx
   have HK := Lib.hid (HKEY.out x (HNW.out j x hx))
   have HX := Lib.hid hx
   clear hx
   obtain ⟨c, hc2⟩ := nam (keyB x)
   rw [hc2] at HK
   have HC2 := Lib.hid hc2
   clear hc2
   cases c with
   | true =>
    go_wp2_with (go_at_call 84; refine (HK.out _).mono ?_; rintro e w2 ⟨rfl, u2, rfl⟩)
    go_roundw
    case rel => exact ⟨j + 1, u2, by go_num, by omega, Lib.hid (fun i y hi hy => (Nat.lt_or_ge i j).elim (fun h => HALL.out i y h hy) (fun h => by rw [show i = j from by omega, HX.out] at hy; rw [← Option.some.inj hy]; exact HC2.out)), rfl⟩
    case measure => simp [intOf]; omega
   | false =>
    have hqq : q = false := by rw [← HQ2.out, anyL_false HX.out HC2.out]; rfl
    go_wp2_with (go_at_call 84; refine (HK.out _).mono ?_; rintro e w2 ⟨rfl, u2, rfl⟩)
    go_ret
    exact ⟨by (try rw [hqq]); rfl, HBE.out u2⟩
  ·have hlt' : ¬ (j : Int) < n := by omega
   have hall : ns.all keyB = true := allL_true (fun i x hx => HALL.out i x (by have := (List.getElem?_eq_some_iff.1 hx).1; have := HN.out; omega) hx)
   have HQ3 : Hid (az.all (deepB d) = q) := Lib.hid (by have h := HQ2.out; rw [hall, Bool.true_and] at h; exact h)
   clear hall HQ2
   go_wp2_with fail
   go_loopw [70] (fun iv wr => ∃ (j : Nat) (u : Ext (w.heap.size + 1) W0), iv = .int .i64 j ∧ j ≤ m ∧ Hid (∀ (i : Nat) x, i < j → az[i]? = some x → deepB d x = true) ∧ wr = u.w) (fun iv _ => m - (intOf iv).toNat)
   case atStart => exact ⟨0, _, rfl, Nat.zero_le _, Lib.hid (fun i x hi => by omega), rfl⟩
   case round =>
    obtain ⟨j, u, rfl, hj, HALL, rfl⟩ := hrel
    by_cases hlt : j < m
    ·have hlt' : (j : Int) < m := by omega
     have hj0 : (0 : Int) ≤ (j : Int) := by omega
     have hwi : IntKind.i64.wrap ((j : Int) + 1) = (j : Int) + 1 := IntWalk.i64_in _ (by omega)
     obtain ⟨t2, ht2⟩ := get_some (l := az) (j := j) (by have := HM.out; omega)
     obtain ⟨eb, eo, cs2, rfl, heb, hcs, hx2⟩ := HAT.out j t2 ht2
     have HIH2 := Lib.hid (fun u => HIH.out t2 cs2 u (hx2 u) (HWT.out j t2 ht2))
     have HT2 := Lib.hid ht2
     obtain ⟨r, hr⟩ := nam (deepB d t2)
     rw [hr] at HIH2
     have HR := Lib.hid hr
     obtain ⟨op2, nm2, v2, ns2, az2⟩ := t2
     obtain ⟨k2, bo2, i2, s2, l2, ks2, la2, lc2, ka2, kc2, na2, nc2, xa2, xc2, -, rfl, -⟩ := (hx2 u).cells
     have g0 : ∀ u : Ext (w.heap.size + 1) W0, u.w.cell? ⟨eb, eo + j * 10, none⟩ = some (.int .i64 op2) := fun u => hcs u 0 _ rfl
     obtain ⟨g1, g2, g3, g4, g5, g6, g7, g8, g9⟩ := cf9 hcs
     clear hcs hx2 hr ht2
     generalize l2.length = y1 at *
     generalize ks2.length = y2 at *
     generalize ns2.length = y3 at *
     generalize az2.length = y4 at *
     obtain ⟨u4, hu4⟩ := u.alloc HSZ.out (.cells #[.int .i64 op2, .string nm2, .int .i64 k2, .bool bo2, .int .i64 i2, .string s2, .slice la2 y1 lc2, .slice ka2 y2 kc2, .slice na2 y3 nc2, .slice xa2 y4 xc2] 36)
     have hbl : Block (u.w.alloc (.cells #[.int .i64 op2, .string nm2, .int .i64 k2, .bool bo2, .int .i64 i2, .string s2, .slice la2 y1 lc2, .slice ka2 y2 kc2, .slice na2 y3 nc2, .slice xa2 y4 xc2] 36)) u.w.heap.size [.int .i64 op2, .string nm2, .int .i64 k2, .bool bo2, .int .i64 i2, .string s2, .slice la2 y1 lc2, .slice ka2 y2 kc2, .slice na2 y3 nc2, .slice xa2 y4 xc2] 36 := Block.new _ _ _
     have z0 := hbl.cell (i := 0) rfl
     have z1 := hbl.cell (i := 1) rfl
     have z2 := hbl.cell (i := 2) rfl
     have z3 := hbl.cell (i := 3) rfl
     have z4 := hbl.cell (i := 4) rfl
     have z5 := hbl.cell (i := 5) rfl
     have z6 := hbl.cell (i := 6) rfl
     have z7 := hbl.cell (i := 7) rfl
     have z8 := hbl.cell (i := 8) rfl
     have z9 := hbl.cell (i := 9) rfl
     clear hbl
     have HU4 := Lib.hid hu4
     clear hu4
     cases r with
     | true =>
      go_wp2_with (go_at_call 34; rw [HU4.out]; refine (HIH2.out _).mono ?_; rintro e w2 ⟨rfl, u2, rfl⟩)
      go_roundw
      case rel => exact ⟨j + 1, u2, by go_num, by omega, Lib.hid (fun i y hi hy => (Nat.lt_or_ge i j).elim (fun h => HALL.out i y h hy) (fun h => by rw [show i = j from by omega, HT2.out] at hy; rw [← Option.some.inj hy]; exact HR.out)), rfl⟩
      case measure => simp [intOf]; omega
     | false =>
      have hqq : q = false := by rw [← HQ3.out, anyL_false HT2.out HR.out]
      go_wp2_with (go_at_call 34; rw [HU4.out]; refine (HIH2.out _).mono ?_; rintro e w2 ⟨rfl, u2, rfl⟩)
      go_ret
      exact ⟨by (try rw [hqq]); rfl, HBE.out u2⟩
    ·have hlt' : ¬ (j : Int) < m := by omega
     have hqq : q = true := by rw [← HQ3.out]; exact allL_true (fun i x hx => HALL.out i x (by have := (List.getElem?_eq_some_iff.1 hx).1; have := HM.out; omega) hx)
     go_wp2_with fail
     go_ret
     exact ⟨by (try rw [hqq]); rfl, HBE.out u⟩) : P := h
set_option maxHeartbeats 32000000 in
theorem right_succ (d : Nat) (ih : RightSaid d) : RightSaid (d + 1) := by
 intro t cs B w D hD hX hB hML hw hd
 have hX0 := hX
 obtain ⟨op, nm, v, ns, az⟩ := t
 obtain ⟨k, b, i, s, l, ks, la, lc, ka, kc, na, nc, xa, xc, hv, rfl, hop, hV, hNA, hXA, hNS, hAZ⟩ := hX.cells
 clear hX
 have hn0 : ns.length ≤ 1099511627776 := by have := wtS_len ns; simp only [wtX] at hw; omega
 have hm0 : az.length ≤ 1099511627776 := by have := wtXs_len az; simp only [wtX] at hw; omega
 have hks0 : wtS ns ≤ 1099511627776 := by simp only [wtX] at hw; omega
 have HWT : Hid (∀ (j : Nat) (t : Ex), az[j]? = some t → wtX t ≤ 1099511627776) := Lib.hid (fun j t h => by have := wtX_args (op := op) (nm := nm) (v := v) (ns := ns) h; omega)
 obtain ⟨q, hq⟩ := nam (deepB (d + 1) (.mk op nm v ns az))
 rw [hq]
 rw [deep_shape] at hq
 obtain ⟨p1, hp1⟩ := nam ((shapeP (.mk op nm v ns az)).1)
 obtain ⟨p2, hp2⟩ := nam ((shapeP (.mk op nm v ns az)).2)
 obtain ⟨c1, h1⟩ := nam ((op == 1))
 obtain ⟨b2, h2⟩ := nam (sameV v emptyV)
 obtain ⟨c6, h6⟩ := nam ((op == 6))
 rw [hp1, hp2, h1, h2, h6] at hq
 obtain ⟨m, hm⟩ := nam az.length
 obtain ⟨n, hn⟩ := nam ns.length
 rw [hm] at hX0 hm0 hq ⊢
 rw [hn] at hX0 hn0 hq ⊢
 obtain ⟨HM, HN, HQ⟩ := hd3 hm hn hq
 obtain ⟨W0, u0, hW0, hu0, hsz, hbe, hce⟩ := box_ext w [.int .i64 op, .string nm, .int .i64 k, .bool b, .int .i64 i, .string s, .slice la l.length lc, .slice ka ks.length kc, .slice na n nc, .slice xa m xc] 36
 obtain ⟨e0, e1, e2, e3, e4, e5, e6, e7, e8, e9⟩ := ce10 hce
 obtain ⟨x0, x1, x2, x3, x4, x5, x6, x7, x8, x9⟩ := cx10 hce u0
 rw [← hu0, ← hW0] at x0 x1 x2 x3 x4 x5 x6 x7 x8 x9
 have HSH := Lib.hid (fun u : Ext (w.heap.size + 1) W0 => ext_call u hsz (shape_any _ _ B u.w (IsX.below (hbe u) hB _ _ hX0) (Nat.le_trans hB (hbe u).size) (hML.below (hbe u)) hw))
 rw [hp1, hp2] at HSH
 clear hp1 hp2
 obtain ⟨HBE, HW0, HU0, HSZ⟩ := hd4 hbe hW0 hu0 hsz
 have HSM := Lib.hid (fun u : Ext (w.heap.size + 1) W0 => ext_call u hsz (psame_any v emptyV _ zeroC B u.w (IsV.below (hbe u) hB _ _ hV) (empty_isV _ _) (Nat.le_trans hB (hbe u).size)))
 rw [h2] at HSM
 have HIH := Lib.hid (fun (t : Ex) (cs : List Value) (u : Ext (w.heap.size + 1) W0) (h : IsX B u.w cs t) (hw : wtX t ≤ 1099511627776) => ext_call u hsz (ih t cs B u.w d rfl h (Nat.le_trans hB (hbe u).size) (hML.below (hbe u)) hw (by omega)))
 have HAT : Hid (∀ (j : Nat) t, az[j]? = some t → ∃ b off cs, xa = some ⟨b, off, none⟩ ∧ b < B ∧ (∀ (u : Ext (w.heap.size + 1) W0) (q : Nat) v, cs[q]? = some v → u.w.cell? ⟨b, off + j * 10 + q, none⟩ = some v) ∧ ∀ u : Ext (w.heap.size + 1) W0, IsX B u.w cs t) := Lib.hid (fun j t ht => hAZ.at_ext hB hbe ht)
 have HNT : Hid (∀ (j : Nat) x, ns[j]? = some x → ∃ b off, na = some ⟨b, off, none⟩ ∧ b < B ∧ ∀ u : Ext (w.heap.size + 1) W0, u.w.cell? ⟨b, off + j, none⟩ = some (.string x)) := Lib.hid (fun j x hx => hNS.at_ext hB hbe hx)
 have HNW : Hid (∀ (j : Nat) (x : ByteArray), ns[j]? = some x → x.size ≤ 1099511627776) := Lib.hid (fun j x h => by have := wtS_get h; omega)
 have HKEY := Lib.hid (fun (x : ByteArray) (hx : x.size ≤ 1099511627776) (u : Ext (w.heap.size + 1) W0) => ext_call0 u (skeyB_any x u.w hx))
 have hd1 : ¬ D < 1 := by omega
 have hd2 : IntKind.i64.wrap (D - 1) = (d : Int) := by rw [IntWalk.i64_in _ (by omega)]; omega
 have h1' : (op != 1) = !c1 := by rw [← h1]; rfl
 have h6' : (op != 6) = !c6 := by rw [← h6]; rfl
 clear hbe hW0 hu0 hsz hce hNS hm hn hv hq hV hNA hXA hAZ hX0 ih h2 hD hw hop
 obtain ⟨cn, hcn⟩ := nam (decide (n = 0))
 rw [hcn] at HQ
 have HCN := Lib.hid hcn
 clear hcn
 obtain ⟨cl, hcl⟩ := nam (lenOk p1 m)
 rw [hcl] at HQ
 have HCL := Lib.hid hcl
 clear hcl
 cases p2 with
 | false =>
  exact Se365739
 | true =>
  cases cl with
  | false =>
   have z365739a := trivial
   exact Se365739
  | true =>
   have hl : ¬ 0 ≤ p1 ∨ (0 ≤ p1 ∧ (m : Int) = p1) := by have h := HCL.out; unfold lenOk at h; simp at h; omega
   rcases hl with hl1 | ⟨hl1, hl2⟩
   ·exact Se502647
   ·have z502647a := trivial
    exact Se502647
theorem right_any (d : Nat) : RightSaid d := by
 induction d with
 | zero => exact right_zero
 | succ d ih => exact right_succ d ih
end Go.Proofs.YtndhpdclpgemfaaGreat

/- Parts X12, X55, X14, X18, X19 of this seat (pruned, scripts that are alike kept once as default arguments: q1, q2, ..). Conditions: each says its own. -/
import Derived.Test.YteljlahcdipilaaGreatG16
set_option linter.unusedSimpArgs false
set_option linter.unusedVariables false
set_option maxRecDepth 1000000
set_option maxHeartbeats 64000000
namespace Go.Proofs.YteljlahcdipilaaGreat
open Go.RowKit
def gR (n : Int) (m : Nat) : Bool := !(decide (0 <= n) && !((m : Int) == n))
theorem aq.alloc {C : Nat} {W : World} (u : aq C W) (hC : C <= W.heap.size) (o : Obj) : ∃ u' : aq C W, u.w.alloc o = u'.w :=
  ⟨⟨u.w.alloc o, u.below.alloc (Nat.le_trans hC u.below.size) o⟩, rfl⟩
theorem mn (m : Nat) : gR (-1) m = true := by unfold gR; rw [decide_eq_false (by omega)]; rfl
theorem mq (n m : Nat) : gR (n : Int) m = ((m : Int) == n) := by unfold gR; rw [decide_eq_true (by omega)]; cases ((m : Int) == n) <;> rfl
theorem cK (n : Nat) (k : Int) (m : Nat) (h : k = n) : gR k m = ((m : Int) == k) := by rw [h]; exact mq n m
theorem pi (op : Int) (nm : ByteArray) (v : Vt) (ns : List ByteArray) (az : List Ex) :
    qN (.mk op nm v ns az) = ((aO (.mk op nm v ns az)).2 && (gR (aO (.mk op nm v ns az)).1 az.length && (!(op == 6) || ns.all ci))) := by
 rw [qN, aO]
 by_cases g1 : op = 1
 ·subst g1;simp only [reduceIte, nf 1 2, nf 1 3, nf 1 4, nf 1 5, nf 1 6, nf 1 7, nf 1 8, nf 1 9, nf 1 11, nf 1 12, nf 1 10, nf 1 13, nf 1 14, nf 1 15, show (((1 : Int) == 6)) = false from by decide, Bool.not_true, Bool.not_false, Bool.true_or, Bool.false_or, Bool.and_true];rw [cK 0 0 _ rfl]; cases (nm.toList == []) <;> cases ((az.length : Int) == 0) <;> cases qM v <;> rfl
 by_cases g2 : op = 2
 ·subst g2;simp only [reduceIte, nf 2 1, nf 2 3, nf 2 4, nf 2 5, nf 2 6, nf 2 7, nf 2 8, nf 2 9, nf 2 11, nf 2 12, nf 2 10, nf 2 13, nf 2 14, nf 2 15, show (((2 : Int) == 6)) = false from by decide, Bool.not_true, Bool.not_false, Bool.true_or, Bool.false_or, Bool.and_true];rw [cK 0 0 _ rfl]; cases ((az.length : Int) == 0) <;> cases cw nm <;> rfl
 by_cases g3 : op = 3
 ·subst g3;simp only [reduceIte, nf 3 1, nf 3 2, nf 3 4, nf 3 5, nf 3 6, nf 3 7, nf 3 8, nf 3 9, nf 3 11, nf 3 12, nf 3 10, nf 3 13, nf 3 14, nf 3 15, show (((3 : Int) == 6)) = false from by decide, Bool.not_true, Bool.not_false, Bool.true_or, Bool.false_or, Bool.and_true];rw [cK 0 0 _ rfl]; cases ((az.length : Int) == 0) <;> cases cw nm <;> rfl
 by_cases g4 : op = 4
 ·subst g4;simp only [reduceIte, nf 4 1, nf 4 2, nf 4 3, nf 4 5, nf 4 6, nf 4 7, nf 4 8, nf 4 9, nf 4 11, nf 4 12, nf 4 10, nf 4 13, nf 4 14, nf 4 15, show (((4 : Int) == 6)) = false from by decide, Bool.not_true, Bool.not_false, Bool.true_or, Bool.false_or, Bool.and_true];rw [cK 1 1 _ rfl]; cases ((az.length : Int) == 1) <;> cases ci nm <;> rfl
 by_cases g15 : op = 15
 ·subst g15;simp only [reduceIte, nf 15 1, nf 15 2, nf 15 3, nf 15 4, nf 15 5, nf 15 6, nf 15 7, nf 15 8, nf 15 9, nf 15 11, nf 15 12, nf 15 10, nf 15 13, nf 15 14, show (((15 : Int) == 6)) = false from by decide, Bool.not_true, Bool.not_false, Bool.true_or, Bool.false_or, Bool.and_true];rw [cK 1 1 _ rfl]; cases ((az.length : Int) == 1) <;> cases ci nm <;> cases (jl az == 2) <;> rfl
 by_cases g5 : op = 5
 ·subst g5;simp only [reduceIte, nf 5 1, nf 5 2, nf 5 3, nf 5 4, nf 5 6, nf 5 7, nf 5 8, nf 5 9, nf 5 11, nf 5 12, nf 5 10, nf 5 13, nf 5 14, nf 5 15, show (((5 : Int) == 6)) = false from by decide, Bool.not_true, Bool.not_false, Bool.true_or, Bool.false_or, Bool.and_true];rw [mn]; cases (nm.toList == []) <;> rfl
 by_cases g6 : op = 6
 ·subst g6;simp only [reduceIte, nf 6 1, nf 6 2, nf 6 3, nf 6 4, nf 6 5, nf 6 7, nf 6 8, nf 6 9, nf 6 11, nf 6 12, nf 6 10, nf 6 13, nf 6 14, nf 6 15, show (((6 : Int) == 6)) = true from by decide, Bool.not_true, Bool.not_false, Bool.true_or, Bool.false_or, Bool.and_true];rw [mq]; cases (nm.toList == []) <;> cases ((az.length : Int) == ns.length) <;> cases ns.all ci <;> rfl
 by_cases g7 : op = 7
 ·subst g7;simp only [reduceIte, nf 7 1, nf 7 2, nf 7 3, nf 7 4, nf 7 5, nf 7 6, nf 7 8, nf 7 9, nf 7 11, nf 7 12, nf 7 10, nf 7 13, nf 7 14, nf 7 15, show (((7 : Int) == 6)) = false from by decide, Bool.not_true, Bool.not_false, Bool.true_or, Bool.false_or, Bool.and_true];rw [cK 2 2 _ rfl]
 by_cases g8 : op = 8
 ·subst g8;simp only [reduceIte, nf 8 1, nf 8 2, nf 8 3, nf 8 4, nf 8 5, nf 8 6, nf 8 7, nf 8 9, nf 8 11, nf 8 12, nf 8 10, nf 8 13, nf 8 14, nf 8 15, show (((8 : Int) == 6)) = false from by decide, Bool.not_true, Bool.not_false, Bool.true_or, Bool.false_or, Bool.and_true];rw [cK 1 1 _ rfl]
 by_cases g9 : op = 9
 ·subst g9;simp only [reduceIte, nf 9 1, nf 9 2, nf 9 3, nf 9 4, nf 9 5, nf 9 6, nf 9 7, nf 9 8, nf 9 11, nf 9 12, nf 9 10, nf 9 13, nf 9 14, nf 9 15, show (((9 : Int) == 6)) = false from by decide, Bool.not_true, Bool.not_false, Bool.true_or, Bool.false_or, Bool.and_true];rw [cK 1 1 _ rfl]
 by_cases g11 : op = 11
 ·subst g11;simp only [reduceIte, nf 11 1, nf 11 2, nf 11 3, nf 11 4, nf 11 5, nf 11 6, nf 11 7, nf 11 8, nf 11 9, nf 11 12, nf 11 10, nf 11 13, nf 11 14, nf 11 15, show (((11 : Int) == 6)) = false from by decide, Bool.not_true, Bool.not_false, Bool.true_or, Bool.false_or, Bool.and_true];rw [cK 1 1 _ rfl]
 by_cases g12 : op = 12
 ·subst g12;simp only [reduceIte, nf 12 1, nf 12 2, nf 12 3, nf 12 4, nf 12 5, nf 12 6, nf 12 7, nf 12 8, nf 12 9, nf 12 11, nf 12 10, nf 12 13, nf 12 14, nf 12 15, show (((12 : Int) == 6)) = false from by decide, Bool.not_true, Bool.not_false, Bool.true_or, Bool.false_or, Bool.and_true];rw [cK 1 1 _ rfl]
 by_cases g10 : op = 10
 ·subst g10;simp only [reduceIte, nf 10 1, nf 10 2, nf 10 3, nf 10 4, nf 10 5, nf 10 6, nf 10 7, nf 10 8, nf 10 9, nf 10 11, nf 10 12, nf 10 13, nf 10 14, nf 10 15, show (((10 : Int) == 6)) = false from by decide, Bool.not_true, Bool.not_false, Bool.true_or, Bool.false_or, Bool.and_true];rw [cK 2 2 _ rfl]; cases ((az.length : Int) == 2) <;> cases decide (0 < eQ nm) <;> rfl
 by_cases g13 : op = 13
 ·subst g13;simp only [reduceIte, nf 13 1, nf 13 2, nf 13 3, nf 13 4, nf 13 5, nf 13 6, nf 13 7, nf 13 8, nf 13 9, nf 13 11, nf 13 12, nf 13 10, nf 13 14, nf 13 15, show (((13 : Int) == 6)) = false from by decide, Bool.not_true, Bool.not_false, Bool.true_or, Bool.false_or, Bool.and_true];rw [mn, Bool.and_true]
 by_cases g14 : op = 14
 ·subst g14;simp only [reduceIte, nf 14 1, nf 14 2, nf 14 3, nf 14 4, nf 14 5, nf 14 6, nf 14 7, nf 14 8, nf 14 9, nf 14 11, nf 14 12, nf 14 10, nf 14 13, nf 14 15, show (((14 : Int) == 6)) = false from by decide, Bool.not_true, Bool.not_false, Bool.true_or, Bool.false_or, Bool.and_true]
  by_cases h0 : az.length = 0
  ·rw [if_pos h0, h0, cK 0 0 _ rfl]; cases (nm.toList == [99, 111, 117, 110, 116]) <;> simp
  ·rw [if_neg h0, cK 1 1 _ rfl, show ((az.length : Int) == 0) = false from by simp; intro h; exact h0 (by simp [h])]; cases ((az.length : Int) == 1) <;> cases eR nm <;> rfl
 simp only [eq_false g1, eq_false g2, eq_false g3, eq_false g4, eq_false g15, eq_false g5, eq_false g6, eq_false g7, eq_false g8, eq_false g9, eq_false g11, eq_false g12, eq_false g10, eq_false g13, eq_false g14, if_false, Bool.false_and]
theorem qV (d : Nat) (op : Int) (nm : ByteArray) (v : Vt) (ns : List ByteArray) (az : List Ex) :
    bD (d + 1) (.mk op nm v ns az) = ((((aO (.mk op nm v ns az)).2 && gR (aO (.mk op nm v ns az)).1 az.length) && (((op == 1) || dV v cQ) && ((op == 6) || decide (ns.length = 0)))) && (ns.all ci && az.all (bD d))) := by
 rw [bD, BB, pi]
 by_cases h6 : (op == 6) = true
 ·rw [h6];cases (aO (.mk op nm v ns az)).2 <;> cases gR (aO (.mk op nm v ns az)).1 az.length <;> cases ns.all ci <;> cases ((op == 1) || dV v cQ) <;> simp
 ·have h6' : (op == 6) = false := by simpa using h6
  rw [h6']
  by_cases hz : ns.length = 0
  ·have : ns = [] := List.eq_nil_of_length_eq_zero hz;subst this;simp
  ·rw [decide_eq_false hz]; simp
def ij (d : Nat) : Prop := ∀ (t : Ex) (cs : List Value) (B : Nat) (w : World) (D : Int), D = d -> bK B w cs t -> B <= w.heap.size -> ML w -> ee t <= 1099511627776 -> d <= 1000 ->
  Calls Tryz.prog 160 #[.agg cs.toArray, .int .i64 D] w fun e w' => e = .returned (.bool (bD d t)) /\ Below w.heap.size w w'
theorem qW : ij 0 := by
 intro t cs B w D hD hX hB hML hw hd;have hX0 := hX;obtain ⟨op, nm, v, ns, az⟩ := t;obtain ⟨k, b, i, s, l, ks, la, lc, ka, kc, na, nc, xa, xc, hv, rfl, hop, hV, hNA, hXA, hNS, hAZ⟩ := hX.cells;clear hX;have hn0 : ns.length <= 1099511627776 := by have := eG ns; simp only [ee] at hw; omega
 have hm0 : az.length <= 1099511627776 := by have := dI az; simp only [ee] at hw; omega
 have hks0 : ju ns <= 1099511627776 := by simp only [ee] at hw; omega
 obtain ⟨p1, hp1⟩ := nam ((aO (.mk op nm v ns az)).1);obtain ⟨p2, hp2⟩ := nam ((aO (.mk op nm v ns az)).2);obtain ⟨m, hm⟩ := nam az.length;obtain ⟨n, hn⟩ := nam ns.length;rw [hm] at hX0 hm0 ⊢;rw [hn] at hX0 hn0 ⊢;have HM := aa hm;have HN := aa hn;obtain ⟨W0, u0, hW0, hu0, hsz, hbe, hce⟩ := bg w [.int .i64 op, .string nm, .int .i64 k, .bool b, .int .i64 i, .string s, .slice la l.length lc, .slice ka ks.length kc, .slice na n nc, .slice xa m xc] 66;obtain ⟨e0, e1, e2, e3, e4, e5, e6, e7, e8, e9⟩ := ce10 hce;obtain ⟨x0, x1, x2, x3, x4, x5, x6, x7, x8, x9⟩ := cx10 hce u0;rw [<- hu0, <- hW0] at x0 x1 x2 x3 x4 x5 x6 x7 x8 x9;have HSH := aa (fun u : aq (w.heap.size + 1) W0 => aJ u hsz (ml _ _ B u.w (bK.below (hbe u) hB _ _ hX0) (Nat.le_trans hB (hbe u).size) (hML.below (hbe u)) hw));rw [hp1, hp2] at HSH;clear hp1 hp2;obtain ⟨HBE, HW0, HU0, HSZ⟩ := hd4 hbe hW0 hu0 hsz;have hd1 : D < 1 := by omega
 clear hbe hW0 hu0 hsz hce hNS hm hn hv hV hNA hXA hAZ hX0 hD hw hop;cases p2 <;>
 · go_enter Tryz.func160, Tryz.ntmps160
   go_wp2_with (go_at_call 163; (try rw [HW0.out, HU0.out]); refine (HSH.out _).mono ?_; rintro e w2 ⟨rfl, u2, rfl⟩);go_ret;exact ⟨by rfl, HBE.out _⟩
theorem Sq780022 {P : Prop} (h : P := by
 have z121478a := trivial;exact Sq121478) : P := h
theorem Sq121478 {P : Prop} (h : P := by
 first
 |(
  guard_hyp z121478a
  first
  |(
   guard_hyp z780022a
   have hl : 0 <= p1 /\ ¬ (m : Int) = p1 := by have h := HCL.out; unfold gR at h; simp at h; exact ⟨h.1, h.2⟩
   obtain ⟨hl1, hl2⟩ := hl;have hl3 : ((m : Int) != p1) = true := by simp [hl2]
   have hl4 : ((m : Int) == p1) = false := by simp [hl2]
   clear hl2)
  | skip)
 | skip
 have hqq : q = false := by rw [<- HQ.out]; simp
 subst hqq;clear HQ;go_enter Tryz.func160, Tryz.ntmps160;go_wp2_with (first | (go_at_call 163; (try rw [HW0.out, HU0.out]); refine (HSH.out _).mono ?_; rintro e w2 ⟨rfl, u2, rfl⟩) | (go_at_call 105; refine (HSM.out _).mono ?_; rintro e w2 ⟨rfl, u3, rfl⟩));go_ret;exact ⟨by rfl, HBE.out _⟩) : P := h
theorem Sq224305 {P : Prop} (h : P := by
 first
 |(
  guard_hyp z224305a
  have hl3 : ((m : Int) != p1) = false := by simp [hl2]
  have hl4 : ((m : Int) == p1) = true := by simp [hl2]
  clear hl2)
 | skip
 cases c1 with
 | false =>
  cases b2 with
  | false =>
   exact Sq121478
  | true =>
   exact Sq193263
 | true =>
  exact Sq193263) : P := h
theorem Sq193263 {P : Prop} (h : P := by
 cases c6 with
 | false =>
  cases cn with
  | false =>
   have hn2 : 0 < n := by have h := HCN.out; simp at h; omega
   have hn1 : (0 : Int) < n := by omega
   have hqq : q = false := by rw [<- HQ.out]; simp
   subst hqq;clear HQ;go_enter Tryz.func160, Tryz.ntmps160;go_wp2_with (first | (go_at_call 163; (try rw [HW0.out, HU0.out]); refine (HSH.out _).mono ?_; rintro e w2 ⟨rfl, u2, rfl⟩) | (go_at_call 105; refine (HSM.out _).mono ?_; rintro e w2 ⟨rfl, u3, rfl⟩));go_ret;exact ⟨by rfl, HBE.out _⟩
  | true =>
   have z409861a := trivial;exact Sq409861
 | true =>
  exact Sq409861) : P := h
theorem Sq409861 {P : Prop} (h : P := by
 first
 |(
  guard_hyp z409861a
  have hn2 : ¬ 0 < n := by have h := HCN.out; simp at h; omega
  have hn1 : ¬ (0 : Int) < n := by omega)
 | skip
 have HQ2 : Hid ((ns.all ci && az.all (bD d)) = q) := aa (by have h := HQ.out; simpa using h);clear HQ;go_enter Tryz.func160, Tryz.ntmps160;go_wp2_with (first | (go_at_call 163; (try rw [HW0.out, HU0.out]); refine (HSH.out _).mono ?_; rintro e w2 ⟨rfl, u2, rfl⟩) | (go_at_call 105; refine (HSM.out _).mono ?_; rintro e w2 ⟨rfl, u3, rfl⟩))
 go_loopw [59] (fun iv wr => ∃ (j : Nat) (u : aq (w.heap.size + 1) W0), iv = .int .i64 j /\ j <= n /\ Hid (∀ (i : Nat) x, i < j -> ns[i]? = some x -> ci x = true) /\ wr = u.w) (fun iv _ => n - (intOf iv).toNat)
 case atStart => exact ⟨0, _, rfl, Nat.zero_le _, aa (fun i x hi => by omega), rfl⟩
 case round =>
  obtain ⟨j, u, rfl, hj, HALL, rfl⟩ := hrel
  by_cases hlt : j < n
  ·have hlt' : (j : Int) < n := by omega
   have hj0 : (0 : Int) <= (j : Int) := by omega
   have hwi : IntKind.i64.wrap ((j : Int) + 1) = (j : Int) + 1 := IntWalk.i64_in _ (by omega);obtain ⟨x, hx⟩ := aB (l := ns) (j := j) (by have := HN.out; omega);obtain ⟨eb, eo, rfl, heb, hc⟩ := HNT.out j x hx;have HK := aa (HKEY.out x (HNW.out j x hx));have HX := aa hx;clear hx;obtain ⟨c, hc2⟩ := nam (ci x);rw [hc2] at HK;have HC2 := aa hc2;clear hc2;cases c with
   | true =>
    go_wp2_with (go_at_call 155; refine (HK.out _).mono ?_; rintro e w2 ⟨rfl, u2, rfl⟩);go_roundw;case rel => exact ⟨j + 1, u2, by go_num, by omega, aa (fun i y hi hy => (Nat.lt_or_ge i j).elim (fun h => HALL.out i y h hy) (fun h => by rw [show i = j from by omega, HX.out] at hy; rw [<- Option.some.inj hy]; exact HC2.out)), rfl⟩
    case measure => simp [intOf]; omega
   | false =>
    have hqq : q = false := by rw [<- HQ2.out, bj HX.out HC2.out]; rfl
    go_wp2_with (go_at_call 155; refine (HK.out _).mono ?_; rintro e w2 ⟨rfl, u2, rfl⟩);go_ret;exact ⟨by (try rw [hqq]); rfl, HBE.out u2⟩
  ·have hlt' : ¬ (j : Int) < n := by omega
   have hall : ns.all ci = true := bC (fun i x hx => HALL.out i x (by have := (List.getElem?_eq_some_iff.1 hx).1; have := HN.out; omega) hx);have HQ3 : Hid (az.all (bD d) = q) := aa (by have h := HQ2.out; rw [hall, Bool.true_and] at h; exact h);clear hall HQ2;go_wp2_with fail
   go_loopw [70] (fun iv wr => ∃ (j : Nat) (u : aq (w.heap.size + 1) W0), iv = .int .i64 j /\ j <= m /\ Hid (∀ (i : Nat) x, i < j -> az[i]? = some x -> bD d x = true) /\ wr = u.w) (fun iv _ => m - (intOf iv).toNat)
   case atStart => exact ⟨0, _, rfl, Nat.zero_le _, aa (fun i x hi => by omega), rfl⟩
   case round =>
    obtain ⟨j, u, rfl, hj, HALL, rfl⟩ := hrel
    by_cases hlt : j < m
    ·have hlt' : (j : Int) < m := by omega
     have hj0 : (0 : Int) <= (j : Int) := by omega
     have hwi : IntKind.i64.wrap ((j : Int) + 1) = (j : Int) + 1 := IntWalk.i64_in _ (by omega);obtain ⟨t2, ht2⟩ := aB (l := az) (j := j) (by have := HM.out; omega);obtain ⟨eb, eo, cs2, rfl, heb, hcs, cW⟩ := HAT.out j t2 ht2;have HIH2 := aa (fun u => HIH.out t2 cs2 u (cW u) (HWT.out j t2 ht2));have HT2 := aa ht2;obtain ⟨r, hr⟩ := nam (bD d t2);rw [hr] at HIH2;have HR := aa hr;obtain ⟨op2, nm2, v2, ns2, az2⟩ := t2;obtain ⟨k2, bo2, i2, s2, l2, ks2, la2, lc2, ka2, kc2, na2, nc2, xa2, xc2, -, rfl, -⟩ := (cW u).cells;have g0 : ∀ u : aq (w.heap.size + 1) W0, u.w.cell? ⟨eb, eo + j * 10, none⟩ = some (.int .i64 op2) := fun u => hcs u 0 _ rfl
     obtain ⟨g1, g2, g3, g4, g5, g6, g7, g8, g9⟩ := cf9 hcs;clear hcs cW hr ht2;generalize l2.length = y1 at *;generalize ks2.length = y2 at *;generalize ns2.length = y3 at *;generalize az2.length = y4 at *;obtain ⟨u4, hu4⟩ := u.alloc HSZ.out (.cells #[.int .i64 op2, .string nm2, .int .i64 k2, .bool bo2, .int .i64 i2, .string s2, .slice la2 y1 lc2, .slice ka2 y2 kc2, .slice na2 y3 nc2, .slice xa2 y4 xc2] 66);have hbl : ae (u.w.alloc (.cells #[.int .i64 op2, .string nm2, .int .i64 k2, .bool bo2, .int .i64 i2, .string s2, .slice la2 y1 lc2, .slice ka2 y2 kc2, .slice na2 y3 nc2, .slice xa2 y4 xc2] 66)) u.w.heap.size [.int .i64 op2, .string nm2, .int .i64 k2, .bool bo2, .int .i64 i2, .string s2, .slice la2 y1 lc2, .slice ka2 y2 kc2, .slice na2 y3 nc2, .slice xa2 y4 xc2] 66 := ae.new _ _ _;have z0 := hbl.cell (i := 0) rfl;have z1 := hbl.cell (i := 1) rfl;have z2 := hbl.cell (i := 2) rfl;have z3 := hbl.cell (i := 3) rfl;have z4 := hbl.cell (i := 4) rfl;have z5 := hbl.cell (i := 5) rfl;have z6 := hbl.cell (i := 6) rfl;have z7 := hbl.cell (i := 7) rfl;have z8 := hbl.cell (i := 8) rfl;have z9 := hbl.cell (i := 9) rfl;clear hbl;have HU4 := aa hu4;clear hu4;cases r with
     | true =>
      go_wp2_with (go_at_call 160; rw [HU4.out]; refine (HIH2.out _).mono ?_; rintro e w2 ⟨rfl, u2, rfl⟩);go_roundw;case rel => exact ⟨j + 1, u2, by go_num, by omega, aa (fun i y hi hy => (Nat.lt_or_ge i j).elim (fun h => HALL.out i y h hy) (fun h => by rw [show i = j from by omega, HT2.out] at hy; rw [<- Option.some.inj hy]; exact HR.out)), rfl⟩
      case measure => simp [intOf]; omega
     | false =>
      have hqq : q = false := by rw [<- HQ3.out, bj HT2.out HR.out]
      go_wp2_with (go_at_call 160; rw [HU4.out]; refine (HIH2.out _).mono ?_; rintro e w2 ⟨rfl, u2, rfl⟩);go_ret;exact ⟨by (try rw [hqq]); rfl, HBE.out u2⟩
    ·have hlt' : ¬ (j : Int) < m := by omega
     have hqq : q = true := by rw [<- HQ3.out]; exact bC (fun i x hx => HALL.out i x (by have := (List.getElem?_eq_some_iff.1 hx).1; have := HM.out; omega) hx)
     go_wp2_with fail;go_ret;exact ⟨by (try rw [hqq]); rfl, HBE.out u⟩) : P := h
theorem qX (d : Nat) (ih : ij d) : ij (d + 1) := by
 intro t cs B w D hD hX hB hML hw hd;have hX0 := hX;obtain ⟨op, nm, v, ns, az⟩ := t;obtain ⟨k, b, i, s, l, ks, la, lc, ka, kc, na, nc, xa, xc, hv, rfl, hop, hV, hNA, hXA, hNS, hAZ⟩ := hX.cells;clear hX;have hn0 : ns.length <= 1099511627776 := by have := eG ns; simp only [ee] at hw; omega
 have hm0 : az.length <= 1099511627776 := by have := dI az; simp only [ee] at hw; omega
 have hks0 : ju ns <= 1099511627776 := by simp only [ee] at hw; omega
 have HWT : Hid (∀ (j : Nat) (t : Ex), az[j]? = some t -> ee t <= 1099511627776) := aa (fun j t h => by have := vE (op := op) (nm := nm) (v := v) (ns := ns) h; omega);obtain ⟨q, hq⟩ := nam (bD (d + 1) (.mk op nm v ns az));rw [hq];rw [qV] at hq;obtain ⟨p1, hp1⟩ := nam ((aO (.mk op nm v ns az)).1);obtain ⟨p2, hp2⟩ := nam ((aO (.mk op nm v ns az)).2);obtain ⟨c1, h1⟩ := nam ((op == 1));obtain ⟨b2, h2⟩ := nam (dV v cQ);obtain ⟨c6, h6⟩ := nam ((op == 6));rw [hp1, hp2, h1, h2, h6] at hq;obtain ⟨m, hm⟩ := nam az.length;obtain ⟨n, hn⟩ := nam ns.length;rw [hm] at hX0 hm0 hq ⊢;rw [hn] at hX0 hn0 hq ⊢;obtain ⟨HM, HN, HQ⟩ := hd3 hm hn hq;obtain ⟨W0, u0, hW0, hu0, hsz, hbe, hce⟩ := bg w [.int .i64 op, .string nm, .int .i64 k, .bool b, .int .i64 i, .string s, .slice la l.length lc, .slice ka ks.length kc, .slice na n nc, .slice xa m xc] 66;obtain ⟨e0, e1, e2, e3, e4, e5, e6, e7, e8, e9⟩ := ce10 hce;obtain ⟨x0, x1, x2, x3, x4, x5, x6, x7, x8, x9⟩ := cx10 hce u0;rw [<- hu0, <- hW0] at x0 x1 x2 x3 x4 x5 x6 x7 x8 x9;have HSH := aa (fun u : aq (w.heap.size + 1) W0 => aJ u hsz (ml _ _ B u.w (bK.below (hbe u) hB _ _ hX0) (Nat.le_trans hB (hbe u).size) (hML.below (hbe u)) hw));rw [hp1, hp2] at HSH;clear hp1 hp2;obtain ⟨HBE, HW0, HU0, HSZ⟩ := hd4 hbe hW0 hu0 hsz;have HSM := aa (fun u : aq (w.heap.size + 1) W0 => aJ u hsz (mi v cQ _ kI B u.w (dR.below (hbe u) hB _ _ hV) (fs _ _) (Nat.le_trans hB (hbe u).size)));rw [h2] at HSM;have HIH := aa (fun (t : Ex) (cs : List Value) (u : aq (w.heap.size + 1) W0) (h : bK B u.w cs t) (hw : ee t <= 1099511627776) => aJ u hsz (ih t cs B u.w d rfl h (Nat.le_trans hB (hbe u).size) (hML.below (hbe u)) hw (by omega)));have HAT : Hid (∀ (j : Nat) t, az[j]? = some t -> ∃ b off cs, xa = some ⟨b, off, none⟩ /\ b < B /\ (∀ (u : aq (w.heap.size + 1) W0) (q : Nat) v, cs[q]? = some v -> u.w.cell? ⟨b, off + j * 10 + q, none⟩ = some v) /\ ∀ u : aq (w.heap.size + 1) W0, bK B u.w cs t) := aa (fun j t ht => hAZ.at_ext hB hbe ht);have HNT : Hid (∀ (j : Nat) x, ns[j]? = some x -> ∃ b off, na = some ⟨b, off, none⟩ /\ b < B /\ ∀ u : aq (w.heap.size + 1) W0, u.w.cell? ⟨b, off + j, none⟩ = some (.string x)) := aa (fun j x hx => hNS.at_ext hB hbe hx);have HNW : Hid (∀ (j : Nat) (x : ByteArray), ns[j]? = some x -> x.size <= 1099511627776) := aa (fun j x h => by have := nz h; omega);have HKEY := aa (fun (x : ByteArray) (hx : x.size <= 1099511627776) (u : aq (w.heap.size + 1) W0) => eB u (ft x u.w hx));have hd1 : ¬ D < 1 := by omega
 have hd2 : IntKind.i64.wrap (D - 1) = (d : Int) := by rw [IntWalk.i64_in _ (by omega)]; omega
 have h1' : (op != 1) = !c1 := by rw [<- h1]; rfl
 have h6' : (op != 6) = !c6 := by rw [<- h6]; rfl
 clear hbe hW0 hu0 hsz hce hNS hm hn hv hq hV hNA hXA hAZ hX0 ih h2 hD hw hop;obtain ⟨cn, hcn⟩ := nam (decide (n = 0));rw [hcn] at HQ;have HCN := aa hcn;clear hcn;obtain ⟨cl, hcl⟩ := nam (gR p1 m);rw [hcl] at HQ;have HCL := aa hcl;clear hcl;cases p2 with
 | false =>
  exact Sq780022
 | true =>
  cases cl with
  | false =>
   have z780022a := trivial;exact Sq780022
  | true =>
   have hl : ¬ 0 <= p1 \/ (0 <= p1 /\ (m : Int) = p1) := by have h := HCL.out; unfold gR at h; simp at h; omega
   rcases hl with hl1 | ⟨hl1, hl2⟩
   ·exact Sq224305
   ·have z224305a := trivial;exact Sq224305
theorem tP (d : Nat) : ij d := by
 induction d with
 | zero => exact qW
 | succ d ih => exact qX d ih
end Go.Proofs.YteljlahcdipilaaGreat
namespace Go.Proofs.YteljlahcdipilaaGreat
open Go.RowKit Go.Shelf
inductive nA : List UInt8 -> List am -> Prop where
  | nil : nA [] []
  | blank (c : UInt8) (r : List UInt8) (us : List am) (hb : aI c.toNat = true) (h : nA r us) : nA (c :: r) us
  | tok (r : List UInt8) (t : am) (n : Nat) (us : List am) (h0 : r ≠ []) (hb : aI (nb r 0) = false) (h1 : cu r = .tok t n) (h : nA (r.drop n) us) : nA r (t :: us)
theorem nA.unblank {c : UInt8} {r : List UInt8} {us : List am} (hb : aI c.toNat = true) (h : nA (c :: r) us) : nA r us := by
 cases h with
 | blank _ _ _ _ h => exact h
 | tok _ _ _ _ _ h2 _ _ => rw [eW, hb] at h2; cases h2
theorem nA.one {r : List UInt8} {us : List am} {t : am} {n : Nat} (h0 : r ≠ []) (hb : aI (nb r 0) = false) (h1 : cu r = .tok t n) (h : nA r us) : ∃ us', us = t :: us' /\ nA (r.drop n) us' := by
 cases h with
 | nil => exact absurd rfl h0
 | blank c q us h2 _ => rw [eW, h2] at hb; cases hb
 | tok _ t' n' us' _ _ h2 h3 => rw [h1] at h2; cases h2; exact ⟨us', rfl, h3⟩
theorem nA.some {r : List UInt8} {us : List am} (h0 : r ≠ []) (hb : aI (nb r 0) = false) (h : nA r us) : ∃ t n us', cu r = .tok t n /\ us = t :: us' /\ nA (r.drop n) us' := by
 cases h with
 | nil => exact absurd rfl h0
 | blank c q us h2 _ => rw [eW, h2] at hb; cases hb
 | tok _ t' n' us' _ _ h2 h3 => exact ⟨t', n', us', h2, rfl, h3⟩
theorem nA.fn {r : List UInt8} {us : List am} (h : nA r us) : ∀ {vs : List am}, nA r vs -> us = vs := by
 induction h with
 | nil => intro vs h2; cases h2 with
  | nil => rfl
  | tok _ _ _ _ h0 _ _ _ => exact absurd rfl h0
 | blank c r us hb _ ih => intro vs h2; exact ih (h2.unblank hb)
 | tok r t n us h0 hb h1 _ ih =>
  intro vs h2;obtain ⟨us', rfl, h3⟩ := h2.one h0 hb h1;rw [ih h3]
def Rd (F : List UInt8 -> Prop) (X : List UInt8) (ts : List am) : Prop := ∀ r us, F r -> nA (X ++ r) us -> ∃ us', us = ts ++ us' /\ nA r us'
def Nn (r : List UInt8) : Prop := bf (nb r 0) = false
theorem Rd.nil (F : List UInt8 -> Prop) : Rd F [] [] := fun r us _ h => ⟨us, rfl, h⟩
theorem Rd.mono {F G : List UInt8 -> Prop} {X : List UInt8} {ts : List am} (h : Rd F X ts) (hG : ∀ r, G r -> F r) : Rd G X ts := fun r us hr h1 => h r us (hG r hr) h1
def Ns (r : List UInt8) : Prop := nb r 0 ≠ 61 /\ nb r 0 ≠ 62
def Kp (B b : Nat) (W : World) : Type := { w' : World // Below B W w' /\ Lib.OthersKept 5 (some b) W w' }
def Kp.w {B b : Nat} {W : World} (u : Kp B b W) : World := u.1
theorem Kp.below {B b : Nat} {W : World} (u : Kp B b W) : Below B W u.w := u.2.1
theorem Kp.kept {B b : Nat} {W : World} (u : Kp B b W) : Lib.OthersKept 5 (some b) W u.w := u.2.2
theorem Kp.start (B b : Nat) (W : World) : ∃ u : Kp B b W, W = u.w := ⟨⟨W, Below.refl _ _, fun _ _ h _ _ => h⟩, rfl⟩
theorem xY.below {B b : Nat} {l : List UInt8} {w w' : World} (h : xY B b l w) (hb : Below w.heap.size w w') : xY B b l w' := by
 have hk : ∀ (k : Nat) (o : Obj), w.heap[k]? = some o -> w'.heap[k]? = some o := fun k o h => (hb.block k (Array.getElem?_eq_some_iff.1 h).1).trans h
 unfold xY Lib.IsBuilderF at h ⊢;rcases h with ⟨hB, v, h1, h2, h3⟩ | ⟨hB, v, h1, h2, h3⟩
 ·refine .inl ⟨hB, v, hk _ _ h1, ⟨h2.1, ?_⟩, h3⟩;rcases h2.2 with hn | ⟨g, cap, cur, fz, hv, hbg, hg, rest⟩
  ·exact .inl hn
  ·exact .inr ⟨g, cap, cur, fz, hv, hbg, hk _ _ hg, rest⟩
 ·refine .inr ⟨hB, v, hk _ _ h1, ⟨h2.1, ?_⟩, h3⟩;rcases h2.2 with hn | ⟨g, cap, cur, fz, hv, hbg, hg, rest⟩
  ·exact .inl hn
  ·exact .inr ⟨g, cap, cur, fz, hv, hbg, hk _ _ hg, rest⟩
theorem xY.lt {B b : Nat} {l : List UInt8} {w : World} (h : xY B b l w) : b < w.heap.size := by
 unfold xY Lib.IsBuilderF at h;rcases h with ⟨hB, v, h1, h2, h3⟩ | ⟨hB, v, h1, h2, h3⟩ <;> exact (Array.getElem?_eq_some_iff.1 h1).1
theorem nB {e : TypeId} {b : Option Nat} {w w' : World} (hb : Below w.heap.size w w') : Lib.OthersKept e b w w' := fun k o h _ _ => (hb.block k (Array.getElem?_eq_some_iff.1 h).1).trans h
theorem kM (l : List UInt8) : (ai l).data.toList = l := by simp [ai]
theorem Kp.alloc {B b : Nat} {l : List UInt8} {W : World} (u : Kp B b W) (hB : B <= W.heap.size) (o : Obj) (hl : xY B b l u.w) : ∃ u' : Kp B b W, u.w.alloc o = u'.w /\ xY B b l u'.w := by
 have h2 : Below u.w.heap.size u.w (u.w.alloc o) := (Below.refl _ _).alloc (Nat.le_refl _) _;exact ⟨⟨u.w.alloc o, u.below.trans (h2.mono (Nat.le_trans hB u.below.size)), u.kept.trans (nB h2)⟩, rfl, hl.below h2⟩
theorem cg.at_any {U : Type} {f : U -> World} {B C : Nat} {w : World} {xa : Option Addr} {az : List Ex} (h : cg (bK B w) 10 B w xa az) (hB : B <= C) (hbe : ∀ u, Below C w (f u)) {j : Nat} {t : Ex} (ht : az[j]? = some t) :
    ∃ b off cs, xa = some ⟨b, off, none⟩ /\ b < B /\ (∀ (u : U) (q : Nat) v, cs[q]? = some v -> (f u).cell? ⟨b, off + j * 10 + q, none⟩ = some v) /\ ∀ u : U, bK B (f u) cs t := Sq671107
theorem co.at_any {U : Type} {f : U -> World} {B C : Nat} {w : World} {a : Option Addr} {ks : List ByteArray} (h : co B w a ks) (hB : B <= C) (hbe : ∀ u, Below C w (f u)) {j : Nat} {x : ByteArray} (hx : ks[j]? = some x) :
    ∃ b off, a = some ⟨b, off, none⟩ /\ b < B /\ ∀ u : U, (f u).cell? ⟨b, off + j, none⟩ = some (.string x) := by
 obtain ⟨b, off, h1, h2, h3⟩ := h.get hx;exact ⟨b, off, h1, h2, fun u => ((hbe u).cell (p := ⟨b, off + j, none⟩) (by show b < _; omega)).trans h3⟩
theorem ML.kp {C : Nat} {w w' : World} (h : ML w) (hb : Below C w w') (h0 : 0 < C) : ML w' := by
 obtain ⟨h1, m, h2⟩ := h;exact ⟨Nat.lt_of_lt_of_le h1 hb.size, m, by rw [hb.cell (by show 0 < C; exact h0)]; exact h2⟩
theorem cg.tail {α : Type} {R : List Value -> α -> Prop} {size B : Nat} {w : World} {b off : Nat} {t : α} {l : List α} (h : cg R size B w (some ⟨b, off, none⟩) (t :: l)) : cg R size B w (some ⟨b, off + size, none⟩) l := by
 intro i x hx;obtain ⟨b', off', cs, h1, h2, h3, h4, h5⟩ := h (i + 1) x (by simpa using hx);injection h1 with h1
 injection h1 with h1 h6
 subst h1 h6;refine ⟨b, off + size, cs, rfl, h2, h3, fun j v hv => ?_, h5⟩;have := h4 j v hv;rwa [show off + ((i + 1) * size + j) = off + size + (i * size + j) from by rw [Nat.add_mul]; omega] at this
end Go.Proofs.YteljlahcdipilaaGreat
namespace Go.Proofs.YteljlahcdipilaaGreat
open Go.RowKit
def iU (ks : List ByteArray) (vs : List Ex) : Bool := decide (ks.length = vs.length) && (ks.all ci && vs.all (bD 32))
def yC (s : ByteArray) : Bool := (s.toList == []) || cw s
def kN (n : oc) : Bool := n.labels.all ci && (yC n.var && iU n.keys n.vals)
def kO (e : od) : Bool := yC e.var && (((e.ty.toList == []) || ci e.ty) && (decide (0 <= e.dir) && (decide (e.dir <= 2) && iU e.keys e.vals)))
def sd (p : lL) : Bool := decide (p.nodes.length = p.edges.length + 1) && (p.nodes.all kN && p.edges.all kO)
def vY (i : mj) : Bool := cw i.nm && bD 32 i.e
def vZ (s : oe) : Bool := bD 32 s.e
def yD (s : lD) (set : Bool) : Bool := cw s.var && (((s.key.toList == []) != (s.label.toList == [])) && (decide (s.key.size + s.label.size <= 64) && (if (set && !(s.key.toList == [])) = true then bD 32 s.e else kJ s.e)))
theorem jB {C : Nat} {W0 : World} (u : aq C W0) (t : Ex) (cs : List Value) (B : Nat) (hC : C <= W0.heap.size) (hX : bK B u.w cs t) (hB : B <= u.w.heap.size) (hM : ML u.w) (hw : ee t <= 1099511627776) :
    Calls Tryz.prog 160 #[.agg cs.toArray, .int .i64 32] u.w fun e w' => e = .returned (.bool (bD 32 t)) /\ ∃ u' : aq C W0, w' = u'.w :=
  aJ u hC (tP 32 t cs B u.w 32 rfl hX hB hM hw (by omega))
theorem iE (ks : List ByteArray) (vs : List Ex) (ka va : Option Addr) (kc vc B : Nat) (w : World) (hKA : aZ ka ks.length kc) (hVA : aZ va vs.length vc) (hKS : co B w ka ks) (hVS : cg (bK B w) 10 B w va vs) (hB : B <= w.heap.size) (hML : ML w) (hwk : ju ks <= 1099511627776) (hwv : dm vs <= 1099511627776) :
    Calls Tryz.prog 157 #[.agg #[.slice ka ks.length kc, .slice va vs.length vc]] w fun e w' => e = .returned (.bool (iU ks vs)) /\ Below w.heap.size w w' := by
 obtain ⟨n, hn⟩ := nam ks.length;obtain ⟨m, hm⟩ := nam vs.length;have hn0 : n <= 1099511627776 := by have := eG ks; omega
 have hm0 : m <= 1099511627776 := by have := dI vs; omega
 obtain ⟨q, hq⟩ := nam (iU ks vs);rw [hq];rw [iU, hn, hm] at hq;rw [hn] at hKA ⊢;rw [hm] at hVA ⊢;obtain ⟨HN, HM, HQ⟩ := hd3 hn hm hq;obtain ⟨W0, u0, hW0, hu0, hsz, hbe, hce⟩ := bg w [.slice ka n kc, .slice va m vc] 201;have e0 := fun u => hce u 0 _ rfl
 have e1 := fun u => hce u 1 _ rfl
 have x0 := hce u0 0 _ rfl;have x1 := hce u0 1 _ rfl;rw [<- hu0, <- hW0] at x0 x1;have HKEY := aa (fun (x : ByteArray) (hx : x.size <= 1099511627776) (u : aq (w.heap.size + 1) W0) => eB u (ft x u.w hx));have HR := aa (fun (t : Ex) (cs : List Value) (u : aq (w.heap.size + 1) W0) (h : bK B u.w cs t) (hw : ee t <= 1099511627776) => jB u t cs B hsz h (Nat.le_trans hB (hbe u).size) (hML.below (hbe u)) hw);have HAT : Hid (∀ (j : Nat) t, vs[j]? = some t -> ∃ b off cs, va = some ⟨b, off, none⟩ /\ b < B /\ (∀ (u : aq (w.heap.size + 1) W0) (q : Nat) v, cs[q]? = some v -> u.w.cell? ⟨b, off + j * 10 + q, none⟩ = some v) /\ ∀ u : aq (w.heap.size + 1) W0, bK B u.w cs t) := aa (fun j t ht => hVS.at_ext hB hbe ht);have HNT : Hid (∀ (j : Nat) x, ks[j]? = some x -> ∃ b off, ka = some ⟨b, off, none⟩ /\ b < B /\ ∀ u : aq (w.heap.size + 1) W0, u.w.cell? ⟨b, off + j, none⟩ = some (.string x)) := aa (fun j x hx => hKS.at_ext hB hbe hx);have HNW : Hid (∀ (j : Nat) (x : ByteArray), ks[j]? = some x -> x.size <= 1099511627776) := aa (fun j x h => by have := nz h; omega);have HWT : Hid (∀ (j : Nat) (t : Ex), vs[j]? = some t -> ee t <= 1099511627776) := aa (fun j t h => by have := kH h; omega);obtain ⟨HBE, HW0, HU0⟩ := hd3 hbe hW0 hu0;have hkc := hKA.1;have hvc := hVA.1;clear hbe hW0 hu0 hsz hce hKS hVS hn hm hq hKA hVA hML hB
 by_cases hnm : n = m
 ·subst hnm;have HQ2 : Hid ((ks.all ci && vs.all (bD 32)) = q) := aa (by have h := HQ.out; rw [decide_eq_true rfl, Bool.true_and] at h; exact h);clear HQ;go_enter Tryz.func157, Tryz.ntmps157;go_wp2_with fail;rw [HW0.out, HU0.out]
  go_loopw [15] (fun iv wr => ∃ (j : Nat) (u : aq (w.heap.size + 1) W0), iv = .int .i64 j /\ j <= n /\ Hid (∀ (i : Nat) x, i < j -> ks[i]? = some x -> ci x = true) /\ Hid (∀ (i : Nat) x, i < j -> vs[i]? = some x -> bD 32 x = true) /\ wr = u.w) (fun iv _ => n - (intOf iv).toNat)
  case atStart => exact ⟨0, u0, rfl, Nat.zero_le _, aa (fun i x hi => by omega), aa (fun i x hi => by omega), rfl⟩
  case round =>
   obtain ⟨j, u, rfl, hj, HA1, HA2, rfl⟩ := hrel
   by_cases hlt : j < n
   ·have hlt' : (j : Int) < n := by omega
    have hj0 : (0 : Int) <= (j : Int) := by omega
    have hwi : IntKind.i64.wrap ((j : Int) + 1) = (j : Int) + 1 := IntWalk.i64_in _ (by omega);obtain ⟨x, hx⟩ := aB (l := ks) (j := j) (by have := HN.out; omega);obtain ⟨kb, ko, rfl, hkb, hkc2⟩ := HNT.out j x hx;have HK := aa (HKEY.out x (HNW.out j x hx));have HX := aa hx;obtain ⟨c, hc2⟩ := nam (ci x);rw [hc2] at HK;have HC2 := aa hc2;obtain ⟨t2, ht2⟩ := aB (l := vs) (j := j) (by have := HM.out; omega);obtain ⟨eb, eo, cs2, rfl, heb, hcs2, cW⟩ := HAT.out j t2 ht2;have HR2 := aa (fun u => HR.out t2 cs2 u (cW u) (HWT.out j t2 ht2));have HT2 := aa ht2;obtain ⟨r, hr⟩ := nam (bD 32 t2);rw [hr] at HR2;have HRR := aa hr;clear hx hc2 ht2 hr;obtain ⟨op2, nm2, v2, ns2, az2⟩ := t2;obtain ⟨k2, bo2, i2, s2, l2, ks2, la2, lc2, ka2, kc2, na2, nc2, xa2, xc2, -, rfl, -⟩ := (cW u).cells;have g2_0 : ∀ u : aq (w.heap.size + 1) W0, u.w.cell? ⟨eb, eo + j * 10, none⟩ = some (.int .i64 op2) := fun u => hcs2 u 0 _ rfl
    obtain ⟨g2_1, g2_2, g2_3, g2_4, g2_5, g2_6, g2_7, g2_8, g2_9⟩ := cf9 hcs2;clear hcs2 cW;generalize l2.length = ya2 at *;generalize ks2.length = yb2 at *;generalize ns2.length = yc2 at *;generalize az2.length = yd2 at *;cases c with
    | false =>
     have hqq : q = false := by rw [<- HQ2.out, bj HX.out HC2.out]; rfl
     go_wp2_with (go_at_call 155; refine (HK.out _).mono ?_; rintro e w2 ⟨rfl, u2, rfl⟩);go_ret;exact ⟨by (try rw [hqq]); rfl, HBE.out _⟩
    | true =>
     cases r with
     | false =>
      have hqq : q = false := by rw [<- HQ2.out, bj HT2.out HRR.out]; simp
      go_wp2_with (first | (go_at_call 155; refine (HK.out _).mono ?_; rintro e w2 ⟨rfl, u2, rfl⟩) | (go_at_call 160; refine (HR2.out _).mono ?_; rintro e w2 ⟨rfl, u3, rfl⟩));go_ret;exact ⟨by (try rw [hqq]); rfl, HBE.out _⟩
     | true =>
      go_wp2_with (first | (go_at_call 155; refine (HK.out _).mono ?_; rintro e w2 ⟨rfl, u2, rfl⟩) | (go_at_call 160; refine (HR2.out _).mono ?_; rintro e w2 ⟨rfl, u3, rfl⟩));go_roundw;case rel => exact ⟨j + 1, _, by go_num, by omega, aa (fun i y hi hy => (Nat.lt_or_ge i j).elim (fun h => HA1.out i y h hy) (fun h => by rw [show i = j from by omega, HX.out] at hy; rw [<- Option.some.inj hy]; exact HC2.out)), aa (fun i y hi hy => (Nat.lt_or_ge i j).elim (fun h => HA2.out i y h hy) (fun h => by rw [show i = j from by omega, HT2.out] at hy; rw [<- Option.some.inj hy]; exact HRR.out)), rfl⟩
      case measure => simp [intOf]; omega
   ·have hlt' : ¬ (j : Int) < n := by omega
    have hqq : q = true := by
     rw [<- HQ2.out, bC (fun i x hx => HA1.out i x (by have := (List.getElem?_eq_some_iff.1 hx).1; have := HN.out; omega) hx), bC (fun i x hx => HA2.out i x (by have := (List.getElem?_eq_some_iff.1 hx).1; have := HM.out; omega) hx)]; rfl
    go_wp2_with fail;go_ret;exact ⟨by (try rw [hqq]); rfl, HBE.out u⟩
 ·have hb1 : ((n : Int) != m) = true := by simp; omega
  have hb2 : ((n : Int) == m) = false := by simp; omega
  have hqq : q = false := by rw [<- HQ.out, decide_eq_false hnm]; rfl
  have HNM := aa hnm;clear hnm;subst hqq;go_enter Tryz.func157, Tryz.ntmps157;go_wp2_with fail
  (try rw [HW0.out, HU0.out])
  go_ret;exact ⟨by rfl, HBE.out _⟩
end Go.Proofs.YteljlahcdipilaaGreat

/- Parts X11 of this seat (pruned, scripts that are alike kept once as default arguments: q1, q2, ..). Conditions: each says its own. -/
import Derived.Test.YteljlahcdipilaaGreatG15
set_option linter.unusedSimpArgs false
set_option linter.unusedVariables false
set_option maxRecDepth 1000000
set_option maxHeartbeats 64000000
namespace Go.Proofs.YteljlahcdipilaaGreat
open Go.RowKit
theorem bI {P : Program} {id : Nat} {Q : Exit -> Act -> World -> Prop} {a : Act} {B : Nat} {w : World} (u : aq B w) {l : List Oper} (hm : P.follows .mixedOrders = true) (hB : Region.lexB .any l.toArray = true)
    (h : wpQuiet P l.toArray (fun w' => ∃ u : aq B w, w' = u.w) (fun a' => ∀ w', (∃ u : aq B w, w' = u.w) -> Q .normal a' w') l a) : (Code.region id l.toArray true).wp P Q a u.w :=
  wp_region_quiet (C := fun w' => ∃ u : aq B w, w' = u.w) hm hB ⟨⟨u.w.drew, u.below.drew⟩, rfl⟩ (by simpa using h)
theorem tO {k : Int} {b : Bool} {i : Int} {s : ByteArray} {l : List Vt} {ks : List ByteArray} (h : uH (.mk k b i s l ks) = true) : 0 <= k /\ k <= 7 := by
 have := (mX.of_may _ _ _ h).head;exact ⟨this.1, this.2.1⟩
theorem Sq660762 {P : Prop} (h : P := by
 first
 |(
  guard_hyp z660762a
  have hf : (if false = true then (0 : Int) else 20) = 20 := rfl;rw [hf] at HCK;clear hf;have hqq : q = false := by rw [<- HQ.out]; rfl)
 |(
  guard_hyp z660762f
  have hor : k = 0 \/ k = 1 := by omega
  have hqq : q = true := by rw [<- HQ.out]; rcases hor with h | h <;> rw [h] <;> rfl)
 | (guard_hyp z660762d; have hqq : q = false := by rw [<- HQ.out]; rw [n0, n1, n2, n3, decide_eq_false hi]; rfl)
 | (guard_hyp z660762e; have hqq : q = true := by rw [<- HQ.out]; rw [n0, n1, n2, n3, decide_eq_true hi]; rfl)
 | (guard_hyp z660762b; have hqq : q = false := by rw [<- HQ.out]; rw [n0, n1, n2, n3]; rfl)
 | (have hqq : q = true := by rw [<- HQ.out]; rw [n0, n1, n2, n3]; rfl)
 subst hqq;clear HQ;go_enter Tryz.func167, Tryz.ntmps167;go_wp2_with (go_at_call 175; (try rw [HW0.out, HU0.out]); refine (HCK.out _).mono ?_; rintro e w2 ⟨rfl, u2, rfl⟩; dsimp only [ite_true, ite_false]);go_ret;exact ⟨by rfl, HBE.out _⟩) : P := h
theorem ph (v : Vt) (cs : List Value) (B : Nat) (w : World) (hV : dR B w cs v) (hB : B <= w.heap.size) :
    Calls Tryz.prog 167 #[.agg cs.toArray] w fun e w' => e = .returned (.bool (qM v)) /\ Below w.heap.size w w' := by
 have hV0 := hV;obtain ⟨k, b, i, s, l, ks⟩ := v;unfold dR at hV;obtain ⟨la, lc, ka, kc, rfl, -⟩ := hV;obtain ⟨W0, u0, hW0, hu0, hsz, hbe, hce⟩ := bg w [.int .i64 k, .bool b, .int .i64 i, .string s, .slice la l.length lc, .slice ka ks.length kc] 64;obtain ⟨e0, e1, e2, e3, e4, e5⟩ := ce6 hce;obtain ⟨x0, x1, x2, x3, x4, x5⟩ := cx6 hce u0;rw [<- hu0, <- hW0] at x0 x1 x2 x3 x4 x5;have HCK := aa (fun u => aJ u hsz (tN (.mk k b i s l ks) _ B u.w (dR.below (hbe u) hB _ _ hV0) (Nat.le_trans hB (hbe u).size)));obtain ⟨q, hq⟩ := nam (qM (.mk k b i s l ks));rw [hq];rw [qM] at hq;obtain ⟨c0, h0⟩ := nam (uH (.mk k b i s l ks));rw [h0] at HCK hq;have HQ := aa hq;have HM : Hid (c0 = true -> 0 <= k) := aa (fun h => (tO (h0.trans h)).1);obtain ⟨HBE, HW0, HU0⟩ := hd3 hbe hW0 hu0;clear hbe hW0 hu0 hsz hce hV0 hq h0;generalize l.length = y1 at *;generalize ks.length = y2 at *;cases c0 with
 | false =>
  have z660762a := trivial;exact Sq660762
 | true =>
  have hk0 := HM.out rfl;have ht : (if true = true then (0 : Int) else 20) = 0 := rfl;rw [ht] at HCK;clear ht
  by_cases h1 : k <= 1
  ·have z660762f := trivial;exact Sq660762
  ·have n0 : (k == 0) = false := by simp; omega
   have n1 : (k == 1) = false := by simp; omega
   by_cases h2 : k = 2
   ·have n2 : (k == 2) = true := by simp [h2]
    have n3 : (k == 3) = false := by simp [h2]
    clear h2
    by_cases hi : 0 <= i
    ·have z660762e := trivial;exact Sq660762
    ·have z660762d := trivial;exact Sq660762
   ·have n2 : (k == 2) = false := by simpa using h2
    clear h2;obtain ⟨b3, n3⟩ := nam ((k == 3));cases b3 with
    | true =>
     exact Sq660762
    | false =>
     have z660762b := trivial;exact Sq660762
def aO : Ex -> Int × Bool
  | .mk op nm v ns az =>
    if op = 1 then (0, (nm.toList == []) && qM v)
    else if op = 2 then (0, cw nm)
    else if op = 3 then (0, cw nm)
    else if op = 4 then (1, ci nm)
    else if op = 5 then (-1, nm.toList == [])
    else if op = 6 then ((ns.length : Int), nm.toList == [])
    else if op = 7 then (2, nm.toList == [])
    else if op = 8 then (1, nm.toList == [])
    else if op = 9 then (1, nm.toList == [])
    else if op = 11 then (1, nm.toList == [])
    else if op = 12 then (1, nm.toList == [])
    else if op = 10 then (2, decide (0 < eQ nm))
    else if op = 13 then (-1, cw nm && !eR nm)
    else if op = 14 then (if az.length = 0 then (0, nm.toList == [99, 111, 117, 110, 116]) else (1, eR nm))
    else if op = 15 then (1, ci nm && (((az.length : Int) == 1) && (jl az == 2)))
    else (0, false)
def cf (op : Int) : Prop := ∀ (nm : ByteArray) (v : Vt) (ns : List ByteArray) (az : List Ex) (cs : List Value) (B : Nat) (w : World), bK B w cs (.mk op nm v ns az) -> B <= w.heap.size -> ML w -> nm.size <= 1099511627776 -> ns.length <= 1099511627776 -> az.length <= 1099511627776 ->
    Calls Tryz.prog 163 #[.agg cs.toArray] w fun e w' => e = .returned (.tuple #[.int .i64 (aO (.mk op nm v ns az)).1, .bool (aO (.mk op nm v ns az)).2]) /\ Below w.heap.size w w'
theorem yt : cf 1 := by
 intro nm v ns az cs B w hX hB hML hs hns haz;obtain ⟨k, b, i, s, l, ks, la, lc, ka, kc, na, nc, xa, xc, hv, rfl, hop, hV, hNA, hXA, hNS, hAZ⟩ := hX.cells;clear hX;obtain ⟨p1, hp1⟩ := nam ((aO (.mk 1 nm v ns az)).1);obtain ⟨p2, hp2⟩ := nam ((aO (.mk 1 nm v ns az)).2);rw [hp1, hp2];rw [aO, if_pos rfl] at hp1 hp2;obtain ⟨m, hm⟩ := nam az.length;obtain ⟨n, hn⟩ := nam ns.length;rw [hm] at haz hXA ⊢;rw [hn] at hns hNA ⊢
 (try rw [hm] at hp1 hp2)
 (try rw [hn] at hp1)
 have HM := aa hm;obtain ⟨W0, u0, hW0, hu0, hsz, hbe, hce⟩ := bg w [.int .i64 1, .string nm, .int .i64 k, .bool b, .int .i64 i, .string s, .slice la l.length lc, .slice ka ks.length kc, .slice na n nc, .slice xa m xc] 66;obtain ⟨e0, e1, e2, e3, e4, e5, e6, e7, e8, e9⟩ := ce10 hce;obtain ⟨x0, x1, x2, x3, x4, x5, x6, x7, x8, x9⟩ := cx10 hce u0;rw [<- hu0, <- hW0] at x0 x1 x2 x3 x4 x5 x6 x7 x8 x9;obtain ⟨HBE, HW0, HU0⟩ := hd3 hbe hW0 hu0;obtain ⟨b0, h0⟩ := nam ((nm.toList == []));rw [h0] at hp2;have Hlit := aa (fun u : aq (w.heap.size + 1) W0 => aJ u hsz (ph v _ B u.w (dR.below (hbe u) hB _ _ hV) (Nat.le_trans hB (hbe u).size)));obtain ⟨clit, hlit⟩ := nam (qM v);rw [hlit] at Hlit hp2;subst hp1 hp2;clear hbe hW0 hu0 hsz hce hNS hm hn hv hV hNA hXA hAZ hop hML hlit;cases b0 <;> cases clit <;>
 · go_enter Tryz.func163, Tryz.ntmps163
   go_wp2_with (first | (go_at_call 167; (try rw [HW0.out, HU0.out]); refine (Hlit.out _).mono ?_; rintro e w2 ⟨rfl, u_lit, rfl⟩))
   (try rw [HW0.out, HU0.out])
   go_ret2
   exact ⟨by rfl, HBE.out _⟩
theorem Sq759824 {P : Prop} (h : P := by
 intro nm v ns az cs B w hX hB hML hs hns haz;obtain ⟨k, b, i, s, l, ks, la, lc, ka, kc, na, nc, xa, xc, hv, rfl, hop, hV, hNA, hXA, hNS, hAZ⟩ := hX.cells;clear hX
 first
 |(
  guard_hyp z759824a
  obtain ⟨p1, hp1⟩ := nam ((aO (.mk 3 nm v ns az)).1);obtain ⟨p2, hp2⟩ := nam ((aO (.mk 3 nm v ns az)).2))
 |(
  obtain ⟨p1, hp1⟩ := nam ((aO (.mk 2 nm v ns az)).1);obtain ⟨p2, hp2⟩ := nam ((aO (.mk 2 nm v ns az)).2))
 rw [hp1, hp2]
 first
 | (guard_hyp z759824a; rw [aO, if_neg (ng 3 1), if_neg (ng 3 2), if_pos rfl] at hp1 hp2)
 | (rw [aO, if_neg (ng 2 1), if_pos rfl] at hp1 hp2)
 obtain ⟨m, hm⟩ := nam az.length;obtain ⟨n, hn⟩ := nam ns.length;rw [hm] at haz hXA ⊢;rw [hn] at hns hNA ⊢
 (try rw [hm] at hp1 hp2)
 (try rw [hn] at hp1)
 have HM := aa hm
 first
 | (guard_hyp z759824a; obtain ⟨W0, u0, hW0, hu0, hsz, hbe, hce⟩ := bg w [.int .i64 3, .string nm, .int .i64 k, .bool b, .int .i64 i, .string s, .slice la l.length lc, .slice ka ks.length kc, .slice na n nc, .slice xa m xc] 66)
 | (obtain ⟨W0, u0, hW0, hu0, hsz, hbe, hce⟩ := bg w [.int .i64 2, .string nm, .int .i64 k, .bool b, .int .i64 i, .string s, .slice la l.length lc, .slice ka ks.length kc, .slice na n nc, .slice xa m xc] 66)
 obtain ⟨e0, e1, e2, e3, e4, e5, e6, e7, e8, e9⟩ := ce10 hce;obtain ⟨x0, x1, x2, x3, x4, x5, x6, x7, x8, x9⟩ := cx10 hce u0;rw [<- hu0, <- hW0] at x0 x1 x2 x3 x4 x5 x6 x7 x8 x9;obtain ⟨HBE, HW0, HU0⟩ := hd3 hbe hW0 hu0;have hmu : ∀ u : aq (w.heap.size + 1) W0, ML u.w := fun u => hML.below (hbe u)
 have Hplain := aa (fun u : aq (w.heap.size + 1) W0 => aJ u hsz (dJ nm u.w hs (hmu u)));obtain ⟨cplain, hplain⟩ := nam (cw nm);rw [hplain] at Hplain hp2;subst hp1 hp2;clear hbe hW0 hu0 hsz hce hNS hm hn hv hV hNA hXA hAZ hop hML hplain hmu;cases cplain <;>
 · go_enter Tryz.func163, Tryz.ntmps163
   go_wp2_with (first | (go_at_call 156; (try rw [HW0.out, HU0.out]); refine (Hplain.out _).mono ?_; rintro e w2 ⟨rfl, u_plain, rfl⟩))
   (try rw [HW0.out, HU0.out])
   go_ret2
   exact ⟨by rfl, HBE.out _⟩) : P := h
theorem yu : cf 2 := Sq759824
theorem yv : cf 3 := by
 have z759824a := trivial;exact Sq759824
theorem yw : cf 4 := by
 intro nm v ns az cs B w hX hB hML hs hns haz;obtain ⟨k, b, i, s, l, ks, la, lc, ka, kc, na, nc, xa, xc, hv, rfl, hop, hV, hNA, hXA, hNS, hAZ⟩ := hX.cells;clear hX;obtain ⟨p1, hp1⟩ := nam ((aO (.mk 4 nm v ns az)).1);obtain ⟨p2, hp2⟩ := nam ((aO (.mk 4 nm v ns az)).2);rw [hp1, hp2];rw [aO, if_neg (ng 4 1), if_neg (ng 4 2), if_neg (ng 4 3), if_pos rfl] at hp1 hp2;obtain ⟨m, hm⟩ := nam az.length;obtain ⟨n, hn⟩ := nam ns.length;rw [hm] at haz hXA ⊢;rw [hn] at hns hNA ⊢
 (try rw [hm] at hp1 hp2)
 (try rw [hn] at hp1)
 have HM := aa hm;obtain ⟨W0, u0, hW0, hu0, hsz, hbe, hce⟩ := bg w [.int .i64 4, .string nm, .int .i64 k, .bool b, .int .i64 i, .string s, .slice la l.length lc, .slice ka ks.length kc, .slice na n nc, .slice xa m xc] 66;obtain ⟨e0, e1, e2, e3, e4, e5, e6, e7, e8, e9⟩ := ce10 hce;obtain ⟨x0, x1, x2, x3, x4, x5, x6, x7, x8, x9⟩ := cx10 hce u0;rw [<- hu0, <- hW0] at x0 x1 x2 x3 x4 x5 x6 x7 x8 x9;obtain ⟨HBE, HW0, HU0⟩ := hd3 hbe hW0 hu0;have Hkey := aa (fun u : aq (w.heap.size + 1) W0 => eB u (ft nm u.w hs));obtain ⟨ckey, hkey⟩ := nam (ci nm);rw [hkey] at Hkey hp2;subst hp1 hp2;clear hbe hW0 hu0 hsz hce hNS hm hn hv hV hNA hXA hAZ hop hML hkey;cases ckey <;>
 · go_enter Tryz.func163, Tryz.ntmps163
   go_wp2_with (first | (go_at_call 155; (try rw [HW0.out, HU0.out]); refine (Hkey.out _).mono ?_; rintro e w2 ⟨rfl, u_key, rfl⟩))
   (try rw [HW0.out, HU0.out])
   go_ret2
   exact ⟨by rfl, HBE.out _⟩
theorem Sq703027 {P : Prop} (h : P := by
 intro nm v ns az cs B w hX hB hML hs hns haz;obtain ⟨k, b, i, s, l, ks, la, lc, ka, kc, na, nc, xa, xc, hv, rfl, hop, hV, hNA, hXA, hNS, hAZ⟩ := hX.cells;clear hX
 first
 |(
  guard_hyp z703027a
  obtain ⟨p1, hp1⟩ := nam ((aO (.mk 12 nm v ns az)).1);obtain ⟨p2, hp2⟩ := nam ((aO (.mk 12 nm v ns az)).2))
 |(
  guard_hyp z703027b
  obtain ⟨p1, hp1⟩ := nam ((aO (.mk 11 nm v ns az)).1);obtain ⟨p2, hp2⟩ := nam ((aO (.mk 11 nm v ns az)).2))
 |(
  guard_hyp z703027c
  obtain ⟨p1, hp1⟩ := nam ((aO (.mk 9 nm v ns az)).1);obtain ⟨p2, hp2⟩ := nam ((aO (.mk 9 nm v ns az)).2))
 |(
  guard_hyp z703027d
  obtain ⟨p1, hp1⟩ := nam ((aO (.mk 8 nm v ns az)).1);obtain ⟨p2, hp2⟩ := nam ((aO (.mk 8 nm v ns az)).2))
 |(
  guard_hyp z703027e
  obtain ⟨p1, hp1⟩ := nam ((aO (.mk 7 nm v ns az)).1);obtain ⟨p2, hp2⟩ := nam ((aO (.mk 7 nm v ns az)).2))
 |(
  guard_hyp z703027f
  obtain ⟨p1, hp1⟩ := nam ((aO (.mk 6 nm v ns az)).1);obtain ⟨p2, hp2⟩ := nam ((aO (.mk 6 nm v ns az)).2))
 |(
  obtain ⟨p1, hp1⟩ := nam ((aO (.mk 5 nm v ns az)).1);obtain ⟨p2, hp2⟩ := nam ((aO (.mk 5 nm v ns az)).2))
 rw [hp1, hp2]
 first
 | (guard_hyp z703027a; rw [aO, if_neg (ng 12 1), if_neg (ng 12 2), if_neg (ng 12 3), if_neg (ng 12 4), if_neg (ng 12 5), if_neg (ng 12 6), if_neg (ng 12 7), if_neg (ng 12 8), if_neg (ng 12 9), if_neg (ng 12 11), if_pos rfl] at hp1 hp2)
 | (guard_hyp z703027b; rw [aO, if_neg (ng 11 1), if_neg (ng 11 2), if_neg (ng 11 3), if_neg (ng 11 4), if_neg (ng 11 5), if_neg (ng 11 6), if_neg (ng 11 7), if_neg (ng 11 8), if_neg (ng 11 9), if_pos rfl] at hp1 hp2)
 | (guard_hyp z703027c; rw [aO, if_neg (ng 9 1), if_neg (ng 9 2), if_neg (ng 9 3), if_neg (ng 9 4), if_neg (ng 9 5), if_neg (ng 9 6), if_neg (ng 9 7), if_neg (ng 9 8), if_pos rfl] at hp1 hp2)
 | (guard_hyp z703027d; rw [aO, if_neg (ng 8 1), if_neg (ng 8 2), if_neg (ng 8 3), if_neg (ng 8 4), if_neg (ng 8 5), if_neg (ng 8 6), if_neg (ng 8 7), if_pos rfl] at hp1 hp2)
 | (guard_hyp z703027e; rw [aO, if_neg (ng 7 1), if_neg (ng 7 2), if_neg (ng 7 3), if_neg (ng 7 4), if_neg (ng 7 5), if_neg (ng 7 6), if_pos rfl] at hp1 hp2)
 | (guard_hyp z703027f; rw [aO, if_neg (ng 6 1), if_neg (ng 6 2), if_neg (ng 6 3), if_neg (ng 6 4), if_neg (ng 6 5), if_pos rfl] at hp1 hp2)
 | (rw [aO, if_neg (ng 5 1), if_neg (ng 5 2), if_neg (ng 5 3), if_neg (ng 5 4), if_pos rfl] at hp1 hp2)
 obtain ⟨m, hm⟩ := nam az.length;obtain ⟨n, hn⟩ := nam ns.length;rw [hm] at haz hXA ⊢;rw [hn] at hns hNA ⊢
 (try rw [hm] at hp1 hp2)
 (try rw [hn] at hp1)
 have HM := aa hm
 first
 | (guard_hyp z703027a; obtain ⟨W0, u0, hW0, hu0, hsz, hbe, hce⟩ := bg w [.int .i64 12, .string nm, .int .i64 k, .bool b, .int .i64 i, .string s, .slice la l.length lc, .slice ka ks.length kc, .slice na n nc, .slice xa m xc] 66)
 | (guard_hyp z703027b; obtain ⟨W0, u0, hW0, hu0, hsz, hbe, hce⟩ := bg w [.int .i64 11, .string nm, .int .i64 k, .bool b, .int .i64 i, .string s, .slice la l.length lc, .slice ka ks.length kc, .slice na n nc, .slice xa m xc] 66)
 | (guard_hyp z703027c; obtain ⟨W0, u0, hW0, hu0, hsz, hbe, hce⟩ := bg w [.int .i64 9, .string nm, .int .i64 k, .bool b, .int .i64 i, .string s, .slice la l.length lc, .slice ka ks.length kc, .slice na n nc, .slice xa m xc] 66)
 | (guard_hyp z703027d; obtain ⟨W0, u0, hW0, hu0, hsz, hbe, hce⟩ := bg w [.int .i64 8, .string nm, .int .i64 k, .bool b, .int .i64 i, .string s, .slice la l.length lc, .slice ka ks.length kc, .slice na n nc, .slice xa m xc] 66)
 | (guard_hyp z703027e; obtain ⟨W0, u0, hW0, hu0, hsz, hbe, hce⟩ := bg w [.int .i64 7, .string nm, .int .i64 k, .bool b, .int .i64 i, .string s, .slice la l.length lc, .slice ka ks.length kc, .slice na n nc, .slice xa m xc] 66)
 | (guard_hyp z703027f; obtain ⟨W0, u0, hW0, hu0, hsz, hbe, hce⟩ := bg w [.int .i64 6, .string nm, .int .i64 k, .bool b, .int .i64 i, .string s, .slice la l.length lc, .slice ka ks.length kc, .slice na n nc, .slice xa m xc] 66)
 | (obtain ⟨W0, u0, hW0, hu0, hsz, hbe, hce⟩ := bg w [.int .i64 5, .string nm, .int .i64 k, .bool b, .int .i64 i, .string s, .slice la l.length lc, .slice ka ks.length kc, .slice na n nc, .slice xa m xc] 66)
 obtain ⟨e0, e1, e2, e3, e4, e5, e6, e7, e8, e9⟩ := ce10 hce;obtain ⟨x0, x1, x2, x3, x4, x5, x6, x7, x8, x9⟩ := cx10 hce u0;rw [<- hu0, <- hW0] at x0 x1 x2 x3 x4 x5 x6 x7 x8 x9;obtain ⟨HBE, HW0, HU0⟩ := hd3 hbe hW0 hu0;obtain ⟨b0, h0⟩ := nam ((nm.toList == []));rw [h0] at hp2;subst hp1 hp2;clear hbe hW0 hu0 hsz hce hNS hm hn hv hV hNA hXA hAZ hop hML;cases b0 <;>
 · go_enter Tryz.func163, Tryz.ntmps163
   go_wp2_with fail
   (try rw [HW0.out, HU0.out])
   (try (refine bI _ (by kernel_rfl) (by kernel_rfl) ?_; (repeat (go_big_quiet_step (first | (with_reducible exact (HBE.out _))))); refine wpQuiet_nil ?_; rintro w9 ⟨u9, rfl⟩; go_wp2_with fail))
   go_ret2
   exact ⟨by rfl, HBE.out _⟩) : P := h
theorem yx : cf 5 := Sq703027
theorem yy : cf 6 := by
 have z703027f := trivial;exact Sq703027
theorem yz : cf 7 := by
 have z703027e := trivial;exact Sq703027
theorem yA : cf 8 := by
 have z703027d := trivial;exact Sq703027
theorem yB : cf 9 := by
 have z703027c := trivial;exact Sq703027
theorem vR : cf 11 := by
 have z703027b := trivial;exact Sq703027
theorem vS : cf 12 := by
 have z703027a := trivial;exact Sq703027
theorem vT : cf 10 := by
 intro nm v ns az cs B w hX hB hML hs hns haz;obtain ⟨k, b, i, s, l, ks, la, lc, ka, kc, na, nc, xa, xc, hv, rfl, hop, hV, hNA, hXA, hNS, hAZ⟩ := hX.cells;clear hX;obtain ⟨p1, hp1⟩ := nam ((aO (.mk 10 nm v ns az)).1);obtain ⟨p2, hp2⟩ := nam ((aO (.mk 10 nm v ns az)).2);rw [hp1, hp2];rw [aO, if_neg (ng 10 1), if_neg (ng 10 2), if_neg (ng 10 3), if_neg (ng 10 4), if_neg (ng 10 5), if_neg (ng 10 6), if_neg (ng 10 7), if_neg (ng 10 8), if_neg (ng 10 9), if_neg (ng 10 11), if_neg (ng 10 12), if_pos rfl] at hp1 hp2;obtain ⟨m, hm⟩ := nam az.length;obtain ⟨n, hn⟩ := nam ns.length;rw [hm] at haz hXA ⊢;rw [hn] at hns hNA ⊢
 (try rw [hm] at hp1 hp2)
 (try rw [hn] at hp1)
 have HM := aa hm;obtain ⟨W0, u0, hW0, hu0, hsz, hbe, hce⟩ := bg w [.int .i64 10, .string nm, .int .i64 k, .bool b, .int .i64 i, .string s, .slice la l.length lc, .slice ka ks.length kc, .slice na n nc, .slice xa m xc] 66;obtain ⟨e0, e1, e2, e3, e4, e5, e6, e7, e8, e9⟩ := ce10 hce;obtain ⟨x0, x1, x2, x3, x4, x5, x6, x7, x8, x9⟩ := cx10 hce u0;rw [<- hu0, <- hW0] at x0 x1 x2 x3 x4 x5 x6 x7 x8 x9;obtain ⟨HBE, HW0, HU0⟩ := hd3 hbe hW0 hu0;have Hlevel := aa (fun u : aq (w.heap.size + 1) W0 => aJ u hsz (qU nm u.w hs));obtain ⟨cl, hcl⟩ := nam (eQ nm);rw [hcl] at Hlevel hp2;clear hcl;obtain ⟨clevel, hlevel⟩ := nam (decide (0 < cl));rw [hlevel] at hp2;subst hp1 hp2;clear hbe hW0 hu0 hsz hce hNS hm hn hv hV hNA hXA hAZ hop hML;cases clevel <;>
 · go_enter Tryz.func163, Tryz.ntmps163
   go_wp2_with (first | (go_at_call 168; (try rw [HW0.out, HU0.out]); refine (Hlevel.out _).mono ?_; rintro e w2 ⟨rfl, u_level, rfl⟩))
   (try rw [HW0.out, HU0.out])
   go_ret2
   exact ⟨by rfl, HBE.out _⟩
theorem vU : cf 13 := by
 intro nm v ns az cs B w hX hB hML hs hns haz;obtain ⟨k, b, i, s, l, ks, la, lc, ka, kc, na, nc, xa, xc, hv, rfl, hop, hV, hNA, hXA, hNS, hAZ⟩ := hX.cells;clear hX;obtain ⟨p1, hp1⟩ := nam ((aO (.mk 13 nm v ns az)).1);obtain ⟨p2, hp2⟩ := nam ((aO (.mk 13 nm v ns az)).2);rw [hp1, hp2];rw [aO, if_neg (ng 13 1), if_neg (ng 13 2), if_neg (ng 13 3), if_neg (ng 13 4), if_neg (ng 13 5), if_neg (ng 13 6), if_neg (ng 13 7), if_neg (ng 13 8), if_neg (ng 13 9), if_neg (ng 13 11), if_neg (ng 13 12), if_neg (ng 13 10), if_pos rfl] at hp1 hp2;obtain ⟨m, hm⟩ := nam az.length;obtain ⟨n, hn⟩ := nam ns.length;rw [hm] at haz hXA ⊢;rw [hn] at hns hNA ⊢
 (try rw [hm] at hp1 hp2)
 (try rw [hn] at hp1)
 have HM := aa hm;obtain ⟨W0, u0, hW0, hu0, hsz, hbe, hce⟩ := bg w [.int .i64 13, .string nm, .int .i64 k, .bool b, .int .i64 i, .string s, .slice la l.length lc, .slice ka ks.length kc, .slice na n nc, .slice xa m xc] 66;obtain ⟨e0, e1, e2, e3, e4, e5, e6, e7, e8, e9⟩ := ce10 hce;obtain ⟨x0, x1, x2, x3, x4, x5, x6, x7, x8, x9⟩ := cx10 hce u0;rw [<- hu0, <- hW0] at x0 x1 x2 x3 x4 x5 x6 x7 x8 x9;obtain ⟨HBE, HW0, HU0⟩ := hd3 hbe hW0 hu0;have hmu : ∀ u : aq (w.heap.size + 1) W0, ML u.w := fun u => hML.below (hbe u)
 have Hplain := aa (fun u : aq (w.heap.size + 1) W0 => aJ u hsz (dJ nm u.w hs (hmu u)));obtain ⟨cplain, hplain⟩ := nam (cw nm);rw [hplain] at Hplain hp2;have Hagg := aa (fun u : aq (w.heap.size + 1) W0 => eB u (pg nm u.w));obtain ⟨cagg, hagg⟩ := nam (eR nm);rw [hagg] at Hagg hp2;subst hp1 hp2;clear hbe hW0 hu0 hsz hce hNS hm hn hv hV hNA hXA hAZ hop hML hplain hmu hagg;cases cplain <;> cases cagg <;>
 · go_enter Tryz.func163, Tryz.ntmps163
   go_wp2_with (first | (go_at_call 156; (try rw [HW0.out, HU0.out]); refine (Hplain.out _).mono ?_; rintro e w2 ⟨rfl, u_plain, rfl⟩) | (go_at_call 169; (try rw [HW0.out, HU0.out]); refine (Hagg.out _).mono ?_; rintro e w2 ⟨rfl, u_agg, rfl⟩))
   (try rw [HW0.out, HU0.out])
   go_ret2
   exact ⟨by rfl, HBE.out _⟩
theorem vV : cf 14 := by
 intro nm v ns az cs B w hX hB hML hs hns haz;obtain ⟨k, b, i, s, l, ks, la, lc, ka, kc, na, nc, xa, xc, hv, rfl, hop, hV, hNA, hXA, hNS, hAZ⟩ := hX.cells;clear hX;obtain ⟨p1, hp1⟩ := nam ((aO (.mk 14 nm v ns az)).1);obtain ⟨p2, hp2⟩ := nam ((aO (.mk 14 nm v ns az)).2);rw [hp1, hp2];rw [aO, if_neg (ng 14 1), if_neg (ng 14 2), if_neg (ng 14 3), if_neg (ng 14 4), if_neg (ng 14 5), if_neg (ng 14 6), if_neg (ng 14 7), if_neg (ng 14 8), if_neg (ng 14 9), if_neg (ng 14 11), if_neg (ng 14 12), if_neg (ng 14 10), if_neg (ng 14 13), if_pos rfl] at hp1 hp2;obtain ⟨m, hm⟩ := nam az.length;obtain ⟨n, hn⟩ := nam ns.length;rw [hm] at haz hXA ⊢;rw [hn] at hns hNA ⊢
 (try rw [hm] at hp1 hp2)
 (try rw [hn] at hp1)
 have HM := aa hm;obtain ⟨W0, u0, hW0, hu0, hsz, hbe, hce⟩ := bg w [.int .i64 14, .string nm, .int .i64 k, .bool b, .int .i64 i, .string s, .slice la l.length lc, .slice ka ks.length kc, .slice na n nc, .slice xa m xc] 66;obtain ⟨e0, e1, e2, e3, e4, e5, e6, e7, e8, e9⟩ := ce10 hce;obtain ⟨x0, x1, x2, x3, x4, x5, x6, x7, x8, x9⟩ := cx10 hce u0;rw [<- hu0, <- hW0] at x0 x1 x2 x3 x4 x5 x6 x7 x8 x9;obtain ⟨HBE, HW0, HU0⟩ := hd3 hbe hW0 hu0
 by_cases hz : m = 0
 ·rw [if_pos hz] at hp1 hp2;subst hz;obtain ⟨b0, h0⟩ : ∃ r, (nm.toList == [99, 111, 117, 110, 116]) = r := ⟨_, rfl⟩;rw [h0] at hp2;subst hp1 hp2;clear hbe hW0 hu0 hsz hce hNS hm hn hv hV hNA hXA hAZ hop hML;cases b0 <;>
  · go_enter Tryz.func163, Tryz.ntmps163
    go_wp2_with fail
    (try rw [HW0.out, HU0.out])
    (try (refine bI _ (by kernel_rfl) (by kernel_rfl) ?_; (repeat (go_big_quiet_step (first | (with_reducible exact (HBE.out _))))); refine wpQuiet_nil ?_; rintro w9 ⟨u9, rfl⟩; go_wp2_with fail))
    go_ret2
    exact ⟨by rfl, HBE.out _⟩
 ·rw [if_neg hz] at hp1 hp2;have hz' : ((m : Int) == 0) = false := by simp; omega
  have Hagg := aa (fun u : aq (w.heap.size + 1) W0 => eB u (pg nm u.w));obtain ⟨cagg, hagg⟩ := nam (eR nm);rw [hagg] at Hagg hp2;subst hp1 hp2;clear hbe hW0 hu0 hsz hce hNS hm hn hv hV hNA hXA hAZ hop hML hagg hz;go_enter Tryz.func163, Tryz.ntmps163;go_wp2_with (first | (go_at_call 169; (try rw [HW0.out, HU0.out]); refine (Hagg.out _).mono ?_; rintro e w2 ⟨rfl, u_agg, rfl⟩))
  go_ret2
  exact ⟨by rfl, HBE.out _⟩
theorem vW : cf 15 := by
 intro nm v ns az cs B w hX hB hML hs hns haz;obtain ⟨k, b, i, s, l, ks, la, lc, ka, kc, na, nc, xa, xc, hv, rfl, hop, hV, hNA, hXA, hNS, hAZ⟩ := hX.cells;clear hX;obtain ⟨p1, hp1⟩ := nam ((aO (.mk 15 nm v ns az)).1);obtain ⟨p2, hp2⟩ := nam ((aO (.mk 15 nm v ns az)).2);rw [hp1, hp2];rw [aO, if_neg (ng 15 1), if_neg (ng 15 2), if_neg (ng 15 3), if_neg (ng 15 4), if_neg (ng 15 5), if_neg (ng 15 6), if_neg (ng 15 7), if_neg (ng 15 8), if_neg (ng 15 9), if_neg (ng 15 11), if_neg (ng 15 12), if_neg (ng 15 10), if_neg (ng 15 13), if_neg (ng 15 14), if_pos rfl] at hp1 hp2;obtain ⟨m, hm⟩ := nam az.length;obtain ⟨n, hn⟩ := nam ns.length;rw [hm] at haz hXA ⊢;rw [hn] at hns hNA ⊢
 (try rw [hm] at hp1 hp2)
 (try rw [hn] at hp1)
 have HM := aa hm;obtain ⟨W0, u0, hW0, hu0, hsz, hbe, hce⟩ := bg w [.int .i64 15, .string nm, .int .i64 k, .bool b, .int .i64 i, .string s, .slice la l.length lc, .slice ka ks.length kc, .slice na n nc, .slice xa m xc] 66;obtain ⟨e0, e1, e2, e3, e4, e5, e6, e7, e8, e9⟩ := ce10 hce;obtain ⟨x0, x1, x2, x3, x4, x5, x6, x7, x8, x9⟩ := cx10 hce u0;rw [<- hu0, <- hW0] at x0 x1 x2 x3 x4 x5 x6 x7 x8 x9;obtain ⟨HBE, HW0, HU0⟩ := hd3 hbe hW0 hu0;have HAT : Hid (∀ (j : Nat) t, az[j]? = some t -> ∃ b off cs, xa = some ⟨b, off, none⟩ /\ b < B /\ (∀ (u : aq (w.heap.size + 1) W0) (q : Nat) v, cs[q]? = some v -> u.w.cell? ⟨b, off + j * 10 + q, none⟩ = some v) /\ ∀ u : aq (w.heap.size + 1) W0, bK B u.w cs t) := aa (fun j t ht => hAZ.at_ext hB hbe ht);have Hkey := aa (fun u : aq (w.heap.size + 1) W0 => eB u (ft nm u.w hs));obtain ⟨ckey, hkey⟩ := nam (ci nm);rw [hkey] at Hkey hp2;obtain ⟨c2, hc2⟩ := nam ((jl az == 2));rw [hc2] at hp2;clear hbe hW0 hu0 hsz hce hNS hn hv hV hNA hXA hAZ hop hML hkey
 by_cases hm1 : m = 1
 ·subst hm1;have h1 : (((1 : Nat) : Int) == 1) = true := by decide
  rw [h1] at hp2;obtain ⟨t, ht⟩ := aB (l := az) (j := 0) (by have := HM.out; omega);obtain ⟨eb, eo, cs2, rfl, heb, hcs, hX2⟩ := HAT.out 0 t ht;obtain ⟨op2, nm2, v2, ns2, az2⟩ := t;have hf : jl az = op2 := by
   cases az with
   | nil => simp at ht
   | cons u us => simp at ht; subst ht; rfl
  rw [hf] at hc2;obtain ⟨k2, b2, i2, s2, l2, ks2, la2, lc2, ka2, kc2, na2, nc2, xa2, xc2, -, rfl, -⟩ := (hX2 u0).cells;have g0 : ∀ u : aq (w.heap.size + 1) W0, u.w.cell? ⟨eb, eo, none⟩ = some (.int .i64 op2) := fun u => by have := hcs u 0 _ rfl; simpa using this
  subst hp1 hp2;clear hf ht hcs hX2 hm h1;cases ckey <;> cases c2 <;>
  · go_enter Tryz.func163, Tryz.ntmps163
    go_wp2_with fail
    (try rw [HW0.out, HU0.out])
    (try (refine bI _ (by kernel_rfl) (by kernel_rfl) ?_; (repeat (go_big_quiet_step (first | (with_reducible exact (Hkey.out _))))); refine wpQuiet_nil ?_; rintro w9 ⟨u9, rfl⟩; go_wp2_with fail))
    go_ret2
    exact ⟨by rfl, HBE.out _⟩
 ·have hz' : ((m : Int) == 1) = false := by simp; omega
  rw [hz'] at hp2;subst hp1 hp2;clear hm hc2 hm1;cases ckey <;>
  · go_enter Tryz.func163, Tryz.ntmps163
    go_wp2_with fail
    (try rw [HW0.out, HU0.out])
    (try (refine bI _ (by kernel_rfl) (by kernel_rfl) ?_; (repeat (go_big_quiet_step (first | (with_reducible exact (Hkey.out _))))); refine wpQuiet_nil ?_; rintro w9 ⟨u9, rfl⟩; go_wp2_with fail))
    go_ret2
    exact ⟨by rfl, HBE.out _⟩
theorem vX (op : Int) (g1 : (op == 1) = false) (g2 : (op == 2) = false) (g3 : (op == 3) = false) (g4 : (op == 4) = false) (g5 : (op == 5) = false) (g6 : (op == 6) = false) (g7 : (op == 7) = false) (g8 : (op == 8) = false) (g9 : (op == 9) = false) (g11 : (op == 11) = false) (g12 : (op == 12) = false) (g10 : (op == 10) = false) (g13 : (op == 13) = false) (g14 : (op == 14) = false) (g15 : (op == 15) = false) : cf op := by
 intro nm v ns az cs B w hX hB hML hs hns haz;obtain ⟨k, b, i, s, l, ks, la, lc, ka, kc, na, nc, xa, xc, hv, rfl, hop, hV, hNA, hXA, hNS, hAZ⟩ := hX.cells;clear hX;obtain ⟨p1, hp1⟩ := nam ((aO (.mk op nm v ns az)).1);obtain ⟨p2, hp2⟩ := nam ((aO (.mk op nm v ns az)).2);rw [hp1, hp2];obtain ⟨m, hm⟩ := nam az.length;obtain ⟨n, hn⟩ := nam ns.length;rw [hm] at haz hXA ⊢;rw [hn] at hns hNA ⊢
 (try rw [hm] at hp1 hp2)
 (try rw [hn] at hp1)
 have HM := aa hm;obtain ⟨W0, u0, hW0, hu0, hsz, hbe, hce⟩ := bg w [.int .i64 op, .string nm, .int .i64 k, .bool b, .int .i64 i, .string s, .slice la l.length lc, .slice ka ks.length kc, .slice na n nc, .slice xa m xc] 66;obtain ⟨e0, e1, e2, e3, e4, e5, e6, e7, e8, e9⟩ := ce10 hce;obtain ⟨x0, x1, x2, x3, x4, x5, x6, x7, x8, x9⟩ := cx10 hce u0;rw [<- hu0, <- hW0] at x0 x1 x2 x3 x4 x5 x6 x7 x8 x9;obtain ⟨HBE, HW0, HU0⟩ := hd3 hbe hW0 hu0;have hq1 : p1 = 0 := by rw [<- hp1]; simp only [beq_eq_false_iff_ne, ne_eq] at g1 g2 g3 g4 g5 g6 g7 g8 g9 g11 g12 g10 g13 g14 g15; simp [aO, g1, g2, g3, g4, g5, g6, g7, g8, g9, g11, g12, g10, g13, g14, g15]
 have hq2 : p2 = false := by rw [<- hp2]; simp only [beq_eq_false_iff_ne, ne_eq] at g1 g2 g3 g4 g5 g6 g7 g8 g9 g11 g12 g10 g13 g14 g15; simp [aO, g1, g2, g3, g4, g5, g6, g7, g8, g9, g11, g12, g10, g13, g14, g15]
 clear hp1 hp2;subst hq1 hq2;clear hbe hW0 hu0 hsz hce hNS hm hn hv hV hNA hXA hAZ hop hML;go_enter Tryz.func163, Tryz.ntmps163;go_wp2_with fail
 (try rw [HW0.out, HU0.out])
 go_ret2
 exact ⟨by rfl, HBE.out _⟩
theorem ml (t : Ex) (cs : List Value) (B : Nat) (w : World) (hX : bK B w cs t) (hB : B <= w.heap.size) (hML : ML w) (hw : ee t <= 1099511627776) :
    Calls Tryz.prog 163 #[.agg cs.toArray] w fun e w' => e = .returned (.tuple #[.int .i64 (aO t).1, .bool (aO t).2]) /\ Below w.heap.size w w' := by
 obtain ⟨op, nm, v, ns, az⟩ := t;have h1 : nm.size <= 1099511627776 := by simp only [ee] at hw; omega
 have h2 : ju ns <= 1099511627776 := by simp only [ee] at hw; omega
 have h3 : ns.length <= 1099511627776 := by have := eG ns; omega
 have h4 : az.length <= 1099511627776 := by have := dI az; simp only [ee] at hw; omega
 by_cases g1 : op = 1
 ·subst g1; exact yt nm v ns az cs B w hX hB hML h1 h3 h4
 by_cases g2 : op = 2
 ·subst g2; exact yu nm v ns az cs B w hX hB hML h1 h3 h4
 by_cases g3 : op = 3
 ·subst g3; exact yv nm v ns az cs B w hX hB hML h1 h3 h4
 by_cases g4 : op = 4
 ·subst g4; exact yw nm v ns az cs B w hX hB hML h1 h3 h4
 by_cases g5 : op = 5
 ·subst g5; exact yx nm v ns az cs B w hX hB hML h1 h3 h4
 by_cases g6 : op = 6
 ·subst g6; exact yy nm v ns az cs B w hX hB hML h1 h3 h4
 by_cases g7 : op = 7
 ·subst g7; exact yz nm v ns az cs B w hX hB hML h1 h3 h4
 by_cases g8 : op = 8
 ·subst g8; exact yA nm v ns az cs B w hX hB hML h1 h3 h4
 by_cases g9 : op = 9
 ·subst g9; exact yB nm v ns az cs B w hX hB hML h1 h3 h4
 by_cases g11 : op = 11
 ·subst g11; exact vR nm v ns az cs B w hX hB hML h1 h3 h4
 by_cases g12 : op = 12
 ·subst g12; exact vS nm v ns az cs B w hX hB hML h1 h3 h4
 by_cases g10 : op = 10
 ·subst g10; exact vT nm v ns az cs B w hX hB hML h1 h3 h4
 by_cases g13 : op = 13
 ·subst g13; exact vU nm v ns az cs B w hX hB hML h1 h3 h4
 by_cases g14 : op = 14
 ·subst g14; exact vV nm v ns az cs B w hX hB hML h1 h3 h4
 by_cases g15 : op = 15
 ·subst g15; exact vW nm v ns az cs B w hX hB hML h1 h3 h4
 exact vX op (by simpa using g1) (by simpa using g2) (by simpa using g3) (by simpa using g4) (by simpa using g5) (by simpa using g6) (by simpa using g7) (by simpa using g8) (by simpa using g9) (by simpa using g11) (by simpa using g12) (by simpa using g10) (by simpa using g13) (by simpa using g14) (by simpa using g15) nm v ns az cs B w hX hB hML h1 h3 h4
end Go.Proofs.YteljlahcdipilaaGreat

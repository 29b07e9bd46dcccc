/- Parts X20, X21, X24, X26 of this seat (pruned, scripts that are alike kept once as default arguments: q1, q2, ..). Conditions: each says its own. -/
import Derived.Test.YteljlahcdipilaaGreatG17
set_option linter.unusedSimpArgs false
set_option linter.unusedVariables false
set_option maxRecDepth 1000000
set_option maxHeartbeats 64000000
namespace Go.Proofs.YteljlahcdipilaaGreat
open Go.RowKit
theorem cg.at_gen {α U : Type} {R : World -> List Value -> α -> Prop} {f : U -> World} {size B C : Nat} {w : World} {xa : Option Addr} {l : List α} (h : cg (R w) size B w xa l) (hB : B <= C) (hbe : ∀ u, Below C w (f u)) (hR : ∀ u cs x, R w cs x -> R (f u) cs x) {j : Nat} {x : α} (hx : l[j]? = some x) :
    ∃ b off cs, xa = some ⟨b, off, none⟩ /\ b < B /\ cs.length = size /\ (∀ (u : U) (q : Nat) v, cs[q]? = some v -> (f u).cell? ⟨b, off + j * size + q, none⟩ = some v) /\ ∀ u : U, R (f u) cs x := by
 obtain ⟨b, off, cs, h1, h2, h3, h4, h5⟩ := h j x hx;exact ⟨b, off, cs, h1, h2, h3, fun u q v hv => ((hbe u).cell (p := ⟨b, off + j * size + q, none⟩) (by show b < _; omega)).trans (by rw [Nat.add_assoc]; exact h4 q v hv), fun u => hR u _ _ h5⟩
theorem se {s : ByteArray} {b : Bool} (h : (s.toList == []) = b) {c : Bool} (h2 : cw s = c) : yC s = (b || c) := by unfold yC; rw [h, h2]
theorem kP {s : ByteArray} {b : Bool} (h : (s.toList == []) = b) : s.toList.isEmpty = b := by rw [<- h]; cases s.toList <;> rfl
theorem Sq880517 {P : Prop} (h : P := by
 first
 |(
  guard_hyp z880517a
  have hn0' : ((n : Int) == 0) = false := by simp; omega
  have hqq : q = false := by rw [<- hq]; simp [hn0])
 | (have hqq : q = false := by rw [<- hq]; simp)
 subst hqq;clear hq;go_enter Tryz.func91, Tryz.ntmps91;go_wp2_with fail;rw [HW0.out];refine HSA.out.mono ?_;rintro e w1 ⟨rfl, hb1⟩;have HB1 := aa (aF HB0.out rfl hb1);have y8 : w1.cell? ⟨w.heap.size, 8, none⟩ = some (.slice na n nc) := (hb1.cell (by show w.heap.size < W0.heap.size; rw [<- HW0.out]; simp)).trans (by rw [<- HW0.out]; exact x8);have y9 : w1.cell? ⟨w.heap.size, 9, none⟩ = some (.slice xa m xc) := (hb1.cell (by show w.heap.size < W0.heap.size; rw [<- HW0.out]; simp)).trans (by rw [<- HW0.out]; exact x9);clear hb1;go_wp2_with fail;go_ret;exact ⟨rfl, HB1.out⟩) : P := h
theorem kQ (t : Ex) (cs : List Value) (B : Nat) (w : World) (hX : bK B w cs t) (hB : B <= w.heap.size) : Calls Tryz.prog 91 #[.agg cs.toArray] w fun e w' => e = .returned (.bool (kJ t)) /\ Below w.heap.size w w' := by
 obtain ⟨op, nm, v, ns, az⟩ := t;obtain ⟨k, b, i, s, l, ks, la, lc, ka, kc, na, nc, xa, xc, hv, rfl, -, hV, -⟩ := hX.cells;clear hX;obtain ⟨n, hn⟩ := nam ns.length;obtain ⟨m, hm⟩ := nam az.length;obtain ⟨W0, hW0⟩ : ∃ W0, w.alloc (.cells #[.int .i64 op, .string nm, .int .i64 k, .bool b, .int .i64 i, .string s, .slice la l.length lc, .slice ka ks.length kc, .slice na n nc, .slice xa m xc] 66) = W0 := ⟨_, rfl⟩;have hb0 : Below w.heap.size w W0 := by rw [<- hW0]; exact (Below.refl _ _).alloc (Nat.le_refl _) _
 have hx0 : ae W0 w.heap.size [.int .i64 op, .string nm, .int .i64 k, .bool b, .int .i64 i, .string s, .slice la l.length lc, .slice ka ks.length kc, .slice na n nc, .slice xa m xc] 66 := by rw [<- hW0]; exact ae.new _ _ _
 have x0 := hx0.cell (i := 0) rfl;have x1 := hx0.cell (i := 1) rfl;have x2 := hx0.cell (i := 2) rfl;have x3 := hx0.cell (i := 3) rfl;have x4 := hx0.cell (i := 4) rfl;have x5 := hx0.cell (i := 5) rfl;have x6 := hx0.cell (i := 6) rfl;have x7 := hx0.cell (i := 7) rfl;have x8 := hx0.cell (i := 8) rfl;have x9 := hx0.cell (i := 9) rfl;rw [<- hW0] at x0 x1 x2 x3 x4 x5 x6 x7 x8 x9;have HSA := aa (mi v cQ _ kI B W0 (dR.below hb0 hB _ _ hV) (fs _ _) (Nat.le_trans hB hb0.size));have HB0 := aa hb0;have HW0 := aa hW0;clear hb0 hx0 hW0 hV hB;show Calls Tryz.prog 91 #[.agg #[.int .i64 op, .string nm, .int .i64 k, .bool b, .int .i64 i, .string s, .slice la l.length lc, .slice ka ks.length kc, .slice na ns.length nc, .slice xa az.length xc]] w _;obtain ⟨q, hq⟩ := nam (kJ (.mk op nm v ns az));rw [hq];rw [kJ] at hq;rw [hn, hm] at hq;rw [hn, hm];clear hn hm;obtain ⟨b0, h0⟩ := nam ((op == 0));obtain ⟨b1, h1⟩ := nam ((nm.toList == []));obtain ⟨b2, h2⟩ := nam (dV v cQ);rw [h2] at HSA;rw [h0, h1, h2] at hq;clear h2;cases b0 with
 | false =>
  have hqq : q = false := by rw [<- hq]; simp
  subst hqq;clear hq;go_enter Tryz.func91, Tryz.ntmps91;go_wp2_with fail;rw [HW0.out];go_ret;exact ⟨rfl, HB0.out⟩
 | true =>
  cases b1 with
  | false =>
   have hqq : q = false := by rw [<- hq]; simp
   subst hqq;clear hq;go_enter Tryz.func91, Tryz.ntmps91;go_wp2_with fail;rw [HW0.out];go_ret;exact ⟨rfl, HB0.out⟩
  | true =>
   cases b2 with
   | false =>
    exact Sq880517
   | true =>
    by_cases hn0 : n = 0
    ·subst hn0
     by_cases hm0 : m = 0
     ·subst hm0;have hqq : q = true := by rw [<- hq]; simp
      subst hqq;clear hq;go_enter Tryz.func91, Tryz.ntmps91;go_wp2_with fail;rw [HW0.out];refine HSA.out.mono ?_;rintro e w1 ⟨rfl, hb1⟩;have HB1 := aa (aF HB0.out rfl hb1);have y8 : w1.cell? ⟨w.heap.size, 8, none⟩ = some (.slice na 0 nc) := (hb1.cell (by show w.heap.size < W0.heap.size; rw [<- HW0.out]; simp)).trans (by rw [<- HW0.out]; exact x8);have y9 : w1.cell? ⟨w.heap.size, 9, none⟩ = some (.slice xa 0 xc) := (hb1.cell (by show w.heap.size < W0.heap.size; rw [<- HW0.out]; simp)).trans (by rw [<- HW0.out]; exact x9);clear hb1;go_wp2_with fail;go_ret;exact ⟨rfl, HB1.out⟩
     ·have hm0' : ((m : Int) == 0) = false := by simp; omega
      have hqq : q = false := by rw [<- hq]; simp [hm0]
      subst hqq;clear hq;go_enter Tryz.func91, Tryz.ntmps91;go_wp2_with fail;rw [HW0.out];refine HSA.out.mono ?_;rintro e w1 ⟨rfl, hb1⟩;have HB1 := aa (aF HB0.out rfl hb1);have y8 : w1.cell? ⟨w.heap.size, 8, none⟩ = some (.slice na 0 nc) := (hb1.cell (by show w.heap.size < W0.heap.size; rw [<- HW0.out]; simp)).trans (by rw [<- HW0.out]; exact x8);have y9 : w1.cell? ⟨w.heap.size, 9, none⟩ = some (.slice xa m xc) := (hb1.cell (by show w.heap.size < W0.heap.size; rw [<- HW0.out]; simp)).trans (by rw [<- HW0.out]; exact x9);clear hb1;go_wp2_with fail;go_ret;exact ⟨rfl, HB1.out⟩
    ·have z880517a := trivial;exact Sq880517
theorem gq (t : Ex) (cs : List Value) (B : Nat) (w : World) (hX : bK B w cs t) (hB : B <= w.heap.size) (hML : ML w) (hw : ee t <= 1099511627776) :
    Calls Tryz.prog 187 #[.agg cs.toArray] w fun e w' => e = .returned (.bool (bD 32 t)) /\ Below w.heap.size w w' := by
 have hX0 := hX;obtain ⟨op, nm, v, ns, az⟩ := t;obtain ⟨k, b, i, s, l, ks, la, lc, ka, kc, na, nc, xa, xc, hv, rfl, hop, hV, hNA, hXA, hNS, hAZ⟩ := hX.cells;clear hX;obtain ⟨W0, u0, hW0, hu0, hsz, hbe, hce⟩ := bg w [.int .i64 op, .string nm, .int .i64 k, .bool b, .int .i64 i, .string s, .slice la l.length lc, .slice ka ks.length kc, .slice na ns.length nc, .slice xa az.length xc] 132;obtain ⟨e0, e1, e2, e3, e4, e5, e6, e7, e8, e9⟩ := ce10 hce;obtain ⟨x0, x1, x2, x3, x4, x5, x6, x7, x8, x9⟩ := cx10 hce u0;rw [<- hu0, <- hW0] at x0 x1 x2 x3 x4 x5 x6 x7 x8 x9;have HR := aa (fun u => jB u (.mk op nm v ns az) _ B hsz (bK.below (hbe u) hB _ _ hX0) (Nat.le_trans hB (hbe u).size) (hML.below (hbe u)) hw);obtain ⟨HBE, HW0, HU0⟩ := hd3 hbe hW0 hu0;generalize bD 32 (.mk op nm v ns az) = q at *;clear hbe hW0 hu0 hsz hce hNS hv hV hNA hXA hAZ hX0 hw hop hML;generalize ns.length = n at *;generalize az.length = m at *;go_enter Tryz.func187, Tryz.ntmps187;go_wp2_with (go_at_call 160; (try rw [HW0.out, HU0.out]); refine (HR.out _).mono ?_; rintro e w2 ⟨rfl, u2, rfl⟩);go_ret;exact ⟨by rfl, HBE.out _⟩
theorem nC (s : ByteArray) (w : World) (hs : s.size <= 1099511627776) (hML : ML w) : Calls Tryz.prog 193 #[.string s] w fun e w' => e = .returned (.bool (cw s)) /\ Below w.heap.size w w' := by
 have HP := aa (dJ s w hs hML);generalize cw s = q at *;go_enter Tryz.func193, Tryz.ntmps193;go_wp2_with (go_at_call 156; refine HP.out.mono ?_; rintro e w1 ⟨rfl, hb⟩; have HB := aa hb; clear hb);go_ret;exact ⟨rfl, HB.out⟩
theorem nD (o : oe) (cs : List Value) (B : Nat) (w : World) (hX : jj B w cs o) (hB : B <= w.heap.size) (hML : ML w) (hw : bE o <= 1099511627776) :
    Calls Tryz.prog 191 #[.agg cs.toArray] w fun e w' => e = .returned (.bool (vZ o)) /\ Below w.heap.size w w' := by
 obtain ⟨t, fl⟩ := o;obtain ⟨xe, rfl, hX⟩ := hX;have hX0 : bK B w xe t := hX;have hwx : ee t <= 1099511627776 := by simp only [bE] at hw; omega
 obtain ⟨r, hr⟩ := nam (bD 32 t);rw [show vZ ⟨t, fl⟩ = bD 32 t from rfl, hr];obtain ⟨op, nm, v, ns, az⟩ := t;obtain ⟨k, b, i, s, l, ks, la, lc, ka, kc, na, nc, xa, xc, hv, rfl, hop, hV, hNA, hXA, hNS, hAZ⟩ := hX0.cells;obtain ⟨W0, u0, hW0, hu0, hsz, hbe, hce⟩ := bg w [.int .i64 op, .string nm, .int .i64 k, .bool b, .int .i64 i, .string s, .slice la l.length lc, .slice ka ks.length kc, .slice na ns.length nc, .slice xa az.length xc, .bool fl] 138;obtain ⟨e0, e1, e2, e3, e4, e5, e6, e7, e8, e9, e10⟩ := ce11 hce;obtain ⟨x0, x1, x2, x3, x4, x5, x6, x7, x8, x9, x10⟩ := cx11 hce u0;rw [<- hu0, <- hW0] at x0 x1 x2 x3 x4 x5 x6 x7 x8 x9 x10;have HR := aa (fun (u : aq (w.heap.size + 1) W0) => aJ u hsz (gq (.mk op nm v ns az) _ B u.w (bK.below (hbe u) hB _ _ hX0) (Nat.le_trans hB (hbe u).size) (hML.below (hbe u)) hwx));rw [hr] at HR;obtain ⟨HBE, HW0, HU0⟩ := hd3 hbe hW0 hu0;clear hbe hW0 hu0 hsz hce hNS hv hV hNA hXA hAZ hX0 hX hw hop hML hr hwx;generalize ns.length = n at *;generalize az.length = m at *;go_enter Tryz.func191, Tryz.ntmps191;go_wp2_with (go_at_call 187; (try rw [HW0.out, HU0.out]); refine (HR.out _).mono ?_; rintro e w2 ⟨rfl, u3, rfl⟩);go_ret;exact ⟨by rfl, HBE.out _⟩
theorem nE (o : mj) (cs : List Value) (B : Nat) (w : World) (hX : ji B w cs o) (hB : B <= w.heap.size) (hML : ML w) (hw : bB o <= 1099511627776) :
    Calls Tryz.prog 189 #[.agg cs.toArray] w fun e w' => e = .returned (.bool (vY o)) /\ Below w.heap.size w w' := by
 obtain ⟨t, fl⟩ := o;obtain ⟨xe, rfl, hX⟩ := hX;have hX0 : bK B w xe t := hX;have hwx : ee t <= 1099511627776 := by simp only [bB] at hw; omega
 have hs : fl.size <= 1099511627776 := by simp only [bB] at hw; omega
 obtain ⟨r, hr⟩ := nam (bD 32 t);rw [show vY ⟨t, fl⟩ = (cw fl && bD 32 t) from rfl, hr];obtain ⟨op, nm, v, ns, az⟩ := t;obtain ⟨k, b, i, s, l, ks, la, lc, ka, kc, na, nc, xa, xc, hv, rfl, hop, hV, hNA, hXA, hNS, hAZ⟩ := hX0.cells;obtain ⟨W0, u0, hW0, hu0, hsz, hbe, hce⟩ := bg w [.int .i64 op, .string nm, .int .i64 k, .bool b, .int .i64 i, .string s, .slice la l.length lc, .slice ka ks.length kc, .slice na ns.length nc, .slice xa az.length xc, .string fl] 135;obtain ⟨e0, e1, e2, e3, e4, e5, e6, e7, e8, e9, e10⟩ := ce11 hce;obtain ⟨x0, x1, x2, x3, x4, x5, x6, x7, x8, x9, x10⟩ := cx11 hce u0;rw [<- hu0, <- hW0] at x0 x1 x2 x3 x4 x5 x6 x7 x8 x9 x10;have HR := aa (fun (u : aq (w.heap.size + 1) W0) => aJ u hsz (gq (.mk op nm v ns az) _ B u.w (bK.below (hbe u) hB _ _ hX0) (Nat.le_trans hB (hbe u).size) (hML.below (hbe u)) hwx));rw [hr] at HR;have HP := aa (fun (u : aq (w.heap.size + 1) W0) => aJ u hsz (dJ fl u.w hs (hML.below (hbe u))));obtain ⟨c, hc⟩ := nam (cw fl);rw [hc] at HP ⊢;obtain ⟨HBE, HW0, HU0⟩ := hd3 hbe hW0 hu0;clear hbe hW0 hu0 hsz hce hNS hv hV hNA hXA hAZ hX0 hX hw hop hML hr hwx hc;generalize ns.length = n at *;generalize az.length = m at *;cases c <;>
 · go_enter Tryz.func189, Tryz.ntmps189
   go_wp2_with (first | (go_at_call 156; (try rw [HW0.out, HU0.out]); refine (HP.out _).mono ?_; rintro e w2 ⟨rfl, u2, rfl⟩) | (go_at_call 187; (try rw [HW0.out, HU0.out]); refine (HR.out _).mono ?_; rintro e w2 ⟨rfl, u3, rfl⟩));go_ret;exact ⟨by rfl, HBE.out _⟩
theorem nF (o : oc) (cs : List Value) (B : Nat) (w : World) (hX : j5 B w cs o) (hB : B <= w.heap.size) (hML : ML w) (hw : br o <= 1099511627776) :
    Calls Tryz.prog 151 #[.agg cs.toArray] w fun e w' => e = .returned (.bool (kN o)) /\ Below w.heap.size w w' := by
 obtain ⟨vr, ls, ks, vs⟩ := o;obtain ⟨la, lc, ka, kc, va, vc, rfl, hLA, hLS, hKA, hKS, hVA, hVS⟩ := hX;simp only at hLA hLS hKA hKS hVA hVS;have hs : vr.size <= 1099511627776 := by simp only [br] at hw; omega
 have hwl : ju ls <= 1099511627776 := by simp only [br] at hw; omega
 have hwk : ju ks <= 1099511627776 := by simp only [br] at hw; omega
 have hwv : dm vs <= 1099511627776 := by simp only [br] at hw; omega
 obtain ⟨q, hq⟩ : ∃ q, kN ⟨vr, ls, ks, vs⟩ = q := ⟨_, rfl⟩;rw [hq];rw [kN] at hq;simp only at hq ⊢;obtain ⟨n, hn⟩ := nam ls.length;have hn0 : n <= 1099511627776 := by have := eG ls; omega
 rw [hn] at hLA ⊢;have HN := aa hn;obtain ⟨W0, u0, hW0, hu0, hsz, hbe, hce⟩ := bg w [.string vr, .slice la n lc, .slice ka ks.length kc, .slice va vs.length vc] 198;obtain ⟨e0, e1, e2, e3⟩ := ce4 hce;obtain ⟨x0, x1, x2, x3⟩ := cx4 hce u0;rw [<- hu0, <- hW0] at x0 x1 x2 x3;have HKEY := aa (fun (x : ByteArray) (hx : x.size <= 1099511627776) (u : aq (w.heap.size + 1) W0) => eB u (ft x u.w hx));have HPL := aa (fun (u : aq (w.heap.size + 1) W0) => aJ u hsz (dJ vr u.w hs (hML.below (hbe u))));have HPR := aa (fun (u : aq (w.heap.size + 1) W0) => aJ u hsz (iE ks vs ka va kc vc B u.w hKA hVA (hKS.below (hbe u) hB) (hVS.below (hbe u) hB (fun _ _ h => bK.below (hbe u) hB _ _ h)) (Nat.le_trans hB (hbe u).size) (hML.below (hbe u)) hwk hwv));obtain ⟨pp, hpp⟩ := nam (iU ks vs);obtain ⟨pl, hpl⟩ := nam (cw vr);rw [hpp] at HPR hq;rw [hpl] at HPL;obtain ⟨b0, hb0⟩ := nam ((vr.toList == []));have hb0' := kP hb0;rw [se hb0 hpl] at hq;have HQ := aa hq;have HNT : Hid (∀ (j : Nat) x, ls[j]? = some x -> ∃ b off, la = some ⟨b, off, none⟩ /\ b < B /\ ∀ u : aq (w.heap.size + 1) W0, u.w.cell? ⟨b, off + j, none⟩ = some (.string x)) := aa (fun j x hx => hLS.at_ext hB hbe hx);have HNW : Hid (∀ (j : Nat) (x : ByteArray), ls[j]? = some x -> x.size <= 1099511627776) := aa (fun j x h => by have := nz h; omega);obtain ⟨HBE, HW0, HU0⟩ := hd3 hbe hW0 hu0;have hlc := hLA.1;clear hbe hW0 hu0 hsz hce hLS hKS hVS hn hq hLA hKA hVA hML hB hw hwl hwk hwv hs hpp hpl;generalize ks.length = nk at *;generalize vs.length = nv at *;have hbu : Program.built Tryz.prog 201 [(0, Value.slice ka nk kc), (1, Value.slice va nv vc)] = some #[.slice ka nk kc, .slice va nv vc] := by kernel_rfl
 go_enter Tryz.func151, Tryz.ntmps151;go_wp2_with fail;rw [HW0.out, HU0.out]
 go_loopw [8] (fun iv wr => ∃ (j : Nat) (u : aq (w.heap.size + 1) W0), iv = .int .i64 j /\ j <= n /\ Hid (∀ (i : Nat) x, i < j -> ls[i]? = some x -> ci x = true) /\ wr = u.w) (fun iv _ => n - (intOf iv).toNat)
 case atStart => exact ⟨0, u0, rfl, Nat.zero_le _, aa (fun i x hi => by omega), rfl⟩
 case round =>
  obtain ⟨j, u, rfl, hj, HA1, rfl⟩ := hrel
  by_cases hlt : j < n
  ·have hlt' : (j : Int) < n := by omega
   have hj0 : (0 : Int) <= (j : Int) := by omega
   have hwi : IntKind.i64.wrap ((j : Int) + 1) = (j : Int) + 1 := IntWalk.i64_in _ (by omega);obtain ⟨x, hx⟩ := aB (l := ls) (j := j) (by have := HN.out; omega);obtain ⟨kb, ko, rfl, hkb, hkc2⟩ := HNT.out j x hx;have HK := aa (HKEY.out x (HNW.out j x hx));have HX := aa hx;obtain ⟨c, hc2⟩ := nam (ci x);rw [hc2] at HK;have HC2 := aa hc2;clear hx hc2;cases c with
   | false =>
    have hqq : q = false := by rw [<- HQ.out, bj HX.out HC2.out]; rfl
    go_wp2_with (go_at_call 155; refine (HK.out _).mono ?_; rintro e w2 ⟨rfl, u2, rfl⟩);go_ret;exact ⟨by (try rw [hqq]); rfl, HBE.out _⟩
   | true =>
    go_wp2_with (go_at_call 155; refine (HK.out _).mono ?_; rintro e w2 ⟨rfl, u2, rfl⟩);go_roundw;case rel => exact ⟨j + 1, _, by go_num, by omega, aa (fun i y hi hy => (Nat.lt_or_ge i j).elim (fun h => HA1.out i y h hy) (fun h => by rw [show i = j from by omega, HX.out] at hy; rw [<- Option.some.inj hy]; exact HC2.out)), rfl⟩
    case measure => simp [intOf]; omega
  ·have hlt' : ¬ (j : Int) < n := by omega
   have hqq : q = ((b0 || pl) && pp) := by rw [<- HQ.out, bC (fun i x hx => HA1.out i x (by have := (List.getElem?_eq_some_iff.1 hx).1; have := HN.out; omega) hx)]; rfl
   clear HQ;subst hqq;cases b0 <;> cases pl <;> cases pp <;>
   · go_wp2_with (first | (go_at_call 156; (try rw [HW0.out, HU0.out]); refine (HPL.out _).mono ?_; rintro e w2 ⟨rfl, u2, rfl⟩) | (go_at_call 157; (try rw [HW0.out, HU0.out]); refine (HPR.out _).mono ?_; rintro e w2 ⟨rfl, u3, rfl⟩))
     go_ret;exact ⟨by rfl, HBE.out _⟩
theorem Sq560643 {P : Prop} (h : P := by
 first
 | (guard_hyp z560643a; rw [decide_eq_false hd2] at hq)
 | (rw [decide_eq_false hd0] at hq)
 subst hq;cases b0 <;> cases pl <;> cases b1 <;> cases pk <;>
 · go_enter Tryz.func152, Tryz.ntmps152
   go_wp2_with (first | (go_at_call 156; (try rw [HW0.out, HU0.out]); refine (HPL.out _).mono ?_; rintro e w2 ⟨rfl, u2, rfl⟩) | (go_at_call 155; (try rw [HW0.out, HU0.out]); refine (HKEY.out _).mono ?_; rintro e w2 ⟨rfl, u4, rfl⟩) | (go_at_call 157; (try rw [HW0.out, HU0.out]); refine (HPR.out _).mono ?_; rintro e w2 ⟨rfl, u3, rfl⟩))
   (try rw [HW0.out, HU0.out])
   go_ret;exact ⟨by rfl, HBE.out _⟩) : P := h
theorem nG (o : od) (cs : List Value) (B : Nat) (w : World) (hX : j6 B w cs o) (hB : B <= w.heap.size) (hML : ML w) (hw : bs o <= 1099511627776) :
    Calls Tryz.prog 152 #[.agg cs.toArray] w fun e w' => e = .returned (.bool (kO o)) /\ Below w.heap.size w w' := by
 obtain ⟨vr, ty, dir, ks, vs⟩ := o;obtain ⟨ka, kc, va, vc, rfl, hdir, hKA, hKS, hVA, hVS⟩ := hX;simp only at hKA hKS hVA hVS hdir;have hs : vr.size <= 1099511627776 := by simp only [bs] at hw; omega
 have hst : ty.size <= 1099511627776 := by simp only [bs] at hw; omega
 have hwk : ju ks <= 1099511627776 := by simp only [bs] at hw; omega
 have hwv : dm vs <= 1099511627776 := by simp only [bs] at hw; omega
 obtain ⟨q, hq⟩ : ∃ q, kO ⟨vr, ty, dir, ks, vs⟩ = q := ⟨_, rfl⟩;rw [hq];rw [kO] at hq;simp only at hq ⊢;obtain ⟨W0, u0, hW0, hu0, hsz, hbe, hce⟩ := bg w [.string vr, .string ty, .int .i64 dir, .slice ka ks.length kc, .slice va vs.length vc] 199;obtain ⟨e0, e1, e2, e3, e4⟩ := ce5 hce;obtain ⟨x0, x1, x2, x3, x4⟩ := cx5 hce u0;rw [<- hu0, <- hW0] at x0 x1 x2 x3 x4;have HKEY := aa (fun (u : aq (w.heap.size + 1) W0) => eB u (ft ty u.w hst));have HPL := aa (fun (u : aq (w.heap.size + 1) W0) => aJ u hsz (dJ vr u.w hs (hML.below (hbe u))));have HPR := aa (fun (u : aq (w.heap.size + 1) W0) => aJ u hsz (iE ks vs ka va kc vc B u.w hKA hVA (hKS.below (hbe u) hB) (hVS.below (hbe u) hB (fun _ _ h => bK.below (hbe u) hB _ _ h)) (Nat.le_trans hB (hbe u).size) (hML.below (hbe u)) hwk hwv));obtain ⟨pp, hpp⟩ := nam (iU ks vs);obtain ⟨pl, hpl⟩ := nam (cw vr);obtain ⟨pk, hpk⟩ := nam (ci ty);rw [hpp] at HPR hq;rw [hpl] at HPL;rw [hpk] at HKEY hq;obtain ⟨b0, hb0⟩ := nam ((vr.toList == []));have hb0' := kP hb0;obtain ⟨b1, hb1⟩ := nam ((ty.toList == []));have hb1' := kP hb1;rw [se hb0 hpl, hb1] at hq;obtain ⟨HBE, HW0, HU0⟩ := hd3 hbe hW0 hu0;clear hbe hW0 hu0 hsz hce hKS hVS hKA hVA hML hB hw hwk hwv hs hst hpp hpl hpk hdir;generalize ks.length = nk at *;generalize vs.length = nv at *;have hbu : Program.built Tryz.prog 201 [(0, Value.slice ka nk kc), (1, Value.slice va nv vc)] = some #[.slice ka nk kc, .slice va nv vc] := by kernel_rfl
 by_cases hd0 : 0 <= dir
 ·rw [decide_eq_true hd0] at hq
  by_cases hd2 : dir <= 2
  ·rw [decide_eq_true hd2] at hq;subst hq;cases b0 <;> cases pl <;> cases b1 <;> cases pk <;> cases pp <;>
   · go_enter Tryz.func152, Tryz.ntmps152
     go_wp2_with (first | (go_at_call 156; (try rw [HW0.out, HU0.out]); refine (HPL.out _).mono ?_; rintro e w2 ⟨rfl, u2, rfl⟩) | (go_at_call 155; (try rw [HW0.out, HU0.out]); refine (HKEY.out _).mono ?_; rintro e w2 ⟨rfl, u4, rfl⟩) | (go_at_call 157; (try rw [HW0.out, HU0.out]); refine (HPR.out _).mono ?_; rintro e w2 ⟨rfl, u3, rfl⟩))
     (try rw [HW0.out, HU0.out])
     go_ret;exact ⟨by rfl, HBE.out _⟩
  ·have z560643a := trivial;exact Sq560643
 ·exact Sq560643
theorem sf {α : Type} (f : α -> Nat) (hf : ∀ x, 1 <= f x) (l : List α) : l.length <= (l.map f).sum := by
 induction l with
 | nil => simp
 | cons x xs ih => have := hf x; simp only [List.length_cons, List.map_cons, List.sum_cons]; omega
theorem nH (o : lL) (cs : List Value) (B : Nat) (w : World) (hX : iT B w cs o) (hB : B <= w.heap.size) (hML : ML w) (hw : bt o <= 1099511627776) :
    Calls Tryz.prog 149 #[.agg cs.toArray] w fun e w' => e = .returned (.bool (sd o)) /\ Below w.heap.size w w' := by
 obtain ⟨nl, el⟩ := o;obtain ⟨na, nc, ea, ec, rfl, hNA, hNS, hEA, hES⟩ := hX;simp only at hNA hNS hEA hES;have hwn : (nl.map br).sum <= 1099511627776 := by simp only [bt] at hw; omega
 have hwe : (el.map bs).sum <= 1099511627776 := by simp only [bt] at hw; omega
 have hnl : nl.length <= 1099511627776 := Nat.le_trans (sf br (fun x => by unfold br; omega) nl) hwn;have hel : el.length <= 1099511627776 := Nat.le_trans (sf bs (fun x => by unfold bs; omega) el) hwe;obtain ⟨q, hq⟩ : ∃ q, sd ⟨nl, el⟩ = q := ⟨_, rfl⟩;rw [hq];rw [sd] at hq;simp only at hq ⊢;obtain ⟨n, hn⟩ := nam nl.length;obtain ⟨m, hm⟩ := nam el.length;rw [hn] at hNA hnl hq ⊢;rw [hm] at hEA hel hq ⊢;obtain ⟨HN, HM, HQ⟩ := hd3 hn hm hq;obtain ⟨W0, u0, hW0, hu0, hsz, hbe, hce⟩ := bg w [.slice na n nc, .slice ea m ec] 129;have e0 := fun u => hce u 0 _ rfl
 have e1 := fun u => hce u 1 _ rfl
 have x0 := hce u0 0 _ rfl;have x1 := hce u0 1 _ rfl;rw [<- hu0, <- hW0] at x0 x1;have HNODE := aa (fun (t : oc) (cs : List Value) (u : aq (w.heap.size + 1) W0) (h : j5 B u.w cs t) (hw : br t <= 1099511627776) => aJ u hsz (nF t cs B u.w h (Nat.le_trans hB (hbe u).size) (hML.below (hbe u)) hw));have HEDGE := aa (fun (t : od) (cs : List Value) (u : aq (w.heap.size + 1) W0) (h : j6 B u.w cs t) (hw : bs t <= 1099511627776) => aJ u hsz (nG t cs B u.w h (Nat.le_trans hB (hbe u).size) (hML.below (hbe u)) hw));have HNT : Hid (∀ (j : Nat) t, nl[j]? = some t -> ∃ b off cs, na = some ⟨b, off, none⟩ /\ b < B /\ cs.length = 4 /\ (∀ (u : aq (w.heap.size + 1) W0) (q : Nat) v, cs[q]? = some v -> u.w.cell? ⟨b, off + j * 4 + q, none⟩ = some v) /\ ∀ u : aq (w.heap.size + 1) W0, j5 B u.w cs t) := aa (fun j t ht => hNS.at_gen (f := aq.w) (R := j5 B) hB hbe (fun u cs x h => h.below (hbe u) hB) ht);have HET : Hid (∀ (j : Nat) t, el[j]? = some t -> ∃ b off cs, ea = some ⟨b, off, none⟩ /\ b < B /\ cs.length = 5 /\ (∀ (u : aq (w.heap.size + 1) W0) (q : Nat) v, cs[q]? = some v -> u.w.cell? ⟨b, off + j * 5 + q, none⟩ = some v) /\ ∀ u : aq (w.heap.size + 1) W0, j6 B u.w cs t) := aa (fun j t ht => hES.at_gen (f := aq.w) (R := j6 B) hB hbe (fun u cs x h => h.below (hbe u) hB) ht);have HWN : Hid (∀ (j : Nat) (t : oc), nl[j]? = some t -> br t <= 1099511627776) := aa (fun j t h => by have := kf br h; omega);have HWE : Hid (∀ (j : Nat) (t : od), el[j]? = some t -> bs t <= 1099511627776) := aa (fun j t h => by have := kf bs h; omega);obtain ⟨HBE, HW0, HU0⟩ := hd3 hbe hW0 hu0;have hnc := hNA.1;have hec := hEA.1;have hwm : IntKind.i64.wrap ((m : Int) + 1) = (m : Int) + 1 := IntWalk.i64_in _ (by omega);clear hbe hW0 hu0 hsz hce hNS hES hn hm hq hNA hEA hML hB hw hwn hwe
 by_cases hnm : n = m + 1
 ·have HNM := aa hnm;have hb1 : ((n : Int) != (m : Int) + 1) = false := by simp; omega
  have hb2 : ((n : Int) == (m : Int) + 1) = true := by simp; omega
  have HQ2 : Hid ((nl.all kN && el.all kO) = q) := aa (by have h := HQ.out; rw [decide_eq_true hnm, Bool.true_and] at h; exact h);clear HQ hnm;go_enter Tryz.func149, Tryz.ntmps149;go_wp2_with fail;rw [HW0.out, HU0.out]
  go_loopw [15] (fun iv wr => ∃ (j : Nat) (u : aq (w.heap.size + 1) W0), iv = .int .i64 j /\ j <= n /\ Hid (∀ (i : Nat) x, i < j -> nl[i]? = some x -> kN x = true) /\ Hid (∀ (i : Nat) x, i + 1 < j -> el[i]? = some x -> kO x = true) /\ wr = u.w) (fun iv _ => n - (intOf iv).toNat)
  case atStart => exact ⟨0, u0, rfl, Nat.zero_le _, aa (fun i x hi => by omega), aa (fun i x hi => by omega), rfl⟩
  case round =>
   obtain ⟨j, u, rfl, hj, HA1, HA2, rfl⟩ := hrel
   by_cases hlt : j < n
   ·have hlt' : (j : Int) < n := by omega
    have hj0 : (0 : Int) <= (j : Int) := by omega
    have hwi : IntKind.i64.wrap ((j : Int) + 1) = (j : Int) + 1 := IntWalk.i64_in _ (by omega);obtain ⟨t2, ht2⟩ := aB (l := nl) (j := j) (by have := HN.out; omega);obtain ⟨nb, no, cs2, rfl, hnb, -, hcs2, cW⟩ := HNT.out j t2 ht2;have HNC := aa (fun u => HNODE.out t2 cs2 u (cW u) (HWN.out j t2 ht2));have HT2 := aa ht2;obtain ⟨c, hc⟩ := nam (kN t2);rw [hc] at HNC;have HC := aa hc;clear hc ht2;obtain ⟨vr2, ls2, ks2, vs2⟩ := t2;obtain ⟨la2, lc2, ka2, kc2, va2, vc2, rfl, -⟩ := cW u;have g2_0 : ∀ u : aq (w.heap.size + 1) W0, u.w.cell? ⟨nb, no + j * 4, none⟩ = some (.string vr2) := fun u => hcs2 u 0 _ rfl
    obtain ⟨g2_1, g2_2, g2_3⟩ := cf3 hcs2;clear hcs2 cW;simp only at g2_0 g2_1 g2_2 g2_3;generalize ls2.length = ya2 at *;generalize ks2.length = yb2 at *;generalize vs2.length = yc2 at *;cases c with
    | false =>
     have hqq : q = false := by rw [<- HQ2.out, bj HT2.out HC.out]; rfl
     go_wp2_with (go_at_call 151; refine (HNC.out _).mono ?_; rintro e w2 ⟨rfl, u2, rfl⟩);go_ret;exact ⟨by (try rw [hqq]); rfl, HBE.out _⟩
    | true =>
     by_cases hz : j = 0
     ·have hz1 : decide ((0 : Int) < (j : Int)) = false := by simp; omega
      have hz2 : decide (0 < j) = false := by simp; omega
      have HZ := aa hz;clear hz;go_wp2_with (go_at_call 151; refine (HNC.out _).mono ?_; rintro e w2 ⟨rfl, u2, rfl⟩);go_roundw;case rel => exact ⟨j + 1, _, by go_num, by omega, aa (fun i y hi hy => (Nat.lt_or_ge i j).elim (fun h => HA1.out i y h hy) (fun h => by rw [show i = j from by omega, HT2.out] at hy; rw [<- Option.some.inj hy]; exact HC.out)), aa (fun i y hi hy => by have := HZ.out; omega), rfl⟩
      case measure => simp [intOf]; omega
     ·have hz1 : decide ((0 : Int) < (j : Int)) = true := by simp; omega
      have hz2 : decide (0 < j) = true := by simp; omega
      obtain ⟨jp, hjp⟩ : ∃ jp, j = jp + 1 := ⟨j - 1, by omega⟩;have HJP := aa hjp;have hws : IntKind.i64.wrap ((j : Int) - 1) = (jp : Int) := by rw [IntWalk.i64_in _ (by omega)]; omega
      have hjp0 : (0 : Int) <= (jp : Int) := by omega
      have hjpm : (jp : Int) < m := by have := HNM.out; omega
      have hjpm' : jp < m := by have := HNM.out; omega
      clear hz hjp;obtain ⟨t3, ht3⟩ := aB (l := el) (j := jp) (by have := HM.out; omega);obtain ⟨eb, eo, cs3, rfl, heb, -, hcs3, hx3⟩ := HET.out jp t3 ht3;have HEC := aa (fun u => HEDGE.out t3 cs3 u (hx3 u) (HWE.out jp t3 ht3));have HT3 := aa ht3;obtain ⟨c3, hc3⟩ := nam (kO t3);rw [hc3] at HEC;have HC3 := aa hc3;clear hc3 ht3;obtain ⟨vr3, ty3, dir3, ks3, vs3⟩ := t3;obtain ⟨ka3, kc3, va3, vc3, rfl, -⟩ := hx3 u;have g3_0 : ∀ u : aq (w.heap.size + 1) W0, u.w.cell? ⟨eb, eo + jp * 5, none⟩ = some (.string vr3) := fun u => hcs3 u 0 _ rfl
      obtain ⟨g3_1, g3_2, g3_3, g3_4⟩ := cf4 hcs3;clear hcs3 hx3;simp only at g3_0 g3_1 g3_2 g3_3 g3_4;generalize ks3.length = yb3 at *;generalize vs3.length = yc3 at *;cases c3 with
      | false =>
       have hqq : q = false := by rw [<- HQ2.out, bj HT3.out HC3.out]; simp
       go_wp2_with (first | (go_at_call 151; refine (HNC.out _).mono ?_; rintro e w2 ⟨rfl, u2, rfl⟩) | (go_at_call 152; refine (HEC.out _).mono ?_; rintro e w2 ⟨rfl, u3, rfl⟩));go_ret;exact ⟨by (try rw [hqq]); rfl, HBE.out _⟩
      | true =>
       go_wp2_with (first | (go_at_call 151; refine (HNC.out _).mono ?_; rintro e w2 ⟨rfl, u2, rfl⟩) | (go_at_call 152; refine (HEC.out _).mono ?_; rintro e w2 ⟨rfl, u3, rfl⟩));go_roundw;case rel => exact ⟨j + 1, _, by go_num, by omega, aa (fun i y hi hy => (Nat.lt_or_ge i j).elim (fun h => HA1.out i y h hy) (fun h => by rw [show i = j from by omega, HT2.out] at hy; rw [<- Option.some.inj hy]; exact HC.out)), aa (fun i y hi hy => (Nat.lt_or_ge (i + 1) j).elim (fun h => HA2.out i y h hy) (fun h => by rw [show i = jp from by have := HJP.out; omega, HT3.out] at hy; rw [<- Option.some.inj hy]; exact HC3.out)), rfl⟩
       case measure => simp [intOf]; omega
   ·have hlt' : ¬ (j : Int) < n := by omega
    have hqq : q = true := by
     rw [<- HQ2.out, bC (fun i x hx => HA1.out i x (by have := (List.getElem?_eq_some_iff.1 hx).1; have := HN.out; omega) hx), bC (fun i x hx => HA2.out i x (by have := (List.getElem?_eq_some_iff.1 hx).1; have := HM.out; have := HNM.out; omega) hx)]; rfl
    go_wp2_with fail;go_ret;exact ⟨by (try rw [hqq]); rfl, HBE.out u⟩
 ·have hb1 : ((n : Int) != (m : Int) + 1) = true := by simp; omega
  have hb2 : ((n : Int) == (m : Int) + 1) = false := by simp; omega
  have hqq : q = false := by rw [<- HQ.out, decide_eq_false hnm]; rfl
  have HNM := aa hnm;clear hnm;subst hqq;go_enter Tryz.func149, Tryz.ntmps149;go_wp2_with fail
  (try rw [HW0.out, HU0.out])
  go_ret;exact ⟨by rfl, HBE.out _⟩
theorem Sq726634 {P : Prop} (h : P := by
 have z278687b := trivial;exact Sq278687) : P := h
theorem Sq278687 {P : Prop} (h : P := by
 first
 |(
  guard_hyp z278687a
  have h64' : (64 : Int) < (kn : Int) + ln := by omega
  rw [decide_eq_false h64] at hq;clear h64;have hqq : q = false := by rw [<- hq]; simp)
 |(
  guard_hyp z278687c
  first
  | (guard_hyp z254918a; have hqq : q = bl := by rw [<- hq]; simp)
  | (have hqq : q = r := by rw [<- hq]; simp))
 | (guard_hyp z278687b; have hqq : q = false := by rw [<- hq]; simp)
 | (have hqq : q = bl := by rw [<- hq]; simp)
 subst hqq;clear hq;go_enter Tryz.func195, Tryz.ntmps195;go_wp2_with (first | (go_at_call 156; (try rw [HW0.out, HU0.out]); refine (HP.out _).mono ?_; rintro e w2 ⟨rfl, u2, rfl⟩) | (go_at_call 160; (try rw [HW0.out, HU0.out]); refine (HR.out _).mono ?_; rintro e w2 ⟨rfl, u3, rfl⟩) | (go_at_call 91; (try rw [HW0.out, HU0.out]); refine (HBL.out _).mono ?_; rintro e w2 ⟨rfl, u4, rfl⟩));go_ret;exact ⟨by (try simp), HBE.out _⟩) : P := h
theorem Sq254918 {P : Prop} (h : P := by
 by_cases h64 : kn + ln <= 64
 ·have h64' : ¬ (64 : Int) < (kn : Int) + ln := by omega
  rw [decide_eq_true h64] at hq;clear h64;cases st with
  | false =>
   exact Sq278687
  | true =>
   have z278687c := trivial;exact Sq278687
 ·have z278687a := trivial;exact Sq278687) : P := h
theorem pj (o : lD) (st : Bool) (cs : List Value) (B : Nat) (w : World) (hX : jk B w cs o) (hB : B <= w.heap.size) (hML : ML w) (hw : bv o <= 1099511627776) :
    Calls Tryz.prog 195 #[.agg (cs ++ [Value.bool st]).toArray] w fun e w' => e = .returned (.bool (yD o st)) /\ Below w.heap.size w w' := by
 obtain ⟨vr, ke, lb, t⟩ := o;obtain ⟨xe, rfl, hX⟩ := hX;have hX0 : bK B w xe t := hX;have hwx : ee t <= 1099511627776 := by simp only [bv] at hw; omega
 have hs : vr.size <= 1099511627776 := by simp only [bv] at hw; omega
 have hks : ke.size <= 1099511627776 := by simp only [bv] at hw; omega
 have hls : lb.size <= 1099511627776 := by simp only [bv] at hw; omega
 obtain ⟨q, hq⟩ : ∃ q, yD ⟨vr, ke, lb, t⟩ st = q := ⟨_, rfl⟩;rw [hq];rw [yD] at hq;simp only at hq;obtain ⟨r, hr⟩ := nam (bD 32 t);obtain ⟨bl, hbl⟩ := nam (kJ t);obtain ⟨c, hc⟩ := nam (cw vr);obtain ⟨b0, hb0⟩ := nam ((ke.toList == []));have hb0' := kP hb0;obtain ⟨b1, hb1⟩ := nam ((lb.toList == []));have hb1' := kP hb1;rw [hr, hbl, hc, hb0, hb1] at hq;obtain ⟨kn, hkn⟩ := nam ke.size;obtain ⟨ln, hln⟩ := nam lb.size;rw [hkn] at hq hks;rw [hln] at hq hls;obtain ⟨T, hT⟩ : ∃ T, T = t := ⟨_, rfl⟩;obtain ⟨op, nm, v, ns, az⟩ := t;obtain ⟨k, b, i, s, l, ks, la, lc, ka, kc, na, nc, xa, xc, hv, rfl, hop, hV, hNA, hXA, hNS, hAZ⟩ := hX0.cells;simp only [List.cons_append, List.nil_append];obtain ⟨W0, u0, hW0, hu0, hsz, hbe, hce⟩ := bg w [.string vr, .string ke, .string lb, .int .i64 op, .string nm, .int .i64 k, .bool b, .int .i64 i, .string s, .slice la l.length lc, .slice ka ks.length kc, .slice na ns.length nc, .slice xa az.length xc, .bool st] 145;obtain ⟨e0, e1, e2, e3, e4, e5, e6, e7, e8, e9, e10, e11, e12, e13⟩ := ce14 hce;obtain ⟨x0, x1, x2, x3, x4, x5, x6, x7, x8, x9, x10, x11, x12, x13⟩ := cx14 hce u0;rw [<- hu0, <- hW0] at x0 x1 x2 x3 x4 x5 x6 x7 x8 x9 x10 x11 x12 x13;have HR := aa (fun (u : aq (w.heap.size + 1) W0) => jB u (.mk op nm v ns az) _ B hsz (bK.below (hbe u) hB _ _ hX0) (Nat.le_trans hB (hbe u).size) (hML.below (hbe u)) hwx);have HBL := aa (fun (u : aq (w.heap.size + 1) W0) => aJ u hsz (kQ (.mk op nm v ns az) _ B u.w (bK.below (hbe u) hB _ _ hX0) (Nat.le_trans hB (hbe u).size)));have HP := aa (fun (u : aq (w.heap.size + 1) W0) => aJ u hsz (dJ vr u.w hs (hML.below (hbe u))));rw [hr] at HR;rw [hbl] at HBL;rw [hc] at HP;obtain ⟨HBE, HW0, HU0⟩ := hd3 hbe hW0 hu0;have hsum : IntKind.i64.wrap ((kn : Int) + ln) = (kn : Int) + ln := IntWalk.i64_in _ (by omega);clear hbe hW0 hu0 hsz hce hNS hv hV hNA hXA hAZ hX0 hX hw hop hML hr hbl hc hwx hT hs;generalize ns.length = n at *;generalize az.length = m at *;cases c with
 | false =>
  exact Sq726634
 | true =>
  cases b0 with
  | false =>
   cases b1 with
   | false =>
    exact Sq726634
   | true =>
    exact Sq254918
  | true =>
   cases b1 with
   | false =>
    have z254918a := trivial;exact Sq254918
   | true =>
    exact Sq726634
end Go.Proofs.YteljlahcdipilaaGreat
namespace Go.Proofs.YteljlahcdipilaaGreat
open Go.RowKit Go.Shelf
def v7 : Ex -> ByteArray
  | .mk _ nm _ _ _ => nm
inductive ch where
  | ex (t : Ex)
  | nm (s : ByteArray)
  | pt (p : lL)
  | it (i : mj)
  | so (s : oe)
  | si (s : lD) (set : Bool)
def cj (B : Nat) (w : World) : Value -> ch -> Prop
  | v, .ex t => ∃ cs, v = .iface 132 (.agg (List.toArray cs)) /\ bK B w cs t
  | v, .nm s => v = .iface 141 (.string s)
  | v, .pt p => ∃ cs, v = .iface 129 (.agg (List.toArray cs)) /\ iT B w cs p
  | v, .it i => ∃ cs, v = .iface 135 (.agg (List.toArray cs)) /\ ji B w cs i
  | v, .so s => ∃ cs, v = .iface 138 (.agg (List.toArray cs)) /\ jj B w cs s
  | v, .si s set => ∃ cs, v = .iface 145 (.agg (List.toArray (cs ++ [Value.bool set]))) /\ jk B w cs s
def cA : ch -> Nat
  | .ex t => ee t
  | .nm s => s.size
  | .pt p => bt p
  | .it i => bB i
  | .so s => bE s
  | .si s _ => bv s
def mr : ch -> Bool
  | .ex t => bD 32 t
  | .nm s => cw s
  | .pt p => sd p
  | .it i => vY i
  | .so s => vZ s
  | .si s set => yD s set
end Go.Proofs.YteljlahcdipilaaGreat

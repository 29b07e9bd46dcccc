/- Parts X19, X20 of this seat (pruned, scripts that are alike kept once as default arguments: q1, q2, ..). Conditions: each says its own. -/
import Derived.Test.YtndhpdclpgemfaaGreatW1
namespace Go.Proofs.YtndhpdclpgemfaaGreat
open Go.RowKit
set_option linter.unusedSimpArgs false
set_option linter.unusedVariables false
set_option maxRecDepth 100000
def propsM (ks : List ByteArray) (vs : List Ex) : Bool := decide (ks.length = vs.length) && (ks.all keyB && vs.all (deepB 32))
def varM (s : ByteArray) : Bool := (s.toList == []) || plainB s
def nodeM (n : Npt) : Bool := n.labels.all keyB && (varM n.var && propsM n.keys n.vals)
def edgeM (e : Ept) : Bool := varM e.var && (((e.ty.toList == []) || keyB e.ty) && (decide (0 ≤ e.dir) && (decide (e.dir ≤ 2) && propsM e.keys e.vals)))
def pathM (p : Ptt) : Bool := decide (p.nodes.length = p.edges.length + 1) && (p.nodes.all nodeM && p.edges.all edgeM)
def itemM (i : Itt) : Bool := plainB i.nm && deepB 32 i.e
def sortM (s : Sot) : Bool := deepB 32 s.e
def setM (s : Sit) (set : Bool) : Bool := plainB s.var && (((s.key.toList == []) != (s.label.toList == [])) && (decide (s.key.size + s.label.size ≤ 64) && (if (set && !(s.key.toList == [])) = true then deepB 32 s.e else noneB s.e)))
theorem wtXs_mem {az : List Ex} {j : Nat} {t : Ex} (h : az[j]? = some t) : wtX t ≤ wtXs az := wtXs_get h
theorem ext_right {C : Nat} {W0 : World} (u : Ext C W0) (t : Ex) (cs : List Value) (B : Nat) (hC : C ≤ W0.heap.size) (hX : IsX B u.w cs t) (hB : B ≤ u.w.heap.size) (hM : ML u.w) (hw : wtX t ≤ 1099511627776) :
    Calls Tryz.prog 34 #[.agg cs.toArray, .int .i64 32] u.w fun e w' => e = .returned (.bool (deepB 32 t)) ∧ ∃ u' : Ext C W0, w' = u'.w :=
  ext_call u hC (right_any 32 t cs B u.w 32 rfl hX hB hM hw (by omega))
set_option maxHeartbeats 16000000 in
theorem pmayProps_any (ks : List ByteArray) (vs : List Ex) (ka va : Option Addr) (kc vc B : Nat) (w : World) (hKA : SlOk ka ks.length kc) (hVA : SlOk va vs.length vc) (hKS : StrRow B w ka ks) (hVS : RowR (IsX B w) 10 B w va vs) (hB : B ≤ w.heap.size) (hML : ML w) (hwk : wtS ks ≤ 1099511627776) (hwv : wtXs vs ≤ 1099511627776) :
    Calls Tryz.prog 196 #[.agg #[.slice ka ks.length kc, .slice va vs.length vc]] w fun e w' => e = .returned (.bool (propsM ks vs)) ∧ Below w.heap.size w w' := by
 obtain ⟨n, hn⟩ := nam ks.length
 obtain ⟨m, hm⟩ := nam vs.length
 have hn0 : n ≤ 1099511627776 := by have := wtS_len ks; omega
 have hm0 : m ≤ 1099511627776 := by have := wtXs_len vs; omega
 obtain ⟨q, hq⟩ := nam (propsM ks vs)
 rw [hq]
 rw [propsM, hn, hm] at hq
 rw [hn] at hKA ⊢
 rw [hm] at hVA ⊢
 obtain ⟨HN, HM, HQ⟩ := hd3 hn hm hq
 obtain ⟨W0, u0, hW0, hu0, hsz, hbe, hce⟩ := box_ext w [.slice ka n kc, .slice va m vc] 206
 have e0 := fun u => hce u 0 _ rfl
 have e1 := fun u => hce u 1 _ rfl
 have x0 := hce u0 0 _ rfl
 have x1 := hce u0 1 _ rfl
 rw [← hu0, ← hW0] at x0 x1
 have HKEY := Lib.hid (fun (x : ByteArray) (hx : x.size ≤ 1099511627776) (u : Ext (w.heap.size + 1) W0) => ext_call0 u (skeyB_any x u.w hx))
 have HR := Lib.hid (fun (t : Ex) (cs : List Value) (u : Ext (w.heap.size + 1) W0) (h : IsX B u.w cs t) (hw : wtX t ≤ 1099511627776) => ext_right u t cs B hsz h (Nat.le_trans hB (hbe u).size) (hML.below (hbe u)) hw)
 have HAT : Hid (∀ (j : Nat) t, vs[j]? = some t → ∃ b off cs, va = some ⟨b, off, none⟩ ∧ b < B ∧ (∀ (u : Ext (w.heap.size + 1) W0) (q : Nat) v, cs[q]? = some v → u.w.cell? ⟨b, off + j * 10 + q, none⟩ = some v) ∧ ∀ u : Ext (w.heap.size + 1) W0, IsX B u.w cs t) := Lib.hid (fun j t ht => hVS.at_ext hB hbe ht)
 have HNT : Hid (∀ (j : Nat) x, ks[j]? = some x → ∃ b off, ka = some ⟨b, off, none⟩ ∧ b < B ∧ ∀ u : Ext (w.heap.size + 1) W0, u.w.cell? ⟨b, off + j, none⟩ = some (.string x)) := Lib.hid (fun j x hx => hKS.at_ext hB hbe hx)
 have HNW : Hid (∀ (j : Nat) (x : ByteArray), ks[j]? = some x → x.size ≤ 1099511627776) := Lib.hid (fun j x h => by have := wtS_get h; omega)
 have HWT : Hid (∀ (j : Nat) (t : Ex), vs[j]? = some t → wtX t ≤ 1099511627776) := Lib.hid (fun j t h => by have := wtXs_get h; omega)
 obtain ⟨HBE, HW0, HU0⟩ := hd3 hbe hW0 hu0
 have hkc := hKA.1
 have hvc := hVA.1
 clear hbe hW0 hu0 hsz hce hKS hVS hn hm hq hKA hVA hML hB
 by_cases hnm : n = m
 ·subst hnm
  have HQ2 : Hid ((ks.all keyB && vs.all (deepB 32)) = q) := Lib.hid (by have h := HQ.out; rw [decide_eq_true rfl, Bool.true_and] at h; exact h)
  clear HQ
  go_enter Tryz.func196, Tryz.ntmps196
  go_wp2_with fail
  rw [HW0.out, HU0.out]
  go_loopw [15] (fun iv wr => ∃ (j : Nat) (u : Ext (w.heap.size + 1) W0), iv = .int .i64 j ∧ j ≤ n ∧ Hid (∀ (i : Nat) x, i < j → ks[i]? = some x → keyB x = true) ∧ Hid (∀ (i : Nat) x, i < j → vs[i]? = some x → deepB 32 x = true) ∧ wr = u.w) (fun iv _ => n - (intOf iv).toNat)
  case atStart => exact ⟨0, u0, rfl, Nat.zero_le _, Lib.hid (fun i x hi => by omega), Lib.hid (fun i x hi => by omega), rfl⟩
  case round =>
   obtain ⟨j, u, rfl, hj, HA1, HA2, rfl⟩ := hrel
   by_cases hlt : j < n
   ·have hlt' : (j : Int) < n := by omega
    have hj0 : (0 : Int) ≤ (j : Int) := by omega
    have hwi : IntKind.i64.wrap ((j : Int) + 1) = (j : Int) + 1 := IntWalk.i64_in _ (by omega)
    obtain ⟨x, hx⟩ := get_some (l := ks) (j := j) (by have := HN.out; omega)
    obtain ⟨kb, ko, rfl, hkb, hkc2⟩ := HNT.out j x hx
    have HK := Lib.hid (HKEY.out x (HNW.out j x hx))
    have HX := Lib.hid hx
    obtain ⟨c, hc2⟩ := nam (keyB x)
    rw [hc2] at HK
    have HC2 := Lib.hid hc2
    obtain ⟨t2, ht2⟩ := get_some (l := vs) (j := j) (by have := HM.out; omega)
    obtain ⟨eb, eo, cs2, rfl, heb, hcs2, hx2⟩ := HAT.out j t2 ht2
    have HR2 := Lib.hid (fun u => HR.out t2 cs2 u (hx2 u) (HWT.out j t2 ht2))
    have HT2 := Lib.hid ht2
    obtain ⟨r, hr⟩ := nam (deepB 32 t2)
    rw [hr] at HR2
    have HRR := Lib.hid hr
    clear hx hc2 ht2 hr
    obtain ⟨op2, nm2, v2, ns2, az2⟩ := t2
    obtain ⟨k2, bo2, i2, s2, l2, ks2, la2, lc2, ka2, kc2, na2, nc2, xa2, xc2, -, rfl, -⟩ := (hx2 u).cells
    have g2_0 : ∀ u : Ext (w.heap.size + 1) W0, u.w.cell? ⟨eb, eo + j * 10, none⟩ = some (.int .i64 op2) := fun u => hcs2 u 0 _ rfl
    obtain ⟨g2_1, g2_2, g2_3, g2_4, g2_5, g2_6, g2_7, g2_8, g2_9⟩ := gf9 hcs2
    clear hcs2 hx2
    generalize l2.length = ya2 at *
    generalize ks2.length = yb2 at *
    generalize ns2.length = yc2 at *
    generalize az2.length = yd2 at *
    cases c with
    | false =>
     have hqq : q = false := by rw [← HQ2.out, anyL_false HX.out HC2.out]; rfl
     go_wp2_with (go_at_call 84; refine (HK.out _).mono ?_; rintro e w2 ⟨rfl, u2, rfl⟩)
     go_ret
     exact ⟨by (try rw [hqq]); rfl, HBE.out _⟩
    | true =>
     cases r with
     | false =>
      have hqq : q = false := by rw [← HQ2.out, anyL_false HT2.out HRR.out]; simp
      go_wp2_with (first | (go_at_call 84; refine (HK.out _).mono ?_; rintro e w2 ⟨rfl, u2, rfl⟩) | (go_at_call 34; refine (HR2.out _).mono ?_; rintro e w2 ⟨rfl, u3, rfl⟩))
      go_ret
      exact ⟨by (try rw [hqq]); rfl, HBE.out _⟩
     | true =>
      go_wp2_with (first | (go_at_call 84; refine (HK.out _).mono ?_; rintro e w2 ⟨rfl, u2, rfl⟩) | (go_at_call 34; refine (HR2.out _).mono ?_; rintro e w2 ⟨rfl, u3, rfl⟩))
      go_roundw
      case rel => exact ⟨j + 1, _, by go_num, by omega, Lib.hid (fun i y hi hy => (Nat.lt_or_ge i j).elim (fun h => HA1.out i y h hy) (fun h => by rw [show i = j from by omega, HX.out] at hy; rw [← Option.some.inj hy]; exact HC2.out)), Lib.hid (fun i y hi hy => (Nat.lt_or_ge i j).elim (fun h => HA2.out i y h hy) (fun h => by rw [show i = j from by omega, HT2.out] at hy; rw [← Option.some.inj hy]; exact HRR.out)), rfl⟩
      case measure => simp [intOf]; omega
   ·have hlt' : ¬ (j : Int) < n := by omega
    have hqq : q = true := by
     rw [← HQ2.out, allL_true (fun i x hx => HA1.out i x (by have := (List.getElem?_eq_some_iff.1 hx).1; have := HN.out; omega) hx), allL_true (fun i x hx => HA2.out i x (by have := (List.getElem?_eq_some_iff.1 hx).1; have := HM.out; omega) hx)]; rfl
    go_wp2_with fail
    go_ret
    exact ⟨by (try rw [hqq]); rfl, HBE.out u⟩
 ·have hb1 : ((n : Int) != m) = true := by simp; omega
  have hb2 : ((n : Int) == m) = false := by simp; omega
  have hqq : q = false := by rw [← HQ.out, decide_eq_false hnm]; rfl
  have HNM := Lib.hid hnm
  clear hnm
  subst hqq
  go_enter Tryz.func196, Tryz.ntmps196
  go_wp2_with fail
  (try rw [HW0.out, HU0.out])
  go_ret
  exact ⟨by rfl, HBE.out _⟩
theorem RowR.at_gen {α U : Type} {R : World → List Value → α → Prop} {f : U → World} {size B C : Nat} {w : World} {xa : Option Addr} {l : List α} (h : RowR (R w) size B w xa l) (hB : B ≤ C) (hbe : ∀ u, Below C w (f u)) (hR : ∀ u cs x, R w cs x → R (f u) cs x) {j : Nat} {x : α} (hx : l[j]? = some x) :
    ∃ b off cs, xa = some ⟨b, off, none⟩ ∧ b < B ∧ cs.length = size ∧ (∀ (u : U) (q : Nat) v, cs[q]? = some v → (f u).cell? ⟨b, off + j * size + q, none⟩ = some v) ∧ ∀ u : U, R (f u) cs x := by
 obtain ⟨b, off, cs, h1, h2, h3, h4, h5⟩ := h j x hx
 exact ⟨b, off, cs, h1, h2, h3, fun u q v hv => ((hbe u).cell (p := ⟨b, off + j * size + q, none⟩) (by show b < _; omega)).trans (by rw [Nat.add_assoc]; exact h4 q v hv), fun u => hR u _ _ h5⟩
theorem varM_eq {s : ByteArray} {b : Bool} (h : (s.toList == []) = b) {c : Bool} (h2 : plainB s = c) : varM s = (b || c) := by unfold varM; rw [h, h2]
theorem emp_eq {s : ByteArray} {b : Bool} (h : (s.toList == []) = b) : s.toList.isEmpty = b := by rw [← h]; cases s.toList <;> rfl
theorem Sg366203 {P : Prop} (h : P := by
 first
 |(
  guard_hyp z366203a
  have hn0' : ((n : Int) == 0) = false := by simp; omega
  have hqq : q = false := by rw [← hq]; simp [hn0])
 | (have hqq : q = false := by rw [← hq]; simp)
 subst hqq
 clear hq
 go_enter Tryz.func111, Tryz.ntmps111
 go_wp2_with fail
 rw [HW0.out]
 refine HSA.out.mono ?_
 rintro e w1 ⟨rfl, hb1⟩
 have HB1 := Lib.hid (below_step HB0.out rfl hb1)
 have y8 : w1.cell? ⟨w.heap.size, 8, none⟩ = some (.slice na n nc) := (hb1.cell (by show w.heap.size < W0.heap.size; rw [← HW0.out]; simp)).trans (by rw [← HW0.out]; exact x8)
 have y9 : w1.cell? ⟨w.heap.size, 9, none⟩ = some (.slice xa m xc) := (hb1.cell (by show w.heap.size < W0.heap.size; rw [← HW0.out]; simp)).trans (by rw [← HW0.out]; exact x9)
 clear hb1
 go_wp2_with fail
 go_ret
 exact ⟨rfl, HB1.out⟩) : P := h
set_option maxHeartbeats 8000000 in
theorem pblank_any (t : Ex) (cs : List Value) (B : Nat) (w : World) (hX : IsX B w cs t) (hB : B ≤ w.heap.size) : Calls Tryz.prog 111 #[.agg cs.toArray] w fun e w' => e = .returned (.bool (noneB t)) ∧ Below w.heap.size w w' := by
 obtain ⟨op, nm, v, ns, az⟩ := t
 obtain ⟨k, b, i, s, l, ks, la, lc, ka, kc, na, nc, xa, xc, hv, rfl, -, hV, -⟩ := hX.cells
 clear hX
 obtain ⟨n, hn⟩ := nam ns.length
 obtain ⟨m, hm⟩ := nam az.length
 obtain ⟨W0, hW0⟩ : ∃ W0, w.alloc (.cells #[.int .i64 op, .string nm, .int .i64 k, .bool b, .int .i64 i, .string s, .slice la l.length lc, .slice ka ks.length kc, .slice na n nc, .slice xa m xc] 36) = W0 := ⟨_, rfl⟩
 have hb0 : Below w.heap.size w W0 := by rw [← hW0]; exact (Below.refl _ _).alloc (Nat.le_refl _) _
 have hx0 : Block W0 w.heap.size [.int .i64 op, .string nm, .int .i64 k, .bool b, .int .i64 i, .string s, .slice la l.length lc, .slice ka ks.length kc, .slice na n nc, .slice xa m xc] 36 := by rw [← hW0]; exact Block.new _ _ _
 have x0 := hx0.cell (i := 0) rfl
 have x1 := hx0.cell (i := 1) rfl
 have x2 := hx0.cell (i := 2) rfl
 have x3 := hx0.cell (i := 3) rfl
 have x4 := hx0.cell (i := 4) rfl
 have x5 := hx0.cell (i := 5) rfl
 have x6 := hx0.cell (i := 6) rfl
 have x7 := hx0.cell (i := 7) rfl
 have x8 := hx0.cell (i := 8) rfl
 have x9 := hx0.cell (i := 9) rfl
 rw [← hW0] at x0 x1 x2 x3 x4 x5 x6 x7 x8 x9
 have HSA := Lib.hid (psame_any v emptyV _ zeroC B W0 (IsV.below hb0 hB _ _ hV) (empty_isV _ _) (Nat.le_trans hB hb0.size))
 have HB0 := Lib.hid hb0
 have HW0 := Lib.hid hW0
 clear hb0 hx0 hW0 hV hB
 show Calls Tryz.prog 111 #[.agg #[.int .i64 op, .string nm, .int .i64 k, .bool b, .int .i64 i, .string s, .slice la l.length lc, .slice ka ks.length kc, .slice na ns.length nc, .slice xa az.length xc]] w _
 obtain ⟨q, hq⟩ := nam (noneB (.mk op nm v ns az))
 rw [hq]
 rw [noneB] at hq
 rw [hn, hm] at hq
 rw [hn, hm]
 clear hn hm
 obtain ⟨b0, h0⟩ := nam ((op == 0))
 obtain ⟨b1, h1⟩ := nam ((nm.toList == []))
 obtain ⟨b2, h2⟩ := nam (sameV v emptyV)
 rw [h2] at HSA
 rw [h0, h1, h2] at hq
 clear h2
 cases b0 with
 | false =>
  have hqq : q = false := by rw [← hq]; simp
  subst hqq
  clear hq
  go_enter Tryz.func111, Tryz.ntmps111
  go_wp2_with fail
  rw [HW0.out]
  go_ret
  exact ⟨rfl, HB0.out⟩
 | true =>
  cases b1 with
  | false =>
   have hqq : q = false := by rw [← hq]; simp
   subst hqq
   clear hq
   go_enter Tryz.func111, Tryz.ntmps111
   go_wp2_with fail
   rw [HW0.out]
   go_ret
   exact ⟨rfl, HB0.out⟩
  | true =>
   cases b2 with
   | false =>
    exact Sg366203
   | true =>
    by_cases hn0 : n = 0
    ·subst hn0
     by_cases hm0 : m = 0
     ·subst hm0
      have hqq : q = true := by rw [← hq]; simp
      subst hqq
      clear hq
      go_enter Tryz.func111, Tryz.ntmps111
      go_wp2_with fail
      rw [HW0.out]
      refine HSA.out.mono ?_
      rintro e w1 ⟨rfl, hb1⟩
      have HB1 := Lib.hid (below_step HB0.out rfl hb1)
      have y8 : w1.cell? ⟨w.heap.size, 8, none⟩ = some (.slice na 0 nc) := (hb1.cell (by show w.heap.size < W0.heap.size; rw [← HW0.out]; simp)).trans (by rw [← HW0.out]; exact x8)
      have y9 : w1.cell? ⟨w.heap.size, 9, none⟩ = some (.slice xa 0 xc) := (hb1.cell (by show w.heap.size < W0.heap.size; rw [← HW0.out]; simp)).trans (by rw [← HW0.out]; exact x9)
      clear hb1
      go_wp2_with fail
      go_ret
      exact ⟨rfl, HB1.out⟩
     ·have hm0' : ((m : Int) == 0) = false := by simp; omega
      have hqq : q = false := by rw [← hq]; simp [hm0]
      subst hqq
      clear hq
      go_enter Tryz.func111, Tryz.ntmps111
      go_wp2_with fail
      rw [HW0.out]
      refine HSA.out.mono ?_
      rintro e w1 ⟨rfl, hb1⟩
      have HB1 := Lib.hid (below_step HB0.out rfl hb1)
      have y8 : w1.cell? ⟨w.heap.size, 8, none⟩ = some (.slice na 0 nc) := (hb1.cell (by show w.heap.size < W0.heap.size; rw [← HW0.out]; simp)).trans (by rw [← HW0.out]; exact x8)
      have y9 : w1.cell? ⟨w.heap.size, 9, none⟩ = some (.slice xa m xc) := (hb1.cell (by show w.heap.size < W0.heap.size; rw [← HW0.out]; simp)).trans (by rw [← HW0.out]; exact x9)
      clear hb1
      go_wp2_with fail
      go_ret
      exact ⟨rfl, HB1.out⟩
    ·have z366203a := trivial
     exact Sg366203
theorem pmayExpr_any (t : Ex) (cs : List Value) (B : Nat) (w : World) (hX : IsX B w cs t) (hB : B ≤ w.heap.size) (hML : ML w) (hw : wtX t ≤ 1099511627776) :
    Calls Tryz.prog 175 #[.agg cs.toArray] w fun e w' => e = .returned (.bool (deepB 32 t)) ∧ Below w.heap.size w w' := by
 have hX0 := hX
 obtain ⟨op, nm, v, ns, az⟩ := t
 obtain ⟨k, b, i, s, l, ks, la, lc, ka, kc, na, nc, xa, xc, hv, rfl, hop, hV, hNA, hXA, hNS, hAZ⟩ := hX.cells
 clear hX
 obtain ⟨W0, u0, hW0, hu0, hsz, hbe, hce⟩ := box_ext w [.int .i64 op, .string nm, .int .i64 k, .bool b, .int .i64 i, .string s, .slice la l.length lc, .slice ka ks.length kc, .slice na ns.length nc, .slice xa az.length xc] 93
 obtain ⟨e0, e1, e2, e3, e4, e5, e6, e7, e8, e9⟩ := ge10 hce
 obtain ⟨x0, x1, x2, x3, x4, x5, x6, x7, x8, x9⟩ := gx10 hce u0
 rw [← hu0, ← hW0] at x0 x1 x2 x3 x4 x5 x6 x7 x8 x9
 have HR := Lib.hid (fun u => ext_right u (.mk op nm v ns az) _ B hsz (IsX.below (hbe u) hB _ _ hX0) (Nat.le_trans hB (hbe u).size) (hML.below (hbe u)) hw)
 obtain ⟨HBE, HW0, HU0⟩ := hd3 hbe hW0 hu0
 generalize deepB 32 (.mk op nm v ns az) = q at *
 clear hbe hW0 hu0 hsz hce hNS hv hV hNA hXA hAZ hX0 hw hop hML
 generalize ns.length = n at *
 generalize az.length = m at *
 go_enter Tryz.func175, Tryz.ntmps175
 go_wp2_with (go_at_call 34; (try rw [HW0.out, HU0.out]); refine (HR.out _).mono ?_; rintro e w2 ⟨rfl, u2, rfl⟩)
 go_ret
 exact ⟨by rfl, HBE.out _⟩
theorem pmayName_any (s : ByteArray) (w : World) (hs : s.size ≤ 1099511627776) (hML : ML w) : Calls Tryz.prog 202 #[.string s] w fun e w' => e = .returned (.bool (plainB s)) ∧ Below w.heap.size w w' := by
 have HP := Lib.hid (splain_any s w hs hML)
 generalize plainB s = q at *
 go_enter Tryz.func202, Tryz.ntmps202
 go_wp2_with (go_at_call 37; refine HP.out.mono ?_; rintro e w1 ⟨rfl, hb⟩; have HB := Lib.hid hb; clear hb)
 go_ret
 exact ⟨rfl, HB.out⟩
set_option maxHeartbeats 4000000 in
theorem pmaySort_any (o : Sot) (cs : List Value) (B : Nat) (w : World) (hX : IsSo B w cs o) (hB : B ≤ w.heap.size) (hML : ML w) (hw : wtSo o ≤ 1099511627776) :
    Calls Tryz.prog 200 #[.agg cs.toArray] w fun e w' => e = .returned (.bool (sortM o)) ∧ Below w.heap.size w w' := by
 obtain ⟨t, fl⟩ := o
 obtain ⟨xe, rfl, hX⟩ := hX
 have hX0 : IsX B w xe t := hX
 have hwx : wtX t ≤ 1099511627776 := by simp only [wtSo] at hw; omega
 obtain ⟨r, hr⟩ := nam (deepB 32 t)
 rw [show sortM ⟨t, fl⟩ = deepB 32 t from rfl, hr]
 obtain ⟨op, nm, v, ns, az⟩ := t
 obtain ⟨k, b, i, s, l, ks, la, lc, ka, kc, na, nc, xa, xc, hv, rfl, hop, hV, hNA, hXA, hNS, hAZ⟩ := hX0.cells
 obtain ⟨W0, u0, hW0, hu0, hsz, hbe, hce⟩ := box_ext w [.int .i64 op, .string nm, .int .i64 k, .bool b, .int .i64 i, .string s, .slice la l.length lc, .slice ka ks.length kc, .slice na ns.length nc, .slice xa az.length xc, .bool fl] 119
 obtain ⟨e0, e1, e2, e3, e4, e5, e6, e7, e8, e9, e10⟩ := ge11 hce
 obtain ⟨x0, x1, x2, x3, x4, x5, x6, x7, x8, x9, x10⟩ := gx11 hce u0
 rw [← hu0, ← hW0] at x0 x1 x2 x3 x4 x5 x6 x7 x8 x9 x10
 have HR := Lib.hid (fun (u : Ext (w.heap.size + 1) W0) => ext_call u hsz (pmayExpr_any (.mk op nm v ns az) _ B u.w (IsX.below (hbe u) hB _ _ hX0) (Nat.le_trans hB (hbe u).size) (hML.below (hbe u)) hwx))
 rw [hr] at HR
 obtain ⟨HBE, HW0, HU0⟩ := hd3 hbe hW0 hu0
 clear hbe hW0 hu0 hsz hce hNS hv hV hNA hXA hAZ hX0 hX hw hop hML hr hwx
 generalize ns.length = n at *
 generalize az.length = m at *
 go_enter Tryz.func200, Tryz.ntmps200
 go_wp2_with (go_at_call 175; (try rw [HW0.out, HU0.out]); refine (HR.out _).mono ?_; rintro e w2 ⟨rfl, u3, rfl⟩)
 go_ret
 exact ⟨by rfl, HBE.out _⟩
set_option maxHeartbeats 4000000 in
theorem pmayItem_any (o : Itt) (cs : List Value) (B : Nat) (w : World) (hX : IsIt B w cs o) (hB : B ≤ w.heap.size) (hML : ML w) (hw : wtIt o ≤ 1099511627776) :
    Calls Tryz.prog 198 #[.agg cs.toArray] w fun e w' => e = .returned (.bool (itemM o)) ∧ Below w.heap.size w w' := by
 obtain ⟨t, fl⟩ := o
 obtain ⟨xe, rfl, hX⟩ := hX
 have hX0 : IsX B w xe t := hX
 have hwx : wtX t ≤ 1099511627776 := by simp only [wtIt] at hw; omega
 have hs : fl.size ≤ 1099511627776 := by simp only [wtIt] at hw; omega
 obtain ⟨r, hr⟩ := nam (deepB 32 t)
 rw [show itemM ⟨t, fl⟩ = (plainB fl && deepB 32 t) from rfl, hr]
 obtain ⟨op, nm, v, ns, az⟩ := t
 obtain ⟨k, b, i, s, l, ks, la, lc, ka, kc, na, nc, xa, xc, hv, rfl, hop, hV, hNA, hXA, hNS, hAZ⟩ := hX0.cells
 obtain ⟨W0, u0, hW0, hu0, hsz, hbe, hce⟩ := box_ext w [.int .i64 op, .string nm, .int .i64 k, .bool b, .int .i64 i, .string s, .slice la l.length lc, .slice ka ks.length kc, .slice na ns.length nc, .slice xa az.length xc, .string fl] 116
 obtain ⟨e0, e1, e2, e3, e4, e5, e6, e7, e8, e9, e10⟩ := ge11 hce
 obtain ⟨x0, x1, x2, x3, x4, x5, x6, x7, x8, x9, x10⟩ := gx11 hce u0
 rw [← hu0, ← hW0] at x0 x1 x2 x3 x4 x5 x6 x7 x8 x9 x10
 have HR := Lib.hid (fun (u : Ext (w.heap.size + 1) W0) => ext_call u hsz (pmayExpr_any (.mk op nm v ns az) _ B u.w (IsX.below (hbe u) hB _ _ hX0) (Nat.le_trans hB (hbe u).size) (hML.below (hbe u)) hwx))
 rw [hr] at HR
 have HP := Lib.hid (fun (u : Ext (w.heap.size + 1) W0) => ext_call u hsz (splain_any fl u.w hs (hML.below (hbe u))))
 obtain ⟨c, hc⟩ := nam (plainB fl)
 rw [hc] at HP ⊢
 obtain ⟨HBE, HW0, HU0⟩ := hd3 hbe hW0 hu0
 clear hbe hW0 hu0 hsz hce hNS hv hV hNA hXA hAZ hX0 hX hw hop hML hr hwx hc
 generalize ns.length = n at *
 generalize az.length = m at *
 cases c <;>
 · go_enter Tryz.func198, Tryz.ntmps198
   go_wp2_with (first | (go_at_call 37; (try rw [HW0.out, HU0.out]); refine (HP.out _).mono ?_; rintro e w2 ⟨rfl, u2, rfl⟩) | (go_at_call 175; (try rw [HW0.out, HU0.out]); refine (HR.out _).mono ?_; rintro e w2 ⟨rfl, u3, rfl⟩))
   go_ret
   exact ⟨by rfl, HBE.out _⟩
set_option maxHeartbeats 16000000 in
theorem pmayNode_any (o : Npt) (cs : List Value) (B : Nat) (w : World) (hX : IsNp B w cs o) (hB : B ≤ w.heap.size) (hML : ML w) (hw : wtNp o ≤ 1099511627776) :
    Calls Tryz.prog 192 #[.agg cs.toArray] w fun e w' => e = .returned (.bool (nodeM o)) ∧ Below w.heap.size w w' := by
 obtain ⟨vr, ls, ks, vs⟩ := o
 obtain ⟨la, lc, ka, kc, va, vc, rfl, hLA, hLS, hKA, hKS, hVA, hVS⟩ := hX
 simp only at hLA hLS hKA hKS hVA hVS
 have hs : vr.size ≤ 1099511627776 := by simp only [wtNp] at hw; omega
 have hwl : wtS ls ≤ 1099511627776 := by simp only [wtNp] at hw; omega
 have hwk : wtS ks ≤ 1099511627776 := by simp only [wtNp] at hw; omega
 have hwv : wtXs vs ≤ 1099511627776 := by simp only [wtNp] at hw; omega
 obtain ⟨q, hq⟩ : ∃ q, nodeM ⟨vr, ls, ks, vs⟩ = q := ⟨_, rfl⟩
 rw [hq]
 rw [nodeM] at hq
 simp only at hq ⊢
 obtain ⟨n, hn⟩ := nam ls.length
 have hn0 : n ≤ 1099511627776 := by have := wtS_len ls; omega
 rw [hn] at hLA ⊢
 have HN := Lib.hid hn
 obtain ⟨W0, u0, hW0, hu0, hsz, hbe, hce⟩ := box_ext w [.string vr, .slice la n lc, .slice ka ks.length kc, .slice va vs.length vc] 214
 obtain ⟨e0, e1, e2, e3⟩ := ge4 hce
 obtain ⟨x0, x1, x2, x3⟩ := gx4 hce u0
 rw [← hu0, ← hW0] at x0 x1 x2 x3
 have HKEY := Lib.hid (fun (x : ByteArray) (hx : x.size ≤ 1099511627776) (u : Ext (w.heap.size + 1) W0) => ext_call0 u (skeyB_any x u.w hx))
 have HPL := Lib.hid (fun (u : Ext (w.heap.size + 1) W0) => ext_call u hsz (splain_any vr u.w hs (hML.below (hbe u))))
 have HPR := Lib.hid (fun (u : Ext (w.heap.size + 1) W0) => ext_call u hsz (pmayProps_any ks vs ka va kc vc B u.w hKA hVA (hKS.below (hbe u) hB) (hVS.below (hbe u) hB (fun _ _ h => IsX.below (hbe u) hB _ _ h)) (Nat.le_trans hB (hbe u).size) (hML.below (hbe u)) hwk hwv))
 obtain ⟨pp, hpp⟩ := nam (propsM ks vs)
 obtain ⟨pl, hpl⟩ := nam (plainB vr)
 rw [hpp] at HPR hq
 rw [hpl] at HPL
 obtain ⟨b0, hb0⟩ := nam ((vr.toList == []))
 have hb0' := emp_eq hb0
 rw [varM_eq hb0 hpl] at hq
 have HQ := Lib.hid hq
 have HNT : Hid (∀ (j : Nat) x, ls[j]? = some x → ∃ b off, la = some ⟨b, off, none⟩ ∧ b < B ∧ ∀ u : Ext (w.heap.size + 1) W0, u.w.cell? ⟨b, off + j, none⟩ = some (.string x)) := Lib.hid (fun j x hx => hLS.at_ext hB hbe hx)
 have HNW : Hid (∀ (j : Nat) (x : ByteArray), ls[j]? = some x → x.size ≤ 1099511627776) := Lib.hid (fun j x h => by have := wtS_get h; omega)
 obtain ⟨HBE, HW0, HU0⟩ := hd3 hbe hW0 hu0
 have hlc := hLA.1
 clear hbe hW0 hu0 hsz hce hLS hKS hVS hn hq hLA hKA hVA hML hB hw hwl hwk hwv hs hpp hpl
 generalize ks.length = nk at *
 generalize vs.length = nv at *
 have hbu : Program.built Tryz.prog 206 [(0, Value.slice ka nk kc), (1, Value.slice va nv vc)] = some #[.slice ka nk kc, .slice va nv vc] := by kernel_rfl
 go_enter Tryz.func192, Tryz.ntmps192
 go_wp2_with fail
 rw [HW0.out, HU0.out]
 go_loopw [8] (fun iv wr => ∃ (j : Nat) (u : Ext (w.heap.size + 1) W0), iv = .int .i64 j ∧ j ≤ n ∧ Hid (∀ (i : Nat) x, i < j → ls[i]? = some x → keyB x = true) ∧ wr = u.w) (fun iv _ => n - (intOf iv).toNat)
 case atStart => exact ⟨0, u0, rfl, Nat.zero_le _, Lib.hid (fun i x hi => by omega), rfl⟩
 case round =>
  obtain ⟨j, u, rfl, hj, HA1, rfl⟩ := hrel
  by_cases hlt : j < n
  ·have hlt' : (j : Int) < n := by omega
   have hj0 : (0 : Int) ≤ (j : Int) := by omega
   have hwi : IntKind.i64.wrap ((j : Int) + 1) = (j : Int) + 1 := IntWalk.i64_in _ (by omega)
   obtain ⟨x, hx⟩ := get_some (l := ls) (j := j) (by have := HN.out; omega)
   obtain ⟨kb, ko, rfl, hkb, hkc2⟩ := HNT.out j x hx
   have HK := Lib.hid (HKEY.out x (HNW.out j x hx))
   have HX := Lib.hid hx
   obtain ⟨c, hc2⟩ := nam (keyB x)
   rw [hc2] at HK
   have HC2 := Lib.hid hc2
   clear hx hc2
   cases c with
   | false =>
    have hqq : q = false := by rw [← HQ.out, anyL_false HX.out HC2.out]; rfl
    go_wp2_with (go_at_call 84; refine (HK.out _).mono ?_; rintro e w2 ⟨rfl, u2, rfl⟩)
    go_ret
    exact ⟨by (try rw [hqq]); rfl, HBE.out _⟩
   | true =>
    go_wp2_with (go_at_call 84; refine (HK.out _).mono ?_; rintro e w2 ⟨rfl, u2, rfl⟩)
    go_roundw
    case rel => exact ⟨j + 1, _, by go_num, by omega, Lib.hid (fun i y hi hy => (Nat.lt_or_ge i j).elim (fun h => HA1.out i y h hy) (fun h => by rw [show i = j from by omega, HX.out] at hy; rw [← Option.some.inj hy]; exact HC2.out)), rfl⟩
    case measure => simp [intOf]; omega
  ·have hlt' : ¬ (j : Int) < n := by omega
   have hqq : q = ((b0 || pl) && pp) := by rw [← HQ.out, allL_true (fun i x hx => HA1.out i x (by have := (List.getElem?_eq_some_iff.1 hx).1; have := HN.out; omega) hx)]; rfl
   clear HQ
   subst hqq
   cases b0 <;> cases pl <;> cases pp <;>
   · go_wp2_with (first | (go_at_call 37; (try rw [HW0.out, HU0.out]); refine (HPL.out _).mono ?_; rintro e w2 ⟨rfl, u2, rfl⟩) | (go_at_call 196; (try rw [HW0.out, HU0.out]); refine (HPR.out _).mono ?_; rintro e w2 ⟨rfl, u3, rfl⟩))
     go_ret
     exact ⟨by rfl, HBE.out _⟩
theorem Sg706175 {P : Prop} (h : P := by
 first
 | (guard_hyp z706175a; rw [decide_eq_false hd2] at hq)
 | (rw [decide_eq_false hd0] at hq)
 subst hq
 cases b0 <;> cases pl <;> cases b1 <;> cases pk <;>
 · go_enter Tryz.func193, Tryz.ntmps193
   go_wp2_with (first | (go_at_call 37; (try rw [HW0.out, HU0.out]); refine (HPL.out _).mono ?_; rintro e w2 ⟨rfl, u2, rfl⟩) | (go_at_call 84; (try rw [HW0.out, HU0.out]); refine (HKEY.out _).mono ?_; rintro e w2 ⟨rfl, u4, rfl⟩) | (go_at_call 196; (try rw [HW0.out, HU0.out]); refine (HPR.out _).mono ?_; rintro e w2 ⟨rfl, u3, rfl⟩))
   (try rw [HW0.out, HU0.out])
   go_ret
   exact ⟨by rfl, HBE.out _⟩) : P := h
set_option maxHeartbeats 16000000 in
theorem pmayEdge_any (o : Ept) (cs : List Value) (B : Nat) (w : World) (hX : IsEp B w cs o) (hB : B ≤ w.heap.size) (hML : ML w) (hw : wtEp o ≤ 1099511627776) :
    Calls Tryz.prog 193 #[.agg cs.toArray] w fun e w' => e = .returned (.bool (edgeM o)) ∧ Below w.heap.size w w' := by
 obtain ⟨vr, ty, dir, ks, vs⟩ := o
 obtain ⟨ka, kc, va, vc, rfl, hdir, hKA, hKS, hVA, hVS⟩ := hX
 simp only at hKA hKS hVA hVS hdir
 have hs : vr.size ≤ 1099511627776 := by simp only [wtEp] at hw; omega
 have hst : ty.size ≤ 1099511627776 := by simp only [wtEp] at hw; omega
 have hwk : wtS ks ≤ 1099511627776 := by simp only [wtEp] at hw; omega
 have hwv : wtXs vs ≤ 1099511627776 := by simp only [wtEp] at hw; omega
 obtain ⟨q, hq⟩ : ∃ q, edgeM ⟨vr, ty, dir, ks, vs⟩ = q := ⟨_, rfl⟩
 rw [hq]
 rw [edgeM] at hq
 simp only at hq ⊢
 obtain ⟨W0, u0, hW0, hu0, hsz, hbe, hce⟩ := box_ext w [.string vr, .string ty, .int .i64 dir, .slice ka ks.length kc, .slice va vs.length vc] 215
 obtain ⟨e0, e1, e2, e3, e4⟩ := ge5 hce
 obtain ⟨x0, x1, x2, x3, x4⟩ := gx5 hce u0
 rw [← hu0, ← hW0] at x0 x1 x2 x3 x4
 have HKEY := Lib.hid (fun (u : Ext (w.heap.size + 1) W0) => ext_call0 u (skeyB_any ty u.w hst))
 have HPL := Lib.hid (fun (u : Ext (w.heap.size + 1) W0) => ext_call u hsz (splain_any vr u.w hs (hML.below (hbe u))))
 have HPR := Lib.hid (fun (u : Ext (w.heap.size + 1) W0) => ext_call u hsz (pmayProps_any ks vs ka va kc vc B u.w hKA hVA (hKS.below (hbe u) hB) (hVS.below (hbe u) hB (fun _ _ h => IsX.below (hbe u) hB _ _ h)) (Nat.le_trans hB (hbe u).size) (hML.below (hbe u)) hwk hwv))
 obtain ⟨pp, hpp⟩ := nam (propsM ks vs)
 obtain ⟨pl, hpl⟩ := nam (plainB vr)
 obtain ⟨pk, hpk⟩ := nam (keyB ty)
 rw [hpp] at HPR hq
 rw [hpl] at HPL
 rw [hpk] at HKEY hq
 obtain ⟨b0, hb0⟩ := nam ((vr.toList == []))
 have hb0' := emp_eq hb0
 obtain ⟨b1, hb1⟩ := nam ((ty.toList == []))
 have hb1' := emp_eq hb1
 rw [varM_eq hb0 hpl, hb1] at hq
 obtain ⟨HBE, HW0, HU0⟩ := hd3 hbe hW0 hu0
 clear hbe hW0 hu0 hsz hce hKS hVS hKA hVA hML hB hw hwk hwv hs hst hpp hpl hpk hdir
 generalize ks.length = nk at *
 generalize vs.length = nv at *
 have hbu : Program.built Tryz.prog 206 [(0, Value.slice ka nk kc), (1, Value.slice va nv vc)] = some #[.slice ka nk kc, .slice va nv vc] := by kernel_rfl
 by_cases hd0 : 0 ≤ dir
 ·rw [decide_eq_true hd0] at hq
  by_cases hd2 : dir ≤ 2
  ·rw [decide_eq_true hd2] at hq
   subst hq
   cases b0 <;> cases pl <;> cases b1 <;> cases pk <;> cases pp <;>
   · go_enter Tryz.func193, Tryz.ntmps193
     go_wp2_with (first | (go_at_call 37; (try rw [HW0.out, HU0.out]); refine (HPL.out _).mono ?_; rintro e w2 ⟨rfl, u2, rfl⟩) | (go_at_call 84; (try rw [HW0.out, HU0.out]); refine (HKEY.out _).mono ?_; rintro e w2 ⟨rfl, u4, rfl⟩) | (go_at_call 196; (try rw [HW0.out, HU0.out]); refine (HPR.out _).mono ?_; rintro e w2 ⟨rfl, u3, rfl⟩))
     (try rw [HW0.out, HU0.out])
     go_ret
     exact ⟨by rfl, HBE.out _⟩
  ·have z706175a := trivial
   exact Sg706175
 ·exact Sg706175
end Go.Proofs.YtndhpdclpgemfaaGreat

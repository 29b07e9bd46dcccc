/- Parts X21, X22 of this seat (pruned, scripts that are alike kept once as default arguments: q1, q2, ..). Conditions: each says its own. -/
import Derived.Test.YtndhpdclpgemfaaGreatW3
import Derived.Test.YtndhpdclpgemfaaGreatW4
namespace Go.Proofs.YtndhpdclpgemfaaGreat
open Go.RowKit
set_option linter.unusedSimpArgs false
set_option linter.unusedVariables false
set_option maxRecDepth 100000
theorem sum_len {α : Type} (f : α → Nat) (hf : ∀ x, 1 ≤ f x) (l : List α) : l.length ≤ (l.map f).sum := by
 induction l with
 | nil => simp
 | cons x xs ih => have := hf x; simp only [List.length_cons, List.map_cons, List.sum_cons]; omega
set_option maxHeartbeats 16000000 in
theorem pmayPath_any (o : Ptt) (cs : List Value) (B : Nat) (w : World) (hX : IsPt B w cs o) (hB : B ≤ w.heap.size) (hML : ML w) (hw : wtPt o ≤ 1099511627776) :
    Calls Tryz.prog 190 #[.agg cs.toArray] w fun e w' => e = .returned (.bool (pathM o)) ∧ Below w.heap.size w w' := by
 obtain ⟨nl, el⟩ := o
 obtain ⟨na, nc, ea, ec, rfl, hNA, hNS, hEA, hES⟩ := hX
 simp only at hNA hNS hEA hES
 have hwn : (nl.map wtNp).sum ≤ 1099511627776 := by simp only [wtPt] at hw; omega
 have hwe : (el.map wtEp).sum ≤ 1099511627776 := by simp only [wtPt] at hw; omega
 have hnl : nl.length ≤ 1099511627776 := Nat.le_trans (sum_len wtNp (fun x => by unfold wtNp; omega) nl) hwn
 have hel : el.length ≤ 1099511627776 := Nat.le_trans (sum_len wtEp (fun x => by unfold wtEp; omega) el) hwe
 obtain ⟨q, hq⟩ : ∃ q, pathM ⟨nl, el⟩ = q := ⟨_, rfl⟩
 rw [hq]
 rw [pathM] at hq
 simp only at hq ⊢
 obtain ⟨n, hn⟩ := nam nl.length
 obtain ⟨m, hm⟩ := nam el.length
 rw [hn] at hNA hnl hq ⊢
 rw [hm] at hEA hel hq ⊢
 obtain ⟨HN, HM, HQ⟩ := hd3 hn hm hq
 obtain ⟨W0, u0, hW0, hu0, hsz, hbe, hce⟩ := box_ext w [.slice na n nc, .slice ea m ec] 111
 have e0 := fun u => hce u 0 _ rfl
 have e1 := fun u => hce u 1 _ rfl
 have x0 := hce u0 0 _ rfl
 have x1 := hce u0 1 _ rfl
 rw [← hu0, ← hW0] at x0 x1
 have HNODE := Lib.hid (fun (t : Npt) (cs : List Value) (u : Ext (w.heap.size + 1) W0) (h : IsNp B u.w cs t) (hw : wtNp t ≤ 1099511627776) => ext_call u hsz (pmayNode_any t cs B u.w h (Nat.le_trans hB (hbe u).size) (hML.below (hbe u)) hw))
 have HEDGE := Lib.hid (fun (t : Ept) (cs : List Value) (u : Ext (w.heap.size + 1) W0) (h : IsEp B u.w cs t) (hw : wtEp t ≤ 1099511627776) => ext_call u hsz (pmayEdge_any t cs B u.w h (Nat.le_trans hB (hbe u).size) (hML.below (hbe u)) hw))
 have HNT : Hid (∀ (j : Nat) t, nl[j]? = some t → ∃ b off cs, na = some ⟨b, off, none⟩ ∧ b < B ∧ cs.length = 4 ∧ (∀ (u : Ext (w.heap.size + 1) W0) (q : Nat) v, cs[q]? = some v → u.w.cell? ⟨b, off + j * 4 + q, none⟩ = some v) ∧ ∀ u : Ext (w.heap.size + 1) W0, IsNp B u.w cs t) := Lib.hid (fun j t ht => hNS.at_gen (f := Ext.w) (R := IsNp B) hB hbe (fun u cs x h => h.below (hbe u) hB) ht)
 have HET : Hid (∀ (j : Nat) t, el[j]? = some t → ∃ b off cs, ea = some ⟨b, off, none⟩ ∧ b < B ∧ cs.length = 5 ∧ (∀ (u : Ext (w.heap.size + 1) W0) (q : Nat) v, cs[q]? = some v → u.w.cell? ⟨b, off + j * 5 + q, none⟩ = some v) ∧ ∀ u : Ext (w.heap.size + 1) W0, IsEp B u.w cs t) := Lib.hid (fun j t ht => hES.at_gen (f := Ext.w) (R := IsEp B) hB hbe (fun u cs x h => h.below (hbe u) hB) ht)
 have HWN : Hid (∀ (j : Nat) (t : Npt), nl[j]? = some t → wtNp t ≤ 1099511627776) := Lib.hid (fun j t h => by have := sum_get wtNp h; omega)
 have HWE : Hid (∀ (j : Nat) (t : Ept), el[j]? = some t → wtEp t ≤ 1099511627776) := Lib.hid (fun j t h => by have := sum_get wtEp h; omega)
 obtain ⟨HBE, HW0, HU0⟩ := hd3 hbe hW0 hu0
 have hnc := hNA.1
 have hec := hEA.1
 have hwm : IntKind.i64.wrap ((m : Int) + 1) = (m : Int) + 1 := IntWalk.i64_in _ (by omega)
 clear hbe hW0 hu0 hsz hce hNS hES hn hm hq hNA hEA hML hB hw hwn hwe
 by_cases hnm : n = m + 1
 ·have HNM := Lib.hid hnm
  have hb1 : ((n : Int) != (m : Int) + 1) = false := by simp; omega
  have hb2 : ((n : Int) == (m : Int) + 1) = true := by simp; omega
  have HQ2 : Hid ((nl.all nodeM && el.all edgeM) = q) := Lib.hid (by have h := HQ.out; rw [decide_eq_true hnm, Bool.true_and] at h; exact h)
  clear HQ hnm
  go_enter Tryz.func190, Tryz.ntmps190
  go_wp2_with fail
  rw [HW0.out, HU0.out]
  go_loopw [15] (fun iv wr => ∃ (j : Nat) (u : Ext (w.heap.size + 1) W0), iv = .int .i64 j ∧ j ≤ n ∧ Hid (∀ (i : Nat) x, i < j → nl[i]? = some x → nodeM x = true) ∧ Hid (∀ (i : Nat) x, i + 1 < j → el[i]? = some x → edgeM x = true) ∧ wr = u.w) (fun iv _ => n - (intOf iv).toNat)
  case atStart => exact ⟨0, u0, rfl, Nat.zero_le _, Lib.hid (fun i x hi => by omega), Lib.hid (fun i x hi => by omega), rfl⟩
  case round =>
   obtain ⟨j, u, rfl, hj, HA1, HA2, rfl⟩ := hrel
   by_cases hlt : j < n
   ·have hlt' : (j : Int) < n := by omega
    have hj0 : (0 : Int) ≤ (j : Int) := by omega
    have hwi : IntKind.i64.wrap ((j : Int) + 1) = (j : Int) + 1 := IntWalk.i64_in _ (by omega)
    obtain ⟨t2, ht2⟩ := get_some (l := nl) (j := j) (by have := HN.out; omega)
    obtain ⟨nb, no, cs2, rfl, hnb, -, hcs2, hx2⟩ := HNT.out j t2 ht2
    have HNC := Lib.hid (fun u => HNODE.out t2 cs2 u (hx2 u) (HWN.out j t2 ht2))
    have HT2 := Lib.hid ht2
    obtain ⟨c, hc⟩ := nam (nodeM t2)
    rw [hc] at HNC
    have HC := Lib.hid hc
    clear hc ht2
    obtain ⟨vr2, ls2, ks2, vs2⟩ := t2
    obtain ⟨la2, lc2, ka2, kc2, va2, vc2, rfl, -⟩ := hx2 u
    have g2_0 : ∀ u : Ext (w.heap.size + 1) W0, u.w.cell? ⟨nb, no + j * 4, none⟩ = some (.string vr2) := fun u => hcs2 u 0 _ rfl
    obtain ⟨g2_1, g2_2, g2_3⟩ := gf3 hcs2
    clear hcs2 hx2
    simp only at g2_0 g2_1 g2_2 g2_3
    generalize ls2.length = ya2 at *
    generalize ks2.length = yb2 at *
    generalize vs2.length = yc2 at *
    cases c with
    | false =>
     have hqq : q = false := by rw [← HQ2.out, anyL_false HT2.out HC.out]; rfl
     go_wp2_with (go_at_call 192; refine (HNC.out _).mono ?_; rintro e w2 ⟨rfl, u2, rfl⟩)
     go_ret
     exact ⟨by (try rw [hqq]); rfl, HBE.out _⟩
    | true =>
     by_cases hz : j = 0
     ·have hz1 : decide ((0 : Int) < (j : Int)) = false := by simp; omega
      have hz2 : decide (0 < j) = false := by simp; omega
      have HZ := Lib.hid hz
      clear hz
      go_wp2_with (go_at_call 192; refine (HNC.out _).mono ?_; rintro e w2 ⟨rfl, u2, rfl⟩)
      go_roundw
      case rel => exact ⟨j + 1, _, by go_num, by omega, Lib.hid (fun i y hi hy => (Nat.lt_or_ge i j).elim (fun h => HA1.out i y h hy) (fun h => by rw [show i = j from by omega, HT2.out] at hy; rw [← Option.some.inj hy]; exact HC.out)), Lib.hid (fun i y hi hy => by have := HZ.out; omega), rfl⟩
      case measure => simp [intOf]; omega
     ·have hz1 : decide ((0 : Int) < (j : Int)) = true := by simp; omega
      have hz2 : decide (0 < j) = true := by simp; omega
      obtain ⟨jp, hjp⟩ : ∃ jp, j = jp + 1 := ⟨j - 1, by omega⟩
      have HJP := Lib.hid hjp
      have hws : IntKind.i64.wrap ((j : Int) - 1) = (jp : Int) := by rw [IntWalk.i64_in _ (by omega)]; omega
      have hjp0 : (0 : Int) ≤ (jp : Int) := by omega
      have hjpm : (jp : Int) < m := by have := HNM.out; omega
      have hjpm' : jp < m := by have := HNM.out; omega
      clear hz hjp
      obtain ⟨t3, ht3⟩ := get_some (l := el) (j := jp) (by have := HM.out; omega)
      obtain ⟨eb, eo, cs3, rfl, heb, -, hcs3, hx3⟩ := HET.out jp t3 ht3
      have HEC := Lib.hid (fun u => HEDGE.out t3 cs3 u (hx3 u) (HWE.out jp t3 ht3))
      have HT3 := Lib.hid ht3
      obtain ⟨c3, hc3⟩ := nam (edgeM t3)
      rw [hc3] at HEC
      have HC3 := Lib.hid hc3
      clear hc3 ht3
      obtain ⟨vr3, ty3, dir3, ks3, vs3⟩ := t3
      obtain ⟨ka3, kc3, va3, vc3, rfl, -⟩ := hx3 u
      have g3_0 : ∀ u : Ext (w.heap.size + 1) W0, u.w.cell? ⟨eb, eo + jp * 5, none⟩ = some (.string vr3) := fun u => hcs3 u 0 _ rfl
      obtain ⟨g3_1, g3_2, g3_3, g3_4⟩ := gf4 hcs3
      clear hcs3 hx3
      simp only at g3_0 g3_1 g3_2 g3_3 g3_4
      generalize ks3.length = yb3 at *
      generalize vs3.length = yc3 at *
      cases c3 with
      | false =>
       have hqq : q = false := by rw [← HQ2.out, anyL_false HT3.out HC3.out]; simp
       go_wp2_with (first | (go_at_call 192; refine (HNC.out _).mono ?_; rintro e w2 ⟨rfl, u2, rfl⟩) | (go_at_call 193; refine (HEC.out _).mono ?_; rintro e w2 ⟨rfl, u3, rfl⟩))
       go_ret
       exact ⟨by (try rw [hqq]); rfl, HBE.out _⟩
      | true =>
       go_wp2_with (first | (go_at_call 192; refine (HNC.out _).mono ?_; rintro e w2 ⟨rfl, u2, rfl⟩) | (go_at_call 193; refine (HEC.out _).mono ?_; rintro e w2 ⟨rfl, u3, rfl⟩))
       go_roundw
       case rel => exact ⟨j + 1, _, by go_num, by omega, Lib.hid (fun i y hi hy => (Nat.lt_or_ge i j).elim (fun h => HA1.out i y h hy) (fun h => by rw [show i = j from by omega, HT2.out] at hy; rw [← Option.some.inj hy]; exact HC.out)), Lib.hid (fun i y hi hy => (Nat.lt_or_ge (i + 1) j).elim (fun h => HA2.out i y h hy) (fun h => by rw [show i = jp from by have := HJP.out; omega, HT3.out] at hy; rw [← Option.some.inj hy]; exact HC3.out)), rfl⟩
       case measure => simp [intOf]; omega
   ·have hlt' : ¬ (j : Int) < n := by omega
    have hqq : q = true := by
     rw [← HQ2.out, allL_true (fun i x hx => HA1.out i x (by have := (List.getElem?_eq_some_iff.1 hx).1; have := HN.out; omega) hx), allL_true (fun i x hx => HA2.out i x (by have := (List.getElem?_eq_some_iff.1 hx).1; have := HM.out; have := HNM.out; omega) hx)]; rfl
    go_wp2_with fail
    go_ret
    exact ⟨by (try rw [hqq]); rfl, HBE.out u⟩
 ·have hb1 : ((n : Int) != (m : Int) + 1) = true := by simp; omega
  have hb2 : ((n : Int) == (m : Int) + 1) = false := by simp; omega
  have hqq : q = false := by rw [← HQ.out, decide_eq_false hnm]; rfl
  have HNM := Lib.hid hnm
  clear hnm
  subst hqq
  go_enter Tryz.func190, Tryz.ntmps190
  go_wp2_with fail
  (try rw [HW0.out, HU0.out])
  go_ret
  exact ⟨by rfl, HBE.out _⟩
theorem Sg768518 {P : Prop} (h : P := by
 have z335256b := trivial
 exact Sg335256) : P := h
theorem Sg335256 {P : Prop} (h : P := by
 first
 |(
  guard_hyp z335256a
  have h64' : (64 : Int) < (kn : Int) + ln := by omega
  rw [decide_eq_false h64] at hq
  clear h64
  have hqq : q = false := by rw [← hq]; simp)
 |(
  guard_hyp z335256c
  first
  | (guard_hyp z642979a; have hqq : q = bl := by rw [← hq]; simp)
  | (have hqq : q = r := by rw [← hq]; simp))
 | (guard_hyp z335256b; have hqq : q = false := by rw [← hq]; simp)
 | (have hqq : q = bl := by rw [← hq]; simp)
 subst hqq
 clear hq
 go_enter Tryz.func204, Tryz.ntmps204
 go_wp2_with (first | (go_at_call 37; (try rw [HW0.out, HU0.out]); refine (HP.out _).mono ?_; rintro e w2 ⟨rfl, u2, rfl⟩) | (go_at_call 34; (try rw [HW0.out, HU0.out]); refine (HR.out _).mono ?_; rintro e w2 ⟨rfl, u3, rfl⟩) | (go_at_call 111; (try rw [HW0.out, HU0.out]); refine (HBL.out _).mono ?_; rintro e w2 ⟨rfl, u4, rfl⟩))
 go_ret
 exact ⟨by (try simp), HBE.out _⟩) : P := h
theorem Sg642979 {P : Prop} (h : P := by
 by_cases h64 : kn + ln ≤ 64
 ·have h64' : ¬ (64 : Int) < (kn : Int) + ln := by omega
  rw [decide_eq_true h64] at hq
  clear h64
  cases st with
  | false =>
   exact Sg335256
  | true =>
   have z335256c := trivial
   exact Sg335256
 ·have z335256a := trivial
  exact Sg335256) : P := h
set_option maxHeartbeats 16000000 in
theorem pmaySet_any (o : Sit) (st : Bool) (cs : List Value) (B : Nat) (w : World) (hX : IsSi B w cs o) (hB : B ≤ w.heap.size) (hML : ML w) (hw : wtSi o ≤ 1099511627776) :
    Calls Tryz.prog 204 #[.agg (cs ++ [Value.bool st]).toArray] w fun e w' => e = .returned (.bool (setM o st)) ∧ Below w.heap.size w w' := by
 obtain ⟨vr, ke, lb, t⟩ := o
 obtain ⟨xe, rfl, hX⟩ := hX
 have hX0 : IsX B w xe t := hX
 have hwx : wtX t ≤ 1099511627776 := by simp only [wtSi] at hw; omega
 have hs : vr.size ≤ 1099511627776 := by simp only [wtSi] at hw; omega
 have hks : ke.size ≤ 1099511627776 := by simp only [wtSi] at hw; omega
 have hls : lb.size ≤ 1099511627776 := by simp only [wtSi] at hw; omega
 obtain ⟨q, hq⟩ : ∃ q, setM ⟨vr, ke, lb, t⟩ st = q := ⟨_, rfl⟩
 rw [hq]
 rw [setM] at hq
 simp only at hq
 obtain ⟨r, hr⟩ := nam (deepB 32 t)
 obtain ⟨bl, hbl⟩ := nam (noneB t)
 obtain ⟨c, hc⟩ := nam (plainB vr)
 obtain ⟨b0, hb0⟩ := nam ((ke.toList == []))
 have hb0' := emp_eq hb0
 obtain ⟨b1, hb1⟩ := nam ((lb.toList == []))
 have hb1' := emp_eq hb1
 rw [hr, hbl, hc, hb0, hb1] at hq
 obtain ⟨kn, hkn⟩ := nam ke.size
 obtain ⟨ln, hln⟩ := nam lb.size
 rw [hkn] at hq hks
 rw [hln] at hq hls
 obtain ⟨T, hT⟩ : ∃ T, T = t := ⟨_, rfl⟩
 obtain ⟨op, nm, v, ns, az⟩ := t
 obtain ⟨k, b, i, s, l, ks, la, lc, ka, kc, na, nc, xa, xc, hv, rfl, hop, hV, hNA, hXA, hNS, hAZ⟩ := hX0.cells
 simp only [List.cons_append, List.nil_append]
 obtain ⟨W0, u0, hW0, hu0, hsz, hbe, hce⟩ := box_ext w [.string vr, .string ke, .string lb, .int .i64 op, .string nm, .int .i64 k, .bool b, .int .i64 i, .string s, .slice la l.length lc, .slice ka ks.length kc, .slice na ns.length nc, .slice xa az.length xc, .bool st] 126
 obtain ⟨e0, e1, e2, e3, e4, e5, e6, e7, e8, e9, e10, e11, e12, e13⟩ := ge14 hce
 obtain ⟨x0, x1, x2, x3, x4, x5, x6, x7, x8, x9, x10, x11, x12, x13⟩ := gx14 hce u0
 rw [← hu0, ← hW0] at x0 x1 x2 x3 x4 x5 x6 x7 x8 x9 x10 x11 x12 x13
 have HR := Lib.hid (fun (u : Ext (w.heap.size + 1) W0) => ext_right u (.mk op nm v ns az) _ B hsz (IsX.below (hbe u) hB _ _ hX0) (Nat.le_trans hB (hbe u).size) (hML.below (hbe u)) hwx)
 have HBL := Lib.hid (fun (u : Ext (w.heap.size + 1) W0) => ext_call u hsz (pblank_any (.mk op nm v ns az) _ B u.w (IsX.below (hbe u) hB _ _ hX0) (Nat.le_trans hB (hbe u).size)))
 have HP := Lib.hid (fun (u : Ext (w.heap.size + 1) W0) => ext_call u hsz (splain_any vr u.w hs (hML.below (hbe u))))
 rw [hr] at HR
 rw [hbl] at HBL
 rw [hc] at HP
 obtain ⟨HBE, HW0, HU0⟩ := hd3 hbe hW0 hu0
 have hsum : IntKind.i64.wrap ((kn : Int) + ln) = (kn : Int) + ln := IntWalk.i64_in _ (by omega)
 clear hbe hW0 hu0 hsz hce hNS hv hV hNA hXA hAZ hX0 hX hw hop hML hr hbl hc hwx hT hs
 generalize ns.length = n at *
 generalize az.length = m at *
 cases c with
 | false =>
  exact Sg768518
 | true =>
  cases b0 with
  | false =>
   cases b1 with
   | false =>
    exact Sg768518
   | true =>
    exact Sg642979
  | true =>
   cases b1 with
   | false =>
    have z642979a := trivial
    exact Sg642979
   | true =>
    exact Sg768518
end Go.Proofs.YtndhpdclpgemfaaGreat
namespace Go.Proofs.YtndhpdclpgemfaaGreat
open Go.RowKit Go.Shelf
set_option linter.unusedSimpArgs false
set_option linter.unusedVariables false
set_option maxRecDepth 100000
def innerX (ahead : Bool) (ks : List ByteArray) (vs : List Ex) : List UInt8 := if ks.length = 0 then [] else (if ahead = true then [32] else []) ++ propsX ks vs
def labX (l : ByteArray) : List UInt8 := [58] ++ keyTL l
def nodeX (n : Npt) : List UInt8 := ([40] ++ n.var.data.toList) ++ (n.labels.flatMap labX ++ (innerX (!(n.var.toList == []) || !decide (n.labels.length = 0)) n.keys n.vals ++ [41]))
def edgeIn (e : Ept) : List UInt8 := if (!(e.var.toList == []) || (!(e.ty.toList == []) || !decide (e.keys.length = 0))) = true then ([91] ++ e.var.data.toList) ++ ((if (e.ty.toList == []) = true then [] else labX e.ty) ++ (innerX (!(e.var.toList == []) || !(e.ty.toList == [])) e.keys e.vals ++ [93])) else []
def edgeX (e : Ept) : List UInt8 := (if (e.dir == 1) = true then [60] else []) ++ ([45] ++ (edgeIn e ++ ([45] ++ (if (e.dir == 0) = true then [62] else []))))
theorem propsX_len (ks : List ByteArray) (vs : List Ex) : (propsX ks vs).length ≤ 2 + 6 * wtS ks + 64 * wtXs vs := by
 have := props_len ks vs
 unfold propsX
 simp only [List.length_append, List.length_cons, List.length_nil]
 omega
theorem innerX_len (a : Bool) (ks : List ByteArray) (vs : List Ex) : (innerX a ks vs).length ≤ 3 + 6 * wtS ks + 64 * wtXs vs := by
 have := propsX_len ks vs
 unfold innerX
 split
 ·simp
 ·cases a <;> simp <;> omega
theorem labX_len (l : ByteArray) : (labX l).length ≤ 4 * l.size + 3 := by
 have := keyTL_len l
 unfold labX
 simp only [List.length_append, List.length_cons, List.length_nil]
 omega
theorem labs_len (ls : List ByteArray) : (ls.flatMap labX).length ≤ 4 * wtS ls := by
 induction ls with
 | nil => simp
 | cons x xs ih =>
  have := labX_len x
  simp only [List.flatMap_cons, List.length_append, wtS, List.map_cons, List.sum_cons] at *
  omega
theorem nodeX_len (n : Npt) : (nodeX n).length + 8 ≤ 64 * wtNp n := by
 have h1 := labs_len n.labels
 have h2 := innerX_len (!(n.var.toList == []) || !decide (n.labels.length = 0)) n.keys n.vals
 have h3 : n.var.data.toList.length = n.var.size := by simp
 unfold nodeX wtNp
 simp only [List.length_append, List.length_cons, List.length_nil]
 omega
theorem edgeX_len (e : Ept) : (edgeX e).length + 8 ≤ 64 * wtEp e := by
 have h1 := labX_len e.ty
 have h2 := innerX_len (!(e.var.toList == []) || !(e.ty.toList == [])) e.keys e.vals
 have h3 : e.var.data.toList.length = e.var.size := by simp
 have h4 : (edgeIn e).length ≤ 10 + e.var.size + 4 * e.ty.size + 6 * wtS e.keys + 64 * wtXs e.vals := by
  unfold edgeIn
  split
  ·split
   ·simp only [List.length_append, List.length_cons, List.length_nil]; omega
   ·simp only [List.length_append, List.length_cons, List.length_nil]; omega
  ·simp
 have h5 : (if (e.dir == 1) = true then ([60] : List UInt8) else []).length ≤ 1 := by split <;> simp
 have h6 : (if (e.dir == 0) = true then ([62] : List UInt8) else []).length ≤ 1 := by split <;> simp
 unfold edgeX wtEp
 simp only [List.length_append, List.length_cons, List.length_nil]
 omega
theorem propsM_parts {ks : List ByteArray} {vs : List Ex} (h : propsM ks vs = true) : ks.length = vs.length ∧ ∀ (j : Nat) t, vs[j]? = some t → deepB 32 t = true := by
 unfold propsM at h
 simp only [Bool.and_eq_true, decide_eq_true_eq] at h
 exact ⟨h.1, fun j t ht => List.all_eq_true.1 h.2.2 t (List.mem_of_getElem? ht)⟩
set_option maxHeartbeats 8000000 in
theorem inner_any (a : Bool) (ks : List ByteArray) (vs : List Ex) (ka va : Option Addr) (kc vc Bm B b : Nat) (l : List UInt8) (w : World) (hKA : SlOk ka ks.length kc) (hVA : SlOk va vs.length vc) (hKS : StrRow Bm w ka ks) (hVS : RowR (IsX Bm w) 10 Bm w va vs) (hBm : Bm ≤ B) (h0 : 0 < B) (hB : B ≤ w.heap.size) (hbld : Bld B b l w) (hML : ML w) (hM : propsM ks vs = true) (hwk : wtS ks ≤ 4194304) (hwv : wtXs vs ≤ 4194304) (hl : l.length + 20 + 6 * wtS ks + 64 * wtXs vs ≤ 70368744177664) :
    Calls Tryz.prog 197 #[.pointer (some ⟨b, 0, none⟩), .bool a, .agg #[.slice ka ks.length kc, .slice va vs.length vc]] w fun e w' => e = .returned (.tuple #[]) ∧ Wrote B b (l ++ innerX a ks vs) w w' := by
 obtain ⟨hlen, hdp⟩ := propsM_parts hM
 obtain ⟨n, hn⟩ := nam ks.length
 obtain ⟨m, hm⟩ := nam vs.length
 rw [hn] at hKA ⊢
 rw [hm] at hVA ⊢
 obtain ⟨W0, u0, hW0, hu0, hsz, hbd0, hbe, hwr, hce⟩ := box_kp w hB hbld [.slice ka n kc, .slice va m vc] 206 (by decide)
 have e0 := fun u => hce u 0 _ rfl
 have e1 := fun u => hce u 1 _ rfl
 have x0 := hce u0 0 _ rfl
 have x1 := hce u0 1 _ rfl
 rw [← hu0, ← hW0] at x0 x1
 have HWB := Lib.hid (fun (x : Nat) (hx0 : x < 256) (v : Kp B b W0) (Lc : List UInt8) (hbl : Bld B b Lc v.w) (hx : Lc.length + 1 ≤ 140737488355328) => kp_write v (bld_byte B b Lc x v.w hbl hx (Nat.le_trans hB (hbe v).size) hx0))
 have HPR := Lib.hid (fun (u : Kp B b W0) (Lc : List UInt8) (hbl : Bld B b Lc u.w) (hLc : Lc.length + 16 + 6 * wtS ks + 64 * wtXs vs ≤ 70368744177664) => kp_write u (props_of 32 (lay_any 32) ks vs ka va kc vc Bm B b Lc u.w (hKS.below (hbe u) hBm) (by rw [hn]; exact hKA) (hVS.below (hbe u) hBm (fun _ _ h => IsX.below (hbe u) hBm _ _ h)) (by rw [hm]; exact hVA) hlen hBm h0 (Nat.le_trans hB (hbe u).size) hbl (hML.kp (hbe u) h0) hdp hwv hwk hLc))
 rw [hn, hm] at HPR
 obtain ⟨HLL, HU0, HW0, HWR, HB0⟩ := hd5 hl hu0 hW0 hwr hbd0
 obtain ⟨X, hX⟩ := nam (innerX a ks vs)
 rw [hX]
 unfold innerX at hX
 rw [hn] at hX
 have HX := Lib.hid hX
 clear hX hl hu0 hW0 hwr hbe hce hsz hbd0 hBm h0 hbld hML hB hKS hVS hKA hVA hM hlen hdp hwk hwv hn hm
 by_cases hz : n = 0
 ·subst hz
  go_enter Tryz.func197, Tryz.ntmps197
  go_wp2_with fail
  rw [HW0.out, HU0.out]
  first | go_end0 | ((try simp only [Exit.inBlock, Exit.then]); refine bodyPost_ret (results_none rfl _ _ _) rfl ?_)
  exact ⟨rfl, HWR.out u0 _ (by have h := HB0.out; rw [← HX.out]; simpa using h)⟩
 ·have hz1 : ((n : Int) == 0) = false := by simp; omega
  have HZ := Lib.hid hz
  clear hz
  cases a with
  | true =>
   go_enter Tryz.func197, Tryz.ntmps197
   go_wp2_with (go_at_call 24; (try rw [HW0.out, HU0.out]); refine (HWB.out 32 (by omega) _ _ HB0.out (by have := HLL.out; omega)).mono ?_; rintro e w2 ⟨rfl, v1, rfl, hbd⟩; have HF1 := Lib.hid hbd; clear hbd)
   go_wp2_with (go_at_call 181; (try rw [HW0.out, HU0.out]); refine (HPR.out _ _ HF1.out (by have := HLL.out; simp only [List.length_append, List.length_cons, List.length_nil]; omega)).mono ?_; rintro e w2 ⟨rfl, v2, rfl, hbd⟩; have HF2 := Lib.hid hbd; clear hbd)
   first | go_end0 | ((try simp only [Exit.inBlock, Exit.then]); refine bodyPost_ret (results_none rfl _ _ _) rfl ?_)
   exact ⟨rfl, HWR.out v2 _ (by have h := HF2.out; rw [← HX.out]; simpa [HZ.out] using h)⟩
  | false =>
   go_enter Tryz.func197, Tryz.ntmps197
   go_wp2_with (go_at_call 181; (try rw [HW0.out, HU0.out]); refine (HPR.out _ _ HB0.out (by have := HLL.out; omega)).mono ?_; rintro e w2 ⟨rfl, v2, rfl, hbd⟩; have HF2 := Lib.hid hbd; clear hbd)
   first | go_end0 | ((try simp only [Exit.inBlock, Exit.then]); refine bodyPost_ret (results_none rfl _ _ _) rfl ?_)
   exact ⟨rfl, HWR.out v2 _ (by have h := HF2.out; rw [← HX.out]; simpa [HZ.out] using h)⟩
theorem Sg642542 {P : Prop} (h : P := by
 first
 |(
  guard_hyp z642542a
  have hn2 : ¬ n = 0 := by simpa using hbz
  have hn4 : decide (0 < n) = true := by simp; omega
  have hn5 : decide ((0 : Int) < n) = true := by simp; omega
  clear hn2 hbz)
 | skip
 go_wp2_with (go_at_call 197; refine (HIN.out true _ _ HFIN.out (by have := HLL.out; have := HL0L.out; have := HLBL.out; rw [List.length_append]; omega)).mono ?_; rintro e w2 ⟨rfl, v4, rfl, hbd⟩; have HF4 := Lib.hid hbd; clear hbd)
 go_wp2_with (go_at_call 24; (try rw [HW0.out, HU0.out]); refine (HWB.out 41 (by omega) _ _ HF4.out (by have := HLL.out; have := HL0L.out; have := HLBL.out; have := HIL.out true; simp only [List.length_append, List.length_cons, List.length_nil]; omega)).mono ?_; rintro e w2 ⟨rfl, v5, rfl, hbd⟩; have HF5 := Lib.hid hbd; clear hbd)
 first | go_end0 | ((try simp only [Exit.inBlock, Exit.then]); refine bodyPost_ret (results_none rfl _ _ _) rfl ?_)
 exact ⟨rfl, HWR.out v5 _ (by have h := HF5.out; rw [HX.out]; rw [← HL0.out] at h; simpa using h)⟩) : P := h
set_option maxHeartbeats 16000000 in
theorem nodePut_any (o : Npt) (cs : List Value) (Bm B b : Nat) (l : List UInt8) (w : World) (hX : IsNp Bm w cs o) (hBm : Bm ≤ B) (h0 : 0 < B) (hB : B ≤ w.heap.size) (hbld : Bld B b l w) (hML : ML w) (hM : nodeM o = true) (hw : wtNp o ≤ 4194304) (hl : l.length + 64 * wtNp o ≤ 70368744177664) :
    Calls Tryz.prog 195 #[.agg cs.toArray, .pointer (some ⟨b, 0, none⟩)] w fun e w' => e = .returned (.tuple #[]) ∧ Wrote B b (l ++ nodeX o) w w' := by
 obtain ⟨vr, ls, ks, vs⟩ := o
 obtain ⟨la, lc, ka, kc, va, vc, rfl, hLA, hLS, hKA, hKS, hVA, hVS⟩ := hX
 simp only at hLA hLS hKA hKS hVA hVS
 have hPM : propsM ks vs = true := by unfold nodeM at hM; simp only [Bool.and_eq_true] at hM; exact hM.2.2
 have hwl : wtS ls ≤ 4194304 := by simp only [wtNp] at hw; omega
 have hwk : wtS ks ≤ 4194304 := by simp only [wtNp] at hw; omega
 have hwv : wtXs vs ≤ 4194304 := by simp only [wtNp] at hw; omega
 have hvs : vr.size ≤ 4194304 := by simp only [wtNp] at hw; omega
 have hl2 : l.length + 64 * (1 + vr.size + wtS ls + wtS ks + wtXs vs) ≤ 70368744177664 := by simp only [wtNp] at hl; exact hl
 obtain ⟨n, hn⟩ := nam ls.length
 have hn0 : n ≤ 4194304 := by have := wtS_len ls; omega
 simp only
 rw [hn] at hLA ⊢
 obtain ⟨W0, u0, hW0, hu0, hsz, hbd0, hbe, hwr, hce⟩ := box_kp w hB hbld [.string vr, .slice la n lc, .slice ka ks.length kc, .slice va vs.length vc] 214 (by decide)
 obtain ⟨e0, e1, e2, e3⟩ := ge4 hce
 obtain ⟨x0, x1, x2, x3⟩ := gx4 hce u0
 rw [← hu0, ← hW0] at x0 x1 x2 x3
 have HWB := Lib.hid (fun (x : Nat) (hx0 : x < 256) (v : Kp B b W0) (Lc : List UInt8) (hbl : Bld B b Lc v.w) (hx : Lc.length + 1 ≤ 140737488355328) => kp_write v (bld_byte B b Lc x v.w hbl hx (Nat.le_trans hB (hbe v).size) hx0))
 have HWS := Lib.hid (fun (x : ByteArray) (v : Kp B b W0) (Lc : List UInt8) (hbl : Bld B b Lc v.w) (hx : Lc.length + x.size ≤ 140737488355328) => kp_write v (bld_string B b Lc x v.w hbl hx (Nat.le_trans hB (hbe v).size)))
 have HKEY := Lib.hid (fun (x : ByteArray) (hx : x.size ≤ 1099511627776) (v : Kp B b W0) (Lc : List UInt8) (hbl : Bld B b Lc v.w) => kp_grow v hsz hbl (skeyT_any x v.w hx (hML.kp (hbe v) h0)))
 have HIN := Lib.hid (fun (a : Bool) (u : Kp B b W0) (Lc : List UInt8) (hbl : Bld B b Lc u.w) (hLc : Lc.length + 20 + 6 * wtS ks + 64 * wtXs vs ≤ 70368744177664) => kp_write u (inner_any a ks vs ka va kc vc Bm B b Lc u.w hKA hVA (hKS.below (hbe u) hBm) (hVS.below (hbe u) hBm (fun _ _ h => IsX.below (hbe u) hBm _ _ h)) hBm h0 (Nat.le_trans hB (hbe u).size) hbl (hML.kp (hbe u) h0) hPM hwk hwv hLc))
 have HNT : Hid (∀ (j : Nat) x, ls[j]? = some x → ∃ bb off, la = some ⟨bb, off, none⟩ ∧ bb < Bm ∧ ∀ u : Kp B b W0, u.w.cell? ⟨bb, off + j, none⟩ = some (.string x)) := Lib.hid (fun j x hx => hLS.at_any (f := Kp.w) (C := B) hBm hbe hx)
 have HWN : Hid (∀ (j : Nat) t, ls[j]? = some t → wtS (ls.take j) + (t.size + 1) ≤ wtS ls) := Lib.hid (fun j t h => wtS_take h)
 obtain ⟨b0, hb0⟩ := nam ((vr.toList == []))
 have hb0' := emp_eq hb0
 have hS : (⟨#[40]⟩ ++ vr : ByteArray).size = 1 + vr.size := by simp; rfl
 have hSL : (⟨#[40]⟩ ++ vr : ByteArray).data.toList = [40] ++ vr.data.toList := by rw [ba_app]
 have HS := Lib.hid hS
 have HSL := Lib.hid hSL
 clear hSL
 obtain ⟨L0, hL0⟩ := nam (l ++ ([40] ++ vr.data.toList))
 have HL0L : Hid (L0.length = l.length + 1 + vr.size) := Lib.hid (by rw [← hL0]; simp; omega)
 have HL0 := Lib.hid hL0
 have HX : Hid (nodeX ⟨vr, ls, ks, vs⟩ = ([40] ++ vr.data.toList) ++ (ls.flatMap labX ++ (innerX (!b0 || !decide (n = 0)) ks vs ++ [41]))) := Lib.hid (by unfold nodeX; simp only; rw [hb0, hn])
 obtain ⟨X, hXX⟩ : ∃ X, nodeX ⟨vr, ls, ks, vs⟩ = X := ⟨_, rfl⟩
 rw [hXX] at HX ⊢
 have HIL := Lib.hid (fun a => innerX_len a ks vs)
 have HLBL := Lib.hid (labs_len ls)
 have HLL := Lib.hid hl2
 have HLN := Lib.hid hn
 have hlc := hLA.1
 obtain ⟨HU0, HW0, HWR, HB0⟩ := hd4 hu0 hW0 hwr hbd0
 clear hl hl2 hu0 hW0 hwr hbe hce hsz hbd0 hBm h0 hbld hML hB hLS hKS hVS hLA hKA hVA hM hPM hwk hwv hwl hw hn hL0 hXX hb0
 generalize ks.length = nk at *
 generalize vs.length = nv at *
 have hbu : Program.built Tryz.prog 206 [(0, Value.slice ka nk kc), (1, Value.slice va nv vc)] = some #[.slice ka nk kc, .slice va nv vc] := by kernel_rfl
 go_enter Tryz.func195, Tryz.ntmps195
 go_wp2_with (go_at_call 26; (try rw [HW0.out, HU0.out]); refine (HWS.out _ _ _ HB0.out (by have := HLL.out; rw [HS.out]; omega)).mono ?_; rintro e w2 ⟨rfl, v1, rfl, hbd⟩; have HF1 := Lib.hid hbd; rw [HSL.out, HL0.out] at HF1; clear hbd)
 go_loopw [14] (fun iv wr => ∃ (j : Nat) (u : Kp B b W0), iv = .int .i64 j ∧ j ≤ n ∧ Hid (Bld B b (L0 ++ (ls.take j).flatMap labX) u.w) ∧ wr = u.w) (fun iv _ => n - (intOf iv).toNat)
 case atStart => exact ⟨0, v1, rfl, Nat.zero_le _, Lib.hid (by rw [List.take_zero, List.flatMap_nil, List.append_nil]; exact HF1.out), rfl⟩
 case round =>
  obtain ⟨j, u, rfl, hj, HBD, rfl⟩ := hrel
  by_cases hlt : j < n
  ·have hlt' : (j : Int) < n := by omega
   have hj0 : (0 : Int) ≤ (j : Int) := by omega
   have hwi : IntKind.i64.wrap ((j : Int) + 1) = (j : Int) + 1 := IntWalk.i64_in _ (by omega)
   obtain ⟨x, hx⟩ := get_some (l := ls) (j := j) (by have := HLN.out; omega)
   obtain ⟨kb, ko, rfl, hkb, hkc2⟩ := HNT.out j x hx
   have hwn := HWN.out j x hx
   have hll := labs_len (ls.take j)
   have hst : (ls.take (j + 1)).flatMap labX = (ls.take j).flatMap labX ++ labX x := by rw [take_succ_get hx, List.flatMap_append]; simp
   obtain ⟨K, hK⟩ := nam (keyT x)
   have hKs : K.size ≤ 4 * x.size + 2 := by have h1 := keyTL_len x; unfold keyTL at h1; rw [hK] at h1; simpa using h1
   have hKS : (⟨#[58]⟩ ++ K : ByteArray).size = 1 + K.size := by simp; rfl
   have hKL : (⟨#[58]⟩ ++ K : ByteArray).data.toList = labX x := by rw [ba_app]; unfold labX keyTL; rw [hK]
   have HKL := Lib.hid hKL
   have HKSZ := Lib.hid hKS
   have hxs : x.size ≤ 1099511627776 := by have := wtS_len ls; have := HLL.out; omega
   have HKK := Lib.hid (HKEY.out x hxs)
   rw [hK] at HKK
   have hKm : K.size ≤ 140737488355327 := by omega
   have HBN : Hid ((L0 ++ (ls.take j).flatMap labX).length + (1 + K.size) ≤ 70368744177664) := Lib.hid (by have := HLL.out; have := HL0L.out; rw [List.length_append]; omega)
   have HST := Lib.hid hst
   clear hK hKL hKs hwn hll hst hx hxs
   go_wp2_with (go_at_call 16; refine (HKK.out _ _ HBD.out).mono ?_; rintro e w2 ⟨rfl, v2, rfl, hbd⟩; have HF2 := Lib.hid hbd; clear hbd)
   go_wp2_with (go_at_call 26; (try rw [HW0.out, HU0.out]); refine (HWS.out _ _ _ HF2.out (by have := HBN.out; rw [HKSZ.out]; omega)).mono ?_; rintro e w2 ⟨rfl, v3, rfl, hbd⟩; have HF3 := Lib.hid hbd; rw [HKL.out] at HF3; clear hbd)
   go_roundw
   case rel => exact ⟨j + 1, v3, by go_num, by omega, Lib.hid (by rw [HST.out]; have h := HF3.out; simpa using h), rfl⟩
   case measure => simp [intOf]; omega
  ·have hlt' : ¬ (j : Int) < n := by omega
   have hjn : j = n := by omega
   have HFIN : Hid (Bld B b (L0 ++ ls.flatMap labX) u.w) := Lib.hid (by have h := HBD.out; rw [hjn, List.take_of_length_le (by have := HLN.out; omega)] at h; exact h)
   clear hjn
   obtain ⟨bz, hbz⟩ := nam (decide (n = 0))
   rw [hbz] at HX
   cases b0 with
   | false =>
    exact Sg642542
   | true =>
    cases bz with
    | true =>
     have hn2 : n = 0 := by simpa using hbz
     have hn3 : ¬ (0 : Int) < (n : Int) := by omega
     have hn4 : decide (0 < n) = false := by simp; omega
     have hn5 : decide ((0 : Int) < n) = false := by simp; omega
     clear hn2 hbz hn3
     go_wp2_with (go_at_call 197; refine (HIN.out false _ _ HFIN.out (by have := HLL.out; have := HL0L.out; have := HLBL.out; rw [List.length_append]; omega)).mono ?_; rintro e w2 ⟨rfl, v4, rfl, hbd⟩; have HF4 := Lib.hid hbd; clear hbd)
     go_wp2_with (go_at_call 24; (try rw [HW0.out, HU0.out]); refine (HWB.out 41 (by omega) _ _ HF4.out (by have := HLL.out; have := HL0L.out; have := HLBL.out; have := HIL.out false; simp only [List.length_append, List.length_cons, List.length_nil]; omega)).mono ?_; rintro e w2 ⟨rfl, v5, rfl, hbd⟩; have HF5 := Lib.hid hbd; clear hbd)
     first | go_end0 | ((try simp only [Exit.inBlock, Exit.then]); refine bodyPost_ret (results_none rfl _ _ _) rfl ?_)
     exact ⟨rfl, HWR.out v5 _ (by have h := HF5.out; rw [HX.out]; rw [← HL0.out] at h; simpa using h)⟩
    | false =>
     have z642542a := trivial
     exact Sg642542
end Go.Proofs.YtndhpdclpgemfaaGreat

/- Parts X21 of this seat (pruned, scripts that are alike kept once as default arguments: q1, q2, ..). Conditions: each says its own. -/
import Derived.Test.YtndhpdclpgemfaaGreatV5
namespace Go.Proofs.YtndhpdclpgemfaaGreat
open Go.RowKit
set_option linter.unusedSimpArgs false
set_option linter.unusedVariables false
set_option maxRecDepth 100000
theorem sum_len {α : Type} (f : α → Nat) (hf : ∀ x, 1 ≤ f x) (l : List α) : l.length ≤ (l.map f).sum := by
 induction l with
 | nil => simp
 | cons x xs ih => have := hf x; simp only [List.length_cons, List.map_cons, List.sum_cons]; omega
set_option maxHeartbeats 16000000 in
theorem pmayPath_any (o : Ptt) (cs : List Value) (B : Nat) (w : World) (hX : IsPt B w cs o) (hB : B ≤ w.heap.size) (hML : ML w) (hw : wtPt o ≤ 1099511627776) :
    Calls Tryz.prog 190 #[.agg cs.toArray] w fun e w' => e = .returned (.bool (pathM o)) ∧ Below w.heap.size w w' := by
 obtain ⟨nl, el⟩ := o
 obtain ⟨na, nc, ea, ec, rfl, hNA, hNS, hEA, hES⟩ := hX
 simp only at hNA hNS hEA hES
 have hwn : (nl.map wtNp).sum ≤ 1099511627776 := by simp only [wtPt] at hw; omega
 have hwe : (el.map wtEp).sum ≤ 1099511627776 := by simp only [wtPt] at hw; omega
 have hnl : nl.length ≤ 1099511627776 := Nat.le_trans (sum_len wtNp (fun x => by unfold wtNp; omega) nl) hwn
 have hel : el.length ≤ 1099511627776 := Nat.le_trans (sum_len wtEp (fun x => by unfold wtEp; omega) el) hwe
 obtain ⟨q, hq⟩ : ∃ q, pathM ⟨nl, el⟩ = q := ⟨_, rfl⟩
 rw [hq]
 rw [pathM] at hq
 simp only at hq ⊢
 obtain ⟨n, hn⟩ := nam nl.length
 obtain ⟨m, hm⟩ := nam el.length
 rw [hn] at hNA hnl hq ⊢
 rw [hm] at hEA hel hq ⊢
 obtain ⟨HN, HM, HQ⟩ := hd3 hn hm hq
 obtain ⟨W0, u0, hW0, hu0, hsz, hbe, hce⟩ := box_ext w [.slice na n nc, .slice ea m ec] 111
 have e0 := fun u => hce u 0 _ rfl
 have e1 := fun u => hce u 1 _ rfl
 have x0 := hce u0 0 _ rfl
 have x1 := hce u0 1 _ rfl
 rw [← hu0, ← hW0] at x0 x1
 have HNODE := Lib.hid (fun (t : Npt) (cs : List Value) (u : Ext (w.heap.size + 1) W0) (h : IsNp B u.w cs t) (hw : wtNp t ≤ 1099511627776) => ext_call u hsz (pmayNode_any t cs B u.w h (Nat.le_trans hB (hbe u).size) (hML.below (hbe u)) hw))
 have HEDGE := Lib.hid (fun (t : Ept) (cs : List Value) (u : Ext (w.heap.size + 1) W0) (h : IsEp B u.w cs t) (hw : wtEp t ≤ 1099511627776) => ext_call u hsz (pmayEdge_any t cs B u.w h (Nat.le_trans hB (hbe u).size) (hML.below (hbe u)) hw))
 have HNT : Hid (∀ (j : Nat) t, nl[j]? = some t → ∃ b off cs, na = some ⟨b, off, none⟩ ∧ b < B ∧ cs.length = 4 ∧ (∀ (u : Ext (w.heap.size + 1) W0) (q : Nat) v, cs[q]? = some v → u.w.cell? ⟨b, off + j * 4 + q, none⟩ = some v) ∧ ∀ u : Ext (w.heap.size + 1) W0, IsNp B u.w cs t) := Lib.hid (fun j t ht => hNS.at_gen (f := Ext.w) (R := IsNp B) hB hbe (fun u cs x h => h.below (hbe u) hB) ht)
 have HET : Hid (∀ (j : Nat) t, el[j]? = some t → ∃ b off cs, ea = some ⟨b, off, none⟩ ∧ b < B ∧ cs.length = 5 ∧ (∀ (u : Ext (w.heap.size + 1) W0) (q : Nat) v, cs[q]? = some v → u.w.cell? ⟨b, off + j * 5 + q, none⟩ = some v) ∧ ∀ u : Ext (w.heap.size + 1) W0, IsEp B u.w cs t) := Lib.hid (fun j t ht => hES.at_gen (f := Ext.w) (R := IsEp B) hB hbe (fun u cs x h => h.below (hbe u) hB) ht)
 have HWN : Hid (∀ (j : Nat) (t : Npt), nl[j]? = some t → wtNp t ≤ 1099511627776) := Lib.hid (fun j t h => by have := sum_get wtNp h; omega)
 have HWE : Hid (∀ (j : Nat) (t : Ept), el[j]? = some t → wtEp t ≤ 1099511627776) := Lib.hid (fun j t h => by have := sum_get wtEp h; omega)
 obtain ⟨HBE, HW0, HU0⟩ := hd3 hbe hW0 hu0
 have hnc := hNA.1
 have hec := hEA.1
 have hwm : IntKind.i64.wrap ((m : Int) + 1) = (m : Int) + 1 := IntWalk.i64_in _ (by omega)
 clear hbe hW0 hu0 hsz hce hNS hES hn hm hq hNA hEA hML hB hw hwn hwe
 by_cases hnm : n = m + 1
 ·have HNM := Lib.hid hnm
  have hb1 : ((n : Int) != (m : Int) + 1) = false := by simp; omega
  have hb2 : ((n : Int) == (m : Int) + 1) = true := by simp; omega
  have HQ2 : Hid ((nl.all nodeM && el.all edgeM) = q) := Lib.hid (by have h := HQ.out; rw [decide_eq_true hnm, Bool.true_and] at h; exact h)
  clear HQ hnm
  go_enter Tryz.func190, Tryz.ntmps190
  go_wp2_with fail
  rw [HW0.out, HU0.out]
  go_loopw [15] (fun iv wr => ∃ (j : Nat) (u : Ext (w.heap.size + 1) W0), iv = .int .i64 j ∧ j ≤ n ∧ Hid (∀ (i : Nat) x, i < j → nl[i]? = some x → nodeM x = true) ∧ Hid (∀ (i : Nat) x, i + 1 < j → el[i]? = some x → edgeM x = true) ∧ wr = u.w) (fun iv _ => n - (intOf iv).toNat)
  case atStart => exact ⟨0, u0, rfl, Nat.zero_le _, Lib.hid (fun i x hi => by omega), Lib.hid (fun i x hi => by omega), rfl⟩
  case round =>
   obtain ⟨j, u, rfl, hj, HA1, HA2, rfl⟩ := hrel
   by_cases hlt : j < n
   ·have hlt' : (j : Int) < n := by omega
    have hj0 : (0 : Int) ≤ (j : Int) := by omega
    have hwi : IntKind.i64.wrap ((j : Int) + 1) = (j : Int) + 1 := IntWalk.i64_in _ (by omega)
    obtain ⟨t2, ht2⟩ := get_some (l := nl) (j := j) (by have := HN.out; omega)
    obtain ⟨nb, no, cs2, rfl, hnb, -, hcs2, hx2⟩ := HNT.out j t2 ht2
    have HNC := Lib.hid (fun u => HNODE.out t2 cs2 u (hx2 u) (HWN.out j t2 ht2))
    have HT2 := Lib.hid ht2
    obtain ⟨c, hc⟩ := nam (nodeM t2)
    rw [hc] at HNC
    have HC := Lib.hid hc
    clear hc ht2
    obtain ⟨vr2, ls2, ks2, vs2⟩ := t2
    obtain ⟨la2, lc2, ka2, kc2, va2, vc2, rfl, -⟩ := hx2 u
    have g2_0 : ∀ u : Ext (w.heap.size + 1) W0, u.w.cell? ⟨nb, no + j * 4, none⟩ = some (.string vr2) := fun u => hcs2 u 0 _ rfl
    obtain ⟨g2_1, g2_2, g2_3⟩ := gf3 hcs2
    clear hcs2 hx2
    simp only at g2_0 g2_1 g2_2 g2_3
    generalize ls2.length = ya2 at *
    generalize ks2.length = yb2 at *
    generalize vs2.length = yc2 at *
    cases c with
    | false =>
     have hqq : q = false := by rw [← HQ2.out, anyL_false HT2.out HC.out]; rfl
     go_wp2_with (go_at_call 192; refine (HNC.out _).mono ?_; rintro e w2 ⟨rfl, u2, rfl⟩)
     go_ret
     exact ⟨by (try rw [hqq]); rfl, HBE.out _⟩
    | true =>
     by_cases hz : j = 0
     ·have hz1 : decide ((0 : Int) < (j : Int)) = false := by simp; omega
      have hz2 : decide (0 < j) = false := by simp; omega
      have HZ := Lib.hid hz
      clear hz
      go_wp2_with (go_at_call 192; refine (HNC.out _).mono ?_; rintro e w2 ⟨rfl, u2, rfl⟩)
      go_roundw
      case rel => exact ⟨j + 1, _, by go_num, by omega, Lib.hid (fun i y hi hy => (Nat.lt_or_ge i j).elim (fun h => HA1.out i y h hy) (fun h => by rw [show i = j from by omega, HT2.out] at hy; rw [← Option.some.inj hy]; exact HC.out)), Lib.hid (fun i y hi hy => by have := HZ.out; omega), rfl⟩
      case measure => simp [intOf]; omega
     ·have hz1 : decide ((0 : Int) < (j : Int)) = true := by simp; omega
      have hz2 : decide (0 < j) = true := by simp; omega
      obtain ⟨jp, hjp⟩ : ∃ jp, j = jp + 1 := ⟨j - 1, by omega⟩
      have HJP := Lib.hid hjp
      have hws : IntKind.i64.wrap ((j : Int) - 1) = (jp : Int) := by rw [IntWalk.i64_in _ (by omega)]; omega
      have hjp0 : (0 : Int) ≤ (jp : Int) := by omega
      have hjpm : (jp : Int) < m := by have := HNM.out; omega
      have hjpm' : jp < m := by have := HNM.out; omega
      clear hz hjp
      obtain ⟨t3, ht3⟩ := get_some (l := el) (j := jp) (by have := HM.out; omega)
      obtain ⟨eb, eo, cs3, rfl, heb, -, hcs3, hx3⟩ := HET.out jp t3 ht3
      have HEC := Lib.hid (fun u => HEDGE.out t3 cs3 u (hx3 u) (HWE.out jp t3 ht3))
      have HT3 := Lib.hid ht3
      obtain ⟨c3, hc3⟩ := nam (edgeM t3)
      rw [hc3] at HEC
      have HC3 := Lib.hid hc3
      clear hc3 ht3
      obtain ⟨vr3, ty3, dir3, ks3, vs3⟩ := t3
      obtain ⟨ka3, kc3, va3, vc3, rfl, -⟩ := hx3 u
      have g3_0 : ∀ u : Ext (w.heap.size + 1) W0, u.w.cell? ⟨eb, eo + jp * 5, none⟩ = some (.string vr3) := fun u => hcs3 u 0 _ rfl
      obtain ⟨g3_1, g3_2, g3_3, g3_4⟩ := gf4 hcs3
      clear hcs3 hx3
      simp only at g3_0 g3_1 g3_2 g3_3 g3_4
      generalize ks3.length = yb3 at *
      generalize vs3.length = yc3 at *
      cases c3 with
      | false =>
       have hqq : q = false := by rw [← HQ2.out, anyL_false HT3.out HC3.out]; simp
       go_wp2_with (first | (go_at_call 192; refine (HNC.out _).mono ?_; rintro e w2 ⟨rfl, u2, rfl⟩) | (go_at_call 193; refine (HEC.out _).mono ?_; rintro e w2 ⟨rfl, u3, rfl⟩))
       go_ret
       exact ⟨by (try rw [hqq]); rfl, HBE.out _⟩
      | true =>
       go_wp2_with (first | (go_at_call 192; refine (HNC.out _).mono ?_; rintro e w2 ⟨rfl, u2, rfl⟩) | (go_at_call 193; refine (HEC.out _).mono ?_; rintro e w2 ⟨rfl, u3, rfl⟩))
       go_roundw
       case rel => exact ⟨j + 1, _, by go_num, by omega, Lib.hid (fun i y hi hy => (Nat.lt_or_ge i j).elim (fun h => HA1.out i y h hy) (fun h => by rw [show i = j from by omega, HT2.out] at hy; rw [← Option.some.inj hy]; exact HC.out)), Lib.hid (fun i y hi hy => (Nat.lt_or_ge (i + 1) j).elim (fun h => HA2.out i y h hy) (fun h => by rw [show i = jp from by have := HJP.out; omega, HT3.out] at hy; rw [← Option.some.inj hy]; exact HC3.out)), rfl⟩
       case measure => simp [intOf]; omega
   ·have hlt' : ¬ (j : Int) < n := by omega
    have hqq : q = true := by
     rw [← HQ2.out, allL_true (fun i x hx => HA1.out i x (by have := (List.getElem?_eq_some_iff.1 hx).1; have := HN.out; omega) hx), allL_true (fun i x hx => HA2.out i x (by have := (List.getElem?_eq_some_iff.1 hx).1; have := HM.out; have := HNM.out; omega) hx)]; rfl
    go_wp2_with fail
    go_ret
    exact ⟨by (try rw [hqq]); rfl, HBE.out u⟩
 ·have hb1 : ((n : Int) != (m : Int) + 1) = true := by simp; omega
  have hb2 : ((n : Int) == (m : Int) + 1) = false := by simp; omega
  have hqq : q = false := by rw [← HQ.out, decide_eq_false hnm]; rfl
  have HNM := Lib.hid hnm
  clear hnm
  subst hqq
  go_enter Tryz.func190, Tryz.ntmps190
  go_wp2_with fail
  (try rw [HW0.out, HU0.out])
  go_ret
  exact ⟨by rfl, HBE.out _⟩
theorem Sv456132 {P : Prop} (h : P := by
 have z356323b := trivial
 exact Sv356323) : P := h
theorem Sv356323 {P : Prop} (h : P := by
 first
 |(
  guard_hyp z356323a
  have h64' : (64 : Int) < (kn : Int) + ln := by omega
  rw [decide_eq_false h64] at hq
  clear h64
  have hqq : q = false := by rw [← hq]; simp)
 |(
  guard_hyp z356323c
  first
  | (guard_hyp z693650a; have hqq : q = bl := by rw [← hq]; simp)
  | (have hqq : q = r := by rw [← hq]; simp))
 | (guard_hyp z356323b; have hqq : q = false := by rw [← hq]; simp)
 | (have hqq : q = bl := by rw [← hq]; simp)
 subst hqq
 clear hq
 go_enter Tryz.func204, Tryz.ntmps204
 go_wp2_with (first | (go_at_call 37; (try rw [HW0.out, HU0.out]); refine (HP.out _).mono ?_; rintro e w2 ⟨rfl, u2, rfl⟩) | (go_at_call 34; (try rw [HW0.out, HU0.out]); refine (HR.out _).mono ?_; rintro e w2 ⟨rfl, u3, rfl⟩) | (go_at_call 111; (try rw [HW0.out, HU0.out]); refine (HBL.out _).mono ?_; rintro e w2 ⟨rfl, u4, rfl⟩))
 go_ret
 exact ⟨by (try simp), HBE.out _⟩) : P := h
theorem Sv693650 {P : Prop} (h : P := by
 by_cases h64 : kn + ln ≤ 64
 ·have h64' : ¬ (64 : Int) < (kn : Int) + ln := by omega
  rw [decide_eq_true h64] at hq
  clear h64
  cases st with
  | false =>
   exact Sv356323
  | true =>
   have z356323c := trivial
   exact Sv356323
 ·have z356323a := trivial
  exact Sv356323) : P := h
set_option maxHeartbeats 16000000 in
theorem pmaySet_any (o : Sit) (st : Bool) (cs : List Value) (B : Nat) (w : World) (hX : IsSi B w cs o) (hB : B ≤ w.heap.size) (hML : ML w) (hw : wtSi o ≤ 1099511627776) :
    Calls Tryz.prog 204 #[.agg (cs ++ [Value.bool st]).toArray] w fun e w' => e = .returned (.bool (setM o st)) ∧ Below w.heap.size w w' := by
 obtain ⟨vr, ke, lb, t⟩ := o
 obtain ⟨xe, rfl, hX⟩ := hX
 have hX0 : IsX B w xe t := hX
 have hwx : wtX t ≤ 1099511627776 := by simp only [wtSi] at hw; omega
 have hs : vr.size ≤ 1099511627776 := by simp only [wtSi] at hw; omega
 have hks : ke.size ≤ 1099511627776 := by simp only [wtSi] at hw; omega
 have hls : lb.size ≤ 1099511627776 := by simp only [wtSi] at hw; omega
 obtain ⟨q, hq⟩ : ∃ q, setM ⟨vr, ke, lb, t⟩ st = q := ⟨_, rfl⟩
 rw [hq]
 rw [setM] at hq
 simp only at hq
 obtain ⟨r, hr⟩ := nam (deepB 32 t)
 obtain ⟨bl, hbl⟩ := nam (noneB t)
 obtain ⟨c, hc⟩ := nam (plainB vr)
 obtain ⟨b0, hb0⟩ := nam ((ke.toList == []))
 have hb0' := emp_eq hb0
 obtain ⟨b1, hb1⟩ := nam ((lb.toList == []))
 have hb1' := emp_eq hb1
 rw [hr, hbl, hc, hb0, hb1] at hq
 obtain ⟨kn, hkn⟩ := nam ke.size
 obtain ⟨ln, hln⟩ := nam lb.size
 rw [hkn] at hq hks
 rw [hln] at hq hls
 obtain ⟨T, hT⟩ : ∃ T, T = t := ⟨_, rfl⟩
 obtain ⟨op, nm, v, ns, az⟩ := t
 obtain ⟨k, b, i, s, l, ks, la, lc, ka, kc, na, nc, xa, xc, hv, rfl, hop, hV, hNA, hXA, hNS, hAZ⟩ := hX0.cells
 simp only [List.cons_append, List.nil_append]
 obtain ⟨W0, u0, hW0, hu0, hsz, hbe, hce⟩ := box_ext w [.string vr, .string ke, .string lb, .int .i64 op, .string nm, .int .i64 k, .bool b, .int .i64 i, .string s, .slice la l.length lc, .slice ka ks.length kc, .slice na ns.length nc, .slice xa az.length xc, .bool st] 126
 obtain ⟨e0, e1, e2, e3, e4, e5, e6, e7, e8, e9, e10, e11, e12, e13⟩ := ge14 hce
 obtain ⟨x0, x1, x2, x3, x4, x5, x6, x7, x8, x9, x10, x11, x12, x13⟩ := gx14 hce u0
 rw [← hu0, ← hW0] at x0 x1 x2 x3 x4 x5 x6 x7 x8 x9 x10 x11 x12 x13
 have HR := Lib.hid (fun (u : Ext (w.heap.size + 1) W0) => ext_right u (.mk op nm v ns az) _ B hsz (IsX.below (hbe u) hB _ _ hX0) (Nat.le_trans hB (hbe u).size) (hML.below (hbe u)) hwx)
 have HBL := Lib.hid (fun (u : Ext (w.heap.size + 1) W0) => ext_call u hsz (pblank_any (.mk op nm v ns az) _ B u.w (IsX.below (hbe u) hB _ _ hX0) (Nat.le_trans hB (hbe u).size)))
 have HP := Lib.hid (fun (u : Ext (w.heap.size + 1) W0) => ext_call u hsz (splain_any vr u.w hs (hML.below (hbe u))))
 rw [hr] at HR
 rw [hbl] at HBL
 rw [hc] at HP
 obtain ⟨HBE, HW0, HU0⟩ := hd3 hbe hW0 hu0
 have hsum : IntKind.i64.wrap ((kn : Int) + ln) = (kn : Int) + ln := IntWalk.i64_in _ (by omega)
 clear hbe hW0 hu0 hsz hce hNS hv hV hNA hXA hAZ hX0 hX hw hop hML hr hbl hc hwx hT hs
 generalize ns.length = n at *
 generalize az.length = m at *
 cases c with
 | false =>
  exact Sv456132
 | true =>
  cases b0 with
  | false =>
   cases b1 with
   | false =>
    exact Sv456132
   | true =>
    exact Sv693650
  | true =>
   cases b1 with
   | false =>
    have z693650a := trivial
    exact Sv693650
   | true =>
    exact Sv456132
end Go.Proofs.YtndhpdclpgemfaaGreat

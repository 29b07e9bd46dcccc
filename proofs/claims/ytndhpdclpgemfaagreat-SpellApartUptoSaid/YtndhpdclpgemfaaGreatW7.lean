/- Parts X24, X25 of this seat (pruned, scripts that are alike kept once as default arguments: q1, q2, ..). Conditions: each says its own. -/
import Derived.Test.YtndhpdclpgemfaaGreatW6
namespace Go.Proofs.YtndhpdclpgemfaaGreat
open Go.RowKit Go.Shelf
set_option linter.unusedSimpArgs false
set_option linter.unusedVariables false
set_option maxRecDepth 100000
def nodeAtX (nl : List Npt) (i : Nat) : List UInt8 := match nl[i]? with | some n => nodeX n | none => []
def edgeAtX (el : List Ept) (i : Nat) : List UInt8 := match el[i]? with | some n => edgeX n | none => []
def pathPre (nl : List Npt) (el : List Ept) : Nat → List UInt8
  | 0 => []
  | j + 1 => pathPre nl el j ++ ((if j = 0 then [] else edgeAtX el (j - 1)) ++ nodeAtX nl j)
def pathX (p : Ptt) : List UInt8 := pathPre p.nodes p.edges p.nodes.length
def nameX : Ex → ByteArray
  | .mk _ nm _ _ _ => nm
def asIf (i : Itt) : Bool := (opX i.e != 2) || !((nameX i.e).toList == i.nm.toList)
def itemX (i : Itt) : List UInt8 := textX i.e ++ (if asIf i = true then [32, 65, 83, 32] ++ i.nm.data.toList else [])
def sortX (s : Sot) : List UInt8 := textX s.e ++ (if s.down = true then [32, 68, 69, 83, 67] else [])
def setX (s : Sit) (set : Bool) : List UInt8 := s.var.data.toList ++ (if (s.label.toList == []) = true then ([46] ++ keyTL s.key) ++ (if set = true then [32, 61, 32] ++ textX s.e else []) else labX s.label)
theorem sum_take_get {α : Type} (f : α → Nat) {l : List α} {j : Nat} {x : α} (h : l[j]? = some x) : ((l.take j).map f).sum + f x ≤ (l.map f).sum := by
 have h1 : l = l.take (j + 1) ++ l.drop (j + 1) := (List.take_append_drop _ _).symm
 have h2 : (l.map f).sum = ((l.take (j + 1)).map f).sum + ((l.drop (j + 1)).map f).sum := by rw [← List.sum_append, ← List.map_append, ← h1]
 rw [h2, take_succ_get h]
 simp only [List.map_append, List.sum_append, List.map_cons, List.map_nil, List.sum_cons, List.sum_nil]
 omega
theorem pathPre_len (nl : List Npt) (el : List Ept) : ∀ j, (pathPre nl el j).length ≤ 64 * ((nl.take j).map wtNp).sum + 64 * ((el.take (j - 1)).map wtEp).sum := by
 intro j
 induction j with
 | zero => simp [pathPre]
 | succ j ih =>
  have hn : (nodeAtX nl j).length ≤ 64 * (((nl.take (j + 1)).map wtNp).sum - ((nl.take j).map wtNp).sum) ∧ ((nl.take j).map wtNp).sum ≤ ((nl.take (j + 1)).map wtNp).sum := by
   unfold nodeAtX
   cases h : nl[j]? with
   | none => simp only [List.length_nil]; rw [List.take_of_length_le (by have := List.getElem?_eq_none_iff.1 h; omega), List.take_of_length_le (by have := List.getElem?_eq_none_iff.1 h; omega)]; omega
   | some n => rw [take_succ_get h]; have := nodeX_len n; simp only [List.map_append, List.sum_append, List.map_cons, List.map_nil, List.sum_cons, List.sum_nil]; omega
  have he : (if j = 0 then ([] : List UInt8) else edgeAtX el (j - 1)).length ≤ 64 * (((el.take (j + 1 - 1)).map wtEp).sum - ((el.take (j - 1)).map wtEp).sum) ∧ ((el.take (j - 1)).map wtEp).sum ≤ ((el.take (j + 1 - 1)).map wtEp).sum := by
   cases j with
   | zero => simp
   | succ j =>
    rw [if_neg (by omega)]
    simp only [Nat.add_sub_cancel]
    unfold edgeAtX
    cases h : el[j]? with
    | none => simp only [List.length_nil]; rw [List.take_of_length_le (by have := List.getElem?_eq_none_iff.1 h; omega), List.take_of_length_le (by have := List.getElem?_eq_none_iff.1 h; omega)]; omega
    | some n => rw [take_succ_get h]; have := edgeX_len n; simp only [List.map_append, List.sum_append, List.map_cons, List.map_nil, List.sum_cons, List.sum_nil]; omega
  unfold pathPre
  simp only [List.length_append]
  omega
set_option maxHeartbeats 32000000 in
theorem pathPut_any (o : Ptt) (cs : List Value) (Bm B b : Nat) (l : List UInt8) (w : World) (hX : IsPt Bm w cs o) (hBm : Bm ≤ B) (h0 : 0 < B) (hB : B ≤ w.heap.size) (hbld : Bld B b l w) (hML : ML w) (hM : pathM o = true) (hw : wtPt o ≤ 4194304) (hl : l.length + 64 * wtPt o ≤ 70368744177664) :
    Calls Tryz.prog 191 #[.agg cs.toArray, .pointer (some ⟨b, 0, none⟩)] w fun e w' => e = .returned (.tuple #[]) ∧ Wrote B b (l ++ pathX o) w w' := by
 obtain ⟨nl, el⟩ := o
 obtain ⟨na, nc, ea, ec, rfl, hNA, hNS, hEA, hES⟩ := hX
 simp only at hNA hNS hEA hES
 have hwn : (nl.map wtNp).sum ≤ 4194304 := by simp only [wtPt] at hw; omega
 have hwe : (el.map wtEp).sum ≤ 4194304 := by simp only [wtPt] at hw; omega
 have hnl : nl.length ≤ 4194304 := Nat.le_trans (sum_len wtNp (fun x => by unfold wtNp; omega) nl) hwn
 have hl2 : l.length + 64 * ((nl.map wtNp).sum + (el.map wtEp).sum) + 64 ≤ 70368744177664 := by simp only [wtPt] at hl; omega
 unfold pathM at hM
 simp only [Bool.and_eq_true, decide_eq_true_eq] at hM
 obtain ⟨hlen, hMn, hMe⟩ := hM
 unfold pathX
 simp only
 obtain ⟨n, hn⟩ := nam nl.length
 obtain ⟨m, hm⟩ := nam el.length
 rw [hn] at hNA hnl hlen ⊢
 rw [hm] at hEA hlen ⊢
 have HN := Lib.hid hn
 have HM := Lib.hid hm
 obtain ⟨W0, u0, hW0, hu0, hsz, hbd0, hbe, hwr, hce⟩ := box_kp w hB hbld [.slice na n nc, .slice ea m ec] 111 (by decide)
 have e0 := fun u => hce u 0 _ rfl
 have e1 := fun u => hce u 1 _ rfl
 have x0 := hce u0 0 _ rfl
 have x1 := hce u0 1 _ rfl
 rw [← hu0, ← hW0] at x0 x1
 have HNODE := Lib.hid (fun (t : Npt) (cs : List Value) (u : Kp B b W0) (Lc : List UInt8) (h : IsNp Bm u.w cs t) (hbl : Bld B b Lc u.w) (hm : nodeM t = true) (hw : wtNp t ≤ 4194304) (hLc : Lc.length + 64 * wtNp t ≤ 70368744177664) => kp_write u (nodePut_any t cs Bm B b Lc u.w h hBm h0 (Nat.le_trans hB (hbe u).size) hbl (hML.kp (hbe u) h0) hm hw hLc))
 have HEDGE := Lib.hid (fun (t : Ept) (cs : List Value) (u : Kp B b W0) (Lc : List UInt8) (h : IsEp Bm u.w cs t) (hbl : Bld B b Lc u.w) (hm : edgeM t = true) (hw : wtEp t ≤ 4194304) (hLc : Lc.length + 64 * wtEp t ≤ 70368744177664) => kp_write u (edgePut_any t cs Bm B b Lc u.w h hBm h0 (Nat.le_trans hB (hbe u).size) hbl (hML.kp (hbe u) h0) hm hw hLc))
 have HNT : Hid (∀ (j : Nat) t, nl[j]? = some t → ∃ bb off cs, na = some ⟨bb, off, none⟩ ∧ bb < Bm ∧ cs.length = 4 ∧ (∀ (u : Kp B b W0) (q : Nat) v, cs[q]? = some v → u.w.cell? ⟨bb, off + j * 4 + q, none⟩ = some v) ∧ ∀ u : Kp B b W0, IsNp Bm u.w cs t) := Lib.hid (fun j t ht => hNS.at_gen (f := Kp.w) (R := IsNp Bm) (C := B) hBm hbe (fun u cs x h => h.below (hbe u) hBm) ht)
 have HET : Hid (∀ (j : Nat) t, el[j]? = some t → ∃ bb off cs, ea = some ⟨bb, off, none⟩ ∧ bb < Bm ∧ cs.length = 5 ∧ (∀ (u : Kp B b W0) (q : Nat) v, cs[q]? = some v → u.w.cell? ⟨bb, off + j * 5 + q, none⟩ = some v) ∧ ∀ u : Kp B b W0, IsEp Bm u.w cs t) := Lib.hid (fun j t ht => hES.at_gen (f := Kp.w) (R := IsEp Bm) (C := B) hBm hbe (fun u cs x h => h.below (hbe u) hBm) ht)
 have HWN : Hid (∀ (j : Nat) (t : Npt), nl[j]? = some t → ((nl.take j).map wtNp).sum + wtNp t ≤ (nl.map wtNp).sum) := Lib.hid (fun j t h => sum_take_get wtNp h)
 have HWE : Hid (∀ (j : Nat) (t : Ept), el[j]? = some t → ((el.take j).map wtEp).sum + wtEp t ≤ (el.map wtEp).sum) := Lib.hid (fun j t h => sum_take_get wtEp h)
 have HMN : Hid (∀ (j : Nat) (t : Npt), nl[j]? = some t → nodeM t = true) := Lib.hid (fun j t h => List.all_eq_true.1 hMn t (List.mem_of_getElem? h))
 have HME : Hid (∀ (j : Nat) (t : Ept), el[j]? = some t → edgeM t = true) := Lib.hid (fun j t h => List.all_eq_true.1 hMe t (List.mem_of_getElem? h))
 obtain ⟨HLL, HS1, HS2, HLEN⟩ := hd4 hl2 hwn hwe hlen
 have hnc := hNA.1
 have hec := hEA.1
 obtain ⟨HU0, HW0, HWR, HB0⟩ := hd4 hu0 hW0 hwr hbd0
 clear hl hl2 hu0 hW0 hwr hbe hce hsz hbd0 hBm h0 hbld hML hB hNS hES hNA hEA hMn hMe hlen hw hwn hwe hn hm
 go_enter Tryz.func191, Tryz.ntmps191
 go_wp2_with fail
 rw [HW0.out, HU0.out]
 go_loopw [8] (fun iv wr => ∃ (j : Nat) (u : Kp B b W0), iv = .int .i64 j ∧ j ≤ n ∧ Hid (Bld B b (l ++ pathPre nl el j) u.w) ∧ wr = u.w) (fun iv _ => n - (intOf iv).toNat)
 case atStart => exact ⟨0, u0, rfl, Nat.zero_le _, Lib.hid (by simpa [pathPre] using HB0.out), rfl⟩
 case round =>
  obtain ⟨j, u, rfl, hj, HBD, rfl⟩ := hrel
  by_cases hlt : j < n
  ·have hlt' : (j : Int) < n := by omega
   have hj0 : (0 : Int) ≤ (j : Int) := by omega
   have hwi : IntKind.i64.wrap ((j : Int) + 1) = (j : Int) + 1 := IntWalk.i64_in _ (by omega)
   obtain ⟨t2, ht2⟩ := get_some (l := nl) (j := j) (by have := HN.out; omega)
   obtain ⟨nb, no, cs2, rfl, hnb, -, hcs2, hx2⟩ := HNT.out j t2 ht2
   have hq1 := HWN.out j t2 ht2
   have HNC := Lib.hid (fun (v : Kp B b W0) (Lc : List UInt8) (hbl : Bld B b Lc v.w) (hLc : Lc.length + 64 * wtNp t2 ≤ 70368744177664) => HNODE.out t2 cs2 v Lc (hx2 v) hbl (HMN.out j t2 ht2) (by have := HS1.out; omega) hLc)
   obtain ⟨Y, hY⟩ := nam (nodeX t2)
   rw [hY] at HNC
   have HYA : Hid (nodeAtX nl j = Y) := Lib.hid (by unfold nodeAtX; rw [ht2]; exact hY)
   obtain ⟨q2, hq2⟩ := nam (wtNp t2)
   rw [hq2] at HNC hq1
   have HQ1 := Lib.hid hq1
   clear hq1 hq2 hY ht2
   obtain ⟨vr2, ls2, ks2, vs2⟩ := t2
   obtain ⟨la2, lc2, ka2, kc2, va2, vc2, rfl, -⟩ := hx2 u
   have g2_0 : ∀ u : Kp B b W0, u.w.cell? ⟨nb, no + j * 4, none⟩ = some (.string vr2) := fun u => hcs2 u 0 _ rfl
   obtain ⟨g2_1, g2_2, g2_3⟩ := gf3 hcs2
   clear hcs2 hx2
   simp only at g2_0 g2_1 g2_2 g2_3
   generalize ls2.length = ya2 at *
   generalize ks2.length = yb2 at *
   generalize vs2.length = yc2 at *
   have hpl := pathPre_len nl el j
   have HPL := Lib.hid hpl
   clear hpl
   by_cases hz : j = 0
   ·have hz1 : decide ((0 : Int) < (j : Int)) = false := by simp; omega
    have hz2 : decide (0 < j) = false := by simp; omega
    have HZ := Lib.hid hz
    clear hz
    go_wp2_with fail
    refine (HNC.out _ _ HBD.out (by have := HLL.out; have := HQ1.out; have := HPL.out; have h0 := HZ.out; rw [List.length_append]; rw [h0] at this ⊢; simp [pathPre]; omega)).mono ?_
    rintro e w2 ⟨rfl, v2, rfl, hbd⟩
    have HF : Hid (Bld B b (l ++ pathPre nl el (j + 1)) v2.w) := Lib.hid (by rw [pathPre, if_pos HZ.out, HYA.out]; simpa using hbd)
    clear hbd
    go_wp2_with fail
    go_roundw
    case rel => exact ⟨j + 1, _, by go_num, by omega, HF, rfl⟩
    case measure => simp [intOf]; omega
   ·have hz1 : decide ((0 : Int) < (j : Int)) = true := by simp; omega
    have hz2 : decide (0 < j) = true := by simp; omega
    obtain ⟨jp, hjp⟩ : ∃ jp, j = jp + 1 := ⟨j - 1, by omega⟩
    have HJP := Lib.hid hjp
    have hws : IntKind.i64.wrap ((j : Int) - 1) = (jp : Int) := by rw [IntWalk.i64_in _ (by omega)]; omega
    have hjp0 : (0 : Int) ≤ (jp : Int) := by omega
    have hjpm : (jp : Int) < m := by have := HLEN.out; omega
    have hjpm' : jp < m := by have := HLEN.out; omega
    have HZ := Lib.hid hz
    clear hz hjp
    obtain ⟨t3, ht3⟩ := get_some (l := el) (j := jp) (by have := HM.out; omega)
    obtain ⟨eb, eo, cs3, rfl, heb, -, hcs3, hx3⟩ := HET.out jp t3 ht3
    have hq3 := HWE.out jp t3 ht3
    have HEC := Lib.hid (fun (v : Kp B b W0) (Lc : List UInt8) (hbl : Bld B b Lc v.w) (hLc : Lc.length + 64 * wtEp t3 ≤ 70368744177664) => HEDGE.out t3 cs3 v Lc (hx3 v) hbl (HME.out jp t3 ht3) (by have := HS2.out; omega) hLc)
    have hyl := edgeX_len t3
    obtain ⟨Z, hZ⟩ := nam (edgeX t3)
    rw [hZ] at HEC hyl
    have HZA : Hid (edgeAtX el (j - 1) = Z) := Lib.hid (by unfold edgeAtX; rw [show j - 1 = jp from by have := HJP.out; omega, ht3]; exact hZ)
    obtain ⟨q3, hq4⟩ := nam (wtEp t3)
    rw [hq4] at HEC hq3 hyl
    have HQ3 := Lib.hid hq3
    have HYL := Lib.hid hyl
    have HPL2 : Hid ((pathPre nl el j).length ≤ 64 * ((nl.take j).map wtNp).sum + 64 * ((el.take jp).map wtEp).sum) := Lib.hid (by have h := HPL.out; rwa [show j - 1 = jp from by have := HJP.out; omega] at h)
    clear hq3 hq4 hZ ht3 hyl
    obtain ⟨vr3, ty3, dir3, ks3, vs3⟩ := t3
    obtain ⟨ka3, kc3, va3, vc3, rfl, -⟩ := hx3 u
    have g3_0 : ∀ u : Kp B b W0, u.w.cell? ⟨eb, eo + jp * 5, none⟩ = some (.string vr3) := fun u => hcs3 u 0 _ rfl
    obtain ⟨g3_1, g3_2, g3_3, g3_4⟩ := gf4 hcs3
    clear hcs3 hx3
    simp only at g3_0 g3_1 g3_2 g3_3 g3_4
    generalize ks3.length = yb3 at *
    generalize vs3.length = yc3 at *
    go_wp2_with fail
    refine (HEC.out _ _ HBD.out (by have := HLL.out; have := HQ3.out; have := HPL2.out; have := HQ1.out; rw [List.length_append]; omega)).mono ?_
    rintro e w2 ⟨rfl, v2, rfl, hbd⟩
    have HF2 := Lib.hid hbd
    clear hbd
    go_wp2_with fail
    refine (HNC.out _ _ HF2.out (by have := HLL.out; have := HQ3.out; have := HPL2.out; have := HQ1.out; have := HYL.out; rw [List.length_append, List.length_append]; omega)).mono ?_
    rintro e w2 ⟨rfl, v3, rfl, hbd⟩
    have HF : Hid (Bld B b (l ++ pathPre nl el (j + 1)) v3.w) := Lib.hid (by rw [pathPre, if_neg HZ.out, HYA.out, HZA.out]; simpa using hbd)
    clear hbd
    go_wp2_with fail
    go_roundw
    case rel => exact ⟨j + 1, _, by go_num, by omega, HF, rfl⟩
    case measure => simp [intOf]; omega
  ·have hlt' : ¬ (j : Int) < n := by omega
   have hjn : j = n := by omega
   have HFIN : Hid (Bld B b (l ++ pathPre nl el n) u.w) := Lib.hid (by have h := HBD.out; rw [hjn] at h; exact h)
   clear hjn
   go_wp2_with fail
   first | go_end0 | ((try simp only [Exit.inBlock, Exit.then]); refine bodyPost_ret (results_none rfl _ _ _) rfl ?_)
   exact ⟨rfl, HWR.out u _ HFIN.out⟩
set_option maxHeartbeats 8000000 in
theorem exprPut_any (t : Ex) (cs : List Value) (Bm B b : Nat) (l : List UInt8) (w : World) (hX : IsX Bm w cs t) (hBm : Bm ≤ B) (h0 : 0 < B) (hB : B ≤ w.heap.size) (hbld : Bld B b l w) (hML : ML w) (hD : deepB 32 t = true) (hwx : wtX t ≤ 4194304) (hl : l.length + 64 * wtX t ≤ 70368744177664) :
    Calls Tryz.prog 176 #[.agg cs.toArray, .pointer (some ⟨b, 0, none⟩)] w fun e w' => e = .returned (.tuple #[]) ∧ Wrote B b (l ++ textX t) w w' := by
 have hX0 := hX
 obtain ⟨op, nm, v, ns, az⟩ := t
 obtain ⟨k, b9, i, s, l9, ks, la, lc, ka, kc, na, nc, xa, xc, hv, rfl, hop, hV, hNA, hXA, hNS, hAZ⟩ := hX0.cells
 clear hX
 obtain ⟨W0, u0, hW0, hu0, hsz, hbd0, hbe, hwr, hce⟩ := box_kp w hB hbld [.int .i64 op, .string nm, .int .i64 k, .bool b9, .int .i64 i, .string s, .slice la l9.length lc, .slice ka ks.length kc, .slice na ns.length nc, .slice xa az.length xc] 93 (by decide)
 obtain ⟨e0, e1, e2, e3, e4, e5, e6, e7, e8, e9⟩ := ge10 hce
 obtain ⟨x0, x1, x2, x3, x4, x5, x6, x7, x8, x9⟩ := gx10 hce u0
 rw [← hu0, ← hW0] at x0 x1 x2 x3 x4 x5 x6 x7 x8 x9
 have HLAY := Lib.hid (fun (u : Kp B b W0) (Lc : List UInt8) (hbl : Bld B b Lc u.w) (hLc : Lc.length + 64 * wtX (.mk op nm v ns az) ≤ 70368744177664) => kp_write u (lay_any 32 (.mk op nm v ns az) _ Bm B b Lc 0 u.w (IsX.below (hbe u) hBm _ _ hX0) hBm h0 (Nat.le_trans hB (hbe u).size) hbl (hML.kp (hbe u) h0) hD hwx hLc))
 obtain ⟨X, hXX⟩ := nam (textX (.mk op nm v ns az))
 have HLY := Lib.hid (fun u Lc hbl hLc => by have h := HLAY.out u Lc hbl hLc; rw [needX_zero, hXX] at h; exact h)
 rw [hXX]
 obtain ⟨HLL, HU0, HW0, HWR, HB0⟩ := hd5 hl hu0 hW0 hwr hbd0
 clear hu0 hW0 hwr hbe hce hsz hbd0 hBm h0 hbld hML hB hX0 hv hop hV hNA hXA hNS hAZ hl HLAY hXX hD hwx
 generalize l9.length = yl at *
 generalize ks.length = yk at *
 generalize ns.length = yn at *
 generalize az.length = ym at *
 go_enter Tryz.func176, Tryz.ntmps176
 go_wp2_with fail
 (try rw [HW0.out, HU0.out])
 refine (HLY.out _ _ HB0.out (by exact HLL.out)).mono ?_
 rintro e w2 ⟨rfl, v1, rfl, hbd⟩
 have HF := Lib.hid hbd
 clear hbd
 go_wp2_with fail
 (try rw [HW0.out, HU0.out])
 first | go_end0 | ((try simp only [Exit.inBlock, Exit.then]); refine bodyPost_ret (results_none rfl _ _ _) rfl ?_)
 exact ⟨rfl, HWR.out v1 _ HF.out⟩
theorem Sg939903 {P : Prop} (h : P := by
 first
 | (guard_hyp z939903a; go_enter Tryz.func201, Tryz.ntmps201)
 | (go_enter Tryz.func199, Tryz.ntmps199)
 go_wp2_with fail
 (try rw [HW0.out, HU0.out])
 refine (HLY.out _ _ HB0.out (by have := HLL.out; omega)).mono ?_
 rintro e w2 ⟨rfl, v1, rfl, hbd⟩
 have HF := Lib.hid hbd
 clear hbd
 go_wp2_with fail
 (try rw [HW0.out, HU0.out])
 first | go_end0 | ((try simp only [Exit.inBlock, Exit.then]); refine bodyPost_ret (results_none rfl _ _ _) rfl ?_)
 exact ⟨rfl, HWR.out v1 _ (by simpa using HF.out)⟩) : P := h
theorem Sg937857 {P : Prop} (h : P := by
 first
 | (guard_hyp z937857a; go_enter Tryz.func201, Tryz.ntmps201)
 | (go_enter Tryz.func199, Tryz.ntmps199)
 go_wp2_with fail
 (try rw [HW0.out, HU0.out])
 refine (HLY.out _ _ HB0.out (by have := HLL.out; omega)).mono ?_
 rintro e w2 ⟨rfl, v1, rfl, hbd⟩
 have HF := Lib.hid hbd
 clear hbd
 go_wp2_with fail
 (try rw [HW0.out, HU0.out])
 first
 | (guard_hyp z937857a; refine (HWS.out ⟨#[32, 68, 69, 83, 67]⟩ _ _ HF.out (by have := HLL.out; have := HXL.out; have h6 : (ByteArray.mk #[32, 68, 69, 83, 67]).size = 5 := rfl; rw [h6, List.length_append]; omega)).mono ?_)
 | (refine (HWS.out _ _ _ HF.out (by have := HLL.out; have := HXL.out; rw [HS.out, List.length_append]; omega)).mono ?_)
 rintro e w2 ⟨rfl, v2, rfl, hbd⟩
 have HF2 := Lib.hid hbd
 clear hbd
 first
 | (guard_hyp z937857b; rw [HSL.out] at HF2)
 | skip
 go_wp2_with fail
 (try rw [HW0.out, HU0.out])
 first | go_end0 | ((try simp only [Exit.inBlock, Exit.then]); refine bodyPost_ret (results_none rfl _ _ _) rfl ?_)
 exact ⟨rfl, HWR.out v2 _ (by have h := HF2.out; simpa using h)⟩) : P := h
set_option maxHeartbeats 8000000 in
theorem sortPut_any (o : Sot) (cs : List Value) (Bm B b : Nat) (l : List UInt8) (w : World) (hX : IsSo Bm w cs o) (hBm : Bm ≤ B) (h0 : 0 < B) (hB : B ≤ w.heap.size) (hbld : Bld B b l w) (hML : ML w) (hM : sortM o = true) (hw : wtSo o ≤ 4194304) (hl : l.length + 64 * wtSo o ≤ 70368744177664) :
    Calls Tryz.prog 201 #[.agg cs.toArray, .pointer (some ⟨b, 0, none⟩)] w fun e w' => e = .returned (.tuple #[]) ∧ Wrote B b (l ++ sortX o) w w' := by
 obtain ⟨t, fl⟩ := o
 obtain ⟨xe, rfl, hX⟩ := hX
 have hX0 : IsX Bm w xe t := hX
 have hwx : wtX t ≤ 4194304 := by simp only [wtSo] at hw; omega
 have hl2 : l.length + 64 * (1 + wtX t) ≤ 70368744177664 := by simp only [wtSo] at hl; exact hl
 have hD : deepB 32 t = true := hM
 unfold sortX
 simp only
 obtain ⟨op, nm, v, ns, az⟩ := t
 obtain ⟨k, b9, i, s, l9, ks, la, lc, ka, kc, na, nc, xa, xc, hv, rfl, hop, hV, hNA, hXA, hNS, hAZ⟩ := hX0.cells
 obtain ⟨W0, u0, hW0, hu0, hsz, hbd0, hbe, hwr, hce⟩ := box_kp w hB hbld [.int .i64 op, .string nm, .int .i64 k, .bool b9, .int .i64 i, .string s, .slice la l9.length lc, .slice ka ks.length kc, .slice na ns.length nc, .slice xa az.length xc, .bool fl] 119 (by decide)
 obtain ⟨e0, e1, e2, e3, e4, e5, e6, e7, e8, e9, e10⟩ := ge11 hce
 obtain ⟨x0, x1, x2, x3, x4, x5, x6, x7, x8, x9, x10⟩ := gx11 hce u0
 rw [← hu0, ← hW0] at x0 x1 x2 x3 x4 x5 x6 x7 x8 x9 x10
 have HLAY := Lib.hid (fun (u : Kp B b W0) (Lc : List UInt8) (hbl : Bld B b Lc u.w) (hLc : Lc.length + 64 * wtX (.mk op nm v ns az) ≤ 70368744177664) => kp_write u (lay_any 32 (.mk op nm v ns az) _ Bm B b Lc 0 u.w (IsX.below (hbe u) hBm _ _ hX0) hBm h0 (Nat.le_trans hB (hbe u).size) hbl (hML.kp (hbe u) h0) hD hwx hLc))
 have HWS := Lib.hid (fun (x : ByteArray) (v : Kp B b W0) (Lc : List UInt8) (hbl : Bld B b Lc v.w) (hx : Lc.length + x.size ≤ 140737488355328) => kp_write v (bld_string B b Lc x v.w hbl hx (Nat.le_trans hB (hbe v).size)))
 obtain ⟨X, hXX⟩ := nam (textX (.mk op nm v ns az))
 have HLY := Lib.hid (fun u Lc hbl hLc => by have h := HLAY.out u Lc hbl hLc; rw [needX_zero, hXX] at h; exact h)
 have hxl := textX_len (.mk op nm v ns az)
 rw [hXX] at hxl
 rw [hXX]
 obtain ⟨q, hq⟩ := nam (wtX (.mk op nm v ns az))
 rw [hq] at hl2 hxl HLY
 obtain ⟨HLL, HXL, HU0, HW0, HWR, HB0⟩ := hd6 hl2 hxl hu0 hW0 hwr hbd0
 clear hu0 hW0 hwr hbe hce hsz hbd0 hBm h0 hbld hML hB hX0 hv hop hV hNA hXA hNS hAZ hl hl2 HLAY hXX hD hwx hX hM hw hxl hq
 generalize l9.length = yl at *
 generalize ks.length = yk at *
 generalize ns.length = yn at *
 generalize az.length = ym at *
 cases fl with
 | false =>
  have z939903a := trivial
  exact Sg939903
 | true =>
  have z937857a := trivial
  exact Sg937857
set_option maxHeartbeats 8000000 in
theorem itemPut_any (o : Itt) (cs : List Value) (Bm B b : Nat) (l : List UInt8) (w : World) (hX : IsIt Bm w cs o) (hBm : Bm ≤ B) (h0 : 0 < B) (hB : B ≤ w.heap.size) (hbld : Bld B b l w) (hML : ML w) (hM : itemM o = true) (hw : wtIt o ≤ 4194304) (hl : l.length + 64 * wtIt o ≤ 70368744177664) :
    Calls Tryz.prog 199 #[.agg cs.toArray, .pointer (some ⟨b, 0, none⟩)] w fun e w' => e = .returned (.tuple #[]) ∧ Wrote B b (l ++ itemX o) w w' := by
 obtain ⟨t, fl⟩ := o
 obtain ⟨xe, rfl, hX⟩ := hX
 have hX0 : IsX Bm w xe t := hX
 have hwx : wtX t ≤ 4194304 := by simp only [wtIt] at hw; omega
 have hl2 : l.length + 64 * (1 + wtX t + fl.size) ≤ 70368744177664 := by simp only [wtIt] at hl; exact hl
 have hD : deepB 32 t = true := by unfold itemM at hM; simp only [Bool.and_eq_true] at hM; exact hM.2
 have hfs : fl.size ≤ 4194304 := by simp only [wtIt] at hw; omega
 unfold itemX asIf
 simp only
 obtain ⟨op, nm, v, ns, az⟩ := t
 rw [show opX (.mk op nm v ns az) = op from rfl, show nameX (.mk op nm v ns az) = nm from rfl]
 obtain ⟨k, b9, i, s, l9, ks, la, lc, ka, kc, na, nc, xa, xc, hv, rfl, hop, hV, hNA, hXA, hNS, hAZ⟩ := hX0.cells
 obtain ⟨W0, u0, hW0, hu0, hsz, hbd0, hbe, hwr, hce⟩ := box_kp w hB hbld [.int .i64 op, .string nm, .int .i64 k, .bool b9, .int .i64 i, .string s, .slice la l9.length lc, .slice ka ks.length kc, .slice na ns.length nc, .slice xa az.length xc, .string fl] 116 (by decide)
 obtain ⟨e0, e1, e2, e3, e4, e5, e6, e7, e8, e9, e10⟩ := ge11 hce
 obtain ⟨x0, x1, x2, x3, x4, x5, x6, x7, x8, x9, x10⟩ := gx11 hce u0
 rw [← hu0, ← hW0] at x0 x1 x2 x3 x4 x5 x6 x7 x8 x9 x10
 have HLAY := Lib.hid (fun (u : Kp B b W0) (Lc : List UInt8) (hbl : Bld B b Lc u.w) (hLc : Lc.length + 64 * wtX (.mk op nm v ns az) ≤ 70368744177664) => kp_write u (lay_any 32 (.mk op nm v ns az) _ Bm B b Lc 0 u.w (IsX.below (hbe u) hBm _ _ hX0) hBm h0 (Nat.le_trans hB (hbe u).size) hbl (hML.kp (hbe u) h0) hD hwx hLc))
 have HWS := Lib.hid (fun (x : ByteArray) (v : Kp B b W0) (Lc : List UInt8) (hbl : Bld B b Lc v.w) (hx : Lc.length + x.size ≤ 140737488355328) => kp_write v (bld_string B b Lc x v.w hbl hx (Nat.le_trans hB (hbe v).size)))
 obtain ⟨X, hXX⟩ := nam (textX (.mk op nm v ns az))
 have HLY := Lib.hid (fun u Lc hbl hLc => by have h := HLAY.out u Lc hbl hLc; rw [needX_zero, hXX] at h; exact h)
 have hxl := textX_len (.mk op nm v ns az)
 rw [hXX] at hxl
 rw [hXX]
 obtain ⟨q, hq⟩ := nam (wtX (.mk op nm v ns az))
 rw [hq] at hl2 hxl HLY
 have HLL := Lib.hid hl2
 have HXL := Lib.hid hxl
 have hS : (⟨#[32, 65, 83, 32]⟩ ++ fl : ByteArray).size = 4 + fl.size := by simp; rfl
 have hSL : (⟨#[32, 65, 83, 32]⟩ ++ fl : ByteArray).data.toList = [32, 65, 83, 32] ++ fl.data.toList := by rw [ba_app]
 have HS := Lib.hid hS
 have HSL := Lib.hid hSL
 clear hSL
 obtain ⟨c2, h2⟩ := nam ((op == 2))
 have h2' : (op != 2) = !c2 := by rw [← h2]; rfl
 obtain ⟨ce, he⟩ := nam ((nm.toList == fl.toList))
 have he' : (nm.toList != fl.toList) = !ce := by rw [← he]; rfl
 rw [h2', he]
 obtain ⟨HU0, HW0, HWR, HB0⟩ := hd4 hu0 hW0 hwr hbd0
 clear hu0 hW0 hwr hbe hce hsz hbd0 hBm h0 hbld hML hB hX0 hv hop hV hNA hXA hNS hAZ hl hl2 HLAY hXX hD hwx hX hM hw hxl hq
 generalize l9.length = yl at *
 generalize ks.length = yk at *
 generalize ns.length = yn at *
 generalize az.length = ym at *
 cases c2 with
 | false =>
  have z937857b := trivial
  exact Sg937857
 | true =>
  cases ce with
  | true =>
   exact Sg939903
  | false =>
   have z937857b := trivial
   exact Sg937857
theorem Sg557864 {P : Prop} (h : P := by
 go_enter Tryz.func205, Tryz.ntmps205
 go_wp2_with fail
 (try rw [HW0.out, HU0.out])
 refine (HWS.out vr _ _ HB0.out (by have := HLL.out; have := HKS1.out; have := HKS2.out; have := HKT1.out; have := HKT2.out; have h9 : vr.data.toList.length = vr.size := (by simp); (try simp only [List.length_append, List.length_cons, List.length_nil]); omega)).mono ?_
 rintro e w2 ⟨rfl, v1, rfl, hbd⟩
 have HF1 := Lib.hid hbd
 clear hbd
 go_wp2_with fail
 first
 | (guard_hyp z557864a; refine (HKK2.out _ _ HF1.out).mono ?_)
 | (refine (HKK1.out _ _ HF1.out).mono ?_)
 rintro e w2 ⟨rfl, v2, rfl, hbd⟩
 have HF2 := Lib.hid hbd
 clear hbd
 go_wp2_with fail
 (try rw [HW0.out, HU0.out])
 first
 | (guard_hyp z557864a; refine (HWS.out _ _ _ HF2.out (by rw [HKZ2.out]; have := HLL.out; have := HKS1.out; have := HKS2.out; have := HKT1.out; have := HKT2.out; have h9 : vr.data.toList.length = vr.size := (by simp); (try simp only [List.length_append, List.length_cons, List.length_nil]); omega)).mono ?_)
 | (refine (HWS.out _ _ _ HF2.out (by rw [HKZ1.out]; have := HLL.out; have := HKS1.out; have := HKS2.out; have := HKT1.out; have := HKT2.out; have h9 : vr.data.toList.length = vr.size := (by simp); (try simp only [List.length_append, List.length_cons, List.length_nil]); omega)).mono ?_)
 rintro e w2 ⟨rfl, v3, rfl, hbd⟩
 have HF3 := Lib.hid hbd
 clear hbd
 first
 | (guard_hyp z557864a; rw [HKL2.out] at HF3)
 | (rw [HKL1.out] at HF3)
 go_wp2_with fail
 (try rw [HW0.out, HU0.out])
 first | go_end0 | ((try simp only [Exit.inBlock, Exit.then]); refine bodyPost_ret (results_none rfl _ _ _) rfl ?_)
 first
 | (guard_hyp z557864a; exact ⟨rfl, HWR.out v3 _ (by have h := HF3.out; unfold labX; simpa using h)⟩)
 | (exact ⟨rfl, HWR.out v3 _ (by have h := HF3.out; simpa using h)⟩)) : P := h
set_option maxHeartbeats 8000000 in
theorem setPut_any (o : Sit) (st : Bool) (cs : List Value) (Bm B b : Nat) (l : List UInt8) (w : World) (hX : IsSi Bm w cs o) (hBm : Bm ≤ B) (h0 : 0 < B) (hB : B ≤ w.heap.size) (hbld : Bld B b l w) (hML : ML w) (hM : setM o st = true) (hw : wtSi o ≤ 4194304) (hl : l.length + 64 * wtSi o ≤ 70368744177664) :
    Calls Tryz.prog 205 #[.agg (cs ++ [Value.bool st]).toArray, .pointer (some ⟨b, 0, none⟩)] w fun e w' => e = .returned (.tuple #[]) ∧ Wrote B b (l ++ setX o st) w w' := by
 obtain ⟨vr, ke, lb, t⟩ := o
 obtain ⟨xe, rfl, hX⟩ := hX
 have hX0 : IsX Bm w xe t := hX
 have hwx : wtX t ≤ 4194304 := by simp only [wtSi] at hw; omega
 have hvs : vr.size ≤ 4194304 := by simp only [wtSi] at hw; omega
 have hks9 : ke.size ≤ 4194304 := by simp only [wtSi] at hw; omega
 have hls : lb.size ≤ 4194304 := by simp only [wtSi] at hw; omega
 have hl2 : l.length + 64 * (1 + vr.size + ke.size + lb.size + wtX t) ≤ 70368744177664 := by simp only [wtSi] at hl; exact hl
 have hDD : (lb.toList == []) = true → st = true → deepB 32 t = true := by
  intro g1 g2
  unfold setM at hM
  simp only at hM
  rw [g1, g2] at hM
  cases hk : (ke.toList == []) with
  | true => rw [hk] at hM; simp at hM
  | false => rw [hk] at hM; simp at hM; exact hM.2.2
 unfold setX
 simp only
 obtain ⟨op, nm, v, ns, az⟩ := t
 obtain ⟨k, b9, i, s, l9, ks, la, lc, ka, kc, na, nc, xa, xc, hv, rfl, hop, hV, hNA, hXA, hNS, hAZ⟩ := hX0.cells
 simp only [List.cons_append, List.nil_append]
 obtain ⟨W0, u0, hW0, hu0, hsz, hbd0, hbe, hwr, hce⟩ := box_kp w hB hbld [.string vr, .string ke, .string lb, .int .i64 op, .string nm, .int .i64 k, .bool b9, .int .i64 i, .string s, .slice la l9.length lc, .slice ka ks.length kc, .slice na ns.length nc, .slice xa az.length xc, .bool st] 126 (by decide)
 obtain ⟨e0, e1, e2, e3, e4, e5, e6, e7, e8, e9, e10, e11, e12, e13⟩ := ge14 hce
 obtain ⟨x0, x1, x2, x3, x4, x5, x6, x7, x8, x9, x10, x11, x12, x13⟩ := gx14 hce u0
 rw [← hu0, ← hW0] at x0 x1 x2 x3 x4 x5 x6 x7 x8 x9 x10 x11 x12 x13
 have HWS := Lib.hid (fun (x : ByteArray) (v : Kp B b W0) (Lc : List UInt8) (hbl : Bld B b Lc v.w) (hx : Lc.length + x.size ≤ 140737488355328) => kp_write v (bld_string B b Lc x v.w hbl hx (Nat.le_trans hB (hbe v).size)))
 have HKEY := Lib.hid (fun (x : ByteArray) (hx : x.size ≤ 1099511627776) (v : Kp B b W0) (Lc : List UInt8) (hbl : Bld B b Lc v.w) => kp_grow v hsz hbl (skeyT_any x v.w hx (hML.kp (hbe v) h0)))
 have HLAY := Lib.hid (fun (hD : deepB 32 (.mk op nm v ns az) = true) (u : Kp B b W0) (Lc : List UInt8) (hbl : Bld B b Lc u.w) (hLc : Lc.length + 64 * wtX (.mk op nm v ns az) ≤ 70368744177664) => kp_write u (lay_any 32 (.mk op nm v ns az) _ Bm B b Lc 0 u.w (IsX.below (hbe u) hBm _ _ hX0) hBm h0 (Nat.le_trans hB (hbe u).size) hbl (hML.kp (hbe u) h0) hD hwx hLc))
 obtain ⟨X, hXX⟩ := nam (textX (.mk op nm v ns az))
 have HLY := Lib.hid (fun hD u Lc hbl hLc => by have h := HLAY.out hD u Lc hbl hLc; rw [needX_zero, hXX] at h; exact h)
 rw [hXX]
 obtain ⟨q, hq⟩ := nam (wtX (.mk op nm v ns az))
 rw [hq] at hl2 HLY
 obtain ⟨dd, hdd⟩ := nam (deepB 32 (.mk op nm v ns az))
 rw [hdd] at hDD HLY
 have HDD := Lib.hid hDD
 obtain ⟨b1, hb1⟩ := nam ((lb.toList == []))
 have hb1' := emp_eq hb1
 rw [hb1] at HDD ⊢
 obtain ⟨K1, hK1⟩ := nam (keyT ke)
 have hKs1 : K1.size ≤ 4 * ke.size + 2 := by have h1 := keyTL_len ke; unfold keyTL at h1; rw [hK1] at h1; simpa using h1
 have hKZ1 : (⟨#[46]⟩ ++ K1 : ByteArray).size = 1 + K1.size := by simp; rfl
 have hKL1 : (⟨#[46]⟩ ++ K1 : ByteArray).data.toList = [46] ++ keyTL ke := by rw [ba_app]; unfold keyTL; rw [hK1]
 obtain ⟨HKL1, HKZ1, HKS1⟩ := hd3 hKL1 hKZ1 hKs1
 have HKK1 := Lib.hid (HKEY.out ke (by omega))
 rw [hK1] at HKK1
 have hKm1 : K1.size ≤ 140737488355327 := by omega
 have HKT1 := Lib.hid (keyTL_len ke)
 clear hK1 hKL1 hKs1
 obtain ⟨K2, hK2⟩ := nam (keyT lb)
 have hKs2 : K2.size ≤ 4 * lb.size + 2 := by have h1 := keyTL_len lb; unfold keyTL at h1; rw [hK2] at h1; simpa using h1
 have hKZ2 : (⟨#[58]⟩ ++ K2 : ByteArray).size = 1 + K2.size := by simp; rfl
 have hKL2 : (⟨#[58]⟩ ++ K2 : ByteArray).data.toList = [58] ++ keyTL lb := by rw [ba_app]; unfold keyTL; rw [hK2]
 obtain ⟨HKL2, HKZ2, HKS2⟩ := hd3 hKL2 hKZ2 hKs2
 have HKK2 := Lib.hid (HKEY.out lb (by omega))
 rw [hK2] at HKK2
 have hKm2 : K2.size ≤ 140737488355327 := by omega
 have HKT2 := Lib.hid (keyTL_len lb)
 clear hK2 hKL2 hKs2
 obtain ⟨HLL, HU0, HW0, HWR, HB0⟩ := hd5 hl2 hu0 hW0 hwr hbd0
 clear hu0 hW0 hwr hbe hce hsz hbd0 hBm h0 hbld hML hB hX0 hv hop hV hNA hXA hNS hAZ hl hl2 HLAY hXX hwx hX hM hw hDD hdd hq hb1 hvs hks9 hls
 generalize l9.length = yl at *
 generalize ks.length = yk at *
 generalize ns.length = yn at *
 generalize az.length = ym at *
 cases b1 with
 | false =>
  have z557864a := trivial
  exact Sg557864
 | true =>
  cases st with
  | false =>
   exact Sg557864
  | true =>
   have HD9 := Lib.hid (HDD.out rfl rfl)
   go_enter Tryz.func205, Tryz.ntmps205
   go_wp2_with fail
   (try rw [HW0.out, HU0.out])
   refine (HWS.out vr _ _ HB0.out (by have := HLL.out; have := HKS1.out; have := HKS2.out; have := HKT1.out; have := HKT2.out; have h9 : vr.data.toList.length = vr.size := (by simp); (try simp only [List.length_append, List.length_cons, List.length_nil]); omega)).mono ?_
   rintro e w2 ⟨rfl, v1, rfl, hbd⟩
   have HF1 := Lib.hid hbd
   clear hbd
   go_wp2_with fail
   refine (HKK1.out _ _ HF1.out).mono ?_
   rintro e w2 ⟨rfl, v2, rfl, hbd⟩
   have HF2 := Lib.hid hbd
   clear hbd
   go_wp2_with fail
   (try rw [HW0.out, HU0.out])
   refine (HWS.out _ _ _ HF2.out (by rw [HKZ1.out]; have := HLL.out; have := HKS1.out; have := HKS2.out; have := HKT1.out; have := HKT2.out; have h9 : vr.data.toList.length = vr.size := (by simp); (try simp only [List.length_append, List.length_cons, List.length_nil]); omega)).mono ?_
   rintro e w2 ⟨rfl, v3, rfl, hbd⟩
   have HF3 := Lib.hid hbd
   clear hbd
   rw [HKL1.out] at HF3
   go_wp2_with fail
   (try rw [HW0.out, HU0.out])
   refine (HWS.out ⟨#[32, 61, 32]⟩ _ _ HF3.out (by have h6 : (ByteArray.mk #[32, 61, 32]).size = 3 := rfl; rw [h6]; have := HLL.out; have := HKS1.out; have := HKS2.out; have := HKT1.out; have := HKT2.out; have h9 : vr.data.toList.length = vr.size := (by simp); (try simp only [List.length_append, List.length_cons, List.length_nil]); omega)).mono ?_
   rintro e w2 ⟨rfl, v4, rfl, hbd⟩
   have HF4 := Lib.hid hbd
   clear hbd
   replace HF4 : Hid (Bld B b (l ++ vr.data.toList ++ ([46] ++ keyTL ke) ++ [32, 61, 32]) v4.w) := HF4
   go_wp2_with fail
   (try rw [HW0.out, HU0.out])
   refine (HLY.out HD9.out _ _ HF4.out (by have := HLL.out; have := HKS1.out; have := HKS2.out; have := HKT1.out; have := HKT2.out; have h9 : vr.data.toList.length = vr.size := (by simp); (try simp only [List.length_append, List.length_cons, List.length_nil]); omega)).mono ?_
   rintro e w2 ⟨rfl, v5, rfl, hbd⟩
   have HF5 := Lib.hid hbd
   clear hbd
   go_wp2_with fail
   (try rw [HW0.out, HU0.out])
   first | go_end0 | ((try simp only [Exit.inBlock, Exit.then]); refine bodyPost_ret (results_none rfl _ _ _) rfl ?_)
   exact ⟨rfl, HWR.out v5 _ (by have h := HF5.out; simpa using h)⟩
end Go.Proofs.YtndhpdclpgemfaaGreat

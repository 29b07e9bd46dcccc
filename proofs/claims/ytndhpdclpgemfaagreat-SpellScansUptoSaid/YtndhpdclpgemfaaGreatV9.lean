/- Parts X24 of this seat (pruned, scripts that are alike kept once as default arguments: q1, q2, ..). Conditions: each says its own. -/
import Derived.Test.YtndhpdclpgemfaaGreatV6
import Derived.Test.YtndhpdclpgemfaaGreatV8
namespace Go.Proofs.YtndhpdclpgemfaaGreat
open Go.RowKit Go.Shelf
set_option linter.unusedSimpArgs false
set_option linter.unusedVariables false
set_option maxRecDepth 100000
def nodeAtX (nl : List Npt) (i : Nat) : List UInt8 := match nl[i]? with | some n => nodeX n | none => []
def edgeAtX (el : List Ept) (i : Nat) : List UInt8 := match el[i]? with | some n => edgeX n | none => []
def pathPre (nl : List Npt) (el : List Ept) : Nat → List UInt8
  | 0 => []
  | j + 1 => pathPre nl el j ++ ((if j = 0 then [] else edgeAtX el (j - 1)) ++ nodeAtX nl j)
def pathX (p : Ptt) : List UInt8 := pathPre p.nodes p.edges p.nodes.length
def nameX : Ex → ByteArray
  | .mk _ nm _ _ _ => nm
def asIf (i : Itt) : Bool := (opX i.e != 2) || !((nameX i.e).toList == i.nm.toList)
def itemX (i : Itt) : List UInt8 := textX i.e ++ (if asIf i = true then [32, 65, 83, 32] ++ i.nm.data.toList else [])
def sortX (s : Sot) : List UInt8 := textX s.e ++ (if s.down = true then [32, 68, 69, 83, 67] else [])
def setX (s : Sit) (set : Bool) : List UInt8 := s.var.data.toList ++ (if (s.label.toList == []) = true then ([46] ++ keyTL s.key) ++ (if set = true then [32, 61, 32] ++ textX s.e else []) else labX s.label)
theorem sum_take_get {α : Type} (f : α → Nat) {l : List α} {j : Nat} {x : α} (h : l[j]? = some x) : ((l.take j).map f).sum + f x ≤ (l.map f).sum := by
 have h1 : l = l.take (j + 1) ++ l.drop (j + 1) := (List.take_append_drop _ _).symm
 have h2 : (l.map f).sum = ((l.take (j + 1)).map f).sum + ((l.drop (j + 1)).map f).sum := by rw [← List.sum_append, ← List.map_append, ← h1]
 rw [h2, take_succ_get h]
 simp only [List.map_append, List.sum_append, List.map_cons, List.map_nil, List.sum_cons, List.sum_nil]
 omega
theorem pathPre_len (nl : List Npt) (el : List Ept) : ∀ j, (pathPre nl el j).length ≤ 64 * ((nl.take j).map wtNp).sum + 64 * ((el.take (j - 1)).map wtEp).sum := by
 intro j
 induction j with
 | zero => simp [pathPre]
 | succ j ih =>
  have hn : (nodeAtX nl j).length ≤ 64 * (((nl.take (j + 1)).map wtNp).sum - ((nl.take j).map wtNp).sum) ∧ ((nl.take j).map wtNp).sum ≤ ((nl.take (j + 1)).map wtNp).sum := by
   unfold nodeAtX
   cases h : nl[j]? with
   | none => simp only [List.length_nil]; rw [List.take_of_length_le (by have := List.getElem?_eq_none_iff.1 h; omega), List.take_of_length_le (by have := List.getElem?_eq_none_iff.1 h; omega)]; omega
   | some n => rw [take_succ_get h]; have := nodeX_len n; simp only [List.map_append, List.sum_append, List.map_cons, List.map_nil, List.sum_cons, List.sum_nil]; omega
  have he : (if j = 0 then ([] : List UInt8) else edgeAtX el (j - 1)).length ≤ 64 * (((el.take (j + 1 - 1)).map wtEp).sum - ((el.take (j - 1)).map wtEp).sum) ∧ ((el.take (j - 1)).map wtEp).sum ≤ ((el.take (j + 1 - 1)).map wtEp).sum := by
   cases j with
   | zero => simp
   | succ j =>
    rw [if_neg (by omega)]
    simp only [Nat.add_sub_cancel]
    unfold edgeAtX
    cases h : el[j]? with
    | none => simp only [List.length_nil]; rw [List.take_of_length_le (by have := List.getElem?_eq_none_iff.1 h; omega), List.take_of_length_le (by have := List.getElem?_eq_none_iff.1 h; omega)]; omega
    | some n => rw [take_succ_get h]; have := edgeX_len n; simp only [List.map_append, List.sum_append, List.map_cons, List.map_nil, List.sum_cons, List.sum_nil]; omega
  unfold pathPre
  simp only [List.length_append]
  omega
set_option maxHeartbeats 32000000 in
theorem pathPut_any (o : Ptt) (cs : List Value) (Bm B b : Nat) (l : List UInt8) (w : World) (hX : IsPt Bm w cs o) (hBm : Bm ≤ B) (h0 : 0 < B) (hB : B ≤ w.heap.size) (hbld : Bld B b l w) (hML : ML w) (hM : pathM o = true) (hw : wtPt o ≤ 4194304) (hl : l.length + 64 * wtPt o ≤ 70368744177664) :
    Calls Tryz.prog 191 #[.agg cs.toArray, .pointer (some ⟨b, 0, none⟩)] w fun e w' => e = .returned (.tuple #[]) ∧ Wrote B b (l ++ pathX o) w w' := by
 obtain ⟨nl, el⟩ := o
 obtain ⟨na, nc, ea, ec, rfl, hNA, hNS, hEA, hES⟩ := hX
 simp only at hNA hNS hEA hES
 have hwn : (nl.map wtNp).sum ≤ 4194304 := by simp only [wtPt] at hw; omega
 have hwe : (el.map wtEp).sum ≤ 4194304 := by simp only [wtPt] at hw; omega
 have hnl : nl.length ≤ 4194304 := Nat.le_trans (sum_len wtNp (fun x => by unfold wtNp; omega) nl) hwn
 have hl2 : l.length + 64 * ((nl.map wtNp).sum + (el.map wtEp).sum) + 64 ≤ 70368744177664 := by simp only [wtPt] at hl; omega
 unfold pathM at hM
 simp only [Bool.and_eq_true, decide_eq_true_eq] at hM
 obtain ⟨hlen, hMn, hMe⟩ := hM
 unfold pathX
 simp only
 obtain ⟨n, hn⟩ := nam nl.length
 obtain ⟨m, hm⟩ := nam el.length
 rw [hn] at hNA hnl hlen ⊢
 rw [hm] at hEA hlen ⊢
 have HN := Lib.hid hn
 have HM := Lib.hid hm
 obtain ⟨W0, u0, hW0, hu0, hsz, hbd0, hbe, hwr, hce⟩ := box_kp w hB hbld [.slice na n nc, .slice ea m ec] 111 (by decide)
 have e0 := fun u => hce u 0 _ rfl
 have e1 := fun u => hce u 1 _ rfl
 have x0 := hce u0 0 _ rfl
 have x1 := hce u0 1 _ rfl
 rw [← hu0, ← hW0] at x0 x1
 have HNODE := Lib.hid (fun (t : Npt) (cs : List Value) (u : Kp B b W0) (Lc : List UInt8) (h : IsNp Bm u.w cs t) (hbl : Bld B b Lc u.w) (hm : nodeM t = true) (hw : wtNp t ≤ 4194304) (hLc : Lc.length + 64 * wtNp t ≤ 70368744177664) => kp_write u (nodePut_any t cs Bm B b Lc u.w h hBm h0 (Nat.le_trans hB (hbe u).size) hbl (hML.kp (hbe u) h0) hm hw hLc))
 have HEDGE := Lib.hid (fun (t : Ept) (cs : List Value) (u : Kp B b W0) (Lc : List UInt8) (h : IsEp Bm u.w cs t) (hbl : Bld B b Lc u.w) (hm : edgeM t = true) (hw : wtEp t ≤ 4194304) (hLc : Lc.length + 64 * wtEp t ≤ 70368744177664) => kp_write u (edgePut_any t cs Bm B b Lc u.w h hBm h0 (Nat.le_trans hB (hbe u).size) hbl (hML.kp (hbe u) h0) hm hw hLc))
 have HNT : Hid (∀ (j : Nat) t, nl[j]? = some t → ∃ bb off cs, na = some ⟨bb, off, none⟩ ∧ bb < Bm ∧ cs.length = 4 ∧ (∀ (u : Kp B b W0) (q : Nat) v, cs[q]? = some v → u.w.cell? ⟨bb, off + j * 4 + q, none⟩ = some v) ∧ ∀ u : Kp B b W0, IsNp Bm u.w cs t) := Lib.hid (fun j t ht => hNS.at_gen (f := Kp.w) (R := IsNp Bm) (C := B) hBm hbe (fun u cs x h => h.below (hbe u) hBm) ht)
 have HET : Hid (∀ (j : Nat) t, el[j]? = some t → ∃ bb off cs, ea = some ⟨bb, off, none⟩ ∧ bb < Bm ∧ cs.length = 5 ∧ (∀ (u : Kp B b W0) (q : Nat) v, cs[q]? = some v → u.w.cell? ⟨bb, off + j * 5 + q, none⟩ = some v) ∧ ∀ u : Kp B b W0, IsEp Bm u.w cs t) := Lib.hid (fun j t ht => hES.at_gen (f := Kp.w) (R := IsEp Bm) (C := B) hBm hbe (fun u cs x h => h.below (hbe u) hBm) ht)
 have HWN : Hid (∀ (j : Nat) (t : Npt), nl[j]? = some t → ((nl.take j).map wtNp).sum + wtNp t ≤ (nl.map wtNp).sum) := Lib.hid (fun j t h => sum_take_get wtNp h)
 have HWE : Hid (∀ (j : Nat) (t : Ept), el[j]? = some t → ((el.take j).map wtEp).sum + wtEp t ≤ (el.map wtEp).sum) := Lib.hid (fun j t h => sum_take_get wtEp h)
 have HMN : Hid (∀ (j : Nat) (t : Npt), nl[j]? = some t → nodeM t = true) := Lib.hid (fun j t h => List.all_eq_true.1 hMn t (List.mem_of_getElem? h))
 have HME : Hid (∀ (j : Nat) (t : Ept), el[j]? = some t → edgeM t = true) := Lib.hid (fun j t h => List.all_eq_true.1 hMe t (List.mem_of_getElem? h))
 obtain ⟨HLL, HS1, HS2, HLEN⟩ := hd4 hl2 hwn hwe hlen
 have hnc := hNA.1
 have hec := hEA.1
 obtain ⟨HU0, HW0, HWR, HB0⟩ := hd4 hu0 hW0 hwr hbd0
 clear hl hl2 hu0 hW0 hwr hbe hce hsz hbd0 hBm h0 hbld hML hB hNS hES hNA hEA hMn hMe hlen hw hwn hwe hn hm
 go_enter Tryz.func191, Tryz.ntmps191
 go_wp2_with fail
 rw [HW0.out, HU0.out]
 go_loopw [8] (fun iv wr => ∃ (j : Nat) (u : Kp B b W0), iv = .int .i64 j ∧ j ≤ n ∧ Hid (Bld B b (l ++ pathPre nl el j) u.w) ∧ wr = u.w) (fun iv _ => n - (intOf iv).toNat)
 case atStart => exact ⟨0, u0, rfl, Nat.zero_le _, Lib.hid (by simpa [pathPre] using HB0.out), rfl⟩
 case round =>
  obtain ⟨j, u, rfl, hj, HBD, rfl⟩ := hrel
  by_cases hlt : j < n
  ·have hlt' : (j : Int) < n := by omega
   have hj0 : (0 : Int) ≤ (j : Int) := by omega
   have hwi : IntKind.i64.wrap ((j : Int) + 1) = (j : Int) + 1 := IntWalk.i64_in _ (by omega)
   obtain ⟨t2, ht2⟩ := get_some (l := nl) (j := j) (by have := HN.out; omega)
   obtain ⟨nb, no, cs2, rfl, hnb, -, hcs2, hx2⟩ := HNT.out j t2 ht2
   have hq1 := HWN.out j t2 ht2
   have HNC := Lib.hid (fun (v : Kp B b W0) (Lc : List UInt8) (hbl : Bld B b Lc v.w) (hLc : Lc.length + 64 * wtNp t2 ≤ 70368744177664) => HNODE.out t2 cs2 v Lc (hx2 v) hbl (HMN.out j t2 ht2) (by have := HS1.out; omega) hLc)
   obtain ⟨Y, hY⟩ := nam (nodeX t2)
   rw [hY] at HNC
   have HYA : Hid (nodeAtX nl j = Y) := Lib.hid (by unfold nodeAtX; rw [ht2]; exact hY)
   obtain ⟨q2, hq2⟩ := nam (wtNp t2)
   rw [hq2] at HNC hq1
   have HQ1 := Lib.hid hq1
   clear hq1 hq2 hY ht2
   obtain ⟨vr2, ls2, ks2, vs2⟩ := t2
   obtain ⟨la2, lc2, ka2, kc2, va2, vc2, rfl, -⟩ := hx2 u
   have g2_0 : ∀ u : Kp B b W0, u.w.cell? ⟨nb, no + j * 4, none⟩ = some (.string vr2) := fun u => hcs2 u 0 _ rfl
   obtain ⟨g2_1, g2_2, g2_3⟩ := gf3 hcs2
   clear hcs2 hx2
   simp only at g2_0 g2_1 g2_2 g2_3
   generalize ls2.length = ya2 at *
   generalize ks2.length = yb2 at *
   generalize vs2.length = yc2 at *
   have hpl := pathPre_len nl el j
   have HPL := Lib.hid hpl
   clear hpl
   by_cases hz : j = 0
   ·have hz1 : decide ((0 : Int) < (j : Int)) = false := by simp; omega
    have hz2 : decide (0 < j) = false := by simp; omega
    have HZ := Lib.hid hz
    clear hz
    go_wp2_with fail
    refine (HNC.out _ _ HBD.out (by have := HLL.out; have := HQ1.out; have := HPL.out; have h0 := HZ.out; rw [List.length_append]; rw [h0] at this ⊢; simp [pathPre]; omega)).mono ?_
    rintro e w2 ⟨rfl, v2, rfl, hbd⟩
    have HF : Hid (Bld B b (l ++ pathPre nl el (j + 1)) v2.w) := Lib.hid (by rw [pathPre, if_pos HZ.out, HYA.out]; simpa using hbd)
    clear hbd
    go_wp2_with fail
    go_roundw
    case rel => exact ⟨j + 1, _, by go_num, by omega, HF, rfl⟩
    case measure => simp [intOf]; omega
   ·have hz1 : decide ((0 : Int) < (j : Int)) = true := by simp; omega
    have hz2 : decide (0 < j) = true := by simp; omega
    obtain ⟨jp, hjp⟩ : ∃ jp, j = jp + 1 := ⟨j - 1, by omega⟩
    have HJP := Lib.hid hjp
    have hws : IntKind.i64.wrap ((j : Int) - 1) = (jp : Int) := by rw [IntWalk.i64_in _ (by omega)]; omega
    have hjp0 : (0 : Int) ≤ (jp : Int) := by omega
    have hjpm : (jp : Int) < m := by have := HLEN.out; omega
    have hjpm' : jp < m := by have := HLEN.out; omega
    have HZ := Lib.hid hz
    clear hz hjp
    obtain ⟨t3, ht3⟩ := get_some (l := el) (j := jp) (by have := HM.out; omega)
    obtain ⟨eb, eo, cs3, rfl, heb, -, hcs3, hx3⟩ := HET.out jp t3 ht3
    have hq3 := HWE.out jp t3 ht3
    have HEC := Lib.hid (fun (v : Kp B b W0) (Lc : List UInt8) (hbl : Bld B b Lc v.w) (hLc : Lc.length + 64 * wtEp t3 ≤ 70368744177664) => HEDGE.out t3 cs3 v Lc (hx3 v) hbl (HME.out jp t3 ht3) (by have := HS2.out; omega) hLc)
    have hyl := edgeX_len t3
    obtain ⟨Z, hZ⟩ := nam (edgeX t3)
    rw [hZ] at HEC hyl
    have HZA : Hid (edgeAtX el (j - 1) = Z) := Lib.hid (by unfold edgeAtX; rw [show j - 1 = jp from by have := HJP.out; omega, ht3]; exact hZ)
    obtain ⟨q3, hq4⟩ := nam (wtEp t3)
    rw [hq4] at HEC hq3 hyl
    have HQ3 := Lib.hid hq3
    have HYL := Lib.hid hyl
    have HPL2 : Hid ((pathPre nl el j).length ≤ 64 * ((nl.take j).map wtNp).sum + 64 * ((el.take jp).map wtEp).sum) := Lib.hid (by have h := HPL.out; rwa [show j - 1 = jp from by have := HJP.out; omega] at h)
    clear hq3 hq4 hZ ht3 hyl
    obtain ⟨vr3, ty3, dir3, ks3, vs3⟩ := t3
    obtain ⟨ka3, kc3, va3, vc3, rfl, -⟩ := hx3 u
    have g3_0 : ∀ u : Kp B b W0, u.w.cell? ⟨eb, eo + jp * 5, none⟩ = some (.string vr3) := fun u => hcs3 u 0 _ rfl
    obtain ⟨g3_1, g3_2, g3_3, g3_4⟩ := gf4 hcs3
    clear hcs3 hx3
    simp only at g3_0 g3_1 g3_2 g3_3 g3_4
    generalize ks3.length = yb3 at *
    generalize vs3.length = yc3 at *
    go_wp2_with fail
    refine (HEC.out _ _ HBD.out (by have := HLL.out; have := HQ3.out; have := HPL2.out; have := HQ1.out; rw [List.length_append]; omega)).mono ?_
    rintro e w2 ⟨rfl, v2, rfl, hbd⟩
    have HF2 := Lib.hid hbd
    clear hbd
    go_wp2_with fail
    refine (HNC.out _ _ HF2.out (by have := HLL.out; have := HQ3.out; have := HPL2.out; have := HQ1.out; have := HYL.out; rw [List.length_append, List.length_append]; omega)).mono ?_
    rintro e w2 ⟨rfl, v3, rfl, hbd⟩
    have HF : Hid (Bld B b (l ++ pathPre nl el (j + 1)) v3.w) := Lib.hid (by rw [pathPre, if_neg HZ.out, HYA.out, HZA.out]; simpa using hbd)
    clear hbd
    go_wp2_with fail
    go_roundw
    case rel => exact ⟨j + 1, _, by go_num, by omega, HF, rfl⟩
    case measure => simp [intOf]; omega
  ·have hlt' : ¬ (j : Int) < n := by omega
   have hjn : j = n := by omega
   have HFIN : Hid (Bld B b (l ++ pathPre nl el n) u.w) := Lib.hid (by have h := HBD.out; rw [hjn] at h; exact h)
   clear hjn
   go_wp2_with fail
   first | go_end0 | ((try simp only [Exit.inBlock, Exit.then]); refine bodyPost_ret (results_none rfl _ _ _) rfl ?_)
   exact ⟨rfl, HWR.out u _ HFIN.out⟩
end Go.Proofs.YtndhpdclpgemfaaGreat

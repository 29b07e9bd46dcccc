/- Parts X22 of this seat (pruned, scripts that are alike kept once as default arguments: q1, q2, ..). Conditions: each says its own. -/
import Derived.Test.YtndhpdclpgemfaaGreatV4
import Derived.Test.YtndhpdclpgemfaaGreatV5
namespace Go.Proofs.YtndhpdclpgemfaaGreat
open Go.RowKit Go.Shelf
set_option linter.unusedSimpArgs false
set_option linter.unusedVariables false
set_option maxRecDepth 100000
def innerX (ahead : Bool) (ks : List ByteArray) (vs : List Ex) : List UInt8 := if ks.length = 0 then [] else (if ahead = true then [32] else []) ++ propsX ks vs
def labX (l : ByteArray) : List UInt8 := [58] ++ keyTL l
def nodeX (n : Npt) : List UInt8 := ([40] ++ n.var.data.toList) ++ (n.labels.flatMap labX ++ (innerX (!(n.var.toList == []) || !decide (n.labels.length = 0)) n.keys n.vals ++ [41]))
def edgeIn (e : Ept) : List UInt8 := if (!(e.var.toList == []) || (!(e.ty.toList == []) || !decide (e.keys.length = 0))) = true then ([91] ++ e.var.data.toList) ++ ((if (e.ty.toList == []) = true then [] else labX e.ty) ++ (innerX (!(e.var.toList == []) || !(e.ty.toList == [])) e.keys e.vals ++ [93])) else []
def edgeX (e : Ept) : List UInt8 := (if (e.dir == 1) = true then [60] else []) ++ ([45] ++ (edgeIn e ++ ([45] ++ (if (e.dir == 0) = true then [62] else []))))
theorem propsX_len (ks : List ByteArray) (vs : List Ex) : (propsX ks vs).length ≤ 2 + 6 * wtS ks + 64 * wtXs vs := by
 have := props_len ks vs
 unfold propsX
 simp only [List.length_append, List.length_cons, List.length_nil]
 omega
theorem innerX_len (a : Bool) (ks : List ByteArray) (vs : List Ex) : (innerX a ks vs).length ≤ 3 + 6 * wtS ks + 64 * wtXs vs := by
 have := propsX_len ks vs
 unfold innerX
 split
 ·simp
 ·cases a <;> simp <;> omega
theorem labX_len (l : ByteArray) : (labX l).length ≤ 4 * l.size + 3 := by
 have := keyTL_len l
 unfold labX
 simp only [List.length_append, List.length_cons, List.length_nil]
 omega
theorem labs_len (ls : List ByteArray) : (ls.flatMap labX).length ≤ 4 * wtS ls := by
 induction ls with
 | nil => simp
 | cons x xs ih =>
  have := labX_len x
  simp only [List.flatMap_cons, List.length_append, wtS, List.map_cons, List.sum_cons] at *
  omega
theorem nodeX_len (n : Npt) : (nodeX n).length + 8 ≤ 64 * wtNp n := by
 have h1 := labs_len n.labels
 have h2 := innerX_len (!(n.var.toList == []) || !decide (n.labels.length = 0)) n.keys n.vals
 have h3 : n.var.data.toList.length = n.var.size := by simp
 unfold nodeX wtNp
 simp only [List.length_append, List.length_cons, List.length_nil]
 omega
theorem edgeX_len (e : Ept) : (edgeX e).length + 8 ≤ 64 * wtEp e := by
 have h1 := labX_len e.ty
 have h2 := innerX_len (!(e.var.toList == []) || !(e.ty.toList == [])) e.keys e.vals
 have h3 : e.var.data.toList.length = e.var.size := by simp
 have h4 : (edgeIn e).length ≤ 10 + e.var.size + 4 * e.ty.size + 6 * wtS e.keys + 64 * wtXs e.vals := by
  unfold edgeIn
  split
  ·split
   ·simp only [List.length_append, List.length_cons, List.length_nil]; omega
   ·simp only [List.length_append, List.length_cons, List.length_nil]; omega
  ·simp
 have h5 : (if (e.dir == 1) = true then ([60] : List UInt8) else []).length ≤ 1 := by split <;> simp
 have h6 : (if (e.dir == 0) = true then ([62] : List UInt8) else []).length ≤ 1 := by split <;> simp
 unfold edgeX wtEp
 simp only [List.length_append, List.length_cons, List.length_nil]
 omega
theorem propsM_parts {ks : List ByteArray} {vs : List Ex} (h : propsM ks vs = true) : ks.length = vs.length ∧ ∀ (j : Nat) t, vs[j]? = some t → deepB 32 t = true := by
 unfold propsM at h
 simp only [Bool.and_eq_true, decide_eq_true_eq] at h
 exact ⟨h.1, fun j t ht => List.all_eq_true.1 h.2.2 t (List.mem_of_getElem? ht)⟩
set_option maxHeartbeats 8000000 in
theorem inner_any (a : Bool) (ks : List ByteArray) (vs : List Ex) (ka va : Option Addr) (kc vc Bm B b : Nat) (l : List UInt8) (w : World) (hKA : SlOk ka ks.length kc) (hVA : SlOk va vs.length vc) (hKS : StrRow Bm w ka ks) (hVS : RowR (IsX Bm w) 10 Bm w va vs) (hBm : Bm ≤ B) (h0 : 0 < B) (hB : B ≤ w.heap.size) (hbld : Bld B b l w) (hML : ML w) (hM : propsM ks vs = true) (hwk : wtS ks ≤ 4194304) (hwv : wtXs vs ≤ 4194304) (hl : l.length + 20 + 6 * wtS ks + 64 * wtXs vs ≤ 70368744177664) :
    Calls Tryz.prog 197 #[.pointer (some ⟨b, 0, none⟩), .bool a, .agg #[.slice ka ks.length kc, .slice va vs.length vc]] w fun e w' => e = .returned (.tuple #[]) ∧ Wrote B b (l ++ innerX a ks vs) w w' := by
 obtain ⟨hlen, hdp⟩ := propsM_parts hM
 obtain ⟨n, hn⟩ := nam ks.length
 obtain ⟨m, hm⟩ := nam vs.length
 rw [hn] at hKA ⊢
 rw [hm] at hVA ⊢
 obtain ⟨W0, u0, hW0, hu0, hsz, hbd0, hbe, hwr, hce⟩ := box_kp w hB hbld [.slice ka n kc, .slice va m vc] 206 (by decide)
 have e0 := fun u => hce u 0 _ rfl
 have e1 := fun u => hce u 1 _ rfl
 have x0 := hce u0 0 _ rfl
 have x1 := hce u0 1 _ rfl
 rw [← hu0, ← hW0] at x0 x1
 have HWB := Lib.hid (fun (x : Nat) (hx0 : x < 256) (v : Kp B b W0) (Lc : List UInt8) (hbl : Bld B b Lc v.w) (hx : Lc.length + 1 ≤ 140737488355328) => kp_write v (bld_byte B b Lc x v.w hbl hx (Nat.le_trans hB (hbe v).size) hx0))
 have HPR := Lib.hid (fun (u : Kp B b W0) (Lc : List UInt8) (hbl : Bld B b Lc u.w) (hLc : Lc.length + 16 + 6 * wtS ks + 64 * wtXs vs ≤ 70368744177664) => kp_write u (props_of 32 (lay_any 32) ks vs ka va kc vc Bm B b Lc u.w (hKS.below (hbe u) hBm) (by rw [hn]; exact hKA) (hVS.below (hbe u) hBm (fun _ _ h => IsX.below (hbe u) hBm _ _ h)) (by rw [hm]; exact hVA) hlen hBm h0 (Nat.le_trans hB (hbe u).size) hbl (hML.kp (hbe u) h0) hdp hwv hwk hLc))
 rw [hn, hm] at HPR
 obtain ⟨HLL, HU0, HW0, HWR, HB0⟩ := hd5 hl hu0 hW0 hwr hbd0
 obtain ⟨X, hX⟩ := nam (innerX a ks vs)
 rw [hX]
 unfold innerX at hX
 rw [hn] at hX
 have HX := Lib.hid hX
 clear hX hl hu0 hW0 hwr hbe hce hsz hbd0 hBm h0 hbld hML hB hKS hVS hKA hVA hM hlen hdp hwk hwv hn hm
 by_cases hz : n = 0
 ·subst hz
  go_enter Tryz.func197, Tryz.ntmps197
  go_wp2_with fail
  rw [HW0.out, HU0.out]
  first | go_end0 | ((try simp only [Exit.inBlock, Exit.then]); refine bodyPost_ret (results_none rfl _ _ _) rfl ?_)
  exact ⟨rfl, HWR.out u0 _ (by have h := HB0.out; rw [← HX.out]; simpa using h)⟩
 ·have hz1 : ((n : Int) == 0) = false := by simp; omega
  have HZ := Lib.hid hz
  clear hz
  cases a with
  | true =>
   go_enter Tryz.func197, Tryz.ntmps197
   go_wp2_with (go_at_call 24; (try rw [HW0.out, HU0.out]); refine (HWB.out 32 (by omega) _ _ HB0.out (by have := HLL.out; omega)).mono ?_; rintro e w2 ⟨rfl, v1, rfl, hbd⟩; have HF1 := Lib.hid hbd; clear hbd)
   go_wp2_with (go_at_call 181; (try rw [HW0.out, HU0.out]); refine (HPR.out _ _ HF1.out (by have := HLL.out; simp only [List.length_append, List.length_cons, List.length_nil]; omega)).mono ?_; rintro e w2 ⟨rfl, v2, rfl, hbd⟩; have HF2 := Lib.hid hbd; clear hbd)
   first | go_end0 | ((try simp only [Exit.inBlock, Exit.then]); refine bodyPost_ret (results_none rfl _ _ _) rfl ?_)
   exact ⟨rfl, HWR.out v2 _ (by have h := HF2.out; rw [← HX.out]; simpa [HZ.out] using h)⟩
  | false =>
   go_enter Tryz.func197, Tryz.ntmps197
   go_wp2_with (go_at_call 181; (try rw [HW0.out, HU0.out]); refine (HPR.out _ _ HB0.out (by have := HLL.out; omega)).mono ?_; rintro e w2 ⟨rfl, v2, rfl, hbd⟩; have HF2 := Lib.hid hbd; clear hbd)
   first | go_end0 | ((try simp only [Exit.inBlock, Exit.then]); refine bodyPost_ret (results_none rfl _ _ _) rfl ?_)
   exact ⟨rfl, HWR.out v2 _ (by have h := HF2.out; rw [← HX.out]; simpa [HZ.out] using h)⟩
theorem Sv642542 {P : Prop} (h : P := by
 first
 |(
  guard_hyp z642542a
  have hn2 : ¬ n = 0 := by simpa using hbz
  have hn4 : decide (0 < n) = true := by simp; omega
  have hn5 : decide ((0 : Int) < n) = true := by simp; omega
  clear hn2 hbz)
 | skip
 go_wp2_with (go_at_call 197; refine (HIN.out true _ _ HFIN.out (by have := HLL.out; have := HL0L.out; have := HLBL.out; rw [List.length_append]; omega)).mono ?_; rintro e w2 ⟨rfl, v4, rfl, hbd⟩; have HF4 := Lib.hid hbd; clear hbd)
 go_wp2_with (go_at_call 24; (try rw [HW0.out, HU0.out]); refine (HWB.out 41 (by omega) _ _ HF4.out (by have := HLL.out; have := HL0L.out; have := HLBL.out; have := HIL.out true; simp only [List.length_append, List.length_cons, List.length_nil]; omega)).mono ?_; rintro e w2 ⟨rfl, v5, rfl, hbd⟩; have HF5 := Lib.hid hbd; clear hbd)
 first | go_end0 | ((try simp only [Exit.inBlock, Exit.then]); refine bodyPost_ret (results_none rfl _ _ _) rfl ?_)
 exact ⟨rfl, HWR.out v5 _ (by have h := HF5.out; rw [HX.out]; rw [← HL0.out] at h; simpa using h)⟩) : P := h
set_option maxHeartbeats 16000000 in
theorem nodePut_any (o : Npt) (cs : List Value) (Bm B b : Nat) (l : List UInt8) (w : World) (hX : IsNp Bm w cs o) (hBm : Bm ≤ B) (h0 : 0 < B) (hB : B ≤ w.heap.size) (hbld : Bld B b l w) (hML : ML w) (hM : nodeM o = true) (hw : wtNp o ≤ 4194304) (hl : l.length + 64 * wtNp o ≤ 70368744177664) :
    Calls Tryz.prog 195 #[.agg cs.toArray, .pointer (some ⟨b, 0, none⟩)] w fun e w' => e = .returned (.tuple #[]) ∧ Wrote B b (l ++ nodeX o) w w' := by
 obtain ⟨vr, ls, ks, vs⟩ := o
 obtain ⟨la, lc, ka, kc, va, vc, rfl, hLA, hLS, hKA, hKS, hVA, hVS⟩ := hX
 simp only at hLA hLS hKA hKS hVA hVS
 have hPM : propsM ks vs = true := by unfold nodeM at hM; simp only [Bool.and_eq_true] at hM; exact hM.2.2
 have hwl : wtS ls ≤ 4194304 := by simp only [wtNp] at hw; omega
 have hwk : wtS ks ≤ 4194304 := by simp only [wtNp] at hw; omega
 have hwv : wtXs vs ≤ 4194304 := by simp only [wtNp] at hw; omega
 have hvs : vr.size ≤ 4194304 := by simp only [wtNp] at hw; omega
 have hl2 : l.length + 64 * (1 + vr.size + wtS ls + wtS ks + wtXs vs) ≤ 70368744177664 := by simp only [wtNp] at hl; exact hl
 obtain ⟨n, hn⟩ := nam ls.length
 have hn0 : n ≤ 4194304 := by have := wtS_len ls; omega
 simp only
 rw [hn] at hLA ⊢
 obtain ⟨W0, u0, hW0, hu0, hsz, hbd0, hbe, hwr, hce⟩ := box_kp w hB hbld [.string vr, .slice la n lc, .slice ka ks.length kc, .slice va vs.length vc] 214 (by decide)
 obtain ⟨e0, e1, e2, e3⟩ := ge4 hce
 obtain ⟨x0, x1, x2, x3⟩ := gx4 hce u0
 rw [← hu0, ← hW0] at x0 x1 x2 x3
 have HWB := Lib.hid (fun (x : Nat) (hx0 : x < 256) (v : Kp B b W0) (Lc : List UInt8) (hbl : Bld B b Lc v.w) (hx : Lc.length + 1 ≤ 140737488355328) => kp_write v (bld_byte B b Lc x v.w hbl hx (Nat.le_trans hB (hbe v).size) hx0))
 have HWS := Lib.hid (fun (x : ByteArray) (v : Kp B b W0) (Lc : List UInt8) (hbl : Bld B b Lc v.w) (hx : Lc.length + x.size ≤ 140737488355328) => kp_write v (bld_string B b Lc x v.w hbl hx (Nat.le_trans hB (hbe v).size)))
 have HKEY := Lib.hid (fun (x : ByteArray) (hx : x.size ≤ 1099511627776) (v : Kp B b W0) (Lc : List UInt8) (hbl : Bld B b Lc v.w) => kp_grow v hsz hbl (skeyT_any x v.w hx (hML.kp (hbe v) h0)))
 have HIN := Lib.hid (fun (a : Bool) (u : Kp B b W0) (Lc : List UInt8) (hbl : Bld B b Lc u.w) (hLc : Lc.length + 20 + 6 * wtS ks + 64 * wtXs vs ≤ 70368744177664) => kp_write u (inner_any a ks vs ka va kc vc Bm B b Lc u.w hKA hVA (hKS.below (hbe u) hBm) (hVS.below (hbe u) hBm (fun _ _ h => IsX.below (hbe u) hBm _ _ h)) hBm h0 (Nat.le_trans hB (hbe u).size) hbl (hML.kp (hbe u) h0) hPM hwk hwv hLc))
 have HNT : Hid (∀ (j : Nat) x, ls[j]? = some x → ∃ bb off, la = some ⟨bb, off, none⟩ ∧ bb < Bm ∧ ∀ u : Kp B b W0, u.w.cell? ⟨bb, off + j, none⟩ = some (.string x)) := Lib.hid (fun j x hx => hLS.at_any (f := Kp.w) (C := B) hBm hbe hx)
 have HWN : Hid (∀ (j : Nat) t, ls[j]? = some t → wtS (ls.take j) + (t.size + 1) ≤ wtS ls) := Lib.hid (fun j t h => wtS_take h)
 obtain ⟨b0, hb0⟩ := nam ((vr.toList == []))
 have hb0' := emp_eq hb0
 have hS : (⟨#[40]⟩ ++ vr : ByteArray).size = 1 + vr.size := by simp; rfl
 have hSL : (⟨#[40]⟩ ++ vr : ByteArray).data.toList = [40] ++ vr.data.toList := by rw [ba_app]
 have HS := Lib.hid hS
 have HSL := Lib.hid hSL
 clear hSL
 obtain ⟨L0, hL0⟩ := nam (l ++ ([40] ++ vr.data.toList))
 have HL0L : Hid (L0.length = l.length + 1 + vr.size) := Lib.hid (by rw [← hL0]; simp; omega)
 have HL0 := Lib.hid hL0
 have HX : Hid (nodeX ⟨vr, ls, ks, vs⟩ = ([40] ++ vr.data.toList) ++ (ls.flatMap labX ++ (innerX (!b0 || !decide (n = 0)) ks vs ++ [41]))) := Lib.hid (by unfold nodeX; simp only; rw [hb0, hn])
 obtain ⟨X, hXX⟩ : ∃ X, nodeX ⟨vr, ls, ks, vs⟩ = X := ⟨_, rfl⟩
 rw [hXX] at HX ⊢
 have HIL := Lib.hid (fun a => innerX_len a ks vs)
 have HLBL := Lib.hid (labs_len ls)
 have HLL := Lib.hid hl2
 have HLN := Lib.hid hn
 have hlc := hLA.1
 obtain ⟨HU0, HW0, HWR, HB0⟩ := hd4 hu0 hW0 hwr hbd0
 clear hl hl2 hu0 hW0 hwr hbe hce hsz hbd0 hBm h0 hbld hML hB hLS hKS hVS hLA hKA hVA hM hPM hwk hwv hwl hw hn hL0 hXX hb0
 generalize ks.length = nk at *
 generalize vs.length = nv at *
 have hbu : Program.built Tryz.prog 206 [(0, Value.slice ka nk kc), (1, Value.slice va nv vc)] = some #[.slice ka nk kc, .slice va nv vc] := by kernel_rfl
 go_enter Tryz.func195, Tryz.ntmps195
 go_wp2_with (go_at_call 26; (try rw [HW0.out, HU0.out]); refine (HWS.out _ _ _ HB0.out (by have := HLL.out; rw [HS.out]; omega)).mono ?_; rintro e w2 ⟨rfl, v1, rfl, hbd⟩; have HF1 := Lib.hid hbd; rw [HSL.out, HL0.out] at HF1; clear hbd)
 go_loopw [14] (fun iv wr => ∃ (j : Nat) (u : Kp B b W0), iv = .int .i64 j ∧ j ≤ n ∧ Hid (Bld B b (L0 ++ (ls.take j).flatMap labX) u.w) ∧ wr = u.w) (fun iv _ => n - (intOf iv).toNat)
 case atStart => exact ⟨0, v1, rfl, Nat.zero_le _, Lib.hid (by rw [List.take_zero, List.flatMap_nil, List.append_nil]; exact HF1.out), rfl⟩
 case round =>
  obtain ⟨j, u, rfl, hj, HBD, rfl⟩ := hrel
  by_cases hlt : j < n
  ·have hlt' : (j : Int) < n := by omega
   have hj0 : (0 : Int) ≤ (j : Int) := by omega
   have hwi : IntKind.i64.wrap ((j : Int) + 1) = (j : Int) + 1 := IntWalk.i64_in _ (by omega)
   obtain ⟨x, hx⟩ := get_some (l := ls) (j := j) (by have := HLN.out; omega)
   obtain ⟨kb, ko, rfl, hkb, hkc2⟩ := HNT.out j x hx
   have hwn := HWN.out j x hx
   have hll := labs_len (ls.take j)
   have hst : (ls.take (j + 1)).flatMap labX = (ls.take j).flatMap labX ++ labX x := by rw [take_succ_get hx, List.flatMap_append]; simp
   obtain ⟨K, hK⟩ := nam (keyT x)
   have hKs : K.size ≤ 4 * x.size + 2 := by have h1 := keyTL_len x; unfold keyTL at h1; rw [hK] at h1; simpa using h1
   have hKS : (⟨#[58]⟩ ++ K : ByteArray).size = 1 + K.size := by simp; rfl
   have hKL : (⟨#[58]⟩ ++ K : ByteArray).data.toList = labX x := by rw [ba_app]; unfold labX keyTL; rw [hK]
   have HKL := Lib.hid hKL
   have HKSZ := Lib.hid hKS
   have hxs : x.size ≤ 1099511627776 := by have := wtS_len ls; have := HLL.out; omega
   have HKK := Lib.hid (HKEY.out x hxs)
   rw [hK] at HKK
   have hKm : K.size ≤ 140737488355327 := by omega
   have HBN : Hid ((L0 ++ (ls.take j).flatMap labX).length + (1 + K.size) ≤ 70368744177664) := Lib.hid (by have := HLL.out; have := HL0L.out; rw [List.length_append]; omega)
   have HST := Lib.hid hst
   clear hK hKL hKs hwn hll hst hx hxs
   go_wp2_with (go_at_call 16; refine (HKK.out _ _ HBD.out).mono ?_; rintro e w2 ⟨rfl, v2, rfl, hbd⟩; have HF2 := Lib.hid hbd; clear hbd)
   go_wp2_with (go_at_call 26; (try rw [HW0.out, HU0.out]); refine (HWS.out _ _ _ HF2.out (by have := HBN.out; rw [HKSZ.out]; omega)).mono ?_; rintro e w2 ⟨rfl, v3, rfl, hbd⟩; have HF3 := Lib.hid hbd; rw [HKL.out] at HF3; clear hbd)
   go_roundw
   case rel => exact ⟨j + 1, v3, by go_num, by omega, Lib.hid (by rw [HST.out]; have h := HF3.out; simpa using h), rfl⟩
   case measure => simp [intOf]; omega
  ·have hlt' : ¬ (j : Int) < n := by omega
   have hjn : j = n := by omega
   have HFIN : Hid (Bld B b (L0 ++ ls.flatMap labX) u.w) := Lib.hid (by have h := HBD.out; rw [hjn, List.take_of_length_le (by have := HLN.out; omega)] at h; exact h)
   clear hjn
   obtain ⟨bz, hbz⟩ := nam (decide (n = 0))
   rw [hbz] at HX
   cases b0 with
   | false =>
    exact Sv642542
   | true =>
    cases bz with
    | true =>
     have hn2 : n = 0 := by simpa using hbz
     have hn3 : ¬ (0 : Int) < (n : Int) := by omega
     have hn4 : decide (0 < n) = false := by simp; omega
     have hn5 : decide ((0 : Int) < n) = false := by simp; omega
     clear hn2 hbz hn3
     go_wp2_with (go_at_call 197; refine (HIN.out false _ _ HFIN.out (by have := HLL.out; have := HL0L.out; have := HLBL.out; rw [List.length_append]; omega)).mono ?_; rintro e w2 ⟨rfl, v4, rfl, hbd⟩; have HF4 := Lib.hid hbd; clear hbd)
     go_wp2_with (go_at_call 24; (try rw [HW0.out, HU0.out]); refine (HWB.out 41 (by omega) _ _ HF4.out (by have := HLL.out; have := HL0L.out; have := HLBL.out; have := HIL.out false; simp only [List.length_append, List.length_cons, List.length_nil]; omega)).mono ?_; rintro e w2 ⟨rfl, v5, rfl, hbd⟩; have HF5 := Lib.hid hbd; clear hbd)
     first | go_end0 | ((try simp only [Exit.inBlock, Exit.then]); refine bodyPost_ret (results_none rfl _ _ _) rfl ?_)
     exact ⟨rfl, HWR.out v5 _ (by have h := HF5.out; rw [HX.out]; rw [← HL0.out] at h; simpa using h)⟩
    | false =>
     have z642542a := trivial
     exact Sv642542
end Go.Proofs.YtndhpdclpgemfaaGreat

/- Parts X25 of this seat (pruned, scripts that are alike kept once as default arguments: q1, q2, ..). Conditions: each says its own. -/
import Derived.Test.YtndhpdclpgemfaaGreatV9
namespace Go.Proofs.YtndhpdclpgemfaaGreat
open Go.RowKit Go.Shelf
set_option linter.unusedSimpArgs false
set_option linter.unusedVariables false
set_option maxRecDepth 100000
set_option maxHeartbeats 8000000 in
theorem exprPut_any (t : Ex) (cs : List Value) (Bm B b : Nat) (l : List UInt8) (w : World) (hX : IsX Bm w cs t) (hBm : Bm ≤ B) (h0 : 0 < B) (hB : B ≤ w.heap.size) (hbld : Bld B b l w) (hML : ML w) (hD : deepB 32 t = true) (hwx : wtX t ≤ 4194304) (hl : l.length + 64 * wtX t ≤ 70368744177664) :
    Calls Tryz.prog 176 #[.agg cs.toArray, .pointer (some ⟨b, 0, none⟩)] w fun e w' => e = .returned (.tuple #[]) ∧ Wrote B b (l ++ textX t) w w' := by
 have hX0 := hX
 obtain ⟨op, nm, v, ns, az⟩ := t
 obtain ⟨k, b9, i, s, l9, ks, la, lc, ka, kc, na, nc, xa, xc, hv, rfl, hop, hV, hNA, hXA, hNS, hAZ⟩ := hX0.cells
 clear hX
 obtain ⟨W0, u0, hW0, hu0, hsz, hbd0, hbe, hwr, hce⟩ := box_kp w hB hbld [.int .i64 op, .string nm, .int .i64 k, .bool b9, .int .i64 i, .string s, .slice la l9.length lc, .slice ka ks.length kc, .slice na ns.length nc, .slice xa az.length xc] 93 (by decide)
 obtain ⟨e0, e1, e2, e3, e4, e5, e6, e7, e8, e9⟩ := ge10 hce
 obtain ⟨x0, x1, x2, x3, x4, x5, x6, x7, x8, x9⟩ := gx10 hce u0
 rw [← hu0, ← hW0] at x0 x1 x2 x3 x4 x5 x6 x7 x8 x9
 have HLAY := Lib.hid (fun (u : Kp B b W0) (Lc : List UInt8) (hbl : Bld B b Lc u.w) (hLc : Lc.length + 64 * wtX (.mk op nm v ns az) ≤ 70368744177664) => kp_write u (lay_any 32 (.mk op nm v ns az) _ Bm B b Lc 0 u.w (IsX.below (hbe u) hBm _ _ hX0) hBm h0 (Nat.le_trans hB (hbe u).size) hbl (hML.kp (hbe u) h0) hD hwx hLc))
 obtain ⟨X, hXX⟩ := nam (textX (.mk op nm v ns az))
 have HLY := Lib.hid (fun u Lc hbl hLc => by have h := HLAY.out u Lc hbl hLc; rw [needX_zero, hXX] at h; exact h)
 rw [hXX]
 obtain ⟨HLL, HU0, HW0, HWR, HB0⟩ := hd5 hl hu0 hW0 hwr hbd0
 clear hu0 hW0 hwr hbe hce hsz hbd0 hBm h0 hbld hML hB hX0 hv hop hV hNA hXA hNS hAZ hl HLAY hXX hD hwx
 generalize l9.length = yl at *
 generalize ks.length = yk at *
 generalize ns.length = yn at *
 generalize az.length = ym at *
 go_enter Tryz.func176, Tryz.ntmps176
 go_wp2_with fail
 (try rw [HW0.out, HU0.out])
 refine (HLY.out _ _ HB0.out (by exact HLL.out)).mono ?_
 rintro e w2 ⟨rfl, v1, rfl, hbd⟩
 have HF := Lib.hid hbd
 clear hbd
 go_wp2_with fail
 (try rw [HW0.out, HU0.out])
 first | go_end0 | ((try simp only [Exit.inBlock, Exit.then]); refine bodyPost_ret (results_none rfl _ _ _) rfl ?_)
 exact ⟨rfl, HWR.out v1 _ HF.out⟩
theorem Sv939903 {P : Prop} (h : P := by
 first
 | (guard_hyp z939903a; go_enter Tryz.func201, Tryz.ntmps201)
 | (go_enter Tryz.func199, Tryz.ntmps199)
 go_wp2_with fail
 (try rw [HW0.out, HU0.out])
 refine (HLY.out _ _ HB0.out (by have := HLL.out; omega)).mono ?_
 rintro e w2 ⟨rfl, v1, rfl, hbd⟩
 have HF := Lib.hid hbd
 clear hbd
 go_wp2_with fail
 (try rw [HW0.out, HU0.out])
 first | go_end0 | ((try simp only [Exit.inBlock, Exit.then]); refine bodyPost_ret (results_none rfl _ _ _) rfl ?_)
 exact ⟨rfl, HWR.out v1 _ (by simpa using HF.out)⟩) : P := h
theorem Sv937857 {P : Prop} (h : P := by
 first
 | (guard_hyp z937857a; go_enter Tryz.func201, Tryz.ntmps201)
 | (go_enter Tryz.func199, Tryz.ntmps199)
 go_wp2_with fail
 (try rw [HW0.out, HU0.out])
 refine (HLY.out _ _ HB0.out (by have := HLL.out; omega)).mono ?_
 rintro e w2 ⟨rfl, v1, rfl, hbd⟩
 have HF := Lib.hid hbd
 clear hbd
 go_wp2_with fail
 (try rw [HW0.out, HU0.out])
 first
 | (guard_hyp z937857a; refine (HWS.out ⟨#[32, 68, 69, 83, 67]⟩ _ _ HF.out (by have := HLL.out; have := HXL.out; have h6 : (ByteArray.mk #[32, 68, 69, 83, 67]).size = 5 := rfl; rw [h6, List.length_append]; omega)).mono ?_)
 | (refine (HWS.out _ _ _ HF.out (by have := HLL.out; have := HXL.out; rw [HS.out, List.length_append]; omega)).mono ?_)
 rintro e w2 ⟨rfl, v2, rfl, hbd⟩
 have HF2 := Lib.hid hbd
 clear hbd
 first
 | (guard_hyp z937857b; rw [HSL.out] at HF2)
 | skip
 go_wp2_with fail
 (try rw [HW0.out, HU0.out])
 first | go_end0 | ((try simp only [Exit.inBlock, Exit.then]); refine bodyPost_ret (results_none rfl _ _ _) rfl ?_)
 exact ⟨rfl, HWR.out v2 _ (by have h := HF2.out; simpa using h)⟩) : P := h
set_option maxHeartbeats 8000000 in
theorem sortPut_any (o : Sot) (cs : List Value) (Bm B b : Nat) (l : List UInt8) (w : World) (hX : IsSo Bm w cs o) (hBm : Bm ≤ B) (h0 : 0 < B) (hB : B ≤ w.heap.size) (hbld : Bld B b l w) (hML : ML w) (hM : sortM o = true) (hw : wtSo o ≤ 4194304) (hl : l.length + 64 * wtSo o ≤ 70368744177664) :
    Calls Tryz.prog 201 #[.agg cs.toArray, .pointer (some ⟨b, 0, none⟩)] w fun e w' => e = .returned (.tuple #[]) ∧ Wrote B b (l ++ sortX o) w w' := by
 obtain ⟨t, fl⟩ := o
 obtain ⟨xe, rfl, hX⟩ := hX
 have hX0 : IsX Bm w xe t := hX
 have hwx : wtX t ≤ 4194304 := by simp only [wtSo] at hw; omega
 have hl2 : l.length + 64 * (1 + wtX t) ≤ 70368744177664 := by simp only [wtSo] at hl; exact hl
 have hD : deepB 32 t = true := hM
 unfold sortX
 simp only
 obtain ⟨op, nm, v, ns, az⟩ := t
 obtain ⟨k, b9, i, s, l9, ks, la, lc, ka, kc, na, nc, xa, xc, hv, rfl, hop, hV, hNA, hXA, hNS, hAZ⟩ := hX0.cells
 obtain ⟨W0, u0, hW0, hu0, hsz, hbd0, hbe, hwr, hce⟩ := box_kp w hB hbld [.int .i64 op, .string nm, .int .i64 k, .bool b9, .int .i64 i, .string s, .slice la l9.length lc, .slice ka ks.length kc, .slice na ns.length nc, .slice xa az.length xc, .bool fl] 119 (by decide)
 obtain ⟨e0, e1, e2, e3, e4, e5, e6, e7, e8, e9, e10⟩ := ge11 hce
 obtain ⟨x0, x1, x2, x3, x4, x5, x6, x7, x8, x9, x10⟩ := gx11 hce u0
 rw [← hu0, ← hW0] at x0 x1 x2 x3 x4 x5 x6 x7 x8 x9 x10
 have HLAY := Lib.hid (fun (u : Kp B b W0) (Lc : List UInt8) (hbl : Bld B b Lc u.w) (hLc : Lc.length + 64 * wtX (.mk op nm v ns az) ≤ 70368744177664) => kp_write u (lay_any 32 (.mk op nm v ns az) _ Bm B b Lc 0 u.w (IsX.below (hbe u) hBm _ _ hX0) hBm h0 (Nat.le_trans hB (hbe u).size) hbl (hML.kp (hbe u) h0) hD hwx hLc))
 have HWS := Lib.hid (fun (x : ByteArray) (v : Kp B b W0) (Lc : List UInt8) (hbl : Bld B b Lc v.w) (hx : Lc.length + x.size ≤ 140737488355328) => kp_write v (bld_string B b Lc x v.w hbl hx (Nat.le_trans hB (hbe v).size)))
 obtain ⟨X, hXX⟩ := nam (textX (.mk op nm v ns az))
 have HLY := Lib.hid (fun u Lc hbl hLc => by have h := HLAY.out u Lc hbl hLc; rw [needX_zero, hXX] at h; exact h)
 have hxl := textX_len (.mk op nm v ns az)
 rw [hXX] at hxl
 rw [hXX]
 obtain ⟨q, hq⟩ := nam (wtX (.mk op nm v ns az))
 rw [hq] at hl2 hxl HLY
 obtain ⟨HLL, HXL, HU0, HW0, HWR, HB0⟩ := hd6 hl2 hxl hu0 hW0 hwr hbd0
 clear hu0 hW0 hwr hbe hce hsz hbd0 hBm h0 hbld hML hB hX0 hv hop hV hNA hXA hNS hAZ hl hl2 HLAY hXX hD hwx hX hM hw hxl hq
 generalize l9.length = yl at *
 generalize ks.length = yk at *
 generalize ns.length = yn at *
 generalize az.length = ym at *
 cases fl with
 | false =>
  have z939903a := trivial
  exact Sv939903
 | true =>
  have z937857a := trivial
  exact Sv937857
set_option maxHeartbeats 8000000 in
theorem itemPut_any (o : Itt) (cs : List Value) (Bm B b : Nat) (l : List UInt8) (w : World) (hX : IsIt Bm w cs o) (hBm : Bm ≤ B) (h0 : 0 < B) (hB : B ≤ w.heap.size) (hbld : Bld B b l w) (hML : ML w) (hM : itemM o = true) (hw : wtIt o ≤ 4194304) (hl : l.length + 64 * wtIt o ≤ 70368744177664) :
    Calls Tryz.prog 199 #[.agg cs.toArray, .pointer (some ⟨b, 0, none⟩)] w fun e w' => e = .returned (.tuple #[]) ∧ Wrote B b (l ++ itemX o) w w' := by
 obtain ⟨t, fl⟩ := o
 obtain ⟨xe, rfl, hX⟩ := hX
 have hX0 : IsX Bm w xe t := hX
 have hwx : wtX t ≤ 4194304 := by simp only [wtIt] at hw; omega
 have hl2 : l.length + 64 * (1 + wtX t + fl.size) ≤ 70368744177664 := by simp only [wtIt] at hl; exact hl
 have hD : deepB 32 t = true := by unfold itemM at hM; simp only [Bool.and_eq_true] at hM; exact hM.2
 have hfs : fl.size ≤ 4194304 := by simp only [wtIt] at hw; omega
 unfold itemX asIf
 simp only
 obtain ⟨op, nm, v, ns, az⟩ := t
 rw [show opX (.mk op nm v ns az) = op from rfl, show nameX (.mk op nm v ns az) = nm from rfl]
 obtain ⟨k, b9, i, s, l9, ks, la, lc, ka, kc, na, nc, xa, xc, hv, rfl, hop, hV, hNA, hXA, hNS, hAZ⟩ := hX0.cells
 obtain ⟨W0, u0, hW0, hu0, hsz, hbd0, hbe, hwr, hce⟩ := box_kp w hB hbld [.int .i64 op, .string nm, .int .i64 k, .bool b9, .int .i64 i, .string s, .slice la l9.length lc, .slice ka ks.length kc, .slice na ns.length nc, .slice xa az.length xc, .string fl] 116 (by decide)
 obtain ⟨e0, e1, e2, e3, e4, e5, e6, e7, e8, e9, e10⟩ := ge11 hce
 obtain ⟨x0, x1, x2, x3, x4, x5, x6, x7, x8, x9, x10⟩ := gx11 hce u0
 rw [← hu0, ← hW0] at x0 x1 x2 x3 x4 x5 x6 x7 x8 x9 x10
 have HLAY := Lib.hid (fun (u : Kp B b W0) (Lc : List UInt8) (hbl : Bld B b Lc u.w) (hLc : Lc.length + 64 * wtX (.mk op nm v ns az) ≤ 70368744177664) => kp_write u (lay_any 32 (.mk op nm v ns az) _ Bm B b Lc 0 u.w (IsX.below (hbe u) hBm _ _ hX0) hBm h0 (Nat.le_trans hB (hbe u).size) hbl (hML.kp (hbe u) h0) hD hwx hLc))
 have HWS := Lib.hid (fun (x : ByteArray) (v : Kp B b W0) (Lc : List UInt8) (hbl : Bld B b Lc v.w) (hx : Lc.length + x.size ≤ 140737488355328) => kp_write v (bld_string B b Lc x v.w hbl hx (Nat.le_trans hB (hbe v).size)))
 obtain ⟨X, hXX⟩ := nam (textX (.mk op nm v ns az))
 have HLY := Lib.hid (fun u Lc hbl hLc => by have h := HLAY.out u Lc hbl hLc; rw [needX_zero, hXX] at h; exact h)
 have hxl := textX_len (.mk op nm v ns az)
 rw [hXX] at hxl
 rw [hXX]
 obtain ⟨q, hq⟩ := nam (wtX (.mk op nm v ns az))
 rw [hq] at hl2 hxl HLY
 have HLL := Lib.hid hl2
 have HXL := Lib.hid hxl
 have hS : (⟨#[32, 65, 83, 32]⟩ ++ fl : ByteArray).size = 4 + fl.size := by simp; rfl
 have hSL : (⟨#[32, 65, 83, 32]⟩ ++ fl : ByteArray).data.toList = [32, 65, 83, 32] ++ fl.data.toList := by rw [ba_app]
 have HS := Lib.hid hS
 have HSL := Lib.hid hSL
 clear hSL
 obtain ⟨c2, h2⟩ := nam ((op == 2))
 have h2' : (op != 2) = !c2 := by rw [← h2]; rfl
 obtain ⟨ce, he⟩ := nam ((nm.toList == fl.toList))
 have he' : (nm.toList != fl.toList) = !ce := by rw [← he]; rfl
 rw [h2', he]
 obtain ⟨HU0, HW0, HWR, HB0⟩ := hd4 hu0 hW0 hwr hbd0
 clear hu0 hW0 hwr hbe hce hsz hbd0 hBm h0 hbld hML hB hX0 hv hop hV hNA hXA hNS hAZ hl hl2 HLAY hXX hD hwx hX hM hw hxl hq
 generalize l9.length = yl at *
 generalize ks.length = yk at *
 generalize ns.length = yn at *
 generalize az.length = ym at *
 cases c2 with
 | false =>
  have z937857b := trivial
  exact Sv937857
 | true =>
  cases ce with
  | true =>
   exact Sv939903
  | false =>
   have z937857b := trivial
   exact Sv937857
theorem Sv557864 {P : Prop} (h : P := by
 go_enter Tryz.func205, Tryz.ntmps205
 go_wp2_with fail
 (try rw [HW0.out, HU0.out])
 refine (HWS.out vr _ _ HB0.out (by have := HLL.out; have := HKS1.out; have := HKS2.out; have := HKT1.out; have := HKT2.out; have h9 : vr.data.toList.length = vr.size := (by simp); (try simp only [List.length_append, List.length_cons, List.length_nil]); omega)).mono ?_
 rintro e w2 ⟨rfl, v1, rfl, hbd⟩
 have HF1 := Lib.hid hbd
 clear hbd
 go_wp2_with fail
 first
 | (guard_hyp z557864a; refine (HKK2.out _ _ HF1.out).mono ?_)
 | (refine (HKK1.out _ _ HF1.out).mono ?_)
 rintro e w2 ⟨rfl, v2, rfl, hbd⟩
 have HF2 := Lib.hid hbd
 clear hbd
 go_wp2_with fail
 (try rw [HW0.out, HU0.out])
 first
 | (guard_hyp z557864a; refine (HWS.out _ _ _ HF2.out (by rw [HKZ2.out]; have := HLL.out; have := HKS1.out; have := HKS2.out; have := HKT1.out; have := HKT2.out; have h9 : vr.data.toList.length = vr.size := (by simp); (try simp only [List.length_append, List.length_cons, List.length_nil]); omega)).mono ?_)
 | (refine (HWS.out _ _ _ HF2.out (by rw [HKZ1.out]; have := HLL.out; have := HKS1.out; have := HKS2.out; have := HKT1.out; have := HKT2.out; have h9 : vr.data.toList.length = vr.size := (by simp); (try simp only [List.length_append, List.length_cons, List.length_nil]); omega)).mono ?_)
 rintro e w2 ⟨rfl, v3, rfl, hbd⟩
 have HF3 := Lib.hid hbd
 clear hbd
 first
 | (guard_hyp z557864a; rw [HKL2.out] at HF3)
 | (rw [HKL1.out] at HF3)
 go_wp2_with fail
 (try rw [HW0.out, HU0.out])
 first | go_end0 | ((try simp only [Exit.inBlock, Exit.then]); refine bodyPost_ret (results_none rfl _ _ _) rfl ?_)
 first
 | (guard_hyp z557864a; exact ⟨rfl, HWR.out v3 _ (by have h := HF3.out; unfold labX; simpa using h)⟩)
 | (exact ⟨rfl, HWR.out v3 _ (by have h := HF3.out; simpa using h)⟩)) : P := h
set_option maxHeartbeats 8000000 in
theorem setPut_any (o : Sit) (st : Bool) (cs : List Value) (Bm B b : Nat) (l : List UInt8) (w : World) (hX : IsSi Bm w cs o) (hBm : Bm ≤ B) (h0 : 0 < B) (hB : B ≤ w.heap.size) (hbld : Bld B b l w) (hML : ML w) (hM : setM o st = true) (hw : wtSi o ≤ 4194304) (hl : l.length + 64 * wtSi o ≤ 70368744177664) :
    Calls Tryz.prog 205 #[.agg (cs ++ [Value.bool st]).toArray, .pointer (some ⟨b, 0, none⟩)] w fun e w' => e = .returned (.tuple #[]) ∧ Wrote B b (l ++ setX o st) w w' := by
 obtain ⟨vr, ke, lb, t⟩ := o
 obtain ⟨xe, rfl, hX⟩ := hX
 have hX0 : IsX Bm w xe t := hX
 have hwx : wtX t ≤ 4194304 := by simp only [wtSi] at hw; omega
 have hvs : vr.size ≤ 4194304 := by simp only [wtSi] at hw; omega
 have hks9 : ke.size ≤ 4194304 := by simp only [wtSi] at hw; omega
 have hls : lb.size ≤ 4194304 := by simp only [wtSi] at hw; omega
 have hl2 : l.length + 64 * (1 + vr.size + ke.size + lb.size + wtX t) ≤ 70368744177664 := by simp only [wtSi] at hl; exact hl
 have hDD : (lb.toList == []) = true → st = true → deepB 32 t = true := by
  intro g1 g2
  unfold setM at hM
  simp only at hM
  rw [g1, g2] at hM
  cases hk : (ke.toList == []) with
  | true => rw [hk] at hM; simp at hM
  | false => rw [hk] at hM; simp at hM; exact hM.2.2
 unfold setX
 simp only
 obtain ⟨op, nm, v, ns, az⟩ := t
 obtain ⟨k, b9, i, s, l9, ks, la, lc, ka, kc, na, nc, xa, xc, hv, rfl, hop, hV, hNA, hXA, hNS, hAZ⟩ := hX0.cells
 simp only [List.cons_append, List.nil_append]
 obtain ⟨W0, u0, hW0, hu0, hsz, hbd0, hbe, hwr, hce⟩ := box_kp w hB hbld [.string vr, .string ke, .string lb, .int .i64 op, .string nm, .int .i64 k, .bool b9, .int .i64 i, .string s, .slice la l9.length lc, .slice ka ks.length kc, .slice na ns.length nc, .slice xa az.length xc, .bool st] 126 (by decide)
 obtain ⟨e0, e1, e2, e3, e4, e5, e6, e7, e8, e9, e10, e11, e12, e13⟩ := ge14 hce
 obtain ⟨x0, x1, x2, x3, x4, x5, x6, x7, x8, x9, x10, x11, x12, x13⟩ := gx14 hce u0
 rw [← hu0, ← hW0] at x0 x1 x2 x3 x4 x5 x6 x7 x8 x9 x10 x11 x12 x13
 have HWS := Lib.hid (fun (x : ByteArray) (v : Kp B b W0) (Lc : List UInt8) (hbl : Bld B b Lc v.w) (hx : Lc.length + x.size ≤ 140737488355328) => kp_write v (bld_string B b Lc x v.w hbl hx (Nat.le_trans hB (hbe v).size)))
 have HKEY := Lib.hid (fun (x : ByteArray) (hx : x.size ≤ 1099511627776) (v : Kp B b W0) (Lc : List UInt8) (hbl : Bld B b Lc v.w) => kp_grow v hsz hbl (skeyT_any x v.w hx (hML.kp (hbe v) h0)))
 have HLAY := Lib.hid (fun (hD : deepB 32 (.mk op nm v ns az) = true) (u : Kp B b W0) (Lc : List UInt8) (hbl : Bld B b Lc u.w) (hLc : Lc.length + 64 * wtX (.mk op nm v ns az) ≤ 70368744177664) => kp_write u (lay_any 32 (.mk op nm v ns az) _ Bm B b Lc 0 u.w (IsX.below (hbe u) hBm _ _ hX0) hBm h0 (Nat.le_trans hB (hbe u).size) hbl (hML.kp (hbe u) h0) hD hwx hLc))
 obtain ⟨X, hXX⟩ := nam (textX (.mk op nm v ns az))
 have HLY := Lib.hid (fun hD u Lc hbl hLc => by have h := HLAY.out hD u Lc hbl hLc; rw [needX_zero, hXX] at h; exact h)
 rw [hXX]
 obtain ⟨q, hq⟩ := nam (wtX (.mk op nm v ns az))
 rw [hq] at hl2 HLY
 obtain ⟨dd, hdd⟩ := nam (deepB 32 (.mk op nm v ns az))
 rw [hdd] at hDD HLY
 have HDD := Lib.hid hDD
 obtain ⟨b1, hb1⟩ := nam ((lb.toList == []))
 have hb1' := emp_eq hb1
 rw [hb1] at HDD ⊢
 obtain ⟨K1, hK1⟩ := nam (keyT ke)
 have hKs1 : K1.size ≤ 4 * ke.size + 2 := by have h1 := keyTL_len ke; unfold keyTL at h1; rw [hK1] at h1; simpa using h1
 have hKZ1 : (⟨#[46]⟩ ++ K1 : ByteArray).size = 1 + K1.size := by simp; rfl
 have hKL1 : (⟨#[46]⟩ ++ K1 : ByteArray).data.toList = [46] ++ keyTL ke := by rw [ba_app]; unfold keyTL; rw [hK1]
 obtain ⟨HKL1, HKZ1, HKS1⟩ := hd3 hKL1 hKZ1 hKs1
 have HKK1 := Lib.hid (HKEY.out ke (by omega))
 rw [hK1] at HKK1
 have hKm1 : K1.size ≤ 140737488355327 := by omega
 have HKT1 := Lib.hid (keyTL_len ke)
 clear hK1 hKL1 hKs1
 obtain ⟨K2, hK2⟩ := nam (keyT lb)
 have hKs2 : K2.size ≤ 4 * lb.size + 2 := by have h1 := keyTL_len lb; unfold keyTL at h1; rw [hK2] at h1; simpa using h1
 have hKZ2 : (⟨#[58]⟩ ++ K2 : ByteArray).size = 1 + K2.size := by simp; rfl
 have hKL2 : (⟨#[58]⟩ ++ K2 : ByteArray).data.toList = [58] ++ keyTL lb := by rw [ba_app]; unfold keyTL; rw [hK2]
 obtain ⟨HKL2, HKZ2, HKS2⟩ := hd3 hKL2 hKZ2 hKs2
 have HKK2 := Lib.hid (HKEY.out lb (by omega))
 rw [hK2] at HKK2
 have hKm2 : K2.size ≤ 140737488355327 := by omega
 have HKT2 := Lib.hid (keyTL_len lb)
 clear hK2 hKL2 hKs2
 obtain ⟨HLL, HU0, HW0, HWR, HB0⟩ := hd5 hl2 hu0 hW0 hwr hbd0
 clear hu0 hW0 hwr hbe hce hsz hbd0 hBm h0 hbld hML hB hX0 hv hop hV hNA hXA hNS hAZ hl hl2 HLAY hXX hwx hX hM hw hDD hdd hq hb1 hvs hks9 hls
 generalize l9.length = yl at *
 generalize ks.length = yk at *
 generalize ns.length = yn at *
 generalize az.length = ym at *
 cases b1 with
 | false =>
  have z557864a := trivial
  exact Sv557864
 | true =>
  cases st with
  | false =>
   exact Sv557864
  | true =>
   have HD9 := Lib.hid (HDD.out rfl rfl)
   go_enter Tryz.func205, Tryz.ntmps205
   go_wp2_with fail
   (try rw [HW0.out, HU0.out])
   refine (HWS.out vr _ _ HB0.out (by have := HLL.out; have := HKS1.out; have := HKS2.out; have := HKT1.out; have := HKT2.out; have h9 : vr.data.toList.length = vr.size := (by simp); (try simp only [List.length_append, List.length_cons, List.length_nil]); omega)).mono ?_
   rintro e w2 ⟨rfl, v1, rfl, hbd⟩
   have HF1 := Lib.hid hbd
   clear hbd
   go_wp2_with fail
   refine (HKK1.out _ _ HF1.out).mono ?_
   rintro e w2 ⟨rfl, v2, rfl, hbd⟩
   have HF2 := Lib.hid hbd
   clear hbd
   go_wp2_with fail
   (try rw [HW0.out, HU0.out])
   refine (HWS.out _ _ _ HF2.out (by rw [HKZ1.out]; have := HLL.out; have := HKS1.out; have := HKS2.out; have := HKT1.out; have := HKT2.out; have h9 : vr.data.toList.length = vr.size := (by simp); (try simp only [List.length_append, List.length_cons, List.length_nil]); omega)).mono ?_
   rintro e w2 ⟨rfl, v3, rfl, hbd⟩
   have HF3 := Lib.hid hbd
   clear hbd
   rw [HKL1.out] at HF3
   go_wp2_with fail
   (try rw [HW0.out, HU0.out])
   refine (HWS.out ⟨#[32, 61, 32]⟩ _ _ HF3.out (by have h6 : (ByteArray.mk #[32, 61, 32]).size = 3 := rfl; rw [h6]; have := HLL.out; have := HKS1.out; have := HKS2.out; have := HKT1.out; have := HKT2.out; have h9 : vr.data.toList.length = vr.size := (by simp); (try simp only [List.length_append, List.length_cons, List.length_nil]); omega)).mono ?_
   rintro e w2 ⟨rfl, v4, rfl, hbd⟩
   have HF4 := Lib.hid hbd
   clear hbd
   replace HF4 : Hid (Bld B b (l ++ vr.data.toList ++ ([46] ++ keyTL ke) ++ [32, 61, 32]) v4.w) := HF4
   go_wp2_with fail
   (try rw [HW0.out, HU0.out])
   refine (HLY.out HD9.out _ _ HF4.out (by have := HLL.out; have := HKS1.out; have := HKS2.out; have := HKT1.out; have := HKT2.out; have h9 : vr.data.toList.length = vr.size := (by simp); (try simp only [List.length_append, List.length_cons, List.length_nil]); omega)).mono ?_
   rintro e w2 ⟨rfl, v5, rfl, hbd⟩
   have HF5 := Lib.hid hbd
   clear hbd
   go_wp2_with fail
   (try rw [HW0.out, HU0.out])
   first | go_end0 | ((try simp only [Exit.inBlock, Exit.then]); refine bodyPost_ret (results_none rfl _ _ _) rfl ?_)
   exact ⟨rfl, HWR.out v5 _ (by have h := HF5.out; simpa using h)⟩
end Go.Proofs.YtndhpdclpgemfaaGreat

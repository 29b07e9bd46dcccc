/- Parts X17 of this seat (pruned, scripts that are alike kept once as default arguments: q1, q2, ..). Conditions: each says its own. -/
import Derived.Test.YtndhpdclpgemfaaGreatW1
namespace Go.Proofs.YtndhpdclpgemfaaGreat
open Go.RowKit Go.Shelf
set_option linter.unusedSimpArgs false
set_option linter.unusedVariables false
set_option maxRecDepth 100000
set_option maxHeartbeats 16000000 in
theorem both_of (d : Nat) (H : LaySaid d) : BothSaid d := by
 intro nm v ns t0 t1 cs Bm B b l w hX hBm h0 hB hbld hML hd0 hd1 hw hl
 have hX0 := hX
 obtain ⟨k, bo, i, s, l9, ks, la, lc, ka, kc, na, nc, xa, xc, hv, rfl, hop, hV, hNA, hXA, hNS, hAZ⟩ := hX.cells
 clear hX
 have hs : nm.size ≤ 4194304 := by simp only [wtX] at hw; omega
 have hwv : 1 ≤ wtV v := by cases v; unfold wtV; omega
 have hwts : 1 + nm.size + (wtX t0 + wtX t1) + 1 ≤ wtX (.mk 10 nm v ns [t0, t1]) := by simp only [wtX, wtXs]; omega
 have hbody : bodyX 10 nm v ns (textXs [t0, t1]) = needX (if levelB nm = 5 then 6 else levelB nm) t0 ++ ([32] ++ nm.data.toList ++ [32]) ++ needX (levelB nm + 1) t1 := by
  unfold bodyX
  rw [ndT_get (az := [t0, t1]) (i := 0) (t := t0) rfl, ndT_get (az := [t0, t1]) (i := 1) (t := t1) rfl]
  rfl
 rw [hbody]
 clear hbody
 obtain ⟨lv, hlv⟩ := nam (levelB nm)
 have hr := levelB_range nm
 rw [hlv] at hr ⊢
 have hr1 := hr.1
 have hr2 := hr.2
 obtain ⟨n, hn⟩ := nam ns.length
 rw [hn]
 obtain ⟨W0, u0, hW0, hu0, hsz, hbd0, hbe, hwr, hce⟩ := box_kp w hB hbld [.int .i64 10, .string nm, .int .i64 k, .bool bo, .int .i64 i, .string s, .slice la l9.length lc, .slice ka ks.length kc, .slice na n nc, .slice xa 2 xc] 36 (by decide)
 obtain ⟨e0, e1, e2, e3, e4, e5, e6, e7, e8, e9⟩ := ge10 hce
 obtain ⟨x0, x1, x2, x3, x4, x5, x6, x7, x8, x9⟩ := gx10 hce u0
 rw [← hu0, ← hW0] at x0 x1 x2 x3 x4 x5 x6 x7 x8 x9
 have HLV := Lib.hid (kp_grow u0 hsz hbd0 (slevel_any nm u0.w (by omega)))
 rw [hlv] at HLV
 have HLAY := Lib.hid (fun (t : Ex) (cs : List Value) (need : Int) (Lc : List UInt8) (v : Kp B b W0) (hx : IsX Bm v.w cs t) (hbl : Bld B b Lc v.w) (hd : deepB d t = true) (hwt : wtX t ≤ 4194304) (hLc : Lc.length + 64 * wtX t ≤ 70368744177664) => kp_write v (H t cs Bm B b Lc need v.w hx hBm h0 (Nat.le_trans hB (hbe v).size) hbl (hML.kp (hbe v) h0) hd hwt hLc))
 have HWS := Lib.hid (fun (x : ByteArray) (v : Kp B b W0) (Lc : List UInt8) (hbl : Bld B b Lc v.w) (hx : Lc.length + x.size ≤ 140737488355328) => kp_write v (bld_string B b Lc x v.w hbl hx (Nat.le_trans hB (hbe v).size)))
 obtain ⟨eb, eo, cs0, hxa, heb, hcs0, hx0⟩ := hAZ.at_any (f := Kp.w) (C := B) hBm hbe (j := 0) (t := t0) rfl
 have hc0 : ∀ (u : Kp B b W0) (q : Nat) v, cs0[q]? = some v → u.w.cell? ⟨eb, eo + q, none⟩ = some v := hcs0
 obtain ⟨eb1, eo1, cs1, hxa1, -, hcs1, hx1⟩ := hAZ.at_any (f := Kp.w) (C := B) hBm hbe (j := 1) (t := t1) rfl
 have hxa2 := hxa.symm.trans hxa1
 injection hxa2 with hxa2
 injection hxa2 with hxa2 hxa3
 subst hxa2 hxa3
 have hc1 : ∀ (u : Kp B b W0) (q : Nat) v, cs1[q]? = some v → u.w.cell? ⟨eb, eo + 10 + q, none⟩ = some v := hcs1
 subst hxa
 have hwt0 : wtX t0 ≤ 4194304 := by omega
 have hwt1 : wtX t1 ≤ 4194304 := by omega
 have HL0 := Lib.hid (fun need v Lc hbl hLc => HLAY.out t0 cs0 need Lc v (hx0 v) hbl hd0 hwt0 hLc)
 have HL1 := Lib.hid (fun need v Lc hbl hLc => HLAY.out t1 cs1 need Lc v (hx1 v) hbl hd1 hwt1 hLc)
 have HLN : Hid (∀ need, (needX need t0).length + 2 ≤ 64 * wtX t0) := Lib.hid (fun need => needX_len need t0)
 obtain ⟨N0, hN0⟩ : ∃ N, N = (fun need => needX need t0) := ⟨_, rfl⟩
 obtain ⟨N1, hN1⟩ : ∃ N, N = (fun need => needX need t1) := ⟨_, rfl⟩
 have hN0' : ∀ need, needX need t0 = N0 need := fun need => by rw [hN0]
 have hN1' : ∀ need, needX need t1 = N1 need := fun need => by rw [hN1]
 have HL0b : Hid (∀ (need : Int) (v : Kp B b W0) (Lc : List UInt8), Bld B b Lc v.w → Lc.length + 64 * wtX t0 ≤ 70368744177664 → Calls Tryz.prog 177 #[.pointer (some ⟨b, 0, none⟩), .agg cs0.toArray, .int .i64 need] v.w fun e w'' => e = .returned (.tuple #[]) ∧ ∃ u' : Kp B b W0, w'' = u'.w ∧ Bld B b (Lc ++ N0 need) u'.w) := Lib.hid (fun need v Lc hbl hLc => by rw [← hN0' need]; exact HL0.out need v Lc hbl hLc)
 have HL1b : Hid (∀ (need : Int) (v : Kp B b W0) (Lc : List UInt8), Bld B b Lc v.w → Lc.length + 64 * wtX t1 ≤ 70368744177664 → Calls Tryz.prog 177 #[.pointer (some ⟨b, 0, none⟩), .agg cs1.toArray, .int .i64 need] v.w fun e w'' => e = .returned (.tuple #[]) ∧ ∃ u' : Kp B b W0, w'' = u'.w ∧ Bld B b (Lc ++ N1 need) u'.w) := Lib.hid (fun need v Lc hbl hLc => by rw [← hN1' need]; exact HL1.out need v Lc hbl hLc)
 have HLNb : Hid (∀ need, (N0 need).length + 2 ≤ 64 * wtX t0) := Lib.hid (fun need => by rw [← hN0' need]; exact HLN.out need)
 rw [hN0', hN1']
 clear hN0 hN1 hN0' hN1' HL0 HL1 HLN HLAY
 obtain ⟨q0, hq0⟩ := nam (wtX t0)
 obtain ⟨q1, hq1⟩ := nam (wtX t1)
 rw [hq0] at HL0b HLNb hwts hl
 rw [hq1] at HL1b hwts hl
 clear hwt0 hwt1 hq0 hq1 hd0 hd1
 obtain ⟨op0, nm0, v0, ns0, az0⟩ := t0
 obtain ⟨k0, bo0, i0, s0, l0, ks0, la0, lc0, ka0, kc0, na0, nc0, xa0, xc0, -, rfl, -⟩ := (hx0 u0).cells
 have g0_0 : ∀ u : Kp B b W0, u.w.cell? ⟨eb, eo, none⟩ = some (.int .i64 op0) := fun u => hc0 u 0 _ rfl
 have g0_1 := fun (u : Kp B b W0) => hc0 u 1 _ rfl
 have g0_2 := fun (u : Kp B b W0) => hc0 u 2 _ rfl
 have g0_3 := fun (u : Kp B b W0) => hc0 u 3 _ rfl
 have g0_4 := fun (u : Kp B b W0) => hc0 u 4 _ rfl
 have g0_5 := fun (u : Kp B b W0) => hc0 u 5 _ rfl
 have g0_6 := fun (u : Kp B b W0) => hc0 u 6 _ rfl
 have g0_7 := fun (u : Kp B b W0) => hc0 u 7 _ rfl
 have g0_8 := fun (u : Kp B b W0) => hc0 u 8 _ rfl
 have g0_9 := fun (u : Kp B b W0) => hc0 u 9 _ rfl
 generalize l0.length = ya0 at *
 generalize ks0.length = yb0 at *
 generalize ns0.length = yc0 at *
 generalize az0.length = yd0 at *
 obtain ⟨op1, nm1, v1, ns1, az1⟩ := t1
 obtain ⟨k1, bo1, i1, s1, l1, ks1, la1, lc1, ka1, kc1, na1, nc1, xa1, xc1, -, rfl, -⟩ := (hx1 u0).cells
 have g1_0 : ∀ u : Kp B b W0, u.w.cell? ⟨eb, eo + 10, none⟩ = some (.int .i64 op1) := fun u => hc1 u 0 _ rfl
 have g1_1 := fun (u : Kp B b W0) => hc1 u 1 _ rfl
 have g1_2 := fun (u : Kp B b W0) => hc1 u 2 _ rfl
 have g1_3 := fun (u : Kp B b W0) => hc1 u 3 _ rfl
 have g1_4 := fun (u : Kp B b W0) => hc1 u 4 _ rfl
 have g1_5 := fun (u : Kp B b W0) => hc1 u 5 _ rfl
 have g1_6 := fun (u : Kp B b W0) => hc1 u 6 _ rfl
 have g1_7 := fun (u : Kp B b W0) => hc1 u 7 _ rfl
 have g1_8 := fun (u : Kp B b W0) => hc1 u 8 _ rfl
 have g1_9 := fun (u : Kp B b W0) => hc1 u 9 _ rfl
 generalize l1.length = ya1 at *
 generalize ks1.length = yb1 at *
 generalize ns1.length = yc1 at *
 generalize az1.length = yd1 at *
 have hS1 : (⟨#[32]⟩ ++ nm : ByteArray).size = 1 + nm.size := by simp; rfl
 have hS2 : (⟨#[32]⟩ ++ nm ++ ⟨#[32]⟩ : ByteArray).size = 1 + nm.size + 1 := by rw [ByteArray.size_append, hS1]; rfl
 have hSL : (⟨#[32]⟩ ++ nm ++ ⟨#[32]⟩ : ByteArray).data.toList = [32] ++ nm.data.toList ++ [32] := by rw [ba_app, ba_app]
 obtain ⟨HSL, HSZ2, HW, HLL, HU0, HW0, HWR, HR⟩ := hd8 hSL hS2 hwts hl hu0 hW0 hwr hr
 have hlw : IntKind.i64.wrap (lv + 1) = lv + 1 := IntWalk.i64_in _ (by omega)
 have hcl2 := hXA.1
 clear hSL hl hu0 hW0 hwr hX0 hv hop hV hNA hNS hAZ hbe hce hsz hbd0 hB hBm h0 hbld hML hw hlv hr hcs0 hcs1 hc0 hc1 hx0 hx1 hwts hn
 by_cases h5 : lv = 5
 ·subst h5
  go_enter Tryz.func182, Tryz.ntmps182
  go_wp2_with (go_at_call 121; rw [HW0.out, HU0.out]; refine HLV.out.mono ?_; rintro e w2 ⟨rfl, v1, rfl, hbd1⟩; have HB1 := Lib.hid hbd1; clear hbd1)
  go_wp2_with (go_at_call 177; refine (HL0b.out _ _ _ HB1.out (by have := HLL.out; have := HW.out; omega)).mono ?_; rintro e w2 ⟨rfl, v2, rfl, hbd2⟩; have HB2 := Lib.hid hbd2; clear hbd2)
  go_wp2_with (go_at_call 26; refine (HWS.out _ _ _ HB2.out (by have := HLL.out; have := HW.out; have := HLNb.out (6); rw [HSZ2.out, List.length_append]; omega)).mono ?_; rintro e w2 ⟨rfl, v3, rfl, hbd3⟩; have HB3 := Lib.hid hbd3; rw [HSL.out] at HB3; clear hbd3)
  go_wp2_with (go_at_call 177; refine (HL1b.out _ _ _ HB3.out (by have := HLL.out; have := HW.out; have := HLNb.out (6); simp only [List.length_append, List.length_cons, List.length_nil] at *; have h9 : nm.data.toList.length = nm.size := (by simp); omega)).mono ?_; rintro e w2 ⟨rfl, v4, rfl, hbd4⟩; have HB4 := Lib.hid hbd4; clear hbd4)
  go_end0
  exact ⟨rfl, HWR.out v4 _ (by have h := HB4.out; simpa using h)⟩
 ·have h5' : (lv == 5) = false := by simpa using h5
  have H5 := Lib.hid h5
  clear h5
  go_enter Tryz.func182, Tryz.ntmps182
  go_wp2_with (go_at_call 121; rw [HW0.out, HU0.out]; refine HLV.out.mono ?_; rintro e w2 ⟨rfl, v1, rfl, hbd1⟩; have HB1 := Lib.hid hbd1; clear hbd1)
  go_wp2_with (go_at_call 177; refine (HL0b.out _ _ _ HB1.out (by have := HLL.out; have := HW.out; omega)).mono ?_; rintro e w2 ⟨rfl, v2, rfl, hbd2⟩; have HB2 := Lib.hid hbd2; clear hbd2)
  go_wp2_with (go_at_call 26; refine (HWS.out _ _ _ HB2.out (by have := HLL.out; have := HW.out; have := HLNb.out (lv); rw [HSZ2.out, List.length_append]; omega)).mono ?_; rintro e w2 ⟨rfl, v3, rfl, hbd3⟩; have HB3 := Lib.hid hbd3; rw [HSL.out] at HB3; clear hbd3)
  go_wp2_with (go_at_call 177; refine (HL1b.out _ _ _ HB3.out (by have := HLL.out; have := HW.out; have := HLNb.out (lv); simp only [List.length_append, List.length_cons, List.length_nil] at *; have h9 : nm.data.toList.length = nm.size := (by simp); omega)).mono ?_; rintro e w2 ⟨rfl, v4, rfl, hbd4⟩; have HB4 := Lib.hid hbd4; clear hbd4)
  go_end0
  exact ⟨rfl, HWR.out v4 _ (by have h := HB4.out; (try rw [if_neg H5.out]); simpa using h)⟩
def LayKind (d : Nat) (op : Int) : Prop := ∀ (nm : ByteArray) (v : Vt) (ns : List ByteArray) (az : List Ex) (cs : List Value) (Bm B b : Nat) (l : List UInt8) (need : Int) (w : World), IsX Bm w cs (.mk op nm v ns az) → Bm ≤ B → 0 < B → B ≤ w.heap.size → Bld B b l w → ML w → deepB (d + 1) (.mk op nm v ns az) = true → wtX (.mk op nm v ns az) ≤ 4194304 → l.length + 64 * wtX (.mk op nm v ns az) ≤ 70368744177664 →
  Calls Tryz.prog 177 #[.pointer (some ⟨b, 0, none⟩), .agg cs.toArray, .int .i64 need] w fun e w' => e = .returned (.tuple #[]) ∧ Wrote B b (l ++ needX need (.mk op nm v ns az)) w w'
theorem needX_yes {need : Int} {op : Int} {nm : ByteArray} {v : Vt} {ns : List ByteArray} {az : List Ex} (h : closeB op nm < need) : needX need (.mk op nm v ns az) = [40] ++ bodyX op nm v ns (textXs az) ++ [41] := by
 unfold needX inP
 rw [if_pos (by simp only [clX]; exact h), textX_eq]
theorem needX_no {need : Int} {op : Int} {nm : ByteArray} {v : Vt} {ns : List ByteArray} {az : List Ex} (h : ¬ closeB op nm < need) : needX need (.mk op nm v ns az) = bodyX op nm v ns (textXs az) := by
 unfold needX inP
 rw [if_neg (by simp only [clX]; exact h), textX_eq]
theorem deep_parts {d : Nat} {op : Int} {nm : ByteArray} {v : Vt} {ns : List ByteArray} {az : List Ex} (h : deepB (d + 1) (.mk op nm v ns az) = true) : namedB (.mk op nm v ns az) = true ∧ ∀ (j : Nat) t, az[j]? = some t → deepB d t = true := by
 rw [deepB, ownB] at h
 simp only [Bool.and_eq_true] at h
 exact ⟨h.1.1, fun j t ht => List.all_eq_true.1 h.2 t (List.mem_of_getElem? ht)⟩
set_option maxRecDepth 100000 in
theorem Sg431130 {P : Prop} (h : P := by
 intro nm v ns az cs Bm B b l need w hX hBm h0 hB hbld hML hdeep hw hl
 have hX0 := hX
 obtain ⟨hnm, hdp⟩ := deep_parts hdeep
 first
 | (guard_hyp z431130a; rw [namedB, if_neg (ng 13 1), if_neg (ng 13 2), if_neg (ng 13 3), if_neg (ng 13 4), if_neg (ng 13 15), if_neg (ng 13 5), if_neg (ng 13 6), if_neg (ng 13 7), if_neg (ng 13 8), if_neg (ng 13 9), if_neg (ng 13 11), if_neg (ng 13 12), if_neg (ng 13 10), if_pos rfl] at hnm)
 | (guard_hyp z431130d; rw [namedB, if_neg (ng 6 1), if_neg (ng 6 2), if_neg (ng 6 3), if_neg (ng 6 4), if_neg (ng 6 15), if_neg (ng 6 5), if_pos rfl] at hnm)
 | (guard_hyp z431130c; rw [namedB, if_neg (ng 5 1), if_neg (ng 5 2), if_neg (ng 5 3), if_neg (ng 5 4), if_neg (ng 5 15), if_pos rfl] at hnm)
 | (guard_hyp z431130b; rw [namedB, if_neg (ng 3 1), if_neg (ng 3 2), if_pos rfl] at hnm)
 | (guard_hyp z431130f; rw [namedB, if_neg (ng 2 1), if_pos rfl] at hnm)
 | (rw [namedB, if_pos rfl] at hnm)
 obtain ⟨k, bo, i, s, l9, ks, la, lc, ka, kc, na, nc, xa, xc, hv, rfl, hop, hV, hNA, hXA, hNS, hAZ⟩ := hX.cells
 clear hX
 have hs : nm.size ≤ 4194304 := by simp only [wtX] at hw; omega
 have hks : wtS ns ≤ 4194304 := by simp only [wtX] at hw; omega
 have hwxs : wtXs az ≤ 4194304 := by simp only [wtX] at hw; omega
 first
 | (guard_hyp z431130a; have hwall : 1 + nm.size + wtV v + wtS ns + wtXs az = wtX (.mk 13 nm v ns az) := by simp only [wtX])
 | (guard_hyp z431130b; have hwall : 1 + nm.size + wtV v + wtS ns + wtXs az = wtX (.mk 3 nm v ns az) := by simp only [wtX])
 | (guard_hyp z431130c; have hwall : 1 + nm.size + wtV v + wtS ns + wtXs az = wtX (.mk 5 nm v ns az) := by simp only [wtX])
 | (guard_hyp z431130d; have hwall : 1 + nm.size + wtV v + wtS ns + wtXs az = wtX (.mk 6 nm v ns az) := by simp only [wtX])
 | (guard_hyp z431130e; have hwall : 1 + nm.size + wtV v + wtS ns + wtXs az = wtX (.mk 1 nm v ns az) := by simp only [wtX])
 | (have hwall : 1 + nm.size + wtV v + wtS ns + wtXs az = wtX (.mk 2 nm v ns az) := by simp only [wtX])
 have hwv : 1 ≤ wtV v := by cases v; unfold wtV; omega
 obtain ⟨n, hn⟩ := nam ns.length
 rw [hn] at hNA hX0 ⊢
 obtain ⟨m, hm⟩ := nam az.length
 rw [hm] at hXA hX0 ⊢
 have hm0 : m ≤ 4194304 := by have := wtXs_len az; omega
 first
 | (guard_hyp z431130a; obtain ⟨W0, u0, hW0, hu0, hsz, hbd0, hbe, hwr, hce⟩ := box_kp w hB hbld [.int .i64 13, .string nm, .int .i64 k, .bool bo, .int .i64 i, .string s, .slice la l9.length lc, .slice ka ks.length kc, .slice na n nc, .slice xa m xc] 36 (by decide))
 | (guard_hyp z431130b; obtain ⟨W0, u0, hW0, hu0, hsz, hbd0, hbe, hwr, hce⟩ := box_kp w hB hbld [.int .i64 3, .string nm, .int .i64 k, .bool bo, .int .i64 i, .string s, .slice la l9.length lc, .slice ka ks.length kc, .slice na n nc, .slice xa m xc] 36 (by decide))
 | (guard_hyp z431130c; obtain ⟨W0, u0, hW0, hu0, hsz, hbd0, hbe, hwr, hce⟩ := box_kp w hB hbld [.int .i64 5, .string nm, .int .i64 k, .bool bo, .int .i64 i, .string s, .slice la l9.length lc, .slice ka ks.length kc, .slice na n nc, .slice xa m xc] 36 (by decide))
 | (guard_hyp z431130d; obtain ⟨W0, u0, hW0, hu0, hsz, hbd0, hbe, hwr, hce⟩ := box_kp w hB hbld [.int .i64 6, .string nm, .int .i64 k, .bool bo, .int .i64 i, .string s, .slice la l9.length lc, .slice ka ks.length kc, .slice na n nc, .slice xa m xc] 36 (by decide))
 | (guard_hyp z431130e; obtain ⟨W0, u0, hW0, hu0, hsz, hbd0, hbe, hwr, hce⟩ := box_kp w hB hbld [.int .i64 1, .string nm, .int .i64 k, .bool bo, .int .i64 i, .string s, .slice la l9.length lc, .slice ka ks.length kc, .slice na n nc, .slice xa m xc] 36 (by decide))
 | (obtain ⟨W0, u0, hW0, hu0, hsz, hbd0, hbe, hwr, hce⟩ := box_kp w hB hbld [.int .i64 2, .string nm, .int .i64 k, .bool bo, .int .i64 i, .string s, .slice la l9.length lc, .slice ka ks.length kc, .slice na n nc, .slice xa m xc] 36 (by decide))
 obtain ⟨e0, e1, e2, e3, e4, e5, e6, e7, e8, e9⟩ := ge10 hce
 obtain ⟨x0, x1, x2, x3, x4, x5, x6, x7, x8, x9⟩ := gx10 hce u0
 rw [← hu0, ← hW0] at x0 x1 x2 x3 x4 x5 x6 x7 x8 x9
 first
 |(
  guard_hyp z431130a
  have HCL := Lib.hid (kp_grow u0 hsz hbd0 (sclose_any _ 13 nm v ns az rfl _ Bm u0.w (IsX.below (hbe u0) hBm _ _ hX0) (by omega)))
  obtain ⟨c, hc⟩ := nam (closeB 13 nm))
 |(
  guard_hyp z431130b
  have HCL := Lib.hid (kp_grow u0 hsz hbd0 (sclose_any _ 3 nm v ns az rfl _ Bm u0.w (IsX.below (hbe u0) hBm _ _ hX0) (by omega)))
  obtain ⟨c, hc⟩ := nam (closeB 3 nm))
 |(
  guard_hyp z431130c
  have HCL := Lib.hid (kp_grow u0 hsz hbd0 (sclose_any _ 5 nm v ns az rfl _ Bm u0.w (IsX.below (hbe u0) hBm _ _ hX0) (by omega)))
  obtain ⟨c, hc⟩ := nam (closeB 5 nm))
 |(
  guard_hyp z431130d
  have HCL := Lib.hid (kp_grow u0 hsz hbd0 (sclose_any _ 6 nm v ns az rfl _ Bm u0.w (IsX.below (hbe u0) hBm _ _ hX0) (by omega)))
  obtain ⟨c, hc⟩ := nam (closeB 6 nm))
 |(
  guard_hyp z431130e
  have HCL := Lib.hid (kp_grow u0 hsz hbd0 (sclose_any _ 1 nm v ns az rfl _ Bm u0.w (IsX.below (hbe u0) hBm _ _ hX0) (by omega)))
  obtain ⟨c, hc⟩ := nam (closeB 1 nm))
 |(
  have HCL := Lib.hid (kp_grow u0 hsz hbd0 (sclose_any _ 2 nm v ns az rfl _ Bm u0.w (IsX.below (hbe u0) hBm _ _ hX0) (by omega)))
  obtain ⟨c, hc⟩ := nam (closeB 2 nm))
 rw [hc] at HCL
 have HWB := Lib.hid (fun (x : Nat) (hx0 : x < 256) (v : Kp B b W0) (Lc : List UInt8) (hbl : Bld B b Lc v.w) (hx : Lc.length + 1 ≤ 140737488355328) => kp_write v (bld_byte B b Lc x v.w hbl hx (Nat.le_trans hB (hbe v).size) hx0))
 have HWS := Lib.hid (fun (x : ByteArray) (v : Kp B b W0) (Lc : List UInt8) (hbl : Bld B b Lc v.w) (hx : Lc.length + x.size ≤ 140737488355328) => kp_write v (bld_string B b Lc x v.w hbl hx (Nat.le_trans hB (hbe v).size)))
 first
 |(
  guard_hyp z431130a
  have hS : (nm ++ ⟨#[40]⟩ : ByteArray).size = nm.size + 1 := by simp; rfl
  have hSL : (nm ++ ⟨#[40]⟩ : ByteArray).data.toList = nm.data.toList ++ [40] := by rw [ba_app]
  have HSL := Lib.hid hSL
  have HS := Lib.hid hS
  clear hSL
  have HRW := Lib.hid (fun (u : Kp B b W0) (Lc : List UInt8) (hbl : Bld B b Lc u.w) (hLc : Lc.length + (nm.size + 1) + 1 + 2 + 64 * wtXs az ≤ 70368744177664) => kp_write u (row_of d H az xa xc (nm ++ ⟨#[40]⟩) ⟨#[41]⟩ Bm B b Lc u.w (hAZ.below (hbe u) hBm (fun _ _ h => IsX.below (hbe u) hBm _ _ h)) (by rw [hm]; exact hXA) hBm h0 (Nat.le_trans hB (hbe u).size) hbl (hML.kp (hbe u) h0) hdp hwxs (by rw [hS]; exact hLc)))
  rw [hm] at HRW
  have HRL := Lib.hid (row_len az)
  obtain ⟨X, hX⟩ := nam (bodyX 13 nm v ns (textXs az))
  have HX : Hid ((nm.data.toList ++ [40]) ++ rowX az ++ [41] = X) := Lib.hid (by rw [← hX]; unfold bodyX; rw [if_neg (ng 13 1), if_neg (ng 13 2), if_neg (ng 13 3), if_neg (ng 13 4), if_neg (ng 13 15), if_neg (ng 13 7), if_neg (ng 13 5), if_neg (ng 13 6), if_neg (ng 13 8), if_neg (ng 13 9), if_neg (ng 13 11), if_neg (ng 13 12), if_neg (ng 13 10), if_neg (ng 13 14)]; rw [snd_textXs]; rfl)
  have hY := @needX_yes need 13 nm v ns az
  have hN := @needX_no need 13 nm v ns az)
 |(
  guard_hyp z431130d
  have hlen : n = m := by simp only [Bool.and_eq_true, beq_iff_eq] at hnm; omega
  have HPR := Lib.hid (fun (u : Kp B b W0) (Lc : List UInt8) (hbl : Bld B b Lc u.w) (hLc : Lc.length + 16 + 6 * wtS ns + 64 * wtXs az ≤ 70368744177664) => kp_write u (props_of d H ns az na xa nc xc Bm B b Lc u.w (hNS.below (hbe u) hBm) (by rw [hn]; exact hNA) (hAZ.below (hbe u) hBm (fun _ _ h => IsX.below (hbe u) hBm _ _ h)) (by rw [hm]; exact hXA) (by rw [hn, hm]; exact hlen) hBm h0 (Nat.le_trans hB (hbe u).size) hbl (hML.kp (hbe u) h0) hdp hwxs hks hLc))
  rw [hn, hm] at HPR
  have HRL := Lib.hid (props_len ns az)
  have hbu : Program.built Tryz.prog 206 [(0, Value.slice na n nc), (1, Value.slice xa m xc)] = some #[.slice na n nc, .slice xa m xc] := by kernel_rfl
  clear hlen
  obtain ⟨X, hX⟩ := nam (bodyX 6 nm v ns (textXs az))
  have HX : Hid (propsX ns az = X) := Lib.hid (by rw [← hX]; unfold bodyX; rw [if_neg (ng 6 1), if_neg (ng 6 2), if_neg (ng 6 3), if_neg (ng 6 4), if_neg (ng 6 15), if_neg (ng 6 7), if_neg (ng 6 5), if_pos rfl]; rw [snd_textXs]; rfl)
  have hY := @needX_yes need 6 nm v ns az
  have hN := @needX_no need 6 nm v ns az)
 |(
  guard_hyp z431130c
  have HRW := Lib.hid (fun (u : Kp B b W0) (Lc : List UInt8) (hbl : Bld B b Lc u.w) (hLc : Lc.length + 1 + 1 + 2 + 64 * wtXs az ≤ 70368744177664) => kp_write u (row_of d H az xa xc ⟨#[91]⟩ ⟨#[93]⟩ Bm B b Lc u.w (hAZ.below (hbe u) hBm (fun _ _ h => IsX.below (hbe u) hBm _ _ h)) (by rw [hm]; exact hXA) hBm h0 (Nat.le_trans hB (hbe u).size) hbl (hML.kp (hbe u) h0) hdp hwxs (by rw [show (ByteArray.mk #[91]).size = 1 from rfl]; exact hLc)))
  rw [hm] at HRW
  have HRL := Lib.hid (row_len az)
  obtain ⟨X, hX⟩ := nam (bodyX 5 nm v ns (textXs az))
  have HX : Hid ([91] ++ rowX az ++ [93] = X) := Lib.hid (by rw [← hX]; unfold bodyX; rw [if_neg (ng 5 1), if_neg (ng 5 2), if_neg (ng 5 3), if_neg (ng 5 4), if_neg (ng 5 15), if_neg (ng 5 7), if_pos rfl]; rw [snd_textXs]; rfl)
  have hY := @needX_yes need 5 nm v ns az
  have hN := @needX_no need 5 nm v ns az)
 |(
  guard_hyp z431130e
  obtain ⟨T, hT⟩ := nam (showV v)
  have hmay : MayE v := litB_may (by simp only [Bool.and_eq_true] at hnm; exact hnm.2.2)
  have hTl : T.length + 2 ≤ 32 * wtV v := by rw [← hT]; exact showV_len v
  have HSH := Lib.hid (fun (u : Kp B b W0) (Lc : List UInt8) (hbl : Bld B b Lc u.w) => kp_grow u hsz hbl (show_any v _ Bm u.w (IsV.below (hbe u) hBm _ _ hV) (Nat.le_trans hBm (Nat.le_trans hB (hbe u).size)) hmay (by omega)))
  rw [hT] at HSH
  have hTs : (strOf T).size = T.length := strOf_size T
  have HTL := Lib.hid hTl
  have HTS := Lib.hid hTs
  clear hTl hmay
  obtain ⟨X, hX⟩ := nam (bodyX 1 nm v ns (textXs az))
  have HX : Hid (T = X) := Lib.hid (by rw [← hX]; unfold bodyX; rw [if_pos rfl]; exact hT.symm)
  have hY := @needX_yes need 1 nm v ns az
  have hN := @needX_no need 1 nm v ns az)
 |(
  guard_hyp z431130b
  have hS : (⟨#[36]⟩ ++ nm : ByteArray).size = 1 + nm.size := by simp; rfl
  have hSL : (⟨#[36]⟩ ++ nm : ByteArray).data.toList = [36] ++ nm.data.toList := by rw [ba_app]
  have HSL := Lib.hid hSL
  have HS := Lib.hid hS
  clear hSL
  obtain ⟨X, hX⟩ := nam (bodyX 3 nm v ns (textXs az))
  have HX : Hid ([36] ++ nm.data.toList = X) := Lib.hid (by rw [← hX]; unfold bodyX; rw [if_neg (ng 3 1), if_neg (ng 3 2), if_pos rfl])
  have hY := @needX_yes need 3 nm v ns az
  have hN := @needX_no need 3 nm v ns az)
 |(
  obtain ⟨X, hX⟩ := nam (bodyX 2 nm v ns (textXs az))
  have HX : Hid (nm.data.toList = X) := Lib.hid (by rw [← hX]; unfold bodyX; rw [if_neg (ng 2 1), if_pos rfl])
  have hY := @needX_yes need 2 nm v ns az
  have hN := @needX_no need 2 nm v ns az)
 rw [hX] at hY hN
 rw [hc] at hY hN
 first
 | (guard_hyp z431130a; obtain ⟨q, hq⟩ := nam (needX need (.mk 13 nm v ns az)))
 | (guard_hyp z431130b; obtain ⟨q, hq⟩ := nam (needX need (.mk 3 nm v ns az)))
 | (guard_hyp z431130c; obtain ⟨q, hq⟩ := nam (needX need (.mk 5 nm v ns az)))
 | (guard_hyp z431130d; obtain ⟨q, hq⟩ := nam (needX need (.mk 6 nm v ns az)))
 | (guard_hyp z431130e; obtain ⟨q, hq⟩ := nam (needX need (.mk 1 nm v ns az)))
 | (obtain ⟨q, hq⟩ := nam (needX need (.mk 2 nm v ns az)))
 rw [hq] at hY hN ⊢
 have HY := Lib.hid hY
 have HN := Lib.hid hN
 first
 | (guard_hyp z431130a; obtain ⟨wa, hwa⟩ := nam (wtX (.mk 13 nm v ns az)))
 | (guard_hyp z431130b; obtain ⟨wa, hwa⟩ := nam (wtX (.mk 3 nm v ns az)))
 | (guard_hyp z431130c; obtain ⟨wa, hwa⟩ := nam (wtX (.mk 5 nm v ns az)))
 | (guard_hyp z431130d; obtain ⟨wa, hwa⟩ := nam (wtX (.mk 6 nm v ns az)))
 | (guard_hyp z431130e; obtain ⟨wa, hwa⟩ := nam (wtX (.mk 1 nm v ns az)))
 | (obtain ⟨wa, hwa⟩ := nam (wtX (.mk 2 nm v ns az)))
 rw [hwa] at hl hwall hw
 obtain ⟨HW, HLL, HU0, HW0, HWR, HB0⟩ := hd6 hwall hl hu0 hW0 hwr hbd0
 have hXA2 : SlOk xa m xc := hXA
 have hxc := hXA2.1
 clear hXA hXA2
 have HSZW : Hid (∀ v : Kp B b W0, B ≤ v.w.heap.size) := Lib.hid (fun v => Nat.le_trans hB (hbe v).size)
 clear hl hu0 hW0 hwr hX0 hv hop hV hNA hNS hAZ hbe hce hsz hbd0 hBm h0 hbld hML hw hc hwall hwa hX hY hN hq hdeep hnm hdp hwxs hks hn hm
 generalize l9.length = yl at *
 generalize ks.length = yk at *
 by_cases hp : c < need
 ·have hpd : decide (c < need) = true := decide_eq_true hp
  have HP := Lib.hid hp
  clear hp
  go_enter_defers Tryz.func177, Tryz.ntmps177
  go_wp2_with (go_at_call 178; rw [HW0.out, HU0.out]; refine HCL.out.mono ?_; rintro e w2 ⟨rfl, v0, rfl, hbd⟩; have HF := Lib.hid hbd; clear hbd)
  go_upto_region 3 with (go_at_call 24; refine (HWB.out 40 (by omega) _ _ HF.out (by have := HLL.out; have := HW.out; omega)).mono ?_; rintro e w2 ⟨rfl, v1, rfl, hbd⟩; have HF0 := Lib.hid hbd; clear hbd)
  go_step
  go_step
  go_step
  first | go_step | go_values | go_upon | go_in
  refine wpList_defer v1.w ?h1 24 (.tmp 12) (.const (.int .u8 41)) #[71, 5] (.pointer (some ⟨b, 0, none⟩)) (.int .u8 41) ?hop ?hx ?hy ?hd ?hz ?hK
  case hop => exact rfl
  case h1 => exact rfl
  case hd => exact rfl
  case hz => exact rfl
  case hy => exact rfl
  case hx => kernel_rfl
  dsimp only
  obtain ⟨L1, hL1⟩ := nam (l ++ [UInt8.ofNat 40])
  have HL1 : Hid (L1.length ≤ l.length + 1) := Lib.hid (by rw [← hL1]; simp)
  have HLQ : Hid (l ++ [40] = L1) := Lib.hid hL1
  rw [hL1] at HF0
  clear hL1
  first
  |(
   guard_hyp z431130e
   go_wp2_with (go_at_call 179; refine (HSH.out _ _ HF0.out).mono ?_; rintro e w2 ⟨rfl, v1b, rfl, hbd⟩; have HF1 := Lib.hid hbd; clear hbd)
   go_wp2_with (go_at_call 26; refine (HWS.out _ _ _ HF1.out (by have := HLL.out; have := HW.out; have := HL1.out; have := HTL.out; rw [HTS.out]; omega)).mono ?_; rintro e w2 ⟨rfl, v2, rfl, hbd⟩; have HE := Lib.hid hbd; rw [strOf_data] at HE; clear hbd))
  |(
   guard_hyp z431130b
   go_wp2_with (go_at_call 26; refine (HWS.out _ _ _ HF0.out (by have := HLL.out; have := HW.out; have := HL1.out; rw [HS.out]; omega)).mono ?_; rintro e w2 ⟨rfl, v2, rfl, hbd⟩; have HE := Lib.hid hbd; clear hbd)
   rw [HSL.out] at HE)
  | (guard_hyp z431130a; go_wp2_with (go_at_call 180; refine (HRW.out _ _ HF0.out (by have := HLL.out; have := HW.out; have := HL1.out; omega)).mono ?_; rintro e w2 ⟨rfl, v2, rfl, hbd⟩; have HE := Lib.hid hbd; rw [HSL.out] at HE; clear hbd))
  | (guard_hyp z431130f; go_wp2_with (go_at_call 26; refine (HWS.out _ _ _ HF0.out (by have := HLL.out; have := HW.out; have := HL1.out; omega)).mono ?_; rintro e w2 ⟨rfl, v2, rfl, hbd⟩; have HE := Lib.hid hbd; clear hbd))
  | (guard_hyp z431130c; go_wp2_with (go_at_call 180; refine (HRW.out _ _ HF0.out (by have := HLL.out; have := HW.out; have := HL1.out; omega)).mono ?_; rintro e w2 ⟨rfl, v2, rfl, hbd⟩; have HE := Lib.hid hbd; clear hbd))
  | (go_wp2_with (go_at_call 181; refine (HPR.out _ _ HF0.out (by have := HLL.out; have := HW.out; have := HL1.out; omega)).mono ?_; rintro e w2 ⟨rfl, v2, rfl, hbd⟩; have HE := Lib.hid hbd; clear hbd))
  have hp := HP.out
  refine leaves_cons (f := 24) (args := #[.pointer (some ⟨b, 0, none⟩), .int .u8 41]) (by simp) (by simp [go_sem]) ?_
  first
  | (guard_hyp z431130a; refine (byte_deferred B b _ 41 .returning _ HE.out (by have := HLL.out; have := HW.out; have h8 := HL1.out; have h7 := HRL.out; have h9 : nm.data.toList.length = nm.size := (by simp); have h62 : (ByteArray.mk #[41]).data.toList.length = 1 := rfl; have h61 : (ByteArray.mk #[91]).data.toList.length = 1 := rfl; unfold rowX; simp only [List.length_append, List.length_cons, List.length_nil]; omega) (HSZW.out _) (by omega)).mono ?_)
  | (guard_hyp z431130c; refine (byte_deferred B b _ 41 .returning _ HE.out (by have := HLL.out; have := HW.out; have h8 := HL1.out; have h7 := HRL.out; have h9 : nm.data.toList.length = nm.size := (by simp); have h62 : (ByteArray.mk #[93]).data.toList.length = 1 := rfl; have h61 : (ByteArray.mk #[91]).data.toList.length = 1 := rfl; unfold rowX; simp only [List.length_append, List.length_cons, List.length_nil]; omega) (HSZW.out _) (by omega)).mono ?_)
  | (guard_hyp z431130d; refine (byte_deferred B b _ 41 .returning _ HE.out (by have := HLL.out; have := HW.out; have h8 := HL1.out; have h7 := HRL.out; unfold propsX; simp only [List.length_append, List.length_cons, List.length_nil]; omega) (HSZW.out _) (by omega)).mono ?_)
  | (guard_hyp z431130e; refine (byte_deferred B b _ 41 .returning _ HE.out (by have := HLL.out; have := HW.out; have h8 := HL1.out; have := HTL.out; simp only [List.length_append, List.length_cons, List.length_nil]; omega) (HSZW.out _) (by omega)).mono ?_)
  | (refine (byte_deferred B b _ 41 .returning _ HE.out (by have := HLL.out; have := HW.out; have h8 := HL1.out; simp only [List.length_append, List.length_cons, List.length_nil]; have h9 : nm.data.toList.length = nm.size := (by simp); omega) (HSZW.out _) (by omega)).mono ?_)
  rintro e u' w' ⟨rfl, rfl, hw2⟩
  have hq2 := HY.out hp
  exact ⟨_, results_none rfl _ _ _, rfl, by have h := (HWR.out _ _ HE.out).trans hw2; rw [hq2, ← HX.out]; rw [← HLQ.out] at h; simpa using h⟩
 ·have hpd : decide (c < need) = false := decide_eq_false hp
  have HP := Lib.hid hp
  clear hp
  go_enter_defers Tryz.func177, Tryz.ntmps177
  go_wp2_with (go_at_call 178; rw [HW0.out, HU0.out]; refine HCL.out.mono ?_; rintro e w2 ⟨rfl, v0, rfl, hbd⟩; have HF := Lib.hid hbd; clear hbd)
  obtain ⟨L1, hL1⟩ := nam l
  have HL1 : Hid (L1.length ≤ l.length + 1) := Lib.hid (by rw [← hL1]; omega)
  have HF0 := HF
  have HLQ : Hid (l = L1) := Lib.hid hL1
  rw [hL1] at HF0
  clear hL1
  first
  |(
   guard_hyp z431130e
   go_wp2_with (go_at_call 179; refine (HSH.out _ _ HF0.out).mono ?_; rintro e w2 ⟨rfl, v1b, rfl, hbd⟩; have HF1 := Lib.hid hbd; clear hbd)
   go_wp2_with (go_at_call 26; refine (HWS.out _ _ _ HF1.out (by have := HLL.out; have := HW.out; have := HL1.out; have := HTL.out; rw [HTS.out]; omega)).mono ?_; rintro e w2 ⟨rfl, v2, rfl, hbd⟩; have HE := Lib.hid hbd; rw [strOf_data] at HE; clear hbd))
  |(
   guard_hyp z431130b
   go_wp2_with (go_at_call 26; refine (HWS.out _ _ _ HF0.out (by have := HLL.out; have := HW.out; have := HL1.out; rw [HS.out]; omega)).mono ?_; rintro e w2 ⟨rfl, v2, rfl, hbd⟩; have HE := Lib.hid hbd; clear hbd)
   rw [HSL.out] at HE)
  | (guard_hyp z431130a; go_wp2_with (go_at_call 180; refine (HRW.out _ _ HF0.out (by have := HLL.out; have := HW.out; have := HL1.out; omega)).mono ?_; rintro e w2 ⟨rfl, v2, rfl, hbd⟩; have HE := Lib.hid hbd; rw [HSL.out] at HE; clear hbd))
  | (guard_hyp z431130f; go_wp2_with (go_at_call 26; refine (HWS.out _ _ _ HF0.out (by have := HLL.out; have := HW.out; have := HL1.out; omega)).mono ?_; rintro e w2 ⟨rfl, v2, rfl, hbd⟩; have HE := Lib.hid hbd; clear hbd))
  | (guard_hyp z431130c; go_wp2_with (go_at_call 180; refine (HRW.out _ _ HF0.out (by have := HLL.out; have := HW.out; have := HL1.out; omega)).mono ?_; rintro e w2 ⟨rfl, v2, rfl, hbd⟩; have HE := Lib.hid hbd; clear hbd))
  | (go_wp2_with (go_at_call 181; refine (HPR.out _ _ HF0.out (by have := HLL.out; have := HW.out; have := HL1.out; omega)).mono ?_; rintro e w2 ⟨rfl, v2, rfl, hbd⟩; have HE := Lib.hid hbd; clear hbd))
  have hp := HP.out
  have hq2 := HN.out hp
  exact ⟨_, results_none rfl _ _ _, rfl, HWR.out _ _ (by rw [hq2, ← HX.out]; have h := HE.out; rw [← HLQ.out] at h; simpa using h)⟩) : P := h
set_option maxHeartbeats 16000000 in
theorem lay_2 (d : Nat) (H : LaySaid d) : LayKind d 2 := by
 have z431130f := trivial
 exact Sg431130
set_option maxHeartbeats 16000000 in
theorem lay_3 (d : Nat) (H : LaySaid d) : LayKind d 3 := by
 have z431130b := trivial
 exact Sg431130
set_option maxRecDepth 100000 in
theorem Sg122022 {P : Prop} (h : P := by
 intro nm v ns az cs Bm B b l need w hX hBm h0 hB hbld hML hdeep hw hl
 have hX0 := hX
 obtain ⟨hnm, hdp⟩ := deep_parts hdeep
 first
 | (guard_hyp z122022c; rw [namedB, if_neg (ng 12 1), if_neg (ng 12 2), if_neg (ng 12 3), if_neg (ng 12 4), if_neg (ng 12 15), if_neg (ng 12 5), if_neg (ng 12 6), if_neg (ng 12 7), if_neg (ng 12 8), if_neg (ng 12 9), if_neg (ng 12 11), if_pos rfl] at hnm)
 | (guard_hyp z122022d; rw [namedB, if_neg (ng 11 1), if_neg (ng 11 2), if_neg (ng 11 3), if_neg (ng 11 4), if_neg (ng 11 15), if_neg (ng 11 5), if_neg (ng 11 6), if_neg (ng 11 7), if_neg (ng 11 8), if_neg (ng 11 9), if_pos rfl] at hnm)
 | (guard_hyp z122022e; rw [namedB, if_neg (ng 9 1), if_neg (ng 9 2), if_neg (ng 9 3), if_neg (ng 9 4), if_neg (ng 9 15), if_neg (ng 9 5), if_neg (ng 9 6), if_neg (ng 9 7), if_neg (ng 9 8), if_pos rfl] at hnm)
 | (guard_hyp z122022f; rw [namedB, if_neg (ng 8 1), if_neg (ng 8 2), if_neg (ng 8 3), if_neg (ng 8 4), if_neg (ng 8 15), if_neg (ng 8 5), if_neg (ng 8 6), if_neg (ng 8 7), if_pos rfl] at hnm)
 | (guard_hyp z122022a; rw [namedB, if_neg (ng 15 1), if_neg (ng 15 2), if_neg (ng 15 3), if_neg (ng 15 4), if_pos rfl] at hnm)
 | (rw [namedB, if_neg (ng 4 1), if_neg (ng 4 2), if_neg (ng 4 3), if_pos rfl] at hnm)
 have hm1 : az.length = 1 := by simp only [Bool.and_eq_true, beq_iff_eq] at hnm; omega
 obtain ⟨t0, rfl⟩ : ∃ t, az = [t] := List.length_eq_one_iff.1 hm1
 clear hm1
 obtain ⟨k, bo, i, s, l9, ks, la, lc, ka, kc, na, nc, xa, xc, hv, rfl, hop, hV, hNA, hXA, hNS, hAZ⟩ := hX.cells
 clear hX
 have hs : nm.size ≤ 4194304 := by simp only [wtX] at hw; omega
 have hks : wtS ns ≤ 4194304 := by simp only [wtX] at hw; omega
 have hwxs : wtXs [t0] ≤ 4194304 := by simp only [wtX] at hw; omega
 first
 | (guard_hyp z122022a; have hwall : 1 + nm.size + wtV v + wtS ns + wtXs [t0] = wtX (.mk 15 nm v ns [t0]) := by simp only [wtX])
 | (guard_hyp z122022c; have hwall : 1 + nm.size + wtV v + wtS ns + wtXs [t0] = wtX (.mk 12 nm v ns [t0]) := by simp only [wtX])
 | (guard_hyp z122022d; have hwall : 1 + nm.size + wtV v + wtS ns + wtXs [t0] = wtX (.mk 11 nm v ns [t0]) := by simp only [wtX])
 | (guard_hyp z122022b; have hwall : 1 + nm.size + wtV v + wtS ns + wtXs [t0] = wtX (.mk 4 nm v ns [t0]) := by simp only [wtX])
 | (guard_hyp z122022e; have hwall : 1 + nm.size + wtV v + wtS ns + wtXs [t0] = wtX (.mk 9 nm v ns [t0]) := by simp only [wtX])
 | (have hwall : 1 + nm.size + wtV v + wtS ns + wtXs [t0] = wtX (.mk 8 nm v ns [t0]) := by simp only [wtX])
 have hwv : 1 ≤ wtV v := by cases v; unfold wtV; omega
 obtain ⟨n, hn⟩ := nam ns.length
 rw [hn] at hNA hX0 ⊢
 first
 | (guard_hyp z122022a; obtain ⟨W0, u0, hW0, hu0, hsz, hbd0, hbe, hwr, hce⟩ := box_kp w hB hbld [.int .i64 15, .string nm, .int .i64 k, .bool bo, .int .i64 i, .string s, .slice la l9.length lc, .slice ka ks.length kc, .slice na n nc, .slice xa 1 xc] 36 (by decide))
 | (guard_hyp z122022c; obtain ⟨W0, u0, hW0, hu0, hsz, hbd0, hbe, hwr, hce⟩ := box_kp w hB hbld [.int .i64 12, .string nm, .int .i64 k, .bool bo, .int .i64 i, .string s, .slice la l9.length lc, .slice ka ks.length kc, .slice na n nc, .slice xa 1 xc] 36 (by decide))
 | (guard_hyp z122022d; obtain ⟨W0, u0, hW0, hu0, hsz, hbd0, hbe, hwr, hce⟩ := box_kp w hB hbld [.int .i64 11, .string nm, .int .i64 k, .bool bo, .int .i64 i, .string s, .slice la l9.length lc, .slice ka ks.length kc, .slice na n nc, .slice xa 1 xc] 36 (by decide))
 | (guard_hyp z122022b; obtain ⟨W0, u0, hW0, hu0, hsz, hbd0, hbe, hwr, hce⟩ := box_kp w hB hbld [.int .i64 4, .string nm, .int .i64 k, .bool bo, .int .i64 i, .string s, .slice la l9.length lc, .slice ka ks.length kc, .slice na n nc, .slice xa 1 xc] 36 (by decide))
 | (guard_hyp z122022e; obtain ⟨W0, u0, hW0, hu0, hsz, hbd0, hbe, hwr, hce⟩ := box_kp w hB hbld [.int .i64 9, .string nm, .int .i64 k, .bool bo, .int .i64 i, .string s, .slice la l9.length lc, .slice ka ks.length kc, .slice na n nc, .slice xa 1 xc] 36 (by decide))
 | (obtain ⟨W0, u0, hW0, hu0, hsz, hbd0, hbe, hwr, hce⟩ := box_kp w hB hbld [.int .i64 8, .string nm, .int .i64 k, .bool bo, .int .i64 i, .string s, .slice la l9.length lc, .slice ka ks.length kc, .slice na n nc, .slice xa 1 xc] 36 (by decide))
 obtain ⟨e0, e1, e2, e3, e4, e5, e6, e7, e8, e9⟩ := ge10 hce
 obtain ⟨x0, x1, x2, x3, x4, x5, x6, x7, x8, x9⟩ := gx10 hce u0
 rw [← hu0, ← hW0] at x0 x1 x2 x3 x4 x5 x6 x7 x8 x9
 first
 |(
  guard_hyp z122022a
  have HCL := Lib.hid (kp_grow u0 hsz hbd0 (sclose_any _ 15 nm v ns [t0] rfl _ Bm u0.w (IsX.below (hbe u0) hBm _ _ hX0) (by omega)))
  obtain ⟨c, hc⟩ := nam (closeB 15 nm))
 |(
  guard_hyp z122022c
  have HCL := Lib.hid (kp_grow u0 hsz hbd0 (sclose_any _ 12 nm v ns [t0] rfl _ Bm u0.w (IsX.below (hbe u0) hBm _ _ hX0) (by omega)))
  obtain ⟨c, hc⟩ := nam (closeB 12 nm))
 |(
  guard_hyp z122022d
  have HCL := Lib.hid (kp_grow u0 hsz hbd0 (sclose_any _ 11 nm v ns [t0] rfl _ Bm u0.w (IsX.below (hbe u0) hBm _ _ hX0) (by omega)))
  obtain ⟨c, hc⟩ := nam (closeB 11 nm))
 |(
  guard_hyp z122022b
  have HCL := Lib.hid (kp_grow u0 hsz hbd0 (sclose_any _ 4 nm v ns [t0] rfl _ Bm u0.w (IsX.below (hbe u0) hBm _ _ hX0) (by omega)))
  obtain ⟨c, hc⟩ := nam (closeB 4 nm))
 |(
  guard_hyp z122022e
  have HCL := Lib.hid (kp_grow u0 hsz hbd0 (sclose_any _ 9 nm v ns [t0] rfl _ Bm u0.w (IsX.below (hbe u0) hBm _ _ hX0) (by omega)))
  obtain ⟨c, hc⟩ := nam (closeB 9 nm))
 |(
  have HCL := Lib.hid (kp_grow u0 hsz hbd0 (sclose_any _ 8 nm v ns [t0] rfl _ Bm u0.w (IsX.below (hbe u0) hBm _ _ hX0) (by omega)))
  obtain ⟨c, hc⟩ := nam (closeB 8 nm))
 rw [hc] at HCL
 have HWB := Lib.hid (fun (x : Nat) (hx0 : x < 256) (v : Kp B b W0) (Lc : List UInt8) (hbl : Bld B b Lc v.w) (hx : Lc.length + 1 ≤ 140737488355328) => kp_write v (bld_byte B b Lc x v.w hbl hx (Nat.le_trans hB (hbe v).size) hx0))
 have HWS := Lib.hid (fun (x : ByteArray) (v : Kp B b W0) (Lc : List UInt8) (hbl : Bld B b Lc v.w) (hx : Lc.length + x.size ≤ 140737488355328) => kp_write v (bld_string B b Lc x v.w hbl hx (Nat.le_trans hB (hbe v).size)))
 obtain ⟨eb, eo, cs0, hxa, heb, hcs0, hx0⟩ := hAZ.at_any (f := Kp.w) (C := B) hBm hbe (j := 0) (t := t0) rfl
 have hc0 : ∀ (u : Kp B b W0) (q : Nat) v, cs0[q]? = some v → u.w.cell? ⟨eb, eo + q, none⟩ = some v := hcs0
 subst hxa
 have HLAY := Lib.hid (fun (t : Ex) (cs : List Value) (need : Int) (Lc : List UInt8) (v : Kp B b W0) (hx : IsX Bm v.w cs t) (hbl : Bld B b Lc v.w) (hd : deepB d t = true) (hwt : wtX t ≤ 4194304) (hLc : Lc.length + 64 * wtX t ≤ 70368744177664) => kp_write v (H t cs Bm B b Lc need v.w hx hBm h0 (Nat.le_trans hB (hbe v).size) hbl (hML.kp (hbe v) h0) hd hwt hLc))
 first
 | (guard_hyp z122022a; have hwt0 : wtX t0 + 1 + nm.size + 1 ≤ wtX (.mk 15 nm v ns [t0]) := by simp only [wtXs] at hwall; omega)
 | (guard_hyp z122022c; have hwt0 : wtX t0 + 1 + nm.size + 1 ≤ wtX (.mk 12 nm v ns [t0]) := by simp only [wtXs] at hwall; omega)
 | (guard_hyp z122022d; have hwt0 : wtX t0 + 1 + nm.size + 1 ≤ wtX (.mk 11 nm v ns [t0]) := by simp only [wtXs] at hwall; omega)
 | (guard_hyp z122022b; have hwt0 : wtX t0 + 1 + nm.size + 1 ≤ wtX (.mk 4 nm v ns [t0]) := by simp only [wtXs] at hwall; omega)
 | (guard_hyp z122022e; have hwt0 : wtX t0 + 1 + nm.size + 1 ≤ wtX (.mk 9 nm v ns [t0]) := by simp only [wtXs] at hwall; omega)
 | (have hwt0 : wtX t0 + 1 + nm.size + 1 ≤ wtX (.mk 8 nm v ns [t0]) := by simp only [wtXs] at hwall; omega)
 have HL0o := Lib.hid (fun need v Lc hbl hLc => HLAY.out t0 cs0 need Lc v (hx0 v) hbl (hdp 0 t0 rfl) (by omega) hLc)
 have HLNo : Hid (∀ need, (needX need t0).length + 2 ≤ 64 * wtX t0) := Lib.hid (fun need => needX_len need t0)
 clear HLAY
 first
 |(
  guard_hyp z122022a
  obtain ⟨K, hK⟩ := nam (keyT nm)
  have hKs : K.size ≤ 4 * nm.size + 2 := by have h1 := keyTL_len nm; unfold keyTL at h1; rw [hK] at h1; simpa using h1
  have hKS : (⟨#[58]⟩ ++ K : ByteArray).size = 1 + K.size := by simp; rfl
  have hKL : (⟨#[58]⟩ ++ K : ByteArray).data.toList = [58] ++ keyTL nm := by rw [ba_app]; unfold keyTL; rw [hK]
  obtain ⟨HKL, HKS, HKs⟩ := hd3 hKL hKS hKs
  have HKK := Lib.hid (fun (u : Kp B b W0) (Lc : List UInt8) (hbl : Bld B b Lc u.w) => kp_grow u hsz hbl (skeyT_any nm u.w (by omega) (hML.kp (hbe u) h0)))
  rw [hK] at HKK
  have hKm : K.size ≤ 140737488355327 := by omega
  have HKTL := Lib.hid (keyTL_len nm)
  clear hK hKL hKs
  obtain ⟨X, hX⟩ := nam (bodyX 15 nm v ns (textXs [t0]))
  have HX : Hid (needX 9 t0 ++ ([58] ++ keyTL nm) = X) := Lib.hid (by rw [← hX]; unfold bodyX; rw [if_neg (ng 15 1), if_neg (ng 15 2), if_neg (ng 15 3), if_neg (ng 15 4), if_pos rfl]; rw [ndT_get (az := [t0]) (i := 0) (t := t0) rfl])
  have hY := @needX_yes need 15 nm v ns [t0]
  have hN := @needX_no need 15 nm v ns [t0])
 |(
  guard_hyp z122022b
  obtain ⟨K, hK⟩ := nam (keyT nm)
  have hKs : K.size ≤ 4 * nm.size + 2 := by have h1 := keyTL_len nm; unfold keyTL at h1; rw [hK] at h1; simpa using h1
  have hKS : (⟨#[46]⟩ ++ K : ByteArray).size = 1 + K.size := by simp; rfl
  have hKL : (⟨#[46]⟩ ++ K : ByteArray).data.toList = [46] ++ keyTL nm := by rw [ba_app]; unfold keyTL; rw [hK]
  obtain ⟨HKL, HKS, HKs⟩ := hd3 hKL hKS hKs
  have HKK := Lib.hid (fun (u : Kp B b W0) (Lc : List UInt8) (hbl : Bld B b Lc u.w) => kp_grow u hsz hbl (skeyT_any nm u.w (by omega) (hML.kp (hbe u) h0)))
  rw [hK] at HKK
  have hKm : K.size ≤ 140737488355327 := by omega
  have HKTL := Lib.hid (keyTL_len nm)
  clear hK hKL hKs
  obtain ⟨X, hX⟩ := nam (bodyX 4 nm v ns (textXs [t0]))
  have HX : Hid (needX 9 t0 ++ ([46] ++ keyTL nm) = X) := Lib.hid (by rw [← hX]; unfold bodyX; rw [if_neg (ng 4 1), if_neg (ng 4 2), if_neg (ng 4 3), if_pos rfl]; rw [ndT_get (az := [t0]) (i := 0) (t := t0) rfl])
  have hY := @needX_yes need 4 nm v ns [t0]
  have hN := @needX_no need 4 nm v ns [t0])
 |(
  guard_hyp z122022c
  obtain ⟨X, hX⟩ := nam (bodyX 12 nm v ns (textXs [t0]))
  have HX : Hid (needX 6 t0 ++ [32, 73, 83, 32, 78, 79, 84, 32, 78, 85, 76, 76] = X) := Lib.hid (by rw [← hX]; unfold bodyX; rw [if_neg (ng 12 1), if_neg (ng 12 2), if_neg (ng 12 3), if_neg (ng 12 4), if_neg (ng 12 15), if_neg (ng 12 7), if_neg (ng 12 5), if_neg (ng 12 6), if_neg (ng 12 8), if_neg (ng 12 9), if_neg (ng 12 11), if_pos rfl]; rw [ndT_get (az := [t0]) (i := 0) (t := t0) rfl])
  have hY := @needX_yes need 12 nm v ns [t0]
  have hN := @needX_no need 12 nm v ns [t0])
 |(
  guard_hyp z122022d
  obtain ⟨X, hX⟩ := nam (bodyX 11 nm v ns (textXs [t0]))
  have HX : Hid (needX 6 t0 ++ [32, 73, 83, 32, 78, 85, 76, 76] = X) := Lib.hid (by rw [← hX]; unfold bodyX; rw [if_neg (ng 11 1), if_neg (ng 11 2), if_neg (ng 11 3), if_neg (ng 11 4), if_neg (ng 11 15), if_neg (ng 11 7), if_neg (ng 11 5), if_neg (ng 11 6), if_neg (ng 11 8), if_neg (ng 11 9), if_pos rfl]; rw [ndT_get (az := [t0]) (i := 0) (t := t0) rfl])
  have hY := @needX_yes need 11 nm v ns [t0]
  have hN := @needX_no need 11 nm v ns [t0])
 |(
  guard_hyp z122022e
  obtain ⟨X, hX⟩ := nam (bodyX 9 nm v ns (textXs [t0]))
  have HX : Hid ([78, 79, 84, 32] ++ needX 4 t0 = X) := Lib.hid (by rw [← hX]; unfold bodyX; rw [if_neg (ng 9 1), if_neg (ng 9 2), if_neg (ng 9 3), if_neg (ng 9 4), if_neg (ng 9 15), if_neg (ng 9 7), if_neg (ng 9 5), if_neg (ng 9 6), if_neg (ng 9 8), if_pos rfl]; rw [ndT_get (az := [t0]) (i := 0) (t := t0) rfl])
  have hY := @needX_yes need 9 nm v ns [t0]
  have hN := @needX_no need 9 nm v ns [t0])
 |(
  obtain ⟨X, hX⟩ := nam (bodyX 8 nm v ns (textXs [t0]))
  have HX : Hid ([45] ++ needX 8 t0 = X) := Lib.hid (by rw [← hX]; unfold bodyX; rw [if_neg (ng 8 1), if_neg (ng 8 2), if_neg (ng 8 3), if_neg (ng 8 4), if_neg (ng 8 15), if_neg (ng 8 7), if_neg (ng 8 5), if_neg (ng 8 6), if_pos rfl]; rw [ndT_get (az := [t0]) (i := 0) (t := t0) rfl])
  have hY := @needX_yes need 8 nm v ns [t0]
  have hN := @needX_no need 8 nm v ns [t0])
 rw [hX] at hY hN
 rw [hc] at hY hN
 first
 | (guard_hyp z122022a; obtain ⟨q, hq⟩ := nam (needX need (.mk 15 nm v ns [t0])))
 | (guard_hyp z122022c; obtain ⟨q, hq⟩ := nam (needX need (.mk 12 nm v ns [t0])))
 | (guard_hyp z122022d; obtain ⟨q, hq⟩ := nam (needX need (.mk 11 nm v ns [t0])))
 | (guard_hyp z122022b; obtain ⟨q, hq⟩ := nam (needX need (.mk 4 nm v ns [t0])))
 | (guard_hyp z122022e; obtain ⟨q, hq⟩ := nam (needX need (.mk 9 nm v ns [t0])))
 | (obtain ⟨q, hq⟩ := nam (needX need (.mk 8 nm v ns [t0])))
 rw [hq] at hY hN ⊢
 have HY := Lib.hid hY
 have HN := Lib.hid hN
 first
 | (guard_hyp z122022a; obtain ⟨wa, hwa⟩ := nam (wtX (.mk 15 nm v ns [t0])))
 | (guard_hyp z122022c; obtain ⟨wa, hwa⟩ := nam (wtX (.mk 12 nm v ns [t0])))
 | (guard_hyp z122022d; obtain ⟨wa, hwa⟩ := nam (wtX (.mk 11 nm v ns [t0])))
 | (guard_hyp z122022b; obtain ⟨wa, hwa⟩ := nam (wtX (.mk 4 nm v ns [t0])))
 | (guard_hyp z122022e; obtain ⟨wa, hwa⟩ := nam (wtX (.mk 9 nm v ns [t0])))
 | (obtain ⟨wa, hwa⟩ := nam (wtX (.mk 8 nm v ns [t0])))
 rw [hwa] at hl hwall hw hwt0
 have HW := Lib.hid hwall
 have HWT0 := Lib.hid hwt0
 have HL0b : Hid (∃ (q0 : Nat) (N0 : Int → List UInt8), (∀ need, (N0 need).length + 2 ≤ 64 * q0) ∧ q0 + 1 + nm.size + 1 ≤ wa ∧ (∀ need, needX need t0 = N0 need) ∧ ∀ (need : Int) (v : Kp B b W0) (Lc : List UInt8), Bld B b Lc v.w → Lc.length + 64 * q0 ≤ 70368744177664 → Calls Tryz.prog 177 #[.pointer (some ⟨b, 0, none⟩), .agg cs0.toArray, .int .i64 need] v.w fun e w'' => e = .returned (.tuple #[]) ∧ ∃ u' : Kp B b W0, w'' = u'.w ∧ Bld B b (Lc ++ N0 need) u'.w) := Lib.hid ⟨wtX t0, fun need => needX need t0, HLNo.out, HWT0.out, fun _ => rfl, fun need v Lc hbl hLc => HL0o.out need v Lc hbl hLc⟩
 obtain ⟨q0, N0, hN0l, hq0, hN0, hL0c⟩ := HL0b.out
 obtain ⟨HN0, HL0, HLN, HQ0⟩ := hd4 hN0 hL0c hN0l hq0
 clear HL0b hN0 hL0c hN0l hq0 hwt0 HWT0 HL0o HLNo
 (try rw [HN0.out] at HX)
 obtain ⟨HLL, HU0, HW0, HWR, HB0⟩ := hd5 hl hu0 hW0 hwr hbd0
 obtain ⟨op0, nm0, v0, ns0, az0⟩ := t0
 obtain ⟨k0, bo0, i0, s0, l0, ks0, la0, lc0, ka0, kc0, na0, nc0, xa0, xc0, -, rfl, -⟩ := (hx0 u0).cells
 have g0_0 : ∀ u : Kp B b W0, u.w.cell? ⟨eb, eo, none⟩ = some (.int .i64 op0) := fun u => hc0 u 0 _ rfl
 have g0_1 := fun (u : Kp B b W0) => hc0 u 1 _ rfl
 have g0_2 := fun (u : Kp B b W0) => hc0 u 2 _ rfl
 have g0_3 := fun (u : Kp B b W0) => hc0 u 3 _ rfl
 have g0_4 := fun (u : Kp B b W0) => hc0 u 4 _ rfl
 have g0_5 := fun (u : Kp B b W0) => hc0 u 5 _ rfl
 have g0_6 := fun (u : Kp B b W0) => hc0 u 6 _ rfl
 have g0_7 := fun (u : Kp B b W0) => hc0 u 7 _ rfl
 have g0_8 := fun (u : Kp B b W0) => hc0 u 8 _ rfl
 have g0_9 := fun (u : Kp B b W0) => hc0 u 9 _ rfl
 generalize l0.length = ya0 at *
 generalize ks0.length = yb0 at *
 generalize ns0.length = yc0 at *
 generalize az0.length = yd0 at *
 have hXA2 : SlOk (some ⟨eb, eo, none⟩) 1 xc := hXA
 have hxc := hXA2.1
 clear hXA hXA2
 have HSZW : Hid (∀ v : Kp B b W0, B ≤ v.w.heap.size) := Lib.hid (fun v => Nat.le_trans hB (hbe v).size)
 clear hl hu0 hW0 hwr hX0 hv hop hV hNA hNS hAZ hbe hce hsz hbd0 hBm h0 hbld hML hw hc hwall hwa hX hY hN hq hdeep hnm hdp hwxs hks hn hcs0 hc0 hx0
 generalize l9.length = yl at *
 generalize ks.length = yk at *
 by_cases hp : c < need
 ·have z399623a := trivial
  exact Sg399623
 ·have z399623b := trivial
  exact Sg399623) : P := h
set_option maxRecDepth 100000 in
theorem Sg399623 {P : Prop} (h : P := by
 first
 | (guard_hyp z399623b; have hpd : decide (c < need) = false := decide_eq_false hp)
 | (have hpd : decide (c < need) = true := decide_eq_true hp)
 have HP := Lib.hid hp
 clear hp
 go_enter_defers Tryz.func177, Tryz.ntmps177
 go_wp2_with (go_at_call 178; rw [HW0.out, HU0.out]; refine HCL.out.mono ?_; rintro e w2 ⟨rfl, v0, rfl, hbd⟩; have HF := Lib.hid hbd; clear hbd)
 first
 |(
  guard_hyp z399623a
  go_upto_region 3 with (go_at_call 24; refine (HWB.out 40 (by omega) _ _ HF.out (by have := HLL.out; have := HW.out; omega)).mono ?_; rintro e w2 ⟨rfl, v1, rfl, hbd⟩; have HF0 := Lib.hid hbd; clear hbd)
  go_step
  go_step
  go_step
  first | go_step | go_values | go_upon | go_in
  refine wpList_defer v1.w ?h1 24 (.tmp 12) (.const (.int .u8 41)) #[71, 5] (.pointer (some ⟨b, 0, none⟩)) (.int .u8 41) ?hop ?hx ?hy ?hd ?hz ?hK
  case hop => exact rfl
  case h1 => exact rfl
  case hd => exact rfl
  case hz => exact rfl
  case hy => exact rfl
  case hx => kernel_rfl
  dsimp only
  obtain ⟨L1, hL1⟩ := nam (l ++ [UInt8.ofNat 40])
  have HL1 : Hid (L1.length ≤ l.length + 1) := Lib.hid (by rw [← hL1]; simp)
  have HLQ : Hid (l ++ [40] = L1) := Lib.hid hL1)
 |(
  obtain ⟨L1, hL1⟩ := nam l
  have HL1 : Hid (L1.length ≤ l.length + 1) := Lib.hid (by rw [← hL1]; omega)
  have HF0 := HF
  have HLQ : Hid (l = L1) := Lib.hid hL1)
 rw [hL1] at HF0
 clear hL1
 first
 |(
  guard_hyp z122022e
  go_wp2_with (go_at_call 26; refine (HWS.out _ _ _ HF0.out (by have := HLL.out; have := HW.out; have := HL1.out; have h6 : (ByteArray.mk #[78, 79, 84, 32]).size = 4 := rfl; rw [h6]; omega)).mono ?_; rintro e w2 ⟨rfl, v1b, rfl, hbd⟩; have HF1 : Hid (Bld B b (L1 ++ [78, 79, 84, 32]) v1b.w) := Lib.hid hbd; clear hbd)
  go_wp2_with (go_at_call 177; refine (HL0.out _ _ _ HF1.out (by have := HLL.out; have := HW.out; have := HL1.out; have := HQ0.out; simp only [List.length_append, List.length_cons, List.length_nil]; omega)).mono ?_; rintro e w2 ⟨rfl, v2, rfl, hbd⟩; have HE := Lib.hid hbd; clear hbd))
 |(
  guard_hyp z122022c
  go_wp2_with (go_at_call 177; refine (HL0.out _ _ _ HF0.out (by have := HLL.out; have := HW.out; have := HL1.out; have := HQ0.out; omega)).mono ?_; rintro e w2 ⟨rfl, v1b, rfl, hbd⟩; have HF1 := Lib.hid hbd; clear hbd)
  go_wp2_with (go_at_call 26; refine (HWS.out _ _ _ HF1.out (by have := HLL.out; have := HW.out; have := HL1.out; have := HQ0.out; have h7 := HLN.out 6; have h6 : (ByteArray.mk #[32, 73, 83, 32, 78, 79, 84, 32, 78, 85, 76, 76]).size = 12 := rfl; rw [h6, List.length_append]; omega)).mono ?_; rintro e w2 ⟨rfl, v2, rfl, hbd⟩; have HE := Lib.hid hbd; clear hbd))
 |(
  guard_hyp z122022d
  go_wp2_with (go_at_call 177; refine (HL0.out _ _ _ HF0.out (by have := HLL.out; have := HW.out; have := HL1.out; have := HQ0.out; omega)).mono ?_; rintro e w2 ⟨rfl, v1b, rfl, hbd⟩; have HF1 := Lib.hid hbd; clear hbd)
  go_wp2_with (go_at_call 26; refine (HWS.out _ _ _ HF1.out (by have := HLL.out; have := HW.out; have := HL1.out; have := HQ0.out; have h7 := HLN.out 6; have h6 : (ByteArray.mk #[32, 73, 83, 32, 78, 85, 76, 76]).size = 8 := rfl; rw [h6, List.length_append]; omega)).mono ?_; rintro e w2 ⟨rfl, v2, rfl, hbd⟩; have HE := Lib.hid hbd; clear hbd))
 |(
  guard_hyp z122022f
  go_wp2_with (go_at_call 24; refine (HWB.out 45 (by omega) _ _ HF0.out (by have := HLL.out; have := HW.out; have := HL1.out; omega)).mono ?_; rintro e w2 ⟨rfl, v1b, rfl, hbd⟩; have HF1 := Lib.hid hbd; clear hbd)
  go_wp2_with (go_at_call 177; refine (HL0.out _ _ _ HF1.out (by have := HLL.out; have := HW.out; have := HL1.out; have := HQ0.out; simp only [List.length_append, List.length_cons, List.length_nil]; omega)).mono ?_; rintro e w2 ⟨rfl, v2, rfl, hbd⟩; have HE := Lib.hid hbd; clear hbd))
 |(
  go_wp2_with (go_at_call 177; refine (HL0.out _ _ _ HF0.out (by have := HLL.out; have := HW.out; have := HL1.out; have := HQ0.out; omega)).mono ?_; rintro e w2 ⟨rfl, v1b, rfl, hbd⟩; have HF1 := Lib.hid hbd; clear hbd)
  go_wp2_with (go_at_call 16; refine (HKK.out _ _ HF1.out).mono ?_; rintro e w2 ⟨rfl, v1c, rfl, hbd⟩; have HF2 := Lib.hid hbd; clear hbd)
  go_wp2_with (go_at_call 26; refine (HWS.out _ _ _ HF2.out (by have := HLL.out; have := HW.out; have := HL1.out; have := HQ0.out; have h7 := HLN.out 9; have := HKs.out; rw [HKS.out, List.length_append]; omega)).mono ?_; rintro e w2 ⟨rfl, v2, rfl, hbd⟩; have HE := Lib.hid hbd; rw [HKL.out] at HE; clear hbd))
 have hp := HP.out
 first
 |(
  guard_hyp z399623a
  refine leaves_cons (f := 24) (args := #[.pointer (some ⟨b, 0, none⟩), .int .u8 41]) (by simp) (by simp [go_sem]) ?_
  first
  | (guard_hyp z122022c; refine (byte_deferred B b _ 41 .returning _ HE.out (by have := HLL.out; have := HW.out; have h8 := HL1.out; have := HQ0.out; have h7 := HLN.out 6; simp only [List.length_append, List.length_cons, List.length_nil]; have h6 : (ByteArray.mk #[32, 73, 83, 32, 78, 79, 84, 32, 78, 85, 76, 76]).data.toList.length = 12 := rfl; omega) (HSZW.out _) (by omega)).mono ?_)
  | (guard_hyp z122022d; refine (byte_deferred B b _ 41 .returning _ HE.out (by have := HLL.out; have := HW.out; have h8 := HL1.out; have := HQ0.out; have h7 := HLN.out 6; simp only [List.length_append, List.length_cons, List.length_nil]; have h6 : (ByteArray.mk #[32, 73, 83, 32, 78, 85, 76, 76]).data.toList.length = 8 := rfl; omega) (HSZW.out _) (by omega)).mono ?_)
  | (guard_hyp z122022e; refine (byte_deferred B b _ 41 .returning _ HE.out (by have := HLL.out; have := HW.out; have h8 := HL1.out; have := HQ0.out; have h7 := HLN.out 4; simp only [List.length_append, List.length_cons, List.length_nil]; omega) (HSZW.out _) (by omega)).mono ?_)
  | (guard_hyp z122022f; refine (byte_deferred B b _ 41 .returning _ HE.out (by have := HLL.out; have := HW.out; have h8 := HL1.out; have := HQ0.out; have h7 := HLN.out 8; simp only [List.length_append, List.length_cons, List.length_nil]; omega) (HSZW.out _) (by omega)).mono ?_)
  | (refine (byte_deferred B b _ 41 .returning _ HE.out (by have := HLL.out; have := HW.out; have h8 := HL1.out; have := HQ0.out; have h7 := HLN.out 9; have := HKTL.out; simp only [List.length_append, List.length_cons, List.length_nil]; omega) (HSZW.out _) (by omega)).mono ?_)
  rintro e u' w' ⟨rfl, rfl, hw2⟩
  have hq2 := HY.out hp
  exact ⟨_, results_none rfl _ _ _, rfl, by have h := (HWR.out _ _ HE.out).trans hw2; rw [hq2, ← HX.out]; rw [← HLQ.out] at h; simpa using h⟩)
 |(
  have hq2 := HN.out hp
  exact ⟨_, results_none rfl _ _ _, rfl, HWR.out _ _ (by rw [hq2, ← HX.out]; have h := HE.out; rw [← HLQ.out] at h; simpa using h)⟩)) : P := h
set_option maxHeartbeats 16000000 in
theorem lay_11 (d : Nat) (H : LaySaid d) : LayKind d 11 := by
 have z122022d := trivial
 exact Sg122022
set_option maxHeartbeats 16000000 in
theorem lay_12 (d : Nat) (H : LaySaid d) : LayKind d 12 := by
 have z122022c := trivial
 exact Sg122022
set_option maxHeartbeats 16000000 in
theorem lay_8 (d : Nat) (H : LaySaid d) : LayKind d 8 := by
 have z122022f := trivial
 exact Sg122022
set_option maxHeartbeats 16000000 in
theorem lay_9 (d : Nat) (H : LaySaid d) : LayKind d 9 := by
 have z122022e := trivial
 exact Sg122022
end Go.Proofs.YtndhpdclpgemfaaGreat

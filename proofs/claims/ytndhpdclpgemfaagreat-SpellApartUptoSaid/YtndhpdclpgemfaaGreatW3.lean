/- Parts X18 of this seat (pruned, scripts that are alike kept once as default arguments: q1, q2, ..). Conditions: each says its own. -/
import Derived.Test.YtndhpdclpgemfaaGreatZ22
import Derived.Test.YtndhpdclpgemfaaGreatW2
namespace Go.Proofs.YtndhpdclpgemfaaGreat
open Go.RowKit Go.Shelf
set_option linter.unusedSimpArgs false
set_option linter.unusedVariables false
set_option maxRecDepth 100000
theorem litB_may {v : Vt} (h : litB v = true) : MayE v := by
 obtain ⟨k, b, i, s, l, ks⟩ := v
 rw [litB, Bool.and_eq_true] at h
 exact MayE.of_may _ _ _ h.1
theorem jn_one (x : List UInt8) : jn [x] = x := by
 have := jn_snoc [] x
 simpa using this
theorem RowR.tail {α : Type} {R : List Value → α → Prop} {size B : Nat} {w : World} {b off : Nat} {t : α} {l : List α} (h : RowR R size B w (some ⟨b, off, none⟩) (t :: l)) : RowR R size B w (some ⟨b, off + size, none⟩) l := by
 intro i x hx
 obtain ⟨b', off', cs, h1, h2, h3, h4, h5⟩ := h (i + 1) x (by simpa using hx)
 injection h1 with h1
 injection h1 with h1 h6
 subst h1 h6
 refine ⟨b, off + size, cs, rfl, h2, h3, fun j v hv => ?_, h5⟩
 have := h4 j v hv
 rwa [show off + ((i + 1) * size + j) = off + size + (i * size + j) from by rw [Nat.add_mul]; omega] at this
set_option maxHeartbeats 16000000 in
theorem lay_1 (d : Nat) (H : LaySaid d) : LayKind d 1 := by
 have z431130e := trivial
 exact Sg431130
set_option maxHeartbeats 16000000 in
theorem lay_4 (d : Nat) (H : LaySaid d) : LayKind d 4 := by
 have z122022b := trivial
 exact Sg122022
set_option maxHeartbeats 16000000 in
theorem lay_15 (d : Nat) (H : LaySaid d) : LayKind d 15 := by
 have z122022a := trivial
 exact Sg122022
set_option maxRecDepth 100000 in
theorem Sg467855 {P : Prop} (h : P := by
 intro nm v ns az cs Bm B b l need w hX hBm h0 hB hbld hML hdeep hw hl
 have hX0 := hX
 obtain ⟨hnm, hdp⟩ := deep_parts hdeep
 first
 | (guard_hyp z467855b; rw [namedB, if_neg (ng 10 1), if_neg (ng 10 2), if_neg (ng 10 3), if_neg (ng 10 4), if_neg (ng 10 15), if_neg (ng 10 5), if_neg (ng 10 6), if_neg (ng 10 7), if_neg (ng 10 8), if_neg (ng 10 9), if_neg (ng 10 11), if_neg (ng 10 12), if_pos rfl] at hnm)
 | (rw [namedB, if_neg (ng 7 1), if_neg (ng 7 2), if_neg (ng 7 3), if_neg (ng 7 4), if_neg (ng 7 15), if_neg (ng 7 5), if_neg (ng 7 6), if_pos rfl] at hnm)
 have hm1 : az.length = 2 := by simp only [Bool.and_eq_true, beq_iff_eq] at hnm; omega
 obtain ⟨t0, t1, rfl⟩ : ∃ t u, az = [t, u] := list2 hm1
 clear hm1
 obtain ⟨k, bo, i, s, l9, ks, la, lc, ka, kc, na, nc, xa, xc, hv, rfl, hop, hV, hNA, hXA, hNS, hAZ⟩ := hX.cells
 clear hX
 have hs : nm.size ≤ 4194304 := by simp only [wtX] at hw; omega
 have hks : wtS ns ≤ 4194304 := by simp only [wtX] at hw; omega
 have hwxs : wtXs [t0, t1] ≤ 4194304 := by simp only [wtX] at hw; omega
 first
 | (guard_hyp z467855b; have hwall : 1 + nm.size + wtV v + wtS ns + wtXs [t0, t1] = wtX (.mk 10 nm v ns [t0, t1]) := by simp only [wtX])
 | (have hwall : 1 + nm.size + wtV v + wtS ns + wtXs [t0, t1] = wtX (.mk 7 nm v ns [t0, t1]) := by simp only [wtX])
 have hwv : 1 ≤ wtV v := by cases v; unfold wtV; omega
 obtain ⟨n, hn⟩ := nam ns.length
 rw [hn] at hNA hX0 ⊢
 first
 | (guard_hyp z467855b; obtain ⟨W0, u0, hW0, hu0, hsz, hbd0, hbe, hwr, hce⟩ := box_kp w hB hbld [.int .i64 10, .string nm, .int .i64 k, .bool bo, .int .i64 i, .string s, .slice la l9.length lc, .slice ka ks.length kc, .slice na n nc, .slice xa 2 xc] 36 (by decide))
 | (obtain ⟨W0, u0, hW0, hu0, hsz, hbd0, hbe, hwr, hce⟩ := box_kp w hB hbld [.int .i64 7, .string nm, .int .i64 k, .bool bo, .int .i64 i, .string s, .slice la l9.length lc, .slice ka ks.length kc, .slice na n nc, .slice xa 2 xc] 36 (by decide))
 obtain ⟨e0, e1, e2, e3, e4, e5, e6, e7, e8, e9⟩ := ge10 hce
 obtain ⟨x0, x1, x2, x3, x4, x5, x6, x7, x8, x9⟩ := gx10 hce u0
 rw [← hu0, ← hW0] at x0 x1 x2 x3 x4 x5 x6 x7 x8 x9
 first
 |(
  guard_hyp z467855b
  have HCL := Lib.hid (kp_grow u0 hsz hbd0 (sclose_any _ 10 nm v ns [t0, t1] rfl _ Bm u0.w (IsX.below (hbe u0) hBm _ _ hX0) (by omega)))
  obtain ⟨c, hc⟩ := nam (closeB 10 nm))
 |(
  have HCL := Lib.hid (kp_grow u0 hsz hbd0 (sclose_any _ 7 nm v ns [t0, t1] rfl _ Bm u0.w (IsX.below (hbe u0) hBm _ _ hX0) (by omega)))
  obtain ⟨c, hc⟩ := nam (closeB 7 nm))
 rw [hc] at HCL
 have HWB := Lib.hid (fun (x : Nat) (hx0 : x < 256) (v : Kp B b W0) (Lc : List UInt8) (hbl : Bld B b Lc v.w) (hx : Lc.length + 1 ≤ 140737488355328) => kp_write v (bld_byte B b Lc x v.w hbl hx (Nat.le_trans hB (hbe v).size) hx0))
 have HWS := Lib.hid (fun (x : ByteArray) (v : Kp B b W0) (Lc : List UInt8) (hbl : Bld B b Lc v.w) (hx : Lc.length + x.size ≤ 140737488355328) => kp_write v (bld_string B b Lc x v.w hbl hx (Nat.le_trans hB (hbe v).size)))
 obtain ⟨eb, eo, cs0, hxa, heb, hcs0, hx0⟩ := hAZ.at_any (f := Kp.w) (C := B) hBm hbe (j := 0) (t := t0) rfl
 have hc0 : ∀ (u : Kp B b W0) (q : Nat) v, cs0[q]? = some v → u.w.cell? ⟨eb, eo + q, none⟩ = some v := hcs0
 obtain ⟨eb1, eo1, cs1, hxa1, -, hcs1, hx1⟩ := hAZ.at_any (f := Kp.w) (C := B) hBm hbe (j := 1) (t := t1) rfl
 have hxa2 := hxa.symm.trans hxa1
 injection hxa2 with hxa2
 injection hxa2 with hxa2 hxa3
 subst hxa2 hxa3
 have hc1 : ∀ (u : Kp B b W0) (q : Nat) v, cs1[q]? = some v → u.w.cell? ⟨eb, eo + 10 + q, none⟩ = some v := hcs1
 subst hxa
 have HLAY := Lib.hid (fun (t : Ex) (cs : List Value) (need : Int) (Lc : List UInt8) (v : Kp B b W0) (hx : IsX Bm v.w cs t) (hbl : Bld B b Lc v.w) (hd : deepB d t = true) (hwt : wtX t ≤ 4194304) (hLc : Lc.length + 64 * wtX t ≤ 70368744177664) => kp_write v (H t cs Bm B b Lc need v.w hx hBm h0 (Nat.le_trans hB (hbe v).size) hbl (hML.kp (hbe v) h0) hd hwt hLc))
 first
 | (guard_hyp z467855b; have hwt0 : wtX t0 + 1 + nm.size + 1 ≤ wtX (.mk 10 nm v ns [t0, t1]) := by simp only [wtXs] at hwall; omega)
 | (have hwt0 : wtX t0 + 1 + nm.size + 1 ≤ wtX (.mk 7 nm v ns [t0, t1]) := by simp only [wtXs] at hwall; omega)
 have HL0o := Lib.hid (fun need v Lc hbl hLc => HLAY.out t0 cs0 need Lc v (hx0 v) hbl (hdp 0 t0 rfl) (by omega) hLc)
 have HLNo : Hid (∀ need, (needX need t0).length + 2 ≤ 64 * wtX t0) := Lib.hid (fun need => needX_len need t0)
 clear HLAY
 first
 |(
  guard_hyp z467855a
  have hwt1 : wtX t0 + wtX t1 + 2 ≤ wtX (.mk 7 nm v ns [t0, t1]) := by simp only [wtXs] at hwall; omega
  have hX1' : SlOk (some ⟨eb, eo + 10, none⟩) 1 (xc - 1) := ⟨⟨by have h := hXA.1.1; simp at h; omega, by have h := hXA.1.2; omega⟩, fun h => by cases h⟩
  have HRW := Lib.hid (fun (u : Kp B b W0) (Lc : List UInt8) (hbl : Bld B b Lc u.w) (hLc : Lc.length + 1 + 1 + 2 + 64 * wtXs [t1] ≤ 70368744177664) => kp_write u (row_of d H [t1] (some ⟨eb, eo + 10, none⟩) (xc - 1) ⟨#[91]⟩ ⟨#[93]⟩ Bm B b Lc u.w (hAZ.tail.below (hbe u) hBm (fun _ _ h => IsX.below (hbe u) hBm _ _ h)) hX1' hBm h0 (Nat.le_trans hB (hbe u).size) hbl (hML.kp (hbe u) h0) (fun j t ht => hdp (j + 1) t (by simpa using ht)) (by simp only [wtXs] at hwxs ⊢; omega) hLc))
  rw [show rowX [t1] = textX t1 from jn_one _] at HRW
  have hl1 := textX_len t1
  have HW1 : Hid (wtXs [t1] = wtX t1) := Lib.hid (by simp [wtXs])
  obtain ⟨Y, hYY⟩ := nam (textX t1)
  rw [hYY] at HRW hl1
  obtain ⟨q1, hq1⟩ := nam (wtX t1)
  rw [hq1] at HW1 hl1 hwt1
  obtain ⟨HWT1, HL1L, HYY⟩ := hd3 hwt1 hl1 hYY
  clear hX1' hwt1 hl1 hq1
  have HQ01 : Hid (wtX t0 + q1 + 2 ≤ wtX (.mk 7 nm v ns [t0, t1])) := HWT1
  obtain ⟨X, hX⟩ : ∃ X, bodyX 7 nm v ns (textXs [t0, t1]) = X := ⟨_, rfl⟩
  have HX : Hid (needX 9 t0 ++ ([91] ++ Y ++ [93]) = X) := Lib.hid (by rw [← hX]; unfold bodyX; rw [if_neg (ng 7 1), if_neg (ng 7 2), if_neg (ng 7 3), if_neg (ng 7 4), if_neg (ng 7 15), if_pos rfl]; rw [ndT_get (az := [t0, t1]) (i := 0) (t := t0) rfl, ← hYY]; rfl)
  have hY := @needX_yes need 7 nm v ns [t0, t1]
  have hN := @needX_no need 7 nm v ns [t0, t1])
 |(
  have HBO := Lib.hid (fun (u : Kp B b W0) (Lc : List UInt8) (hbl : Bld B b Lc u.w) (hLc : Lc.length + 64 * (1 + nm.size + (wtX t0 + wtX t1)) ≤ 70368744177664) => kp_write u (both_of d H nm v ns t0 t1 _ Bm B b Lc u.w (IsX.below (hbe u) hBm _ _ hX0) hBm h0 (Nat.le_trans hB (hbe u).size) hbl (hML.kp (hbe u) h0) (hdp 0 t0 rfl) (hdp 1 t1 rfl) hw hLc))
  have hpp : 1 + nm.size + (wtX t0 + wtX t1) + 1 ≤ wtX (.mk 10 nm v ns [t0, t1]) := by simp only [wtXs] at hwall; omega
  obtain ⟨pp, hppe⟩ := nam (1 + nm.size + (wtX t0 + wtX t1))
  rw [hppe] at HBO hpp
  clear hppe
  obtain ⟨Y, hYY⟩ : ∃ Y, bodyX 10 nm v ns (textXs [t0, t1]) = Y := ⟨_, rfl⟩
  rw [hYY] at HBO
  have hYl : Y.length + 4 ≤ 64 * wtX (.mk 10 nm v ns [t0, t1]) := by rw [← hYY, ← textX_eq]; exact textX_len _
  have HPP := Lib.hid hpp
  have HYL := Lib.hid hYl
  clear hpp hYl
  obtain ⟨X, hX⟩ : ∃ X, bodyX 10 nm v ns (textXs [t0, t1]) = X := ⟨_, rfl⟩
  have HX : Hid (Y = X) := Lib.hid (by rw [← hX]; exact hYY.symm)
  have hY := @needX_yes need 10 nm v ns [t0, t1]
  have hN := @needX_no need 10 nm v ns [t0, t1])
 rw [hX] at hY hN
 rw [hc] at hY hN
 first
 | (guard_hyp z467855b; obtain ⟨q, hq⟩ : ∃ q, needX need (.mk 10 nm v ns [t0, t1]) = q := ⟨_, rfl⟩)
 | (obtain ⟨q, hq⟩ : ∃ q, needX need (.mk 7 nm v ns [t0, t1]) = q := ⟨_, rfl⟩)
 rw [hq] at hY hN ⊢
 have HY := Lib.hid hY
 have HN := Lib.hid hN
 first
 |(
  guard_hyp z467855b
  obtain ⟨wa, hwa⟩ : ∃ wa, wtX (.mk 10 nm v ns [t0, t1]) = wa := ⟨_, rfl⟩
  rw [hwa] at hl hwall hw hwt0 HPP HYL)
 |(
  obtain ⟨wa, hwa⟩ : ∃ wa, wtX (.mk 7 nm v ns [t0, t1]) = wa := ⟨_, rfl⟩
  rw [hwa] at hl hwall hw hwt0 HQ01)
 have HW := Lib.hid hwall
 have HWT0 := Lib.hid hwt0
 first
 |(
  guard_hyp z467855a
  have HL0b : Hid (∃ (q0 : Nat) (N0 : Int → List UInt8), (∀ need, (N0 need).length + 2 ≤ 64 * q0) ∧ q0 + 1 + nm.size + 1 ≤ wa ∧ q0 + q1 + 2 ≤ wa ∧ (∀ need, needX need t0 = N0 need) ∧ ∀ (need : Int) (v : Kp B b W0) (Lc : List UInt8), Bld B b Lc v.w → Lc.length + 64 * q0 ≤ 70368744177664 → Calls Tryz.prog 177 #[.pointer (some ⟨b, 0, none⟩), .agg cs0.toArray, .int .i64 need] v.w fun e w'' => e = .returned (.tuple #[]) ∧ ∃ u' : Kp B b W0, w'' = u'.w ∧ Bld B b (Lc ++ N0 need) u'.w) := Lib.hid ⟨wtX t0, fun need => needX need t0, HLNo.out, HWT0.out, HQ01.out, fun _ => rfl, fun need v Lc hbl hLc => HL0o.out need v Lc hbl hLc⟩
  obtain ⟨q0, N0, hN0l, hq0, hqq, hN0, hL0c⟩ := HL0b.out
  have HQQ := Lib.hid hqq
  clear hqq)
 |(
  have HL0b : Hid (∃ (q0 : Nat) (N0 : Int → List UInt8), (∀ need, (N0 need).length + 2 ≤ 64 * q0) ∧ q0 + 1 + nm.size + 1 ≤ wa ∧ (∀ need, needX need t0 = N0 need) ∧ ∀ (need : Int) (v : Kp B b W0) (Lc : List UInt8), Bld B b Lc v.w → Lc.length + 64 * q0 ≤ 70368744177664 → Calls Tryz.prog 177 #[.pointer (some ⟨b, 0, none⟩), .agg cs0.toArray, .int .i64 need] v.w fun e w'' => e = .returned (.tuple #[]) ∧ ∃ u' : Kp B b W0, w'' = u'.w ∧ Bld B b (Lc ++ N0 need) u'.w) := Lib.hid ⟨wtX t0, fun need => needX need t0, HLNo.out, HWT0.out, fun _ => rfl, fun need v Lc hbl hLc => HL0o.out need v Lc hbl hLc⟩
  obtain ⟨q0, N0, hN0l, hq0, hN0, hL0c⟩ := HL0b.out)
 obtain ⟨HN0, HL0, HLN, HQ0⟩ := hd4 hN0 hL0c hN0l hq0
 clear HL0b hN0 hL0c hN0l hq0 hwt0 HWT0 HL0o HLNo
 (try rw [HN0.out] at HX)
 obtain ⟨HLL, HU0, HW0, HWR, HB0⟩ := hd5 hl hu0 hW0 hwr hbd0
 obtain ⟨op0, nm0, v0, ns0, az0⟩ := t0
 obtain ⟨k0, bo0, i0, s0, l0, ks0, la0, lc0, ka0, kc0, na0, nc0, xa0, xc0, -, rfl, -⟩ := (hx0 u0).cells
 have g0_0 : ∀ u : Kp B b W0, u.w.cell? ⟨eb, eo, none⟩ = some (.int .i64 op0) := fun u => hc0 u 0 _ rfl
 have g0_1 := fun (u : Kp B b W0) => hc0 u 1 _ rfl
 have g0_2 := fun (u : Kp B b W0) => hc0 u 2 _ rfl
 have g0_3 := fun (u : Kp B b W0) => hc0 u 3 _ rfl
 have g0_4 := fun (u : Kp B b W0) => hc0 u 4 _ rfl
 have g0_5 := fun (u : Kp B b W0) => hc0 u 5 _ rfl
 have g0_6 := fun (u : Kp B b W0) => hc0 u 6 _ rfl
 have g0_7 := fun (u : Kp B b W0) => hc0 u 7 _ rfl
 have g0_8 := fun (u : Kp B b W0) => hc0 u 8 _ rfl
 have g0_9 := fun (u : Kp B b W0) => hc0 u 9 _ rfl
 generalize l0.length = ya0 at *
 generalize ks0.length = yb0 at *
 generalize ns0.length = yc0 at *
 generalize az0.length = yd0 at *
 have hXA2 : SlOk (some ⟨eb, eo, none⟩) 2 xc := hXA
 have hxc := hXA2.1
 clear hXA hXA2
 have HSZW : Hid (∀ v : Kp B b W0, B ≤ v.w.heap.size) := Lib.hid (fun v => Nat.le_trans hB (hbe v).size)
 first
 | (guard_hyp z467855b; clear hl hu0 hW0 hwr hX0 hv hop hV hNA hNS hAZ hbe hce hsz hbd0 hBm h0 hbld hML hw hc hwall hwa hX hYY hY hN hq hdeep hnm hdp hwxs hks hn hcs0 hc0 hx0 hcs1 hc1 hx1 hxa1)
 | (clear hl hu0 hW0 hwr hX0 hv hop hV hNA hNS hAZ hbe hce hsz hbd0 hBm h0 hbld hML hw hc hwall hwa hX hY hN hq hdeep hnm hdp hwxs hks hn hcs0 hc0 hx0 hcs1 hc1 hx1 hxa1)
 generalize l9.length = yl at *
 generalize ks.length = yk at *
 by_cases hp : c < need
 ·have hpd : decide (c < need) = true := decide_eq_true hp
  have HP := Lib.hid hp
  clear hp
  go_enter_defers Tryz.func177, Tryz.ntmps177
  go_wp2_with (go_at_call 178; rw [HW0.out, HU0.out]; refine HCL.out.mono ?_; rintro e w2 ⟨rfl, v0, rfl, hbd⟩; have HF := Lib.hid hbd; clear hbd)
  go_upto_region 3 with (go_at_call 24; refine (HWB.out 40 (by omega) _ _ HF.out (by have := HLL.out; have := HW.out; omega)).mono ?_; rintro e w2 ⟨rfl, v1, rfl, hbd⟩; have HF0 := Lib.hid hbd; clear hbd)
  go_step
  go_step
  go_step
  first | go_step | go_values | go_upon | go_in
  refine wpList_defer v1.w ?h1 24 (.tmp 12) (.const (.int .u8 41)) #[71, 5] (.pointer (some ⟨b, 0, none⟩)) (.int .u8 41) ?hop ?hx ?hy ?hd ?hz ?hK
  case hop => exact rfl
  case h1 => exact rfl
  case hd => exact rfl
  case hz => exact rfl
  case hy => exact rfl
  case hx => kernel_rfl
  dsimp only
  obtain ⟨L1, hL1⟩ := nam (l ++ [UInt8.ofNat 40])
  have HL1 : Hid (L1.length ≤ l.length + 1) := Lib.hid (by rw [← hL1]; simp)
  have HLQ : Hid (l ++ [40] = L1) := Lib.hid hL1
  rw [hL1] at HF0
  clear hL1
  first
  |(
   guard_hyp z467855a
   go_wp2_with (go_at_call 177; refine (HL0.out _ _ _ HF0.out (by have := HLL.out; have := HW.out; have := HL1.out; have := HQ0.out; omega)).mono ?_; rintro e w2 ⟨rfl, v1b, rfl, hbd⟩; have HF1 := Lib.hid hbd; clear hbd)
   go_wp2_with (go_at_call 180; refine (HRW.out _ _ HF1.out (by have := HLL.out; have := HW.out; have := HL1.out; have := HQ0.out; have h7 := HLN.out 9; have := HW1.out; have := HQQ.out; rw [List.length_append]; omega)).mono ?_; rintro e w2 ⟨rfl, v2, rfl, hbd⟩; have HE := Lib.hid hbd; clear hbd))
  | (go_wp2_with (go_at_call 182; refine (HBO.out _ _ HF0.out (by have := HLL.out; have := HW.out; have := HL1.out; have := HPP.out; omega)).mono ?_; rintro e w2 ⟨rfl, v2, rfl, hbd⟩; have HE := Lib.hid hbd; clear hbd))
  have hp := HP.out
  refine leaves_cons (f := 24) (args := #[.pointer (some ⟨b, 0, none⟩), .int .u8 41]) (by simp) (by simp [go_sem]) ?_
  first
  | (guard_hyp z467855a; refine (byte_deferred B b _ 41 .returning _ HE.out (by have := HLL.out; have := HW.out; have h8 := HL1.out; have := HQ0.out; have h7 := HLN.out 9; have := HL1L.out; have := HQQ.out; have h61 : (ByteArray.mk #[91]).data.toList.length = 1 := rfl; have h62 : (ByteArray.mk #[93]).data.toList.length = 1 := rfl; simp only [List.length_append, List.length_cons, List.length_nil]; omega) (HSZW.out _) (by omega)).mono ?_)
  | (refine (byte_deferred B b _ 41 .returning _ HE.out (by have := HLL.out; have := HW.out; have h8 := HL1.out; have h7 := HYL.out; simp only [List.length_append, List.length_cons, List.length_nil]; omega) (HSZW.out _) (by omega)).mono ?_)
  rintro e u' w' ⟨rfl, rfl, hw2⟩
  have hq2 := HY.out hp
  exact ⟨_, results_none rfl _ _ _, rfl, by have h := (HWR.out _ _ HE.out).trans hw2; rw [hq2, ← HX.out]; rw [← HLQ.out] at h; simpa using h⟩
 ·have hpd : decide (c < need) = false := decide_eq_false hp
  have HP := Lib.hid hp
  clear hp
  go_enter_defers Tryz.func177, Tryz.ntmps177
  go_wp2_with (go_at_call 178; rw [HW0.out, HU0.out]; refine HCL.out.mono ?_; rintro e w2 ⟨rfl, v0, rfl, hbd⟩; have HF := Lib.hid hbd; clear hbd)
  obtain ⟨L1, hL1⟩ := nam l
  have HL1 : Hid (L1.length ≤ l.length + 1) := Lib.hid (by rw [← hL1]; omega)
  have HF0 := HF
  have HLQ : Hid (l = L1) := Lib.hid hL1
  rw [hL1] at HF0
  clear hL1
  first
  |(
   guard_hyp z467855a
   go_wp2_with (go_at_call 177; refine (HL0.out _ _ _ HF0.out (by have := HLL.out; have := HW.out; have := HL1.out; have := HQ0.out; omega)).mono ?_; rintro e w2 ⟨rfl, v1b, rfl, hbd⟩; have HF1 := Lib.hid hbd; clear hbd)
   go_wp2_with (go_at_call 180; refine (HRW.out _ _ HF1.out (by have := HLL.out; have := HW.out; have := HL1.out; have := HQ0.out; have h7 := HLN.out 9; have := HW1.out; have := HQQ.out; rw [List.length_append]; omega)).mono ?_; rintro e w2 ⟨rfl, v2, rfl, hbd⟩; have HE := Lib.hid hbd; clear hbd))
  | (go_wp2_with (go_at_call 182; refine (HBO.out _ _ HF0.out (by have := HLL.out; have := HW.out; have := HL1.out; have := HPP.out; omega)).mono ?_; rintro e w2 ⟨rfl, v2, rfl, hbd⟩; have HE := Lib.hid hbd; clear hbd))
  have hp := HP.out
  have hq2 := HN.out hp
  exact ⟨_, results_none rfl _ _ _, rfl, HWR.out _ _ (by rw [hq2, ← HX.out]; have h := HE.out; rw [← HLQ.out] at h; simpa using h)⟩) : P := h
set_option maxHeartbeats 16000000 in
theorem lay_7 (d : Nat) (H : LaySaid d) : LayKind d 7 := by
 have z467855a := trivial
 exact Sg467855
set_option maxHeartbeats 16000000 in
theorem lay_5 (d : Nat) (H : LaySaid d) : LayKind d 5 := by
 have z431130c := trivial
 exact Sg431130
set_option maxHeartbeats 16000000 in
theorem lay_13 (d : Nat) (H : LaySaid d) : LayKind d 13 := by
 have z431130a := trivial
 exact Sg431130
set_option maxHeartbeats 16000000 in
theorem lay_14b (d : Nat) (H : LaySaid d) (nm : ByteArray) (v : Vt) (ns : List ByteArray) (az : List Ex) (hne : az.length ≠ 0) (cs : List Value) (Bm B b : Nat) (l : List UInt8) (need : Int) (w : World) (hX : IsX Bm w cs (.mk 14 nm v ns az)) (hBm : Bm ≤ B) (h0 : 0 < B) (hB : B ≤ w.heap.size) (hbld : Bld B b l w) (hML : ML w) (hdeep : deepB (d + 1) (.mk 14 nm v ns az) = true) (hw : wtX (.mk 14 nm v ns az) ≤ 4194304) (hl : l.length + 64 * wtX (.mk 14 nm v ns az) ≤ 70368744177664) :
    Calls Tryz.prog 177 #[.pointer (some ⟨b, 0, none⟩), .agg cs.toArray, .int .i64 need] w fun e w' => e = .returned (.tuple #[]) ∧ Wrote B b (l ++ needX need (.mk 14 nm v ns az)) w w' := by
  skip -- hBm h0 hB hbld hML hdeep hw hl
  have hX0 := hX
  obtain ⟨hnm, hdp⟩ := deep_parts hdeep
  rw [namedB, if_neg (ng 14 1), if_neg (ng 14 2), if_neg (ng 14 3), if_neg (ng 14 4), if_neg (ng 14 15), if_neg (ng 14 5), if_neg (ng 14 6), if_neg (ng 14 7), if_neg (ng 14 8), if_neg (ng 14 9), if_neg (ng 14 11), if_neg (ng 14 12), if_neg (ng 14 10), if_neg (ng 14 13), if_pos rfl] at hnm
  obtain ⟨k, bo, i, s, l9, ks, la, lc, ka, kc, na, nc, xa, xc, hv, rfl, hop, hV, hNA, hXA, hNS, hAZ⟩ := hX.cells
  clear hX
  have hs : nm.size ≤ 4194304 := by simp only [wtX] at hw; omega
  have hks : wtS ns ≤ 4194304 := by simp only [wtX] at hw; omega
  have hwxs : wtXs az ≤ 4194304 := by simp only [wtX] at hw; omega
  have hwall : 1 + nm.size + wtV v + wtS ns + wtXs az = wtX (.mk 14 nm v ns az) := by simp only [wtX]
  have hwv : 1 ≤ wtV v := by cases v; unfold wtV; omega
  obtain ⟨n, hn⟩ := nam ns.length
  rw [hn] at hNA hX0 ⊢
  obtain ⟨m, hm⟩ := nam az.length
  rw [hm] at hXA hX0 ⊢
  have hmz : m ≠ 0 := by rw [← hm]; exact hne
  have hm0 : m ≤ 4194304 := by have := wtXs_len az; omega
  obtain ⟨W0, u0, hW0, hu0, hsz, hbd0, hbe, hwr, hce⟩ := box_kp w hB hbld [.int .i64 14, .string nm, .int .i64 k, .bool bo, .int .i64 i, .string s, .slice la l9.length lc, .slice ka ks.length kc, .slice na n nc, .slice xa m xc] 36 (by decide)
  obtain ⟨e0, e1, e2, e3, e4, e5, e6, e7, e8, e9⟩ := ge10 hce
  obtain ⟨x0, x1, x2, x3, x4, x5, x6, x7, x8, x9⟩ := gx10 hce u0
  rw [← hu0, ← hW0] at x0 x1 x2 x3 x4 x5 x6 x7 x8 x9
  have HCL := Lib.hid (kp_grow u0 hsz hbd0 (sclose_any _ 14 nm v ns az rfl _ Bm u0.w (IsX.below (hbe u0) hBm _ _ hX0) (by omega)))
  obtain ⟨c, hc⟩ := nam (closeB 14 nm)
  rw [hc] at HCL
  have HWB := Lib.hid (fun (x : Nat) (hx0 : x < 256) (v : Kp B b W0) (Lc : List UInt8) (hbl : Bld B b Lc v.w) (hx : Lc.length + 1 ≤ 140737488355328) => kp_write v (bld_byte B b Lc x v.w hbl hx (Nat.le_trans hB (hbe v).size) hx0))
  have HWS := Lib.hid (fun (x : ByteArray) (v : Kp B b W0) (Lc : List UInt8) (hbl : Bld B b Lc v.w) (hx : Lc.length + x.size ≤ 140737488355328) => kp_write v (bld_string B b Lc x v.w hbl hx (Nat.le_trans hB (hbe v).size)))
  have hS : (nm ++ ⟨#[40]⟩ : ByteArray).size = nm.size + 1 := by simp; rfl
  have hSL : (nm ++ ⟨#[40]⟩ : ByteArray).data.toList = nm.data.toList ++ [40] := by rw [ba_app]
  have HSL := Lib.hid hSL
  have HS := Lib.hid hS
  clear hSL
  have hz1 : ((m : Int) == 0) = false := by simp; omega
  have HRW := Lib.hid (fun (u : Kp B b W0) (Lc : List UInt8) (hbl : Bld B b Lc u.w) (hLc : Lc.length + (nm.size + 1) + 1 + 2 + 64 * wtXs az ≤ 70368744177664) => kp_write u (row_of d H az xa xc (nm ++ ⟨#[40]⟩) ⟨#[41]⟩ Bm B b Lc u.w (hAZ.below (hbe u) hBm (fun _ _ h => IsX.below (hbe u) hBm _ _ h)) (by rw [hm]; exact hXA) hBm h0 (Nat.le_trans hB (hbe u).size) hbl (hML.kp (hbe u) h0) hdp hwxs (by rw [hS]; exact hLc)))
  rw [hm] at HRW
  have HRL := Lib.hid (row_len az)
  obtain ⟨X, hX⟩ := nam (bodyX 14 nm v ns (textXs az))
  have HX : Hid ((nm.data.toList ++ [40]) ++ rowX az ++ [41] = X) := Lib.hid (by rw [← hX]; unfold bodyX; rw [if_neg (ng 14 1), if_neg (ng 14 2), if_neg (ng 14 3), if_neg (ng 14 4), if_neg (ng 14 15), if_neg (ng 14 7), if_neg (ng 14 5), if_neg (ng 14 6), if_neg (ng 14 8), if_neg (ng 14 9), if_neg (ng 14 11), if_neg (ng 14 12), if_neg (ng 14 10), if_pos rfl]; rw [if_neg (by rw [textXs_len, hm]; exact hmz), snd_textXs]; rfl)
  have hY := @needX_yes need 14 nm v ns az
  have hN := @needX_no need 14 nm v ns az
  rw [hX] at hY hN
  rw [hc] at hY hN
  obtain ⟨q, hq⟩ := nam (needX need (.mk 14 nm v ns az))
  rw [hq] at hY hN ⊢
  have HY := Lib.hid hY
  have HN := Lib.hid hN
  obtain ⟨wa, hwa⟩ := nam (wtX (.mk 14 nm v ns az))
  rw [hwa] at hl hwall hw
  obtain ⟨HW, HLL, HU0, HW0, HWR, HB0⟩ := hd6 hwall hl hu0 hW0 hwr hbd0
  have hXA2 : SlOk xa m xc := hXA
  have hxc := hXA2.1
  clear hXA hXA2
  have HSZW : Hid (∀ v : Kp B b W0, B ≤ v.w.heap.size) := Lib.hid (fun v => Nat.le_trans hB (hbe v).size)
  clear hl hu0 hW0 hwr hX0 hv hop hV hNA hNS hAZ hbe hce hsz hbd0 hBm h0 hbld hML hw hc hwall hwa hX hY hN hq hdeep hnm hdp hwxs hks hn hm hmz
  generalize l9.length = yl at *
  generalize ks.length = yk at *
  by_cases hp : c < need
  · have hpd : decide (c < need) = true := decide_eq_true hp
    have HP := Lib.hid hp
    clear hp
    go_enter_defers Tryz.func177, Tryz.ntmps177
    go_wp2_with (go_at_call 178; rw [HW0.out, HU0.out]; refine HCL.out.mono ?_; rintro e w2 ⟨rfl, v0, rfl, hbd⟩; have HF := Lib.hid hbd; clear hbd)
    go_upto_region 3 with (go_at_call 24; refine (HWB.out 40 (by omega) _ _ HF.out (by have := HLL.out; have := HW.out; omega)).mono ?_; rintro e w2 ⟨rfl, v1, rfl, hbd⟩; have HF0 := Lib.hid hbd; clear hbd)
    go_step
    go_step
    go_step
    first | go_step | go_values | go_upon | go_in
    refine wpList_defer v1.w ?h1 24 (.tmp 12) (.const (.int .u8 41)) #[71, 5] (.pointer (some ⟨b, 0, none⟩)) (.int .u8 41) ?hop ?hx ?hy ?hd ?hz ?hK
    case hop => exact rfl
    case h1 => exact rfl
    case hd => exact rfl
    case hz => exact rfl
    case hy => exact rfl
    case hx => kernel_rfl
    dsimp only
    obtain ⟨L1, hL1⟩ := nam (l ++ [UInt8.ofNat 40])
    have HL1 : Hid (L1.length ≤ l.length + 1) := Lib.hid (by rw [← hL1]; simp)
    have HLQ : Hid (l ++ [40] = L1) := Lib.hid hL1
    rw [hL1] at HF0
    clear hL1
    go_wp2_with (go_at_call 180; refine (HRW.out _ _ HF0.out (by have := HLL.out; have := HW.out; have := HL1.out; omega)).mono ?_; rintro e w2 ⟨rfl, v2, rfl, hbd⟩; have HE := Lib.hid hbd; rw [HSL.out] at HE; clear hbd)
    have hp := HP.out
    refine leaves_cons (f := 24) (args := #[.pointer (some ⟨b, 0, none⟩), .int .u8 41]) (by simp) (by simp [go_sem]) ?_
    refine (byte_deferred B b _ 41 .returning _ HE.out (by have := HLL.out; have := HW.out; have h8 := HL1.out; have h7 := HRL.out; have h9 : nm.data.toList.length = nm.size := (by simp); have h62 : (ByteArray.mk #[41]).data.toList.length = 1 := rfl; have h61 : (ByteArray.mk #[91]).data.toList.length = 1 := rfl; unfold rowX; simp only [List.length_append, List.length_cons, List.length_nil]; omega) (HSZW.out _) (by omega)).mono ?_
    rintro e u' w' ⟨rfl, rfl, hw2⟩
    have hq2 := HY.out hp
    exact ⟨_, results_none rfl _ _ _, rfl, by have h := (HWR.out _ _ HE.out).trans hw2; rw [hq2, ← HX.out]; rw [← HLQ.out] at h; simpa using h⟩
  · have hpd : decide (c < need) = false := decide_eq_false hp
    have HP := Lib.hid hp
    clear hp
    go_enter_defers Tryz.func177, Tryz.ntmps177
    go_wp2_with (go_at_call 178; rw [HW0.out, HU0.out]; refine HCL.out.mono ?_; rintro e w2 ⟨rfl, v0, rfl, hbd⟩; have HF := Lib.hid hbd; clear hbd)
    obtain ⟨L1, hL1⟩ := nam l
    have HL1 : Hid (L1.length ≤ l.length + 1) := Lib.hid (by rw [← hL1]; omega)
    have HF0 := HF
    have HLQ : Hid (l = L1) := Lib.hid hL1
    rw [hL1] at HF0
    clear hL1
    go_wp2_with (go_at_call 180; refine (HRW.out _ _ HF0.out (by have := HLL.out; have := HW.out; have := HL1.out; omega)).mono ?_; rintro e w2 ⟨rfl, v2, rfl, hbd⟩; have HE := Lib.hid hbd; rw [HSL.out] at HE; clear hbd)
    have hp := HP.out
    have hq2 := HN.out hp
    exact ⟨_, results_none rfl _ _ _, rfl, HWR.out _ _ (by rw [hq2, ← HX.out]; have h := HE.out; rw [← HLQ.out] at h; simpa using h)⟩
set_option maxHeartbeats 16000000 in
theorem lay_14a (d : Nat) (H : LaySaid d) (nm : ByteArray) (v : Vt) (ns : List ByteArray) (az : List Ex) (hne : az.length = 0) (cs : List Value) (Bm B b : Nat) (l : List UInt8) (need : Int) (w : World) (hX : IsX Bm w cs (.mk 14 nm v ns az)) (hBm : Bm ≤ B) (h0 : 0 < B) (hB : B ≤ w.heap.size) (hbld : Bld B b l w) (hML : ML w) (hdeep : deepB (d + 1) (.mk 14 nm v ns az) = true) (hw : wtX (.mk 14 nm v ns az) ≤ 4194304) (hl : l.length + 64 * wtX (.mk 14 nm v ns az) ≤ 70368744177664) :
    Calls Tryz.prog 177 #[.pointer (some ⟨b, 0, none⟩), .agg cs.toArray, .int .i64 need] w fun e w' => e = .returned (.tuple #[]) ∧ Wrote B b (l ++ needX need (.mk 14 nm v ns az)) w w' := by
  skip -- hBm h0 hB hbld hML hdeep hw hl
  have hX0 := hX
  obtain ⟨hnm, hdp⟩ := deep_parts hdeep
  rw [namedB, if_neg (ng 14 1), if_neg (ng 14 2), if_neg (ng 14 3), if_neg (ng 14 4), if_neg (ng 14 15), if_neg (ng 14 5), if_neg (ng 14 6), if_neg (ng 14 7), if_neg (ng 14 8), if_neg (ng 14 9), if_neg (ng 14 11), if_neg (ng 14 12), if_neg (ng 14 10), if_neg (ng 14 13), if_pos rfl] at hnm
  obtain ⟨k, bo, i, s, l9, ks, la, lc, ka, kc, na, nc, xa, xc, hv, rfl, hop, hV, hNA, hXA, hNS, hAZ⟩ := hX.cells
  clear hX
  have hs : nm.size ≤ 4194304 := by simp only [wtX] at hw; omega
  have hks : wtS ns ≤ 4194304 := by simp only [wtX] at hw; omega
  have hwxs : wtXs az ≤ 4194304 := by simp only [wtX] at hw; omega
  have hwall : 1 + nm.size + wtV v + wtS ns + wtXs az = wtX (.mk 14 nm v ns az) := by simp only [wtX]
  have hwv : 1 ≤ wtV v := by cases v; unfold wtV; omega
  obtain ⟨n, hn⟩ := nam ns.length
  rw [hn] at hNA hX0 ⊢
  obtain ⟨m, hm⟩ := nam az.length
  rw [hm] at hXA hX0 ⊢
  have hmz : m = 0 := by rw [← hm]; exact hne
  subst hmz
  obtain ⟨W0, u0, hW0, hu0, hsz, hbd0, hbe, hwr, hce⟩ := box_kp w hB hbld [.int .i64 14, .string nm, .int .i64 k, .bool bo, .int .i64 i, .string s, .slice la l9.length lc, .slice ka ks.length kc, .slice na n nc, .slice xa 0 xc] 36 (by decide)
  obtain ⟨e0, e1, e2, e3, e4, e5, e6, e7, e8, e9⟩ := ge10 hce
  obtain ⟨x0, x1, x2, x3, x4, x5, x6, x7, x8, x9⟩ := gx10 hce u0
  rw [← hu0, ← hW0] at x0 x1 x2 x3 x4 x5 x6 x7 x8 x9
  have HCL := Lib.hid (kp_grow u0 hsz hbd0 (sclose_any _ 14 nm v ns az rfl _ Bm u0.w (IsX.below (hbe u0) hBm _ _ hX0) (by omega)))
  obtain ⟨c, hc⟩ := nam (closeB 14 nm)
  rw [hc] at HCL
  have HWB := Lib.hid (fun (x : Nat) (hx0 : x < 256) (v : Kp B b W0) (Lc : List UInt8) (hbl : Bld B b Lc v.w) (hx : Lc.length + 1 ≤ 140737488355328) => kp_write v (bld_byte B b Lc x v.w hbl hx (Nat.le_trans hB (hbe v).size) hx0))
  have HWS := Lib.hid (fun (x : ByteArray) (v : Kp B b W0) (Lc : List UInt8) (hbl : Bld B b Lc v.w) (hx : Lc.length + x.size ≤ 140737488355328) => kp_write v (bld_string B b Lc x v.w hbl hx (Nat.le_trans hB (hbe v).size)))
  have hS : (nm ++ ⟨#[40, 42, 41]⟩ : ByteArray).size = nm.size + 3 := by simp; rfl
  have hSL : (nm ++ ⟨#[40, 42, 41]⟩ : ByteArray).data.toList = nm.data.toList ++ [40, 42, 41] := by rw [ba_app]
  have HSL := Lib.hid hSL
  have HS := Lib.hid hS
  clear hSL
  obtain ⟨X, hX⟩ := nam (bodyX 14 nm v ns (textXs az))
  have HX : Hid (nm.data.toList ++ [40, 42, 41] = X) := Lib.hid (by rw [← hX]; unfold bodyX; rw [if_neg (ng 14 1), if_neg (ng 14 2), if_neg (ng 14 3), if_neg (ng 14 4), if_neg (ng 14 15), if_neg (ng 14 7), if_neg (ng 14 5), if_neg (ng 14 6), if_neg (ng 14 8), if_neg (ng 14 9), if_neg (ng 14 11), if_neg (ng 14 12), if_neg (ng 14 10), if_pos rfl]; rw [if_pos (by rw [textXs_len, hm])])
  have hY := @needX_yes need 14 nm v ns az
  have hN := @needX_no need 14 nm v ns az
  rw [hX] at hY hN
  rw [hc] at hY hN
  obtain ⟨q, hq⟩ := nam (needX need (.mk 14 nm v ns az))
  rw [hq] at hY hN ⊢
  have HY := Lib.hid hY
  have HN := Lib.hid hN
  obtain ⟨wa, hwa⟩ := nam (wtX (.mk 14 nm v ns az))
  rw [hwa] at hl hwall hw
  obtain ⟨HW, HLL, HU0, HW0, HWR, HB0⟩ := hd6 hwall hl hu0 hW0 hwr hbd0
  have hXA2 : SlOk xa 0 xc := hXA
  have hxc := hXA2.1
  clear hXA hXA2
  have HSZW : Hid (∀ v : Kp B b W0, B ≤ v.w.heap.size) := Lib.hid (fun v => Nat.le_trans hB (hbe v).size)
  clear hl hu0 hW0 hwr hX0 hv hop hV hNA hNS hAZ hbe hce hsz hbd0 hBm h0 hbld hML hw hc hwall hwa hX hY hN hq hdeep hnm hdp hwxs hks hn hm
  generalize l9.length = yl at *
  generalize ks.length = yk at *
  by_cases hp : c < need
  · have hpd : decide (c < need) = true := decide_eq_true hp
    have HP := Lib.hid hp
    clear hp
    go_enter_defers Tryz.func177, Tryz.ntmps177
    go_wp2_with (go_at_call 178; rw [HW0.out, HU0.out]; refine HCL.out.mono ?_; rintro e w2 ⟨rfl, v0, rfl, hbd⟩; have HF := Lib.hid hbd; clear hbd)
    go_upto_region 3 with (go_at_call 24; refine (HWB.out 40 (by omega) _ _ HF.out (by have := HLL.out; have := HW.out; omega)).mono ?_; rintro e w2 ⟨rfl, v1, rfl, hbd⟩; have HF0 := Lib.hid hbd; clear hbd)
    go_step
    go_step
    go_step
    first | go_step | go_values | go_upon | go_in
    refine wpList_defer v1.w ?h1 24 (.tmp 12) (.const (.int .u8 41)) #[71, 5] (.pointer (some ⟨b, 0, none⟩)) (.int .u8 41) ?hop ?hx ?hy ?hd ?hz ?hK
    case hop => exact rfl
    case h1 => exact rfl
    case hd => exact rfl
    case hz => exact rfl
    case hy => exact rfl
    case hx => kernel_rfl
    dsimp only
    obtain ⟨L1, hL1⟩ := nam (l ++ [UInt8.ofNat 40])
    have HL1 : Hid (L1.length ≤ l.length + 1) := Lib.hid (by rw [← hL1]; simp)
    have HLQ : Hid (l ++ [40] = L1) := Lib.hid hL1
    rw [hL1] at HF0
    clear hL1
    go_wp2_with (go_at_call 26; refine (HWS.out _ _ _ HF0.out (by have := HLL.out; have := HW.out; have := HL1.out; rw [HS.out]; omega)).mono ?_; rintro e w2 ⟨rfl, v2, rfl, hbd⟩; have HE := Lib.hid hbd; rw [HSL.out] at HE; clear hbd)
    have hp := HP.out
    refine leaves_cons (f := 24) (args := #[.pointer (some ⟨b, 0, none⟩), .int .u8 41]) (by simp) (by simp [go_sem]) ?_
    refine (byte_deferred B b _ 41 .returning _ HE.out (by have := HLL.out; have := HW.out; have h8 := HL1.out; have h9 : nm.data.toList.length = nm.size := (by simp); simp only [List.length_append, List.length_cons, List.length_nil]; omega) (HSZW.out _) (by omega)).mono ?_
    rintro e u' w' ⟨rfl, rfl, hw2⟩
    have hq2 := HY.out hp
    exact ⟨_, results_none rfl _ _ _, rfl, by have h := (HWR.out _ _ HE.out).trans hw2; rw [hq2, ← HX.out]; rw [← HLQ.out] at h; simpa using h⟩
  · have hpd : decide (c < need) = false := decide_eq_false hp
    have HP := Lib.hid hp
    clear hp
    go_enter_defers Tryz.func177, Tryz.ntmps177
    go_wp2_with (go_at_call 178; rw [HW0.out, HU0.out]; refine HCL.out.mono ?_; rintro e w2 ⟨rfl, v0, rfl, hbd⟩; have HF := Lib.hid hbd; clear hbd)
    obtain ⟨L1, hL1⟩ := nam l
    have HL1 : Hid (L1.length ≤ l.length + 1) := Lib.hid (by rw [← hL1]; omega)
    have HF0 := HF
    have HLQ : Hid (l = L1) := Lib.hid hL1
    rw [hL1] at HF0
    clear hL1
    go_wp2_with (go_at_call 26; refine (HWS.out _ _ _ HF0.out (by have := HLL.out; have := HW.out; have := HL1.out; rw [HS.out]; omega)).mono ?_; rintro e w2 ⟨rfl, v2, rfl, hbd⟩; have HE := Lib.hid hbd; rw [HSL.out] at HE; clear hbd)
    have hp := HP.out
    have hq2 := HN.out hp
    exact ⟨_, results_none rfl _ _ _, rfl, HWR.out _ _ (by rw [hq2, ← HX.out]; have h := HE.out; rw [← HLQ.out] at h; simpa using h)⟩
set_option maxHeartbeats 16000000 in
theorem lay_6 (d : Nat) (H : LaySaid d) : LayKind d 6 := by
 have z431130d := trivial
 exact Sg431130
set_option maxHeartbeats 16000000 in
theorem lay_10 (d : Nat) (H : LaySaid d) : LayKind d 10 := by
 have z467855b := trivial
 exact Sg467855
theorem lay_14 (d : Nat) (H : LaySaid d) : LayKind d 14 := by
 intro nm v ns az cs Bm B b l need w hX hBm h0 hB hbld hML hdeep hw hl
 by_cases hz : az.length = 0
 ·exact lay_14a d H nm v ns az hz cs Bm B b l need w hX hBm h0 hB hbld hML hdeep hw hl
 ·exact lay_14b d H nm v ns az hz cs Bm B b l need w hX hBm h0 hB hbld hML hdeep hw hl
theorem named_no {op : Int} {nm : ByteArray} {v : Vt} {ns : List ByteArray} {az : List Ex} (h : namedB (.mk op nm v ns az) = true) : op = 1 ∨ op = 2 ∨ op = 3 ∨ op = 4 ∨ op = 15 ∨ op = 5 ∨ op = 6 ∨ op = 7 ∨ op = 8 ∨ op = 9 ∨ op = 11 ∨ op = 12 ∨ op = 10 ∨ op = 13 ∨ op = 14 := by
 rw [namedB] at h
 by_cases g1 : op = 1
 ·omega
 by_cases g2 : op = 2
 ·omega
 by_cases g3 : op = 3
 ·omega
 by_cases g4 : op = 4
 ·omega
 by_cases g15 : op = 15
 ·omega
 by_cases g5 : op = 5
 ·omega
 by_cases g6 : op = 6
 ·omega
 by_cases g7 : op = 7
 ·omega
 by_cases g8 : op = 8
 ·omega
 by_cases g9 : op = 9
 ·omega
 by_cases g11 : op = 11
 ·omega
 by_cases g12 : op = 12
 ·omega
 by_cases g10 : op = 10
 ·omega
 by_cases g13 : op = 13
 ·omega
 by_cases g14 : op = 14
 ·omega
 rw [if_neg g1, if_neg g2, if_neg g3, if_neg g4, if_neg g15, if_neg g5, if_neg g6, if_neg g7, if_neg g8, if_neg g9, if_neg g11, if_neg g12, if_neg g10, if_neg g13, if_neg g14] at h
 cases h
theorem lay_any (d : Nat) : LaySaid d := by
 induction d with
 | zero =>
  intro t cs Bm B b l need w hX hBm h0 hB hbld hML hdeep
  rw [deepB] at hdeep
  cases hdeep
 | succ d H =>
  intro t cs Bm B b l need w hX hBm h0 hB hbld hML hdeep hw hl
  obtain ⟨op, nm, v, ns, az⟩ := t
  rcases named_no (deep_parts hdeep).1 with h | h | h | h | h | h | h | h | h | h | h | h | h | h | h
  ·subst h; exact lay_1 d H nm v ns az cs Bm B b l need w hX hBm h0 hB hbld hML hdeep hw hl
  ·subst h; exact lay_2 d H nm v ns az cs Bm B b l need w hX hBm h0 hB hbld hML hdeep hw hl
  ·subst h; exact lay_3 d H nm v ns az cs Bm B b l need w hX hBm h0 hB hbld hML hdeep hw hl
  ·subst h; exact lay_4 d H nm v ns az cs Bm B b l need w hX hBm h0 hB hbld hML hdeep hw hl
  ·subst h; exact lay_15 d H nm v ns az cs Bm B b l need w hX hBm h0 hB hbld hML hdeep hw hl
  ·subst h; exact lay_5 d H nm v ns az cs Bm B b l need w hX hBm h0 hB hbld hML hdeep hw hl
  ·subst h; exact lay_6 d H nm v ns az cs Bm B b l need w hX hBm h0 hB hbld hML hdeep hw hl
  ·subst h; exact lay_7 d H nm v ns az cs Bm B b l need w hX hBm h0 hB hbld hML hdeep hw hl
  ·subst h; exact lay_8 d H nm v ns az cs Bm B b l need w hX hBm h0 hB hbld hML hdeep hw hl
  ·subst h; exact lay_9 d H nm v ns az cs Bm B b l need w hX hBm h0 hB hbld hML hdeep hw hl
  ·subst h; exact lay_11 d H nm v ns az cs Bm B b l need w hX hBm h0 hB hbld hML hdeep hw hl
  ·subst h; exact lay_12 d H nm v ns az cs Bm B b l need w hX hBm h0 hB hbld hML hdeep hw hl
  ·subst h; exact lay_10 d H nm v ns az cs Bm B b l need w hX hBm h0 hB hbld hML hdeep hw hl
  ·subst h; exact lay_13 d H nm v ns az cs Bm B b l need w hX hBm h0 hB hbld hML hdeep hw hl
  ·subst h; exact lay_14 d H nm v ns az cs Bm B b l need w hX hBm h0 hB hbld hML hdeep hw hl
end Go.Proofs.YtndhpdclpgemfaaGreat

/- Parts X44 of this seat (pruned, scripts that are alike kept once as default arguments: q1, q2, ..). Conditions: each says its own. -/
import Derived.Test.YtndhpdclpgemfaaGreatV27
namespace Go.Proofs.YtndhpdclpgemfaaGreat
open Go.RowKit Go.Shelf
set_option linter.unusedSimpArgs false
set_option linter.unusedVariables false
set_option maxRecDepth 100000
def RTextKind (d : Nat) (op : Int) : Prop := ∀ (nm : ByteArray) (v : Vt) (ns : List ByteArray) (az : List Ex) (cs : List Value) (B : Nat) (w : World), IsX B w cs (.mk op nm v ns az) → B ≤ w.heap.size → deepB (d + 1) (.mk op nm v ns az) = true → wtX (.mk op nm v ns az) ≤ 1048576 →
  Calls Tryz.prog 36 #[.agg cs.toArray] w fun e w' => e = .returned (.string (strOf (bodyX op nm v ns (textXs az)))) ∧ Below w.heap.size w w'
set_option maxHeartbeats 32000000 in
theorem rtext_1 (d : Nat) (H : RTextSaid d) : RTextKind d 1 := by
 intro nm v ns az cs B w hX hB hdeep hw
 have hX0 := hX
 obtain ⟨hnm, hdp⟩ := deep_parts hdeep
 rw [namedB, if_pos rfl] at hnm
 obtain ⟨k, bo, i, s, l9, ks, la, lc, ka, kc, na, nc, xa, xc, hv, rfl, hop, hV, hNA, hXA, hNS, hAZ⟩ := hX.cells
 clear hX
 have hs : nm.size ≤ 1048576 := by simp only [wtX] at hw; omega
 have hks : wtS ns ≤ 1048576 := by simp only [wtX] at hw; omega
 have hwxs : wtXs az ≤ 1048576 := by simp only [wtX] at hw; omega
 have hwv : wtV v ≤ 1048576 := by simp only [wtX] at hw; omega
 have hnl : nm.data.toList.length ≤ 1048576 := by have := ba_len nm; omega
 obtain ⟨q, hq⟩ := nam (bodyX 1 nm v ns (textXs az))
 rw [hq]
 have hq2 := hq
 rw [bodyX, if_pos rfl] at hq2
 obtain ⟨n, hn⟩ := nam ns.length
 rw [hn] at hX0 ⊢
 obtain ⟨m, hm⟩ := nam az.length
 rw [hm] at hX0 ⊢
 obtain ⟨W0, u0, hW0, hu0, hsz, hbe, hce⟩ := box_ext w [.int .i64 1, .string nm, .int .i64 k, .bool bo, .int .i64 i, .string s, .slice la l9.length lc, .slice ka ks.length kc, .slice na n nc, .slice xa m xc] 36
 obtain ⟨e0, e1, e2, e3, e4, e5, e6, e7, e8, e9⟩ := ge10 hce
 obtain ⟨x0, x1, x2, x3, x4, x5, x6, x7, x8, x9⟩ := gx10 hce u0
 rw [← hu0, ← hW0] at x0 x1 x2 x3 x4 x5 x6 x7 x8 x9
 have hmay : MayE v := litB_may (by simp only [Bool.and_eq_true] at hnm; exact hnm.2.2)
 have HSH := Lib.hid (fun u : Ext (w.heap.size + 1) W0 => ext_call u hsz (rshow_any v _ B u.w (IsV.below (hbe u) hB _ _ hV) (Nat.le_trans hB (hbe u).size) hmay (by omega)))
 subst hq2
 obtain ⟨HBE, HSZ, HW0, HU0⟩ := hd4 hbe hsz hW0 hu0
 clear hbe hsz hW0 hu0 hce hq hop hV hNA hXA hNS hX0 hn hw hv hdeep hdp hnm hks hwxs hwv hm hAZ  hmay
 go_enter Tryz.func36, Tryz.ntmps36
 go_upto_region 1 with fail
 rw [HW0.out, HU0.out]
 go_wp2_with fail
 refine (HSH.out _).mono ?_
 rintro e w3 ⟨rfl, u3, rfl⟩
 go_wp2_with fail
 go_ret
 exact ⟨by rfl, HBE.out _⟩
theorem Sv862160 {P : Prop} (h : P := by
 intro nm v ns az cs B w hX hB hdeep hw
 have hX0 := hX
 obtain ⟨hnm, hdp⟩ := deep_parts hdeep
 first
 | (guard_hyp z862160a; rw [namedB, if_neg (ng 3 1), if_neg (ng 3 2), if_pos rfl] at hnm)
 | (rw [namedB, if_neg (ng 2 1), if_pos rfl] at hnm)
 obtain ⟨k, bo, i, s, l9, ks, la, lc, ka, kc, na, nc, xa, xc, hv, rfl, hop, hV, hNA, hXA, hNS, hAZ⟩ := hX.cells
 clear hX
 have hs : nm.size ≤ 1048576 := by simp only [wtX] at hw; omega
 have hks : wtS ns ≤ 1048576 := by simp only [wtX] at hw; omega
 have hwxs : wtXs az ≤ 1048576 := by simp only [wtX] at hw; omega
 have hwv : wtV v ≤ 1048576 := by simp only [wtX] at hw; omega
 have hnl : nm.data.toList.length ≤ 1048576 := by have := ba_len nm; omega
 first
 | (guard_hyp z862160a; obtain ⟨q, hq⟩ := nam (bodyX 3 nm v ns (textXs az)))
 | (obtain ⟨q, hq⟩ := nam (bodyX 2 nm v ns (textXs az)))
 rw [hq]
 have hq2 := hq
 first
 | (guard_hyp z862160a; rw [bodyX, if_neg (ng 3 1), if_neg (ng 3 2), if_pos rfl] at hq2)
 | (rw [bodyX, if_neg (ng 2 1), if_pos rfl] at hq2)
 obtain ⟨n, hn⟩ := nam ns.length
 rw [hn] at hX0 ⊢
 obtain ⟨m, hm⟩ := nam az.length
 rw [hm] at hX0 ⊢
 first
 | (guard_hyp z862160a; obtain ⟨W0, u0, hW0, hu0, hsz, hbe, hce⟩ := box_ext w [.int .i64 3, .string nm, .int .i64 k, .bool bo, .int .i64 i, .string s, .slice la l9.length lc, .slice ka ks.length kc, .slice na n nc, .slice xa m xc] 36)
 | (obtain ⟨W0, u0, hW0, hu0, hsz, hbe, hce⟩ := box_ext w [.int .i64 2, .string nm, .int .i64 k, .bool bo, .int .i64 i, .string s, .slice la l9.length lc, .slice ka ks.length kc, .slice na n nc, .slice xa m xc] 36)
 obtain ⟨e0, e1, e2, e3, e4, e5, e6, e7, e8, e9⟩ := ge10 hce
 obtain ⟨x0, x1, x2, x3, x4, x5, x6, x7, x8, x9⟩ := gx10 hce u0
 rw [← hu0, ← hW0] at x0 x1 x2 x3 x4 x5 x6 x7 x8 x9
 first
 |(
  guard_hyp z862160a
  obtain ⟨Ya1, hYa1⟩ : ∃ Y, ([36] : List UInt8) ++ nm.data.toList = Y := ⟨_, rfl⟩
  have hla1 : Ya1.length = 1 + (nm.data.toList).length := by rw [← hYa1, List.length_append]; (first | done | rfl)
  have haa1 : ∀ u, (Op.stringOp .add (⟨#[36]⟩ : ByteArray) nm).run Tryz.prog u = .ok (.string (strOf Ya1)) u := fun u => add2 _ _ _ _ rfl (strOf_toList nm) u (by show 1 + (nm.data.toList).length ≤ 9223372036854775807; omega) hYa1
  have hfin : q = Ya1 := by rw [← hq2, ← hYa1]; (first | done | simp)
  subst hfin
  clear hq2 hYa1)
 |(
  have hfin : strOf q = nm := by rw [← hq2]; exact strOf_toList _
  rw [hfin])
 obtain ⟨HBE, HSZ, HW0, HU0⟩ := hd4 hbe hsz hW0 hu0
 clear hbe hsz hW0 hu0 hce hq hop hV hNA hXA hNS hX0 hn hw hv hdeep hdp hnm hks hwxs hwv hm hAZ
 go_enter Tryz.func36, Tryz.ntmps36
 go_upto_region 1 with fail
 rw [HW0.out, HU0.out]
 go_wp2_with fail
 go_ret
 exact ⟨by rfl, HBE.out _⟩) : P := h
set_option maxHeartbeats 32000000 in
theorem rtext_2 (d : Nat) (H : RTextSaid d) : RTextKind d 2 := Sv862160
set_option maxHeartbeats 32000000 in
theorem rtext_3 (d : Nat) (H : RTextSaid d) : RTextKind d 3 := by
 have z862160a := trivial
 exact Sv862160
theorem Sv829409 {P : Prop} (h : P := by
 intro nm v ns az cs B w hX hB hdeep hw
 have hX0 := hX
 obtain ⟨hnm, hdp⟩ := deep_parts hdeep
 first
 | (guard_hyp z829409a; rw [namedB, if_neg (ng 15 1), if_neg (ng 15 2), if_neg (ng 15 3), if_neg (ng 15 4), if_pos rfl] at hnm)
 | (rw [namedB, if_neg (ng 4 1), if_neg (ng 4 2), if_neg (ng 4 3), if_pos rfl] at hnm)
 have hm1 : az.length = 1 := by simp only [Bool.and_eq_true, beq_iff_eq] at hnm; omega
 obtain ⟨t0, rfl⟩ : ∃ t, az = [t] := List.length_eq_one_iff.1 hm1
 clear hm1
 obtain ⟨k, bo, i, s, l9, ks, la, lc, ka, kc, na, nc, xa, xc, hv, rfl, hop, hV, hNA, hXA, hNS, hAZ⟩ := hX.cells
 clear hX
 have hs : nm.size ≤ 1048576 := by simp only [wtX] at hw; omega
 have hks : wtS ns ≤ 1048576 := by simp only [wtX] at hw; omega
 have hwxs : wtXs [t0] ≤ 1048576 := by simp only [wtX] at hw; omega
 have hwv : wtV v ≤ 1048576 := by simp only [wtX] at hw; omega
 have hnl : nm.data.toList.length ≤ 1048576 := by have := ba_len nm; omega
 first
 | (guard_hyp z829409a; obtain ⟨q, hq⟩ := nam (bodyX 15 nm v ns (textXs [t0])))
 | (obtain ⟨q, hq⟩ := nam (bodyX 4 nm v ns (textXs [t0])))
 rw [hq]
 have hq2 := hq
 first
 | (guard_hyp z829409a; rw [bodyX, if_neg (ng 15 1), if_neg (ng 15 2), if_neg (ng 15 3), if_neg (ng 15 4), if_pos rfl] at hq2)
 | (rw [bodyX, if_neg (ng 4 1), if_neg (ng 4 2), if_neg (ng 4 3), if_pos rfl] at hq2)
 obtain ⟨n, hn⟩ := nam ns.length
 rw [hn] at hX0 ⊢
 first
 | (guard_hyp z829409a; obtain ⟨W0, u0, hW0, hu0, hsz, hbe, hce⟩ := box_ext w [.int .i64 15, .string nm, .int .i64 k, .bool bo, .int .i64 i, .string s, .slice la l9.length lc, .slice ka ks.length kc, .slice na n nc, .slice xa 1 xc] 36)
 | (obtain ⟨W0, u0, hW0, hu0, hsz, hbe, hce⟩ := box_ext w [.int .i64 4, .string nm, .int .i64 k, .bool bo, .int .i64 i, .string s, .slice la l9.length lc, .slice ka ks.length kc, .slice na n nc, .slice xa 1 xc] 36)
 obtain ⟨e0, e1, e2, e3, e4, e5, e6, e7, e8, e9⟩ := ge10 hce
 obtain ⟨x0, x1, x2, x3, x4, x5, x6, x7, x8, x9⟩ := gx10 hce u0
 rw [← hu0, ← hW0] at x0 x1 x2 x3 x4 x5 x6 x7 x8 x9
 obtain ⟨eb0, eo0, cs0, hxa0, heb0, hcs0, hx0⟩ := hAZ.at_ext hB hbe (j := 0) (t := t0) rfl
 have hc0 : ∀ (u : Ext (w.heap.size + 1) W0) (q : Nat) v, cs0[q]? = some v → u.w.cell? ⟨eb0, eo0 + q, none⟩ = some v := hcs0
 subst hxa0
 have hw0 : wtX t0 ≤ 1048576 := by simp only [wtXs] at hwxs; omega
 have hd0 := hdp 0 t0 rfl
 obtain ⟨T0, hT0⟩ := nam (needX 9 t0)
 have htl0 : T0.length ≤ 67108864 := by have := needX_len 9 t0; rw [hT0] at this; omega
 have HN0 := Lib.hid (fun u : Ext (w.heap.size + 1) W0 => ext_call u hsz (rneed_of d H t0 cs0 B u.w 9 (hx0 u) (Nat.le_trans hB (hbe u).size) hd0 hw0))
 rw [hT0] at HN0
 rw [ndT_get (az := [t0]) (i := 0) (t := t0) rfl, hT0] at hq2
 obtain ⟨op0, nm0, v0, ns0, az0⟩ := t0
 obtain ⟨k0, b0, i0, s0, l0, ks0, la0, lc0, ka0, kc0, na0, nc0, xa0, xc0, -, rfl, -⟩ := (hx0 u0).cells
 have g00 : ∀ u : Ext (w.heap.size + 1) W0, u.w.cell? ⟨eb0, eo0, none⟩ = some (.int .i64 op0) := fun u => hc0 u 0 _ rfl
 obtain ⟨g01, g02, g03, g04, g05, g06, g07, g08, g09⟩ := gf9 hc0
 generalize l0.length = y10 at *
 generalize ks0.length = y20 at *
 generalize ns0.length = y30 at *
 generalize az0.length = y40 at *
 have hkl : (keyTL nm).length ≤ 8388608 := by have := keyTL_len nm; omega
 have HKY := Lib.hid (fun u : Ext (w.heap.size + 1) W0 => ext_call u hsz (rkeyT_any nm u.w (by omega)))
 first
 | (guard_hyp z829409a; obtain ⟨Ya1, hYa1⟩ : ∃ Y, (T0 : List UInt8) ++ [58] = Y := ⟨_, rfl⟩)
 | (obtain ⟨Ya1, hYa1⟩ : ∃ Y, (T0 : List UInt8) ++ [46] = Y := ⟨_, rfl⟩)
 have hla1 : Ya1.length = (T0).length + 1 := by rw [← hYa1, List.length_append]; (first | done | rfl)
 first
 | (guard_hyp z829409a; have haa1 : ∀ u, (Op.stringOp .add (strOf T0) (⟨#[58]⟩ : ByteArray)).run Tryz.prog u = .ok (.string (strOf Ya1)) u := fun u => add2 _ _ _ _ rfl rfl u (by show (T0).length + 1 ≤ 9223372036854775807; omega) hYa1)
 | (have haa1 : ∀ u, (Op.stringOp .add (strOf T0) (⟨#[46]⟩ : ByteArray)).run Tryz.prog u = .ok (.string (strOf Ya1)) u := fun u => add2 _ _ _ _ rfl rfl u (by show (T0).length + 1 ≤ 9223372036854775807; omega) hYa1)
 obtain ⟨Ya2, hYa2⟩ : ∃ Y, (Ya1 : List UInt8) ++ keyTL nm = Y := ⟨_, rfl⟩
 have hla2 : Ya2.length = (Ya1).length + (keyTL nm).length := by rw [← hYa2, List.length_append]; (first | done | rfl)
 have haa2 : ∀ u, (Op.stringOp .add (strOf Ya1) (keyT nm)).run Tryz.prog u = .ok (.string (strOf Ya2)) u := fun u => add2 _ _ _ _ rfl (keyTL_str nm) u (by show (Ya1).length + (keyTL nm).length ≤ 9223372036854775807; omega) hYa2
 have hfin : q = Ya2 := by rw [← hq2, ← hYa2, ← hYa1]; (first | done | simp)
 subst hfin
 clear hq2 hYa1 hYa2
 obtain ⟨HBE, HSZ, HW0, HU0⟩ := hd4 hbe hsz hW0 hu0
 clear hbe hsz hW0 hu0 hce hq hop hV hNA hXA hNS hX0 hn hw hv hdeep hdp hnm hks hwxs hwv hAZ heb0 hcs0 hx0 hc0 hd0 hw0 hT0
 go_enter Tryz.func36, Tryz.ntmps36
 go_upto_region 1 with fail
 rw [HW0.out, HU0.out]
 go_wp2_with fail
 (refine wp_region_at _ (by kernel_rfl) (by kernel_rfl) ?_; (repeat (go_big_quiet_step (first | (with_reducible exact HN0.out _) | (with_reducible exact HKY.out _)))); refine wpQuiet_nil ?_; rintro w9 ⟨u9, rfl⟩)
 go_wp2_with fail
 go_ret
 exact ⟨by rfl, HBE.out _⟩) : P := h
set_option maxHeartbeats 32000000 in
theorem rtext_4 (d : Nat) (H : RTextSaid d) : RTextKind d 4 := Sv829409
set_option maxHeartbeats 32000000 in
theorem rtext_15 (d : Nat) (H : RTextSaid d) : RTextKind d 15 := by
 have z829409a := trivial
 exact Sv829409
set_option maxHeartbeats 32000000 in
theorem rtext_7 (d : Nat) (H : RTextSaid d) : RTextKind d 7 := by
 intro nm v ns az cs B w hX hB hdeep hw
 have hX0 := hX
 obtain ⟨hnm, hdp⟩ := deep_parts hdeep
 rw [namedB, if_neg (ng 7 1), if_neg (ng 7 2), if_neg (ng 7 3), if_neg (ng 7 4), if_neg (ng 7 15), if_neg (ng 7 5), if_neg (ng 7 6), if_pos rfl] at hnm
 have hm1 : az.length = 2 := by simp only [Bool.and_eq_true, beq_iff_eq] at hnm; omega
 obtain ⟨t0, t1, rfl⟩ : ∃ t u, az = [t, u] := list2 hm1
 clear hm1
 obtain ⟨k, bo, i, s, l9, ks, la, lc, ka, kc, na, nc, xa, xc, hv, rfl, hop, hV, hNA, hXA, hNS, hAZ⟩ := hX.cells
 clear hX
 have hs : nm.size ≤ 1048576 := by simp only [wtX] at hw; omega
 have hks : wtS ns ≤ 1048576 := by simp only [wtX] at hw; omega
 have hwxs : wtXs [t0, t1] ≤ 1048576 := by simp only [wtX] at hw; omega
 have hwv : wtV v ≤ 1048576 := by simp only [wtX] at hw; omega
 have hnl : nm.data.toList.length ≤ 1048576 := by have := ba_len nm; omega
 obtain ⟨q, hq⟩ : ∃ q, bodyX 7 nm v ns (textXs [t0, t1]) = q := ⟨_, rfl⟩
 rw [hq]
 have hq2 := hq
 rw [bodyX, if_neg (ng 7 1), if_neg (ng 7 2), if_neg (ng 7 3), if_neg (ng 7 4), if_neg (ng 7 15), if_pos rfl] at hq2
 obtain ⟨n, hn⟩ := nam ns.length
 rw [hn] at hX0 ⊢
 obtain ⟨W0, u0, hW0, hu0, hsz, hbe, hce⟩ := box_ext w [.int .i64 7, .string nm, .int .i64 k, .bool bo, .int .i64 i, .string s, .slice la l9.length lc, .slice ka ks.length kc, .slice na n nc, .slice xa 2 xc] 36
 obtain ⟨e0, e1, e2, e3, e4, e5, e6, e7, e8, e9⟩ := ge10 hce
 obtain ⟨x0, x1, x2, x3, x4, x5, x6, x7, x8, x9⟩ := gx10 hce u0
 rw [← hu0, ← hW0] at x0 x1 x2 x3 x4 x5 x6 x7 x8 x9
 obtain ⟨eb0, eo0, cs0, hxa0, heb0, hcs0, hx0⟩ := hAZ.at_ext hB hbe (j := 0) (t := t0) rfl
 have hc0 : ∀ (u : Ext (w.heap.size + 1) W0) (q : Nat) v, cs0[q]? = some v → u.w.cell? ⟨eb0, eo0 + q, none⟩ = some v := hcs0
 obtain ⟨eb1, eo1, cs1, hxa1, heb1, hcs1, hx1⟩ := hAZ.at_ext hB hbe (j := 1) (t := t1) rfl
 have hxa2 := hxa0.symm.trans hxa1
 injection hxa2 with hxa2
 injection hxa2 with hxb hxo
 subst hxb hxo
 have hc1 : ∀ (u : Ext (w.heap.size + 1) W0) (q : Nat) v, cs1[q]? = some v → u.w.cell? ⟨eb0, eo0 + 10 + q, none⟩ = some v := hcs1
 subst hxa0
 have hw0 : wtX t0 ≤ 1048576 := by simp only [wtXs] at hwxs; omega
 have hd0 := hdp 0 t0 rfl
 have hw1 : wtX t1 ≤ 1048576 := by simp only [wtXs] at hwxs; omega
 have hd1 := hdp 1 t1 rfl
 obtain ⟨T0, hT0⟩ := nam (needX 9 t0)
 have htl0 : T0.length ≤ 67108864 := by have := needX_len 9 t0; rw [hT0] at this; omega
 have HN0 := Lib.hid (fun u : Ext (w.heap.size + 1) W0 => ext_call u hsz (rneed_of d H t0 cs0 B u.w 9 (hx0 u) (Nat.le_trans hB (hbe u).size) hd0 hw0))
 rw [hT0] at HN0
 obtain ⟨T1, hT1⟩ := nam (textX t1)
 have htl1 : T1.length ≤ 67108864 := by have := textX_len t1; rw [hT1] at this; omega
 have HN1 := Lib.hid (fun u : Ext (w.heap.size + 1) W0 => ext_call u hsz (H t1 cs1 B u.w (hx1 u) (Nat.le_trans hB (hbe u).size) hd1 hw1))
 rw [hT1] at HN1
 rw [ndT_get (az := [t0, t1]) (i := 0) (t := t0) rfl, hT0, show (((textXs [t0, t1]).getD 1 (10, [])).2 = T1) from hT1] at hq2
 obtain ⟨op0, nm0, v0, ns0, az0⟩ := t0
 obtain ⟨k0, b0, i0, s0, l0, ks0, la0, lc0, ka0, kc0, na0, nc0, xa0, xc0, -, rfl, -⟩ := (hx0 u0).cells
 have g00 : ∀ u : Ext (w.heap.size + 1) W0, u.w.cell? ⟨eb0, eo0, none⟩ = some (.int .i64 op0) := fun u => hc0 u 0 _ rfl
 obtain ⟨g01, g02, g03, g04, g05, g06, g07, g08, g09⟩ := gf9 hc0
 generalize l0.length = y10 at *
 generalize ks0.length = y20 at *
 generalize ns0.length = y30 at *
 generalize az0.length = y40 at *
 obtain ⟨op1, nm1, v1, ns1, az1⟩ := t1
 obtain ⟨k1, b1, i1, s1, l1, ks1, la1, lc1, ka1, kc1, na1, nc1, xa1, xc1, -, rfl, -⟩ := (hx1 u0).cells
 have g10 : ∀ u : Ext (w.heap.size + 1) W0, u.w.cell? ⟨eb0, eo0 + 10, none⟩ = some (.int .i64 op1) := fun u => hc1 u 0 _ rfl
 obtain ⟨g11, g12, g13, g14, g15, g16, g17, g18, g19⟩ := gf9 hc1
 generalize l1.length = y11 at *
 generalize ks1.length = y21 at *
 generalize ns1.length = y31 at *
 generalize az1.length = y41 at *
 obtain ⟨Ya1, hYa1⟩ : ∃ Y, (T0 : List UInt8) ++ [91] = Y := ⟨_, rfl⟩
 have hla1 : Ya1.length = (T0).length + 1 := by rw [← hYa1, List.length_append]; (first | done | rfl)
 have haa1 : ∀ u, (Op.stringOp .add (strOf T0) (⟨#[91]⟩ : ByteArray)).run Tryz.prog u = .ok (.string (strOf Ya1)) u := fun u => add2 _ _ _ _ rfl rfl u (by show (T0).length + 1 ≤ 9223372036854775807; omega) hYa1
 obtain ⟨Ya2, hYa2⟩ : ∃ Y, (Ya1 : List UInt8) ++ T1 = Y := ⟨_, rfl⟩
 have hla2 : Ya2.length = (Ya1).length + (T1).length := by rw [← hYa2, List.length_append]; (first | done | rfl)
 have haa2 : ∀ u, (Op.stringOp .add (strOf Ya1) (strOf T1)).run Tryz.prog u = .ok (.string (strOf Ya2)) u := fun u => add2 _ _ _ _ rfl rfl u (by show (Ya1).length + (T1).length ≤ 9223372036854775807; omega) hYa2
 obtain ⟨Ya3, hYa3⟩ : ∃ Y, (Ya2 : List UInt8) ++ [93] = Y := ⟨_, rfl⟩
 have hla3 : Ya3.length = (Ya2).length + 1 := by rw [← hYa3, List.length_append]; (first | done | rfl)
 have haa3 : ∀ u, (Op.stringOp .add (strOf Ya2) (⟨#[93]⟩ : ByteArray)).run Tryz.prog u = .ok (.string (strOf Ya3)) u := fun u => add2 _ _ _ _ rfl rfl u (by show (Ya2).length + 1 ≤ 9223372036854775807; omega) hYa3
 have hfin : q = Ya3 := by rw [← hq2, ← hYa3, ← hYa2, ← hYa1]; (first | done | simp)
 subst hfin
 clear hq2 hYa1 hYa2 hYa3
 obtain ⟨HBE, HSZ, HW0, HU0⟩ := hd4 hbe hsz hW0 hu0
 clear hbe hsz hW0 hu0 hce hq hop hV hNA hXA hNS hX0 hn hw hv hdeep hdp hnm hks hwxs hwv hAZ heb0 hcs0 hx0 hc0 hd0 hw0 hT0 hcs1 hx1 hc1 hd1 hw1 hT1 heb1 hxa1
 go_enter Tryz.func36, Tryz.ntmps36
 go_upto_region 1 with fail
 rw [HW0.out, HU0.out]
 go_wp2_with fail
 (refine wp_region_at _ (by kernel_rfl) (by kernel_rfl) ?_; (repeat (go_big_quiet_step (first | (with_reducible exact HN0.out _) | (with_reducible exact HN1.out _)))); refine wpQuiet_nil ?_; rintro w9 ⟨u9, rfl⟩)
 go_wp2_with fail
 go_ret
 exact ⟨by rfl, HBE.out _⟩
set_option maxHeartbeats 32000000 in
theorem rtext_5 (d : Nat) (H : RTextSaid d) : RTextKind d 5 := by
 intro nm v ns az cs B w hX hB hdeep hw
 have hX0 := hX
 obtain ⟨hnm, hdp⟩ := deep_parts hdeep
 rw [namedB, if_neg (ng 5 1), if_neg (ng 5 2), if_neg (ng 5 3), if_neg (ng 5 4), if_neg (ng 5 15), if_pos rfl] at hnm
 obtain ⟨k, bo, i, s, l9, ks, la, lc, ka, kc, na, nc, xa, xc, hv, rfl, hop, hV, hNA, hXA, hNS, hAZ⟩ := hX.cells
 clear hX
 have hs : nm.size ≤ 1048576 := by simp only [wtX] at hw; omega
 have hks : wtS ns ≤ 1048576 := by simp only [wtX] at hw; omega
 have hwxs : wtXs az ≤ 1048576 := by simp only [wtX] at hw; omega
 have hwv : wtV v ≤ 1048576 := by simp only [wtX] at hw; omega
 have hnl : nm.data.toList.length ≤ 1048576 := by have := ba_len nm; omega
 obtain ⟨q, hq⟩ := nam (bodyX 5 nm v ns (textXs az))
 rw [hq]
 have hq2 := hq
 rw [bodyX, if_neg (ng 5 1), if_neg (ng 5 2), if_neg (ng 5 3), if_neg (ng 5 4), if_neg (ng 5 15), if_neg (ng 5 7), if_pos rfl] at hq2
 obtain ⟨n, hn⟩ := nam ns.length
 rw [hn] at hX0 ⊢
 obtain ⟨m, hm⟩ := nam az.length
 rw [hm] at hX0 ⊢
 obtain ⟨W0, u0, hW0, hu0, hsz, hbe, hce⟩ := box_ext w [.int .i64 5, .string nm, .int .i64 k, .bool bo, .int .i64 i, .string s, .slice la l9.length lc, .slice ka ks.length kc, .slice na n nc, .slice xa m xc] 36
 obtain ⟨e0, e1, e2, e3, e4, e5, e6, e7, e8, e9⟩ := ge10 hce
 obtain ⟨x0, x1, x2, x3, x4, x5, x6, x7, x8, x9⟩ := gx10 hce u0
 rw [← hu0, ← hW0] at x0 x1 x2 x3 x4 x5 x6 x7 x8 x9
 have HLS := Lib.hid (fun u : Ext (w.heap.size + 1) W0 => ext_call u hsz (rlist_of d H az xa xc B u.w (hAZ.below (hbe u) hB (fun _ _ h => IsX.below (hbe u) hB _ _ h)) (Nat.le_trans hB (hbe u).size) hdp hwxs))
 simp only [hm] at HLS
 obtain ⟨J, hJ⟩ := nam (jn (az.map textX))
 have hjl : J.length ≤ 67108864 := by have := row_len az; rw [hJ] at this; omega
 rw [hJ] at HLS
 rw [snd_textXs, hJ] at hq2
 obtain ⟨Ya1, hYa1⟩ : ∃ Y, ([91] : List UInt8) ++ J = Y := ⟨_, rfl⟩
 have hla1 : Ya1.length = 1 + (J).length := by rw [← hYa1, List.length_append]; (first | done | rfl)
 have haa1 : ∀ u, (Op.stringOp .add (⟨#[91]⟩ : ByteArray) (strOf J)).run Tryz.prog u = .ok (.string (strOf Ya1)) u := fun u => add2 _ _ _ _ rfl rfl u (by show 1 + (J).length ≤ 9223372036854775807; omega) hYa1
 obtain ⟨Ya2, hYa2⟩ : ∃ Y, (Ya1 : List UInt8) ++ [93] = Y := ⟨_, rfl⟩
 have hla2 : Ya2.length = (Ya1).length + 1 := by rw [← hYa2, List.length_append]; (first | done | rfl)
 have haa2 : ∀ u, (Op.stringOp .add (strOf Ya1) (⟨#[93]⟩ : ByteArray)).run Tryz.prog u = .ok (.string (strOf Ya2)) u := fun u => add2 _ _ _ _ rfl rfl u (by show (Ya1).length + 1 ≤ 9223372036854775807; omega) hYa2
 have hfin : q = Ya2 := by rw [← hq2, ← hYa2, ← hYa1]; (first | done | simp)
 subst hfin
 clear hq2 hYa1 hYa2
 obtain ⟨HBE, HSZ, HW0, HU0⟩ := hd4 hbe hsz hW0 hu0
 clear hbe hsz hW0 hu0 hce hq hop hV hNA hXA hNS hX0 hn hw hv hdeep hdp hnm hks hwxs hwv hm hAZ  hJ
 go_enter Tryz.func36, Tryz.ntmps36
 go_upto_region 1 with fail
 rw [HW0.out, HU0.out]
 go_wp2_with fail
 refine (HLS.out _).mono ?_
 rintro e w3 ⟨rfl, u3, rfl⟩
 go_wp2_with fail
 go_ret
 exact ⟨by rfl, HBE.out _⟩
set_option maxHeartbeats 32000000 in
theorem rtext_6 (d : Nat) (H : RTextSaid d) : RTextKind d 6 := by
 intro nm v ns az cs B w hX hB hdeep hw
 have hX0 := hX
 obtain ⟨hnm, hdp⟩ := deep_parts hdeep
 rw [namedB, if_neg (ng 6 1), if_neg (ng 6 2), if_neg (ng 6 3), if_neg (ng 6 4), if_neg (ng 6 15), if_neg (ng 6 5), if_pos rfl] at hnm
 obtain ⟨k, bo, i, s, l9, ks, la, lc, ka, kc, na, nc, xa, xc, hv, rfl, hop, hV, hNA, hXA, hNS, hAZ⟩ := hX.cells
 clear hX
 have hs : nm.size ≤ 1048576 := by simp only [wtX] at hw; omega
 have hks : wtS ns ≤ 1048576 := by simp only [wtX] at hw; omega
 have hwxs : wtXs az ≤ 1048576 := by simp only [wtX] at hw; omega
 have hwv : wtV v ≤ 1048576 := by simp only [wtX] at hw; omega
 have hnl : nm.data.toList.length ≤ 1048576 := by have := ba_len nm; omega
 obtain ⟨q, hq⟩ := nam (bodyX 6 nm v ns (textXs az))
 rw [hq]
 have hq2 := hq
 rw [bodyX, if_neg (ng 6 1), if_neg (ng 6 2), if_neg (ng 6 3), if_neg (ng 6 4), if_neg (ng 6 15), if_neg (ng 6 7), if_neg (ng 6 5), if_pos rfl] at hq2
 have hlen : ns.length = az.length := by simp only [Bool.and_eq_true, beq_iff_eq] at hnm; omega
 obtain ⟨n, hn⟩ := nam ns.length
 rw [hn] at hX0 ⊢
 obtain ⟨m, hm⟩ := nam az.length
 rw [hm] at hX0 ⊢
 obtain ⟨W0, u0, hW0, hu0, hsz, hbe, hce⟩ := box_ext w [.int .i64 6, .string nm, .int .i64 k, .bool bo, .int .i64 i, .string s, .slice la l9.length lc, .slice ka ks.length kc, .slice na n nc, .slice xa m xc] 36
 obtain ⟨e0, e1, e2, e3, e4, e5, e6, e7, e8, e9⟩ := ge10 hce
 obtain ⟨x0, x1, x2, x3, x4, x5, x6, x7, x8, x9⟩ := gx10 hce u0
 rw [← hu0, ← hW0] at x0 x1 x2 x3 x4 x5 x6 x7 x8 x9
 have HPS := Lib.hid (fun u : Ext (w.heap.size + 1) W0 => ext_call u hsz (rprops_of d H ns az na xa nc xc B u.w (hNS.below (hbe u) hB) (hAZ.below (hbe u) hB (fun _ _ h => IsX.below (hbe u) hB _ _ h)) hlen (Nat.le_trans hB (hbe u).size) hdp hwxs hks))
 simp only [hm, hn] at HPS
 rw [snd_textXs] at hq2
 have hfin : propsX ns az = q := hq2
 rw [hfin] at HPS
 obtain ⟨HBE, HSZ, HW0, HU0⟩ := hd4 hbe hsz hW0 hu0
 clear hbe hsz hW0 hu0 hce hq hop hV hNA hXA hNS hX0 hn hw hv hdeep hdp hnm hks hwxs hwv hm hAZ  hlen hq2 hfin
 go_enter Tryz.func36, Tryz.ntmps36
 go_upto_region 1 with fail
 rw [HW0.out, HU0.out]
 go_wp2_with fail
 refine (HPS.out _).mono ?_
 rintro e w3 ⟨rfl, u3, rfl⟩
 go_wp2_with fail
 go_ret
 exact ⟨by rfl, HBE.out _⟩
set_option maxRecDepth 100000 in
theorem Sv483553 {P : Prop} (h : P := by
 intro nm v ns az cs B w hX hB hdeep hw
 have hX0 := hX
 obtain ⟨hnm, hdp⟩ := deep_parts hdeep
 first
 | (guard_hyp z483553a; rw [namedB, if_neg (ng 12 1), if_neg (ng 12 2), if_neg (ng 12 3), if_neg (ng 12 4), if_neg (ng 12 15), if_neg (ng 12 5), if_neg (ng 12 6), if_neg (ng 12 7), if_neg (ng 12 8), if_neg (ng 12 9), if_neg (ng 12 11), if_pos rfl] at hnm)
 | (guard_hyp z483553b; rw [namedB, if_neg (ng 11 1), if_neg (ng 11 2), if_neg (ng 11 3), if_neg (ng 11 4), if_neg (ng 11 15), if_neg (ng 11 5), if_neg (ng 11 6), if_neg (ng 11 7), if_neg (ng 11 8), if_neg (ng 11 9), if_pos rfl] at hnm)
 | (guard_hyp z483553c; rw [namedB, if_neg (ng 9 1), if_neg (ng 9 2), if_neg (ng 9 3), if_neg (ng 9 4), if_neg (ng 9 15), if_neg (ng 9 5), if_neg (ng 9 6), if_neg (ng 9 7), if_neg (ng 9 8), if_pos rfl] at hnm)
 | (rw [namedB, if_neg (ng 8 1), if_neg (ng 8 2), if_neg (ng 8 3), if_neg (ng 8 4), if_neg (ng 8 15), if_neg (ng 8 5), if_neg (ng 8 6), if_neg (ng 8 7), if_pos rfl] at hnm)
 have hm1 : az.length = 1 := by simp only [Bool.and_eq_true, beq_iff_eq] at hnm; omega
 obtain ⟨t0, rfl⟩ : ∃ t, az = [t] := List.length_eq_one_iff.1 hm1
 clear hm1
 obtain ⟨k, bo, i, s, l9, ks, la, lc, ka, kc, na, nc, xa, xc, hv, rfl, hop, hV, hNA, hXA, hNS, hAZ⟩ := hX.cells
 clear hX
 have hs : nm.size ≤ 1048576 := by simp only [wtX] at hw; omega
 have hks : wtS ns ≤ 1048576 := by simp only [wtX] at hw; omega
 have hwxs : wtXs [t0] ≤ 1048576 := by simp only [wtX] at hw; omega
 have hwv : wtV v ≤ 1048576 := by simp only [wtX] at hw; omega
 have hnl : nm.data.toList.length ≤ 1048576 := by have := ba_len nm; omega
 first
 | (guard_hyp z483553a; obtain ⟨q, hq⟩ := nam (bodyX 12 nm v ns (textXs [t0])))
 | (guard_hyp z483553b; obtain ⟨q, hq⟩ := nam (bodyX 11 nm v ns (textXs [t0])))
 | (guard_hyp z483553c; obtain ⟨q, hq⟩ := nam (bodyX 9 nm v ns (textXs [t0])))
 | (obtain ⟨q, hq⟩ := nam (bodyX 8 nm v ns (textXs [t0])))
 rw [hq]
 have hq2 := hq
 first
 | (guard_hyp z483553a; rw [bodyX, if_neg (ng 12 1), if_neg (ng 12 2), if_neg (ng 12 3), if_neg (ng 12 4), if_neg (ng 12 15), if_neg (ng 12 7), if_neg (ng 12 5), if_neg (ng 12 6), if_neg (ng 12 8), if_neg (ng 12 9), if_neg (ng 12 11), if_pos rfl] at hq2)
 | (guard_hyp z483553b; rw [bodyX, if_neg (ng 11 1), if_neg (ng 11 2), if_neg (ng 11 3), if_neg (ng 11 4), if_neg (ng 11 15), if_neg (ng 11 7), if_neg (ng 11 5), if_neg (ng 11 6), if_neg (ng 11 8), if_neg (ng 11 9), if_pos rfl] at hq2)
 | (guard_hyp z483553c; rw [bodyX, if_neg (ng 9 1), if_neg (ng 9 2), if_neg (ng 9 3), if_neg (ng 9 4), if_neg (ng 9 15), if_neg (ng 9 7), if_neg (ng 9 5), if_neg (ng 9 6), if_neg (ng 9 8), if_pos rfl] at hq2)
 | (rw [bodyX, if_neg (ng 8 1), if_neg (ng 8 2), if_neg (ng 8 3), if_neg (ng 8 4), if_neg (ng 8 15), if_neg (ng 8 7), if_neg (ng 8 5), if_neg (ng 8 6), if_pos rfl] at hq2)
 obtain ⟨n, hn⟩ := nam ns.length
 rw [hn] at hX0 ⊢
 first
 | (guard_hyp z483553a; obtain ⟨W0, u0, hW0, hu0, hsz, hbe, hce⟩ := box_ext w [.int .i64 12, .string nm, .int .i64 k, .bool bo, .int .i64 i, .string s, .slice la l9.length lc, .slice ka ks.length kc, .slice na n nc, .slice xa 1 xc] 36)
 | (guard_hyp z483553b; obtain ⟨W0, u0, hW0, hu0, hsz, hbe, hce⟩ := box_ext w [.int .i64 11, .string nm, .int .i64 k, .bool bo, .int .i64 i, .string s, .slice la l9.length lc, .slice ka ks.length kc, .slice na n nc, .slice xa 1 xc] 36)
 | (guard_hyp z483553c; obtain ⟨W0, u0, hW0, hu0, hsz, hbe, hce⟩ := box_ext w [.int .i64 9, .string nm, .int .i64 k, .bool bo, .int .i64 i, .string s, .slice la l9.length lc, .slice ka ks.length kc, .slice na n nc, .slice xa 1 xc] 36)
 | (obtain ⟨W0, u0, hW0, hu0, hsz, hbe, hce⟩ := box_ext w [.int .i64 8, .string nm, .int .i64 k, .bool bo, .int .i64 i, .string s, .slice la l9.length lc, .slice ka ks.length kc, .slice na n nc, .slice xa 1 xc] 36)
 obtain ⟨e0, e1, e2, e3, e4, e5, e6, e7, e8, e9⟩ := ge10 hce
 obtain ⟨x0, x1, x2, x3, x4, x5, x6, x7, x8, x9⟩ := gx10 hce u0
 rw [← hu0, ← hW0] at x0 x1 x2 x3 x4 x5 x6 x7 x8 x9
 obtain ⟨eb0, eo0, cs0, hxa0, heb0, hcs0, hx0⟩ := hAZ.at_ext hB hbe (j := 0) (t := t0) rfl
 have hc0 : ∀ (u : Ext (w.heap.size + 1) W0) (q : Nat) v, cs0[q]? = some v → u.w.cell? ⟨eb0, eo0 + q, none⟩ = some v := hcs0
 subst hxa0
 have hw0 : wtX t0 ≤ 1048576 := by simp only [wtXs] at hwxs; omega
 have hd0 := hdp 0 t0 rfl
 first
 |(
  guard_hyp z483553c
  obtain ⟨T0, hT0⟩ := nam (needX 4 t0)
  have htl0 : T0.length ≤ 67108864 := by have := needX_len 4 t0; rw [hT0] at this; omega
  have HN0 := Lib.hid (fun u : Ext (w.heap.size + 1) W0 => ext_call u hsz (rneed_of d H t0 cs0 B u.w 4 (hx0 u) (Nat.le_trans hB (hbe u).size) hd0 hw0)))
 |(
  guard_hyp z483553d
  obtain ⟨T0, hT0⟩ := nam (needX 8 t0)
  have htl0 : T0.length ≤ 67108864 := by have := needX_len 8 t0; rw [hT0] at this; omega
  have HN0 := Lib.hid (fun u : Ext (w.heap.size + 1) W0 => ext_call u hsz (rneed_of d H t0 cs0 B u.w 8 (hx0 u) (Nat.le_trans hB (hbe u).size) hd0 hw0)))
 |(
  obtain ⟨T0, hT0⟩ := nam (needX 6 t0)
  have htl0 : T0.length ≤ 67108864 := by have := needX_len 6 t0; rw [hT0] at this; omega
  have HN0 := Lib.hid (fun u : Ext (w.heap.size + 1) W0 => ext_call u hsz (rneed_of d H t0 cs0 B u.w 6 (hx0 u) (Nat.le_trans hB (hbe u).size) hd0 hw0)))
 rw [hT0] at HN0
 rw [ndT_get (az := [t0]) (i := 0) (t := t0) rfl, hT0] at hq2
 obtain ⟨op0, nm0, v0, ns0, az0⟩ := t0
 obtain ⟨k0, b0, i0, s0, l0, ks0, la0, lc0, ka0, kc0, na0, nc0, xa0, xc0, -, rfl, -⟩ := (hx0 u0).cells
 have g00 : ∀ u : Ext (w.heap.size + 1) W0, u.w.cell? ⟨eb0, eo0, none⟩ = some (.int .i64 op0) := fun u => hc0 u 0 _ rfl
 obtain ⟨g01, g02, g03, g04, g05, g06, g07, g08, g09⟩ := gf9 hc0
 generalize l0.length = y10 at *
 generalize ks0.length = y20 at *
 generalize ns0.length = y30 at *
 generalize az0.length = y40 at *
 first
 |(
  guard_hyp z483553a
  obtain ⟨Ya1, hYa1⟩ : ∃ Y, (T0 : List UInt8) ++ [32, 73, 83, 32, 78, 79, 84, 32, 78, 85, 76, 76] = Y := ⟨_, rfl⟩
  have hla1 : Ya1.length = (T0).length + 12 := by rw [← hYa1, List.length_append]; (first | done | rfl)
  have haa1 : ∀ u, (Op.stringOp .add (strOf T0) (⟨#[32, 73, 83, 32, 78, 79, 84, 32, 78, 85, 76, 76]⟩ : ByteArray)).run Tryz.prog u = .ok (.string (strOf Ya1)) u := fun u => add2 _ _ _ _ rfl rfl u (by show (T0).length + 12 ≤ 9223372036854775807; omega) hYa1)
 |(
  guard_hyp z483553b
  obtain ⟨Ya1, hYa1⟩ : ∃ Y, (T0 : List UInt8) ++ [32, 73, 83, 32, 78, 85, 76, 76] = Y := ⟨_, rfl⟩
  have hla1 : Ya1.length = (T0).length + 8 := by rw [← hYa1, List.length_append]; (first | done | rfl)
  have haa1 : ∀ u, (Op.stringOp .add (strOf T0) (⟨#[32, 73, 83, 32, 78, 85, 76, 76]⟩ : ByteArray)).run Tryz.prog u = .ok (.string (strOf Ya1)) u := fun u => add2 _ _ _ _ rfl rfl u (by show (T0).length + 8 ≤ 9223372036854775807; omega) hYa1)
 |(
  guard_hyp z483553c
  obtain ⟨Ya1, hYa1⟩ : ∃ Y, ([78, 79, 84, 32] : List UInt8) ++ T0 = Y := ⟨_, rfl⟩
  have hla1 : Ya1.length = 4 + (T0).length := by rw [← hYa1, List.length_append]; (first | done | rfl)
  have haa1 : ∀ u, (Op.stringOp .add (⟨#[78, 79, 84, 32]⟩ : ByteArray) (strOf T0)).run Tryz.prog u = .ok (.string (strOf Ya1)) u := fun u => add2 _ _ _ _ rfl rfl u (by show 4 + (T0).length ≤ 9223372036854775807; omega) hYa1)
 |(
  obtain ⟨Ya1, hYa1⟩ : ∃ Y, ([45] : List UInt8) ++ T0 = Y := ⟨_, rfl⟩
  have hla1 : Ya1.length = 1 + (T0).length := by rw [← hYa1, List.length_append]; (first | done | rfl)
  have haa1 : ∀ u, (Op.stringOp .add (⟨#[45]⟩ : ByteArray) (strOf T0)).run Tryz.prog u = .ok (.string (strOf Ya1)) u := fun u => add2 _ _ _ _ rfl rfl u (by show 1 + (T0).length ≤ 9223372036854775807; omega) hYa1)
 have hfin : q = Ya1 := by rw [← hq2, ← hYa1]; (first | done | simp)
 subst hfin
 clear hq2 hYa1
 obtain ⟨HBE, HSZ, HW0, HU0⟩ := hd4 hbe hsz hW0 hu0
 clear hbe hsz hW0 hu0 hce hq hop hV hNA hXA hNS hX0 hn hw hv hdeep hdp hnm hks hwxs hwv hAZ heb0 hcs0 hx0 hc0 hd0 hw0 hT0
 go_enter Tryz.func36, Tryz.ntmps36
 go_upto_region 1 with fail
 rw [HW0.out, HU0.out]
 go_wp2_with fail
 refine (HN0.out _).mono ?_
 rintro e w3 ⟨rfl, u3, rfl⟩
 go_wp2_with fail
 go_ret
 exact ⟨by rfl, HBE.out _⟩) : P := h
set_option maxHeartbeats 32000000 in
theorem rtext_8 (d : Nat) (H : RTextSaid d) : RTextKind d 8 := by
 have z483553d := trivial
 exact Sv483553
set_option maxHeartbeats 32000000 in
theorem rtext_9 (d : Nat) (H : RTextSaid d) : RTextKind d 9 := by
 have z483553c := trivial
 exact Sv483553
set_option maxHeartbeats 32000000 in
theorem rtext_11 (d : Nat) (H : RTextSaid d) : RTextKind d 11 := by
 have z483553b := trivial
 exact Sv483553
set_option maxHeartbeats 32000000 in
theorem rtext_12 (d : Nat) (H : RTextSaid d) : RTextKind d 12 := by
 have z483553a := trivial
 exact Sv483553
theorem Sv262852 {P : Prop} (h : P := by
 first
 |(
  guard_hyp z262852a
  subst h5
  rw [if_pos rfl] at HN0
  have HN1 : Hid (∀ u : Ext (w.heap.size + 1) W0, Calls _ _ #[_, .int .i64 6] u.w _) := HN1)
 |(
  rw [if_neg h5] at HN0
  have hz5 : (lv == 5) = false := by simp; exact h5)
 go_enter Tryz.func36, Tryz.ntmps36
 go_upto_region 1 with fail
 rw [HW0.out, HU0.out]
 go_wp2_with fail
 refine (HLV.out _).mono ?_
 rintro e w3 ⟨rfl, rfl⟩
 go_wp2_with fail
 (refine wp_region_at _ (by kernel_rfl) (by kernel_rfl) ?_; (repeat (go_big_quiet_step (first | (with_reducible exact HN0.out _) | (with_reducible exact HN1.out _)))); refine wpQuiet_nil ?_; rintro w9 ⟨u9, rfl⟩)
 go_wp2_with fail
 go_ret
 exact ⟨by rfl, HBE.out _⟩) : P := h
set_option maxHeartbeats 32000000 in
theorem rtext_10 (d : Nat) (H : RTextSaid d) : RTextKind d 10 := by
 intro nm v ns az cs B w hX hB hdeep hw
 have hX0 := hX
 obtain ⟨hnm, hdp⟩ := deep_parts hdeep
 rw [namedB, if_neg (ng 10 1), if_neg (ng 10 2), if_neg (ng 10 3), if_neg (ng 10 4), if_neg (ng 10 15), if_neg (ng 10 5), if_neg (ng 10 6), if_neg (ng 10 7), if_neg (ng 10 8), if_neg (ng 10 9), if_neg (ng 10 11), if_neg (ng 10 12), if_pos rfl] at hnm
 have hm1 : az.length = 2 := by simp only [Bool.and_eq_true, beq_iff_eq] at hnm; omega
 obtain ⟨t0, t1, rfl⟩ : ∃ t u, az = [t, u] := list2 hm1
 clear hm1
 obtain ⟨k, bo, i, s, l9, ks, la, lc, ka, kc, na, nc, xa, xc, hv, rfl, hop, hV, hNA, hXA, hNS, hAZ⟩ := hX.cells
 clear hX
 have hs : nm.size ≤ 1048576 := by simp only [wtX] at hw; omega
 have hks : wtS ns ≤ 1048576 := by simp only [wtX] at hw; omega
 have hwxs : wtXs [t0, t1] ≤ 1048576 := by simp only [wtX] at hw; omega
 have hwv : wtV v ≤ 1048576 := by simp only [wtX] at hw; omega
 have hnl : nm.data.toList.length ≤ 1048576 := by have := ba_len nm; omega
 obtain ⟨q, hq⟩ : ∃ q, bodyX 10 nm v ns (textXs [t0, t1]) = q := ⟨_, rfl⟩
 rw [hq]
 have hq2 := hq
 rw [bodyX, if_neg (ng 10 1), if_neg (ng 10 2), if_neg (ng 10 3), if_neg (ng 10 4), if_neg (ng 10 15), if_neg (ng 10 7), if_neg (ng 10 5), if_neg (ng 10 6), if_neg (ng 10 8), if_neg (ng 10 9), if_neg (ng 10 11), if_neg (ng 10 12), if_pos rfl] at hq2
 obtain ⟨n, hn⟩ := nam ns.length
 rw [hn] at hX0 ⊢
 obtain ⟨W0, u0, hW0, hu0, hsz, hbe, hce⟩ := box_ext w [.int .i64 10, .string nm, .int .i64 k, .bool bo, .int .i64 i, .string s, .slice la l9.length lc, .slice ka ks.length kc, .slice na n nc, .slice xa 2 xc] 36
 obtain ⟨e0, e1, e2, e3, e4, e5, e6, e7, e8, e9⟩ := ge10 hce
 obtain ⟨x0, x1, x2, x3, x4, x5, x6, x7, x8, x9⟩ := gx10 hce u0
 rw [← hu0, ← hW0] at x0 x1 x2 x3 x4 x5 x6 x7 x8 x9
 obtain ⟨eb0, eo0, cs0, hxa0, heb0, hcs0, hx0⟩ := hAZ.at_ext hB hbe (j := 0) (t := t0) rfl
 have hc0 : ∀ (u : Ext (w.heap.size + 1) W0) (q : Nat) v, cs0[q]? = some v → u.w.cell? ⟨eb0, eo0 + q, none⟩ = some v := hcs0
 obtain ⟨eb1, eo1, cs1, hxa1, heb1, hcs1, hx1⟩ := hAZ.at_ext hB hbe (j := 1) (t := t1) rfl
 have hxa2 := hxa0.symm.trans hxa1
 injection hxa2 with hxa2
 injection hxa2 with hxb hxo
 subst hxb hxo
 have hc1 : ∀ (u : Ext (w.heap.size + 1) W0) (q : Nat) v, cs1[q]? = some v → u.w.cell? ⟨eb0, eo0 + 10 + q, none⟩ = some v := hcs1
 subst hxa0
 have hw0 : wtX t0 ≤ 1048576 := by simp only [wtXs] at hwxs; omega
 have hd0 := hdp 0 t0 rfl
 have hw1 : wtX t1 ≤ 1048576 := by simp only [wtXs] at hwxs; omega
 have hd1 := hdp 1 t1 rfl
 obtain ⟨T0, hT0⟩ := nam (needX (if levelB nm = 5 then 6 else levelB nm) t0)
 have htl0 : T0.length ≤ 67108864 := by have := needX_len (if levelB nm = 5 then 6 else levelB nm) t0; rw [hT0] at this; omega
 have HN0 := Lib.hid (fun u : Ext (w.heap.size + 1) W0 => ext_call u hsz (rneed_of d H t0 cs0 B u.w (if levelB nm = 5 then 6 else levelB nm) (hx0 u) (Nat.le_trans hB (hbe u).size) hd0 hw0))
 rw [hT0] at HN0
 obtain ⟨T1, hT1⟩ := nam (needX (levelB nm + 1) t1)
 have htl1 : T1.length ≤ 67108864 := by have := needX_len (levelB nm + 1) t1; rw [hT1] at this; omega
 have HN1 := Lib.hid (fun u : Ext (w.heap.size + 1) W0 => ext_call u hsz (rneed_of d H t1 cs1 B u.w (levelB nm + 1) (hx1 u) (Nat.le_trans hB (hbe u).size) hd1 hw1))
 rw [hT1] at HN1
 rw [ndT_get (az := [t0, t1]) (i := 0) (t := t0) rfl, ndT_get (az := [t0, t1]) (i := 1) (t := t1) rfl, hT0, hT1] at hq2
 obtain ⟨op0, nm0, v0, ns0, az0⟩ := t0
 obtain ⟨k0, b0, i0, s0, l0, ks0, la0, lc0, ka0, kc0, na0, nc0, xa0, xc0, -, rfl, -⟩ := (hx0 u0).cells
 have g00 : ∀ u : Ext (w.heap.size + 1) W0, u.w.cell? ⟨eb0, eo0, none⟩ = some (.int .i64 op0) := fun u => hc0 u 0 _ rfl
 obtain ⟨g01, g02, g03, g04, g05, g06, g07, g08, g09⟩ := gf9 hc0
 generalize l0.length = y10 at *
 generalize ks0.length = y20 at *
 generalize ns0.length = y30 at *
 generalize az0.length = y40 at *
 obtain ⟨op1, nm1, v1, ns1, az1⟩ := t1
 obtain ⟨k1, b1, i1, s1, l1, ks1, la1, lc1, ka1, kc1, na1, nc1, xa1, xc1, -, rfl, -⟩ := (hx1 u0).cells
 have g10 : ∀ u : Ext (w.heap.size + 1) W0, u.w.cell? ⟨eb0, eo0 + 10, none⟩ = some (.int .i64 op1) := fun u => hc1 u 0 _ rfl
 obtain ⟨g11, g12, g13, g14, g15, g16, g17, g18, g19⟩ := gf9 hc1
 generalize l1.length = y11 at *
 generalize ks1.length = y21 at *
 generalize ns1.length = y31 at *
 generalize az1.length = y41 at *
 have HLV := Lib.hid (fun u : World => rlevel_any nm u)
 obtain ⟨hlv0, hlv7⟩ := levelB_range nm
 obtain ⟨lv, hlv⟩ := nam (levelB nm)
 rw [hlv] at HLV hlv0 hlv7
 rw [hlv] at HN0 HN1
 have hwr : IntKind.i64.wrap (lv + 1) = lv + 1 := IntWalk.i64_in _ (by omega)
 obtain ⟨Ya1, hYa1⟩ : ∃ Y, (T0 : List UInt8) ++ [32] = Y := ⟨_, rfl⟩
 have hla1 : Ya1.length = (T0).length + 1 := by rw [← hYa1, List.length_append]; (first | done | rfl)
 have haa1 : ∀ u, (Op.stringOp .add (strOf T0) (⟨#[32]⟩ : ByteArray)).run Tryz.prog u = .ok (.string (strOf Ya1)) u := fun u => add2 _ _ _ _ rfl rfl u (by show (T0).length + 1 ≤ 9223372036854775807; omega) hYa1
 obtain ⟨Ya2, hYa2⟩ : ∃ Y, (Ya1 : List UInt8) ++ nm.data.toList = Y := ⟨_, rfl⟩
 have hla2 : Ya2.length = (Ya1).length + (nm.data.toList).length := by rw [← hYa2, List.length_append]; (first | done | rfl)
 have haa2 : ∀ u, (Op.stringOp .add (strOf Ya1) nm).run Tryz.prog u = .ok (.string (strOf Ya2)) u := fun u => add2 _ _ _ _ rfl (strOf_toList nm) u (by show (Ya1).length + (nm.data.toList).length ≤ 9223372036854775807; omega) hYa2
 obtain ⟨Ya3, hYa3⟩ : ∃ Y, (Ya2 : List UInt8) ++ [32] = Y := ⟨_, rfl⟩
 have hla3 : Ya3.length = (Ya2).length + 1 := by rw [← hYa3, List.length_append]; (first | done | rfl)
 have haa3 : ∀ u, (Op.stringOp .add (strOf Ya2) (⟨#[32]⟩ : ByteArray)).run Tryz.prog u = .ok (.string (strOf Ya3)) u := fun u => add2 _ _ _ _ rfl rfl u (by show (Ya2).length + 1 ≤ 9223372036854775807; omega) hYa3
 obtain ⟨Ya4, hYa4⟩ : ∃ Y, (Ya3 : List UInt8) ++ T1 = Y := ⟨_, rfl⟩
 have hla4 : Ya4.length = (Ya3).length + (T1).length := by rw [← hYa4, List.length_append]; (first | done | rfl)
 have haa4 : ∀ u, (Op.stringOp .add (strOf Ya3) (strOf T1)).run Tryz.prog u = .ok (.string (strOf Ya4)) u := fun u => add2 _ _ _ _ rfl rfl u (by show (Ya3).length + (T1).length ≤ 9223372036854775807; omega) hYa4
 have hfin : q = Ya4 := by rw [← hq2, ← hYa4, ← hYa3, ← hYa2, ← hYa1]; (first | done | simp)
 subst hfin
 clear hq2 hYa1 hYa2 hYa3 hYa4
 obtain ⟨HBE, HSZ, HW0, HU0⟩ := hd4 hbe hsz hW0 hu0
 clear hbe hsz hW0 hu0 hce hq hop hV hNA hXA hNS hX0 hn hw hv hdeep hdp hnm hks hwxs hwv hAZ heb0 hcs0 hx0 hc0 hd0 hw0 hT0 hcs1 hx1 hc1 hd1 hw1 hT1 heb1 hxa1  hlv
 by_cases h5 : lv = 5
 ·have z262852a := trivial
  exact Sv262852
 ·exact Sv262852
set_option maxHeartbeats 32000000 in
theorem rtext_13 (d : Nat) (H : RTextSaid d) : RTextKind d 13 := by
 intro nm v ns az cs B w hX hB hdeep hw
 have hX0 := hX
 obtain ⟨hnm, hdp⟩ := deep_parts hdeep
 rw [namedB, if_neg (ng 13 1), if_neg (ng 13 2), if_neg (ng 13 3), if_neg (ng 13 4), if_neg (ng 13 15), if_neg (ng 13 5), if_neg (ng 13 6), if_neg (ng 13 7), if_neg (ng 13 8), if_neg (ng 13 9), if_neg (ng 13 11), if_neg (ng 13 12), if_neg (ng 13 10), if_pos rfl] at hnm
 obtain ⟨k, bo, i, s, l9, ks, la, lc, ka, kc, na, nc, xa, xc, hv, rfl, hop, hV, hNA, hXA, hNS, hAZ⟩ := hX.cells
 clear hX
 have hs : nm.size ≤ 1048576 := by simp only [wtX] at hw; omega
 have hks : wtS ns ≤ 1048576 := by simp only [wtX] at hw; omega
 have hwxs : wtXs az ≤ 1048576 := by simp only [wtX] at hw; omega
 have hwv : wtV v ≤ 1048576 := by simp only [wtX] at hw; omega
 have hnl : nm.data.toList.length ≤ 1048576 := by have := ba_len nm; omega
 obtain ⟨q, hq⟩ := nam (bodyX 13 nm v ns (textXs az))
 rw [hq]
 have hq2 := hq
 rw [bodyX, if_neg (ng 13 1), if_neg (ng 13 2), if_neg (ng 13 3), if_neg (ng 13 4), if_neg (ng 13 15), if_neg (ng 13 7), if_neg (ng 13 5), if_neg (ng 13 6), if_neg (ng 13 8), if_neg (ng 13 9), if_neg (ng 13 11), if_neg (ng 13 12), if_neg (ng 13 10), if_neg (ng 13 14)] at hq2
 obtain ⟨n, hn⟩ := nam ns.length
 rw [hn] at hX0 ⊢
 obtain ⟨m, hm⟩ := nam az.length
 rw [hm] at hX0 ⊢
 obtain ⟨W0, u0, hW0, hu0, hsz, hbe, hce⟩ := box_ext w [.int .i64 13, .string nm, .int .i64 k, .bool bo, .int .i64 i, .string s, .slice la l9.length lc, .slice ka ks.length kc, .slice na n nc, .slice xa m xc] 36
 obtain ⟨e0, e1, e2, e3, e4, e5, e6, e7, e8, e9⟩ := ge10 hce
 obtain ⟨x0, x1, x2, x3, x4, x5, x6, x7, x8, x9⟩ := gx10 hce u0
 rw [← hu0, ← hW0] at x0 x1 x2 x3 x4 x5 x6 x7 x8 x9
 have HLS := Lib.hid (fun u : Ext (w.heap.size + 1) W0 => ext_call u hsz (rlist_of d H az xa xc B u.w (hAZ.below (hbe u) hB (fun _ _ h => IsX.below (hbe u) hB _ _ h)) (Nat.le_trans hB (hbe u).size) hdp hwxs))
 simp only [hm] at HLS
 obtain ⟨J, hJ⟩ := nam (jn (az.map textX))
 have hjl : J.length ≤ 67108864 := by have := row_len az; rw [hJ] at this; omega
 rw [hJ] at HLS
 rw [snd_textXs, hJ] at hq2
 obtain ⟨Ya1, hYa1⟩ : ∃ Y, (nm.data.toList : List UInt8) ++ [40] = Y := ⟨_, rfl⟩
 have hla1 : Ya1.length = (nm.data.toList).length + 1 := by rw [← hYa1, List.length_append]; (first | done | rfl)
 have haa1 : ∀ u, (Op.stringOp .add nm (⟨#[40]⟩ : ByteArray)).run Tryz.prog u = .ok (.string (strOf Ya1)) u := fun u => add2 _ _ _ _ (strOf_toList nm) rfl u (by show (nm.data.toList).length + 1 ≤ 9223372036854775807; omega) hYa1
 obtain ⟨Ya2, hYa2⟩ : ∃ Y, (Ya1 : List UInt8) ++ J = Y := ⟨_, rfl⟩
 have hla2 : Ya2.length = (Ya1).length + (J).length := by rw [← hYa2, List.length_append]; (first | done | rfl)
 have haa2 : ∀ u, (Op.stringOp .add (strOf Ya1) (strOf J)).run Tryz.prog u = .ok (.string (strOf Ya2)) u := fun u => add2 _ _ _ _ rfl rfl u (by show (Ya1).length + (J).length ≤ 9223372036854775807; omega) hYa2
 obtain ⟨Ya3, hYa3⟩ : ∃ Y, (Ya2 : List UInt8) ++ [41] = Y := ⟨_, rfl⟩
 have hla3 : Ya3.length = (Ya2).length + 1 := by rw [← hYa3, List.length_append]; (first | done | rfl)
 have haa3 : ∀ u, (Op.stringOp .add (strOf Ya2) (⟨#[41]⟩ : ByteArray)).run Tryz.prog u = .ok (.string (strOf Ya3)) u := fun u => add2 _ _ _ _ rfl rfl u (by show (Ya2).length + 1 ≤ 9223372036854775807; omega) hYa3
 have hfin : q = Ya3 := by rw [← hq2, ← hYa3, ← hYa2, ← hYa1]; (first | done | simp)
 subst hfin
 clear hq2 hYa1 hYa2 hYa3
 obtain ⟨HBE, HSZ, HW0, HU0⟩ := hd4 hbe hsz hW0 hu0
 clear hbe hsz hW0 hu0 hce hq hop hV hNA hXA hNS hX0 hn hw hv hdeep hdp hnm hks hwxs hwv hm hAZ  hJ
 go_enter Tryz.func36, Tryz.ntmps36
 go_upto_region 1 with fail
 rw [HW0.out, HU0.out]
 go_wp2_with fail
 (refine wp_region_at _ (by kernel_rfl) (by kernel_rfl) ?_; (repeat (go_big_quiet_step (first | (with_reducible exact HLS.out _)))); refine wpQuiet_nil ?_; rintro w9 ⟨u9, rfl⟩)
 go_wp2_with fail
 go_ret
 exact ⟨by rfl, HBE.out _⟩
set_option maxHeartbeats 32000000 in
theorem rtext_14 (d : Nat) (H : RTextSaid d) : RTextKind d 14 := by
 intro nm v ns az cs B w hX hB hdeep hw
 have hX0 := hX
 obtain ⟨hnm, hdp⟩ := deep_parts hdeep
 rw [namedB, if_neg (ng 14 1), if_neg (ng 14 2), if_neg (ng 14 3), if_neg (ng 14 4), if_neg (ng 14 15), if_neg (ng 14 5), if_neg (ng 14 6), if_neg (ng 14 7), if_neg (ng 14 8), if_neg (ng 14 9), if_neg (ng 14 11), if_neg (ng 14 12), if_neg (ng 14 10), if_neg (ng 14 13), if_pos rfl] at hnm
 obtain ⟨k, bo, i, s, l9, ks, la, lc, ka, kc, na, nc, xa, xc, hv, rfl, hop, hV, hNA, hXA, hNS, hAZ⟩ := hX.cells
 clear hX
 have hs : nm.size ≤ 1048576 := by simp only [wtX] at hw; omega
 have hks : wtS ns ≤ 1048576 := by simp only [wtX] at hw; omega
 have hwxs : wtXs az ≤ 1048576 := by simp only [wtX] at hw; omega
 have hwv : wtV v ≤ 1048576 := by simp only [wtX] at hw; omega
 have hnl : nm.data.toList.length ≤ 1048576 := by have := ba_len nm; omega
 obtain ⟨q, hq⟩ := nam (bodyX 14 nm v ns (textXs az))
 rw [hq]
 have hq2 := hq
 rw [bodyX, if_neg (ng 14 1), if_neg (ng 14 2), if_neg (ng 14 3), if_neg (ng 14 4), if_neg (ng 14 15), if_neg (ng 14 7), if_neg (ng 14 5), if_neg (ng 14 6), if_neg (ng 14 8), if_neg (ng 14 9), if_neg (ng 14 11), if_neg (ng 14 12), if_neg (ng 14 10), if_pos rfl] at hq2
 obtain ⟨n, hn⟩ := nam ns.length
 rw [hn] at hX0 ⊢
 obtain ⟨m, hm⟩ := nam az.length
 rw [hm] at hX0 ⊢
 obtain ⟨W0, u0, hW0, hu0, hsz, hbe, hce⟩ := box_ext w [.int .i64 14, .string nm, .int .i64 k, .bool bo, .int .i64 i, .string s, .slice la l9.length lc, .slice ka ks.length kc, .slice na n nc, .slice xa m xc] 36
 obtain ⟨e0, e1, e2, e3, e4, e5, e6, e7, e8, e9⟩ := ge10 hce
 obtain ⟨x0, x1, x2, x3, x4, x5, x6, x7, x8, x9⟩ := gx10 hce u0
 rw [← hu0, ← hW0] at x0 x1 x2 x3 x4 x5 x6 x7 x8 x9
 rw [textXs_len, hm] at hq2
 by_cases hz : m = 0
 ·subst hz
  rw [if_pos rfl] at hq2
  obtain ⟨Ya1, hYa1⟩ : ∃ Y, (nm.data.toList : List UInt8) ++ [40, 42, 41] = Y := ⟨_, rfl⟩
  have hla1 : Ya1.length = (nm.data.toList).length + 3 := by rw [← hYa1, List.length_append]; (first | done | rfl)
  have haa1 : ∀ u, (Op.stringOp .add nm (⟨#[40, 42, 41]⟩ : ByteArray)).run Tryz.prog u = .ok (.string (strOf Ya1)) u := fun u => add2 _ _ _ _ (strOf_toList nm) rfl u (by show (nm.data.toList).length + 3 ≤ 9223372036854775807; omega) hYa1
  have hfin : q = Ya1 := by rw [← hq2, ← hYa1]; (first | done | simp)
  subst hfin
  clear hq2 hYa1
  obtain ⟨HBE, HSZ, HW0, HU0⟩ := hd4 hbe hsz hW0 hu0
  clear hbe hsz hW0 hu0 hce hq hop hV hNA hXA hNS hX0 hn hw hv hdeep hdp hnm hks hwxs hwv hm hAZ
  go_enter Tryz.func36, Tryz.ntmps36
  go_upto_region 1 with fail
  rw [HW0.out, HU0.out]
  go_wp2_with fail
  go_ret
  exact ⟨by rfl, HBE.out _⟩
 ·rw [if_neg hz] at hq2
  have hzz : ((m : Int) == 0) = false := by simp; omega
  have HLS := Lib.hid (fun u : Ext (w.heap.size + 1) W0 => ext_call u hsz (rlist_of d H az xa xc B u.w (hAZ.below (hbe u) hB (fun _ _ h => IsX.below (hbe u) hB _ _ h)) (Nat.le_trans hB (hbe u).size) hdp hwxs))
  simp only [hm] at HLS
  obtain ⟨J, hJ⟩ := nam (jn (az.map textX))
  have hjl : J.length ≤ 67108864 := by have := row_len az; rw [hJ] at this; omega
  rw [hJ] at HLS
  rw [snd_textXs, hJ] at hq2
  obtain ⟨Yb1, hYb1⟩ : ∃ Y, (nm.data.toList : List UInt8) ++ [40] = Y := ⟨_, rfl⟩
  have hlb1 : Yb1.length = (nm.data.toList).length + 1 := by rw [← hYb1, List.length_append]; (first | done | rfl)
  have hab1 : ∀ u, (Op.stringOp .add nm (⟨#[40]⟩ : ByteArray)).run Tryz.prog u = .ok (.string (strOf Yb1)) u := fun u => add2 _ _ _ _ (strOf_toList nm) rfl u (by show (nm.data.toList).length + 1 ≤ 9223372036854775807; omega) hYb1
  obtain ⟨Yb2, hYb2⟩ : ∃ Y, (Yb1 : List UInt8) ++ J = Y := ⟨_, rfl⟩
  have hlb2 : Yb2.length = (Yb1).length + (J).length := by rw [← hYb2, List.length_append]; (first | done | rfl)
  have hab2 : ∀ u, (Op.stringOp .add (strOf Yb1) (strOf J)).run Tryz.prog u = .ok (.string (strOf Yb2)) u := fun u => add2 _ _ _ _ rfl rfl u (by show (Yb1).length + (J).length ≤ 9223372036854775807; omega) hYb2
  obtain ⟨Yb3, hYb3⟩ : ∃ Y, (Yb2 : List UInt8) ++ [41] = Y := ⟨_, rfl⟩
  have hlb3 : Yb3.length = (Yb2).length + 1 := by rw [← hYb3, List.length_append]; (first | done | rfl)
  have hab3 : ∀ u, (Op.stringOp .add (strOf Yb2) (⟨#[41]⟩ : ByteArray)).run Tryz.prog u = .ok (.string (strOf Yb3)) u := fun u => add2 _ _ _ _ rfl rfl u (by show (Yb2).length + 1 ≤ 9223372036854775807; omega) hYb3
  have hfin : q = Yb3 := by rw [← hq2, ← hYb3, ← hYb2, ← hYb1]; (first | done | simp)
  subst hfin
  clear hq2 hYb1 hYb2 hYb3
  obtain ⟨HBE, HSZ, HW0, HU0⟩ := hd4 hbe hsz hW0 hu0
  clear hbe hsz hW0 hu0 hce hq hop hV hNA hXA hNS hX0 hn hw hv hdeep hdp hnm hks hwxs hwv hm hAZ  hJ
  go_enter Tryz.func36, Tryz.ntmps36
  go_upto_region 1 with fail
  rw [HW0.out, HU0.out]
  go_wp2_with fail
  (refine wp_region_at _ (by kernel_rfl) (by kernel_rfl) ?_; (repeat (go_big_quiet_step (first | (with_reducible exact HLS.out _)))); refine wpQuiet_nil ?_; rintro w9 ⟨u9, rfl⟩)
  go_wp2_with fail
  go_ret
  exact ⟨by rfl, HBE.out _⟩
theorem rexprText_any (d : Nat) : RTextSaid d := by
 induction d with
 | zero => intro t cs B w hX hB hdeep hw; rw [deepB] at hdeep; cases hdeep
 | succ d ih =>
  intro t cs B w hX hB hdeep hw
  obtain ⟨op, nm, v, ns, az⟩ := t
  rw [textX_eq]
  have h := named_no (deep_parts hdeep).1
  rcases h with rfl | rfl | rfl | rfl | rfl | rfl | rfl | rfl | rfl | rfl | rfl | rfl | rfl | rfl | rfl
  ·exact rtext_1 d ih nm v ns az cs B w hX hB hdeep hw
  ·exact rtext_2 d ih nm v ns az cs B w hX hB hdeep hw
  ·exact rtext_3 d ih nm v ns az cs B w hX hB hdeep hw
  ·exact rtext_4 d ih nm v ns az cs B w hX hB hdeep hw
  ·exact rtext_15 d ih nm v ns az cs B w hX hB hdeep hw
  ·exact rtext_5 d ih nm v ns az cs B w hX hB hdeep hw
  ·exact rtext_6 d ih nm v ns az cs B w hX hB hdeep hw
  ·exact rtext_7 d ih nm v ns az cs B w hX hB hdeep hw
  ·exact rtext_8 d ih nm v ns az cs B w hX hB hdeep hw
  ·exact rtext_9 d ih nm v ns az cs B w hX hB hdeep hw
  ·exact rtext_11 d ih nm v ns az cs B w hX hB hdeep hw
  ·exact rtext_12 d ih nm v ns az cs B w hX hB hdeep hw
  ·exact rtext_10 d ih nm v ns az cs B w hX hB hdeep hw
  ·exact rtext_13 d ih nm v ns az cs B w hX hB hdeep hw
  ·exact rtext_14 d ih nm v ns az cs B w hX hB hdeep hw
set_option maxHeartbeats 16000000 in
theorem rexpr_any (t : Ex) (cs : List Value) (B : Nat) (w : World) (hX : IsX B w cs t) (hB : B ≤ w.heap.size) (hw : wtX t ≤ 1048576) :
    Calls Tryz.prog 15 #[.agg cs.toArray] w fun e w' => e = .returned (if deepB 32 t = true then .tuple #[.string (strOf (textX t)), .int .i64 0] else .tuple #[.string ⟨#[]⟩, .int .i64 20]) ∧ Below w.heap.size w w' := by
 have hX0 := hX
 obtain ⟨q, hq⟩ := nam (deepB 32 t)
 rw [hq]
 have hw4 : wtX t ≤ 1099511627776 := by omega
 obtain ⟨T, hT⟩ := nam (textX t)
 rw [hT]
 have HMY0 := fun (W0 : World) (u : Ext (w.heap.size + 1) W0) (hbe : Below w.heap.size w u.w) (hsz : w.heap.size + 1 ≤ W0.heap.size) => ext_call u hsz (rmayExpr_any t cs B u.w (IsX.below hbe hB _ _ hX0) (Nat.le_trans hB hbe.size) hw4)
 have HTX0 := fun (hd : q = true) (W0 : World) (u : Ext (w.heap.size + 1) W0) (hbe : Below w.heap.size w u.w) (hsz : w.heap.size + 1 ≤ W0.heap.size) => ext_call u hsz (rexprText_any 32 t cs B u.w (IsX.below hbe hB _ _ hX0) (Nat.le_trans hB hbe.size) (by rw [hq]; exact hd) hw)
 rw [hq] at HMY0
 rw [hT] at HTX0
 obtain ⟨op, nm, v, ns, az⟩ := t
 obtain ⟨k, b, i, s, l, ks, la, lc, ka, kc, na, nc, xa, xc, hv, rfl, hop, hV, hNA, hXA, hNS, hAZ⟩ := hX.cells
 clear hX
 obtain ⟨m, hm⟩ := nam az.length
 obtain ⟨n, hn⟩ := nam ns.length
 rw [hm, hn] at hX0 HMY0 HTX0 ⊢
 obtain ⟨W0, u0, hW0, hu0, hsz, hbe, hce⟩ := box_ext w [.int .i64 op, .string nm, .int .i64 k, .bool b, .int .i64 i, .string s, .slice la l.length lc, .slice ka ks.length kc, .slice na n nc, .slice xa m xc] 36
 obtain ⟨e0, e1, e2, e3, e4, e5, e6, e7, e8, e9⟩ := ge10 hce
 obtain ⟨x0, x1, x2, x3, x4, x5, x6, x7, x8, x9⟩ := gx10 hce u0
 rw [← hu0, ← hW0] at x0 x1 x2 x3 x4 x5 x6 x7 x8 x9
 have HMY := Lib.hid (fun u : Ext (w.heap.size + 1) W0 => HMY0 W0 u (hbe u) hsz)
 have HTX := Lib.hid (fun (hd : q = true) (u : Ext (w.heap.size + 1) W0) => HTX0 hd W0 u (hbe u) hsz)
 obtain ⟨HBE, HW0, HU0⟩ := hd3 hbe hW0 hu0
 clear hbe hW0 hu0 hsz hce hNS hm hn hv hV hNA hXA hAZ hX0 hw hop hq hT hw4 HMY0 HTX0
 cases q with
 | true =>
  have HT2 := Lib.hid (HTX.out rfl)
  go_enter Tryz.func15, Tryz.ntmps15
  go_upto_region 1 with fail
  rw [HW0.out, HU0.out]
  go_wp2_with fail
  refine (HMY.out _).mono ?_
  rintro e w2 ⟨rfl, u2, rfl⟩
  go_wp2_with fail
  refine (HT2.out _).mono ?_
  rintro e w3 ⟨rfl, u3, rfl⟩
  go_wp2_with fail
  go_ret2
  exact ⟨by rfl, HBE.out _⟩
 | false =>
  go_enter Tryz.func15, Tryz.ntmps15
  go_upto_region 1 with fail
  rw [HW0.out, HU0.out]
  go_wp2_with fail
  refine (HMY.out _).mono ?_
  rintro e w2 ⟨rfl, u2, rfl⟩
  go_wp2_with fail
  go_ret2
  exact ⟨by rfl, HBE.out _⟩
end Go.Proofs.YtndhpdclpgemfaaGreat

/- Parts Q29 of this seat (pruned, scripts that are alike kept once as default arguments: q1, q2, ..). Conditions: each says its own. -/
import Derived.Test.YteljlahcdipilaaGreatF35
namespace Go.Proofs.YteljlahcdipilaaGreat
open Go.RowKit Go.Shelf
set_option linter.unusedSimpArgs false
set_option linter.unusedVariables false
set_option maxRecDepth 100000
theorem rows_s (f : Nat) (kd : Int) (hk : in64 kd) : Said 100 [.int .i64 kd] (.rows kd) (RtN RCl V.clause) f := by
 cases f with
 | zero => exact Said.zero
 | succ f => exact fun bp a cap L k w x h hT hk' hr => rows_any kd hk bp a cap L k w x h hT hk' hr
theorem cl_whr {S S2 : Nat → Prop} {w : World} {cs : List Value} {c : Clt} {xa : Option Addr} {xc : Nat} {az : List Ex} (h : HG (fun u => RCl u cs c) S w) (h2 : RowX S2 w xa az) (s2 : SlOk xa az.length xc) : HG (fun u => RCl u (cs.set 2 (.slice xa az.length xc)) { c with whr := az }) (fun b => S b ∨ S2 b) w :=
  (HG.and h h2).imp fun u ⟨⟨a1, c1, a2, c2, xe, a5, c5, a7, c7, a8, c8, a9, c9, a10, c10, a11, c11, e, hk, t1, g1, t2, g2, g3, t5, g5, t7, g7, t8, g8, t9, g9, t10, g10, t11, g11⟩, h2⟩ =>
    ⟨a1, c1, xa, xc, xe, a5, c5, a7, c7, a8, c8, a9, c9, a10, c10, a11, c11, by rw [e]; rfl, hk, t1, g1, s2, h2, g3, t5, g5, t7, g7, t8, g8, t9, g9, t10, g10, t11, g11⟩
set_option maxHeartbeats 8000000 in
theorem match_any {f : Nat} (bp : Nat) (a : Option Addr) (cap : Nat) (L : List (Tok × Nat)) (k : Nat) (w : World) (x : Pr) (h : Ps bp a cap L k w) (hT : Tk L) (hk : k < L.length)  (hr : run (f + 1) (.clause wMATCH) (rem L k) = some x) :
    Calls Tryz.prog 78 #[.pointer (some ⟨bp, 0, none⟩)] w (PR (RtN RCl V.clause) bp L k w x) := by
 have hr : Go.Proofs.YteljlahcdipilaaGreat.step (run f) (.clause wMATCH) (rem L k) = some x := hr
 simp only [Go.Proofs.YteljlahcdipilaaGreat.step, wrd, sigB, if_true, if_false, tail_rem] at hr
 have HT := Lib.hid hT
 have HK0 := Lib.hid hk
 have X0 := Lib.hid hr
 have hbw := h.lt
 obtain ⟨u0, hy0⟩ : ∃ u, w.alloc (.cells #[.int .i64 0, .slice none 0 0, .slice none 0 0, .int .i64 0, .string ⟨#[]⟩, .int .i64 0, .bool false, .int .i64 0, .string ⟨#[]⟩, .slice none 0 0, .slice none 0 0, .slice none 0 0, .slice none 0 0, .string ⟨#[]⟩, .slice none 0 0, .bool false, .slice none 0 0, .slice none 0 0, .slice none 0 0, .slice none 0 0, .slice none 0 0, .bool false] 71) = u := ⟨_, rfl⟩
 have s0 : St bp a cap L w k u0 := by rw [← hy0]; exact (St.start h).alloc _
 have b0 : Block u0 w.heap.size [.int .i64 0, .slice none 0 0, .slice none 0 0, .int .i64 0, .string ⟨#[]⟩, .int .i64 0, .bool false, .int .i64 0, .string ⟨#[]⟩, .slice none 0 0, .slice none 0 0, .slice none 0 0, .slice none 0 0, .string ⟨#[]⟩, .slice none 0 0, .bool false, .slice none 0 0, .slice none 0 0, .slice none 0 0, .slice none 0 0, .slice none 0 0, .bool false] 71 := by rw [← hy0]; exact Block.new w _ _
 have B0r := Lib.hid b0
 clear b0
 have S0 := Lib.hid s0
 have HU := Lib.hid hy0
 clear s0 hy0 h hT hk hr
 have z0 := B0r.out.lt
 go_enter Tryz.func78, Tryz.ntmps78
 go_upto_region 1 with fail
 rw [HU.out]
 go_wp2_with (go_at_call 95; refine Stand.out ?_)
 refine Stand.mk ?_
 refine ((paths_s f).go2 S0.out HT.out HK0.out X0.out).mono ?_
 rintro e u1 (⟨p9, r9, rfl, rfl, f9⟩ | ⟨v1, k1, val1, q1, l1, x1, rfl, ⟨T1, xa1, xc1, rfl, hT1, hX1, hs1⟩, m1⟩)
 ·go_wp2_with fail
  exact ⟨rfl, f9⟩
 have X1 := Lib.hid x1
 have HK1 := Lib.hid l1
 clear x1 l1
 have S1 := Lib.hid (S0.out.call m1)
 have B1r := Lib.hid (m1.blk B0r.out (by omega))
 have zw1 := S1.out.size
 have zz1 := Mv.size m1
 clear m1
 have V1p := Lib.hid hX1
 clear hX1
 have Np := Lib.hid hT1
 have HSp := Lib.hid hs1
 clear hs1
 go_wp2_with (go_at_call 96; refine Stand.out ?_)
 refine Stand.mk ?_
 refine ((may_s f wWHERE).go2 S1.out HT.out HK1.out X1.out).mono ?_
 rintro e u2 (⟨p9, r9, rfl, rfl, f9⟩ | ⟨v2, k2, val2, q2, l2, x2, rfl, ⟨T2, xa2, xc2, rfl, hT2, hX2, hs2⟩, m2⟩)
 ·go_wp2_with fail
  exact ⟨rfl, f9⟩
 have X2 := Lib.hid x2
 have HK2 := Lib.hid l2
 clear x2 l2
 have S2 := Lib.hid (S1.out.call m2)
 have B2r := Lib.hid (m2.blk B1r.out (by omega))
 have V2p := Lib.hid (V1p.out.mv m2 (fun h => absurd (Np.out _ h) (by omega)))
 have zw2 := S2.out.size
 have zz2 := Mv.size m2
 clear m2
 have V2h := Lib.hid hX2
 clear hX2
 have Nh := Lib.hid hT2
 have HSh := Lib.hid hs2
 clear hs2
 obtain rfl := Option.some.inj X2.out
 have hTh := block_there B2r.out 0 22 (Nat.le_refl 22)
 go_wp2_with (first | (refine wpList_store_mid rfl 71 _ _ rfl w.heap.size 0 #[.int .i64 1, .slice xa1 v1.paths.length xc1, .slice xa2 v2.exs.length xc2, .int .i64 0, .string ⟨#[]⟩, .int .i64 0, .bool false, .int .i64 0, .string ⟨#[]⟩, .slice none 0 0, .slice none 0 0, .slice none 0 0, .slice none 0 0, .string ⟨#[]⟩, .slice none 0 0, .bool false, .slice none 0 0, .slice none 0 0, .slice none 0 0, .slice none 0 0, .slice none 0 0, .bool false] rfl rfl hTh (by kernel_rfl) (by simp [Value.oneCell']) ?_))
 have B99 := B2r.out.all [.int .i64 1, .slice xa1 v1.paths.length xc1, .slice xa2 v2.exs.length xc2, .int .i64 0, .string ⟨#[]⟩, .int .i64 0, .bool false, .int .i64 0, .string ⟨#[]⟩, .slice none 0 0, .slice none 0 0, .slice none 0 0, .slice none 0 0, .string ⟨#[]⟩, .slice none 0 0, .bool false, .slice none 0 0, .slice none 0 0, .slice none 0 0, .slice none 0 0, .slice none 0 0, .bool false] rfl
 refine bodyPost_ret (results_cell_row (by rfl) _ _ w.heap.size 71 _ (0, 0) _ (by rfl) B99 Tryz.underlying71 rfl (by kernel_rfl)) rfl ?_
 have VC := mk_cl (w := u2) (c := { bareC 1 with paths := v1.paths, whr := v2.exs }) (show in64 (1 : Int) from by unfold in64; decide) V2p.out HSp.out V2h.out HSh.out (emptyX_hx _) (nRow _) nil_sl (nRow _) nil_sl (nRowX _) nil_sl (nRowX _) nil_sl (nRow _) nil_sl (nRowK _) nil_sl
 have hlo : ∀ q, ((((((((T1 q ∨ T2 q) ∨ False) ∨ False) ∨ False) ∨ False) ∨ False) ∨ False) ∨ False) → w.heap.size + 1 ≤ q := fun q h => by
  simp only [or_false, false_or] at h
  rcases h with h | h
  ·have := hT1 q h; omega
  ·have := hT2 q h; omega
 exact ⟨k2, _, by omega, HK2.out, rfl, rfl, RtN.mk (VC.sets 0 _ (fun h => absurd (hlo _ h) (by omega))) (rfl) (fun b h => by have := hlo b h; omega), (S2.out.sets (Nat.le_refl _) 0 _).mv⟩
set_option maxHeartbeats 8000000 in
theorem create_any {f : Nat} (bp : Nat) (a : Option Addr) (cap : Nat) (L : List (Tok × Nat)) (k : Nat) (w : World) (x : Pr) (h : Ps bp a cap L k w) (hT : Tk L) (hk : k < L.length)  (hr : run (f + 1) (.clause wCREATE) (rem L k) = some x) :
    Calls Tryz.prog 81 #[.pointer (some ⟨bp, 0, none⟩)] w (PR (RtN RCl V.clause) bp L k w x) := by
 have hr : Go.Proofs.YteljlahcdipilaaGreat.step (run f) (.clause wCREATE) (rem L k) = some x := hr
 simp only [Go.Proofs.YteljlahcdipilaaGreat.step, (by decide : ¬ (wCREATE : List UInt8) = wMATCH), (by decide : ¬ (wCREATE : List UInt8) = wUNWIND), (by decide : ¬ (wCREATE : List UInt8) = wWITH), (by decide : ¬ (wCREATE : List UInt8) = wRETURN), wrd, sigB, if_true, if_false, tail_rem] at hr
 have HT := Lib.hid hT
 have HK0 := Lib.hid hk
 have X0 := Lib.hid hr
 have hbw := h.lt
 obtain ⟨u0, hy0⟩ : ∃ u, w.alloc (.cells #[.int .i64 0, .slice none 0 0, .slice none 0 0, .int .i64 0, .string ⟨#[]⟩, .int .i64 0, .bool false, .int .i64 0, .string ⟨#[]⟩, .slice none 0 0, .slice none 0 0, .slice none 0 0, .slice none 0 0, .string ⟨#[]⟩, .slice none 0 0, .bool false, .slice none 0 0, .slice none 0 0, .slice none 0 0, .slice none 0 0, .slice none 0 0, .bool false] 71) = u := ⟨_, rfl⟩
 have s0 : St bp a cap L w k u0 := by rw [← hy0]; exact (St.start h).alloc _
 have b0 : Block u0 w.heap.size [.int .i64 0, .slice none 0 0, .slice none 0 0, .int .i64 0, .string ⟨#[]⟩, .int .i64 0, .bool false, .int .i64 0, .string ⟨#[]⟩, .slice none 0 0, .slice none 0 0, .slice none 0 0, .slice none 0 0, .string ⟨#[]⟩, .slice none 0 0, .bool false, .slice none 0 0, .slice none 0 0, .slice none 0 0, .slice none 0 0, .slice none 0 0, .bool false] 71 := by rw [← hy0]; exact Block.new w _ _
 have B0r := Lib.hid b0
 clear b0
 have S0 := Lib.hid s0
 have HU := Lib.hid hy0
 clear s0 hy0 h hT hk hr
 have z0 := B0r.out.lt
 go_enter Tryz.func81, Tryz.ntmps81
 go_upto_region 1 with fail
 rw [HU.out]
 go_wp2_with (go_at_call 95; refine Stand.out ?_)
 refine Stand.mk ?_
 refine ((paths_s f).go2 S0.out HT.out HK0.out X0.out).mono ?_
 rintro e u1 (⟨p9, r9, rfl, rfl, f9⟩ | ⟨v1, k1, val1, q1, l1, x1, rfl, ⟨T1, xa1, xc1, rfl, hT1, hX1, hs1⟩, m1⟩)
 ·go_wp2_with fail
  exact ⟨rfl, f9⟩
 have X1 := Lib.hid x1
 have HK1 := Lib.hid l1
 clear x1 l1
 have S1 := Lib.hid (S0.out.call m1)
 have B1r := Lib.hid (m1.blk B0r.out (by omega))
 have zw1 := S1.out.size
 have zz1 := Mv.size m1
 clear m1
 have V1p := Lib.hid hX1
 clear hX1
 have Np := Lib.hid hT1
 have HSp := Lib.hid hs1
 clear hs1
 obtain rfl := Option.some.inj X1.out
 have hTh := block_there B1r.out 0 22 (Nat.le_refl 22)
 go_wp2_with (first | (refine wpList_store_mid rfl 71 _ _ rfl w.heap.size 0 #[.int .i64 4, .slice xa1 v1.paths.length xc1, .slice none 0 0, .int .i64 0, .string ⟨#[]⟩, .int .i64 0, .bool false, .int .i64 0, .string ⟨#[]⟩, .slice none 0 0, .slice none 0 0, .slice none 0 0, .slice none 0 0, .string ⟨#[]⟩, .slice none 0 0, .bool false, .slice none 0 0, .slice none 0 0, .slice none 0 0, .slice none 0 0, .slice none 0 0, .bool false] rfl rfl hTh (by kernel_rfl) (by simp [Value.oneCell']) ?_))
 have B99 := B1r.out.all [.int .i64 4, .slice xa1 v1.paths.length xc1, .slice none 0 0, .int .i64 0, .string ⟨#[]⟩, .int .i64 0, .bool false, .int .i64 0, .string ⟨#[]⟩, .slice none 0 0, .slice none 0 0, .slice none 0 0, .slice none 0 0, .string ⟨#[]⟩, .slice none 0 0, .bool false, .slice none 0 0, .slice none 0 0, .slice none 0 0, .slice none 0 0, .slice none 0 0, .bool false] rfl
 refine bodyPost_ret (results_cell_row (by rfl) _ _ w.heap.size 71 _ (0, 0) _ (by rfl) B99 Tryz.underlying71 rfl (by kernel_rfl)) rfl ?_
 have VC := mk_cl (w := u1) (c := { bareC 4 with paths := v1.paths }) (show in64 (4 : Int) from by unfold in64; decide) V1p.out HSp.out (nRowX _) nil_sl (emptyX_hx _) (nRow _) nil_sl (nRow _) nil_sl (nRowX _) nil_sl (nRowX _) nil_sl (nRow _) nil_sl (nRowK _) nil_sl
 have hlo : ∀ q, ((((((((T1 q ∨ False) ∨ False) ∨ False) ∨ False) ∨ False) ∨ False) ∨ False) ∨ False) → w.heap.size + 1 ≤ q := fun q h => by
  simp only [or_false, false_or] at h
  have := hT1 q h; omega
 exact ⟨k1, _, by omega, HK1.out, rfl, rfl, RtN.mk (VC.sets 0 _ (fun h => absurd (hlo _ h) (by omega))) (rfl) (fun b h => by have := hlo b h; omega), (S1.out.sets (Nat.le_refl _) 0 _).mv⟩
set_option maxHeartbeats 8000000 in
theorem unwind_any {f : Nat} (bp : Nat) (a : Option Addr) (cap : Nat) (L : List (Tok × Nat)) (k : Nat) (w : World) (x : Pr) (h : Ps bp a cap L k w) (hT : Tk L) (hk : k < L.length)  (hr : run (f + 1) (.clause wUNWIND) (rem L k) = some x) :
    Calls Tryz.prog 79 #[.pointer (some ⟨bp, 0, none⟩)] w (PR (RtN RCl V.clause) bp L k w x) := by
 have hr : Go.Proofs.YteljlahcdipilaaGreat.step (run f) (.clause wUNWIND) (rem L k) = some x := hr
 simp only [Go.Proofs.YteljlahcdipilaaGreat.step, (by decide : ¬ (wUNWIND : List UInt8) = wMATCH), wrd, sigB, if_true, if_false, tail_rem] at hr
 have HT := Lib.hid hT
 have HK0 := Lib.hid hk
 have X0 := Lib.hid hr
 have hbw := h.lt
 obtain ⟨u0, hy0⟩ : ∃ u, w.alloc (.cells #[.int .i64 0, .slice none 0 0, .slice none 0 0, .int .i64 0, .string ⟨#[]⟩, .int .i64 0, .bool false, .int .i64 0, .string ⟨#[]⟩, .slice none 0 0, .slice none 0 0, .slice none 0 0, .slice none 0 0, .string ⟨#[]⟩, .slice none 0 0, .bool false, .slice none 0 0, .slice none 0 0, .slice none 0 0, .slice none 0 0, .slice none 0 0, .bool false] 71) = u := ⟨_, rfl⟩
 have s0 : St bp a cap L w k u0 := by rw [← hy0]; exact (St.start h).alloc _
 have b0 : Block u0 w.heap.size [.int .i64 0, .slice none 0 0, .slice none 0 0, .int .i64 0, .string ⟨#[]⟩, .int .i64 0, .bool false, .int .i64 0, .string ⟨#[]⟩, .slice none 0 0, .slice none 0 0, .slice none 0 0, .slice none 0 0, .string ⟨#[]⟩, .slice none 0 0, .bool false, .slice none 0 0, .slice none 0 0, .slice none 0 0, .slice none 0 0, .slice none 0 0, .bool false] 71 := by rw [← hy0]; exact Block.new w _ _
 have B0r := Lib.hid b0
 clear b0
 have S0 := Lib.hid s0
 have HU := Lib.hid hy0
 clear s0 hy0 h hT hk hr
 have z0 := B0r.out.lt
 go_enter Tryz.func79, Tryz.ntmps79
 go_upto_region 1 with fail
 rw [HU.out]
 go_wp2_with (go_at_call 97; refine Stand.out ?_)
 refine Stand.mk ?_
 refine ((expr_s f 1 (by decide)).go2 S0.out HT.out HK0.out X0.out).mono ?_
 rintro e u1 (⟨p9, r9, rfl, rfl, f9⟩ | ⟨v1, k1, val1, q1, l1, x1, rfl, ⟨T1, ds1, rfl, hT1, hX1⟩, m1⟩)
 ·go_wp2_with fail
  exact ⟨rfl, f9⟩
 have X1 := Lib.hid x1
 have HK1 := Lib.hid l1
 clear x1 l1
 have S1 := Lib.hid (S0.out.call m1)
 have B1r := Lib.hid (m1.blk B0r.out (by omega))
 have zw1 := S1.out.size
 have zz1 := Mv.size m1
 clear m1
 obtain ⟨op1, nm1, vk1, vb1, vi1, vs1, la1, ln1, lc1, ka1, kn1, kc1, na1, nn1, nc1, xa1, xn1, xc1, -, -, rfl⟩ := hX1.ten
 have V1p := Lib.hid hX1
 clear hX1
 have Np := Lib.hid hT1
 have hTh := block_there (Block.new u1 [.int .i64 0, .slice none 0 0, .slice none 0 0, .int .i64 0, .string ⟨#[]⟩, .int .i64 0, .bool false, .int .i64 0, .string ⟨#[]⟩, .slice none 0 0, .slice none 0 0, .slice none 0 0, .slice none 0 0, .string ⟨#[]⟩, .slice none 0 0, .bool false, .slice none 0 0, .slice none 0 0, .slice none 0 0, .slice none 0 0, .slice none 0 0, .bool false] 71) 0 22 (Nat.le_refl 22)
 go_upto_region 2 with (first | (refine wpList_store_mid rfl 71 _ _ rfl u1.heap.size 0 #[.int .i64 2, .slice none 0 0, .slice none 0 0, .int .i64 op1, .string nm1, .int .i64 vk1, .bool vb1, .int .i64 vi1, .string vs1, .slice la1 ln1 lc1, .slice ka1 kn1 kc1, .slice na1 nn1 nc1, .slice xa1 xn1 xc1, .string ⟨#[]⟩, .slice none 0 0, .bool false, .slice none 0 0, .slice none 0 0, .slice none 0 0, .slice none 0 0, .slice none 0 0, .bool false] rfl rfl hTh (by kernel_rfl) (by simp [Value.oneCell']) ?_))
 go_frame
 obtain ⟨b4, hb4⟩ := nam u1.heap.size
 rw [hb4]
 obtain ⟨u2, hu2⟩ : ∃ u, (u1.alloc (.cells #[.int .i64 0, .slice none 0 0, .slice none 0 0, .int .i64 0, .string ⟨#[]⟩, .int .i64 0, .bool false, .int .i64 0, .string ⟨#[]⟩, .slice none 0 0, .slice none 0 0, .slice none 0 0, .slice none 0 0, .string ⟨#[]⟩, .slice none 0 0, .bool false, .slice none 0 0, .slice none 0 0, .slice none 0 0, .slice none 0 0, .slice none 0 0, .bool false] 71)).setCells b4 0 ((#[.int .i64 2, .slice none 0 0, .slice none 0 0, .int .i64 op1, .string nm1, .int .i64 vk1, .bool vb1, .int .i64 vi1, .string vs1, .slice la1 ln1 lc1, .slice ka1 kn1 kc1, .slice na1 nn1 nc1, .slice xa1 xn1 xc1, .string ⟨#[]⟩, .slice none 0 0, .bool false, .slice none 0 0, .slice none 0 0, .slice none 0 0, .slice none 0 0, .slice none 0 0, .bool false] : Array Value).toList) = u := ⟨_, rfl⟩
 rw [hu2]
 have zb4 : b4 < u2.heap.size ∧ w.heap.size < b4 ∧ u1.heap.size ≤ u2.heap.size ∧ u1.heap.size = b4 := by have := B1r.out.lt; rw [← hu2, setCells_sz, ← hb4]; simp <;> omega
 have S2 := Lib.hid (show St bp a cap L w k1 u2 from by rw [← hu2]; exact (S1.out.alloc _).sets (by have := S1.out.size; omega) 0 _)
 have B2r := Lib.hid (show Block u2 _ _ _ from by rw [← hu2]; exact (B1r.out.alloc _).of_heap (cells_other (by have := B1r.out.lt; omega) _ 0 _))
 have B2b := Lib.hid (show Block u2 b4 [.int .i64 2, .slice none 0 0, .slice none 0 0, .int .i64 op1, .string nm1, .int .i64 vk1, .bool vb1, .int .i64 vi1, .string vs1, .slice la1 ln1 lc1, .slice ka1 kn1 kc1, .slice na1 nn1 nc1, .slice xa1 xn1 xc1, .string ⟨#[]⟩, .slice none 0 0, .bool false, .slice none 0 0, .slice none 0 0, .slice none 0 0, .slice none 0 0, .slice none 0 0, .bool false] 71 from by rw [← hu2, ← hb4]; exact (Block.new u1 [.int .i64 0, .slice none 0 0, .slice none 0 0, .int .i64 0, .string ⟨#[]⟩, .int .i64 0, .bool false, .int .i64 0, .string ⟨#[]⟩, .slice none 0 0, .slice none 0 0, .slice none 0 0, .slice none 0 0, .string ⟨#[]⟩, .slice none 0 0, .bool false, .slice none 0 0, .slice none 0 0, .slice none 0 0, .slice none 0 0, .slice none 0 0, .bool false] 71).all [.int .i64 2, .slice none 0 0, .slice none 0 0, .int .i64 op1, .string nm1, .int .i64 vk1, .bool vb1, .int .i64 vi1, .string vs1, .slice la1 ln1 lc1, .slice ka1 kn1 kc1, .slice na1 nn1 nc1, .slice xa1 xn1 xc1, .string ⟨#[]⟩, .slice none 0 0, .bool false, .slice none 0 0, .slice none 0 0, .slice none 0 0, .slice none 0 0, .slice none 0 0, .bool false] rfl)
 have V2p := Lib.hid (show HG _ _ u2 from by rw [← hu2]; exact (V1p.out.alloc _).sets 0 _ (fun h => absurd (V1p.out.1 _ h) (by omega)))
 clear hu2 hb4 hTh
 go_wp2_with (go_at_call 98; refine Stand.out ?_)
 refine Stand.mk ?_
 refine (mustWord_go S2.out HT.out HK1.out X1.out).mono ?_
 rintro e u3 (⟨p9, r9, rfl, rfl, f9⟩ | ⟨l3, x3, rfl, m3⟩)
 ·go_wp2_with fail
  exact ⟨rfl, f9⟩
 have X3 := Lib.hid x3
 have HK3 := Lib.hid l3
 clear x3 l3
 have S3 := Lib.hid (S2.out.call m3)
 have B3r := Lib.hid (m3.blk B2r.out (by omega))
 have B3b := Lib.hid (m3.blk B2b.out (by omega))
 have V3p := Lib.hid (V2p.out.mv m3 (fun h => absurd (Np.out _ h) (by omega)))
 have zw3 := S3.out.size
 have zz3 := Mv.size m3
 clear m3
 go_wp2_with (go_at_call 99; refine Stand.out ?_)
 refine Stand.mk ?_
 refine (name_go S3.out HT.out HK3.out X3.out).mono ?_
 rintro e u4 (⟨p9, r9, rfl, rfl, f9⟩ | ⟨n4, l4, x4, rfl, m4⟩)
 ·go_wp2_with fail
  exact ⟨rfl, f9⟩
 have X4 := Lib.hid x4
 have HK4 := Lib.hid l4
 clear x4 l4
 have S4 := Lib.hid (S3.out.call m4)
 have B4r := Lib.hid (m4.blk B3r.out (by omega))
 have B4b := Lib.hid (m4.blk B3b.out (by omega))
 have V4p := Lib.hid (V3p.out.mv m4 (fun h => absurd (Np.out _ h) (by omega)))
 have zw4 := S4.out.size
 have zz4 := Mv.size m4
 clear m4
 have c13 := B4b.out.cell (i := 13) rfl
 have d13 := B4b.out.free 13
 go_upto_region 4 with fail
 clear c13 d13
 obtain ⟨u5, hu⟩ : ∃ u, (u4.setCell ⟨b4, 13, none⟩ (.string n4)) = u := ⟨_, rfl⟩
 rw [hu]
 have S5 := Lib.hid (show St bp a cap L w ((k1 + 1) + 1) u5 from by rw [← hu]; exact (S4.out.set (by omega) 13 _))
 have zz5 : u5.heap.size = u4.heap.size := by rw [← hu]; simp [World.size_setCell]
 have hk5 : ∀ q, q ≠ b4 → u5.heap[q]? = u4.heap[q]? := fun q hq => by rw [← hu, Below.heap_setCell _ ⟨b4, 13, none⟩ _ q hq]
 have B5r := Lib.hid (B4r.out.of_heap (hk5 _ (by omega)))
 have B5b := Lib.hid (show Block u5 b4 [.int .i64 2, .slice none 0 0, .slice none 0 0, .int .i64 op1, .string nm1, .int .i64 vk1, .bool vb1, .int .i64 vi1, .string vs1, .slice la1 ln1 lc1, .slice ka1 kn1 kc1, .slice na1 nn1 nc1, .slice xa1 xn1 xc1, .string n4, .slice none 0 0, .bool false, .slice none 0 0, .slice none 0 0, .slice none 0 0, .slice none 0 0, .slice none 0 0, .bool false] 71 from by rw [← hu]; exact (B4b.out.set 13 _))
 have V5p := Lib.hid (V4p.out.same (w1 := u5) (fun b hb => hk5 b (fun e => absurd (V1p.out.1 _ hb) (by omega))))
 clear hu hk5
 obtain rfl := Option.some.inj X4.out
 have hRg := B5b.out.rng
 have hTh := block_there B5r.out 0 22 (Nat.le_refl 22)
 go_wp2_with (first | (refine wpList_load_mid rfl 71 _ rfl b4 0 rfl [.int .i64 2, .slice none 0 0, .slice none 0 0, .int .i64 op1, .string nm1, .int .i64 vk1, .bool vb1, .int .i64 vi1, .string vs1, .slice la1 ln1 lc1, .slice ka1 kn1 kc1, .slice na1 nn1 nc1, .slice xa1 xn1 xc1, .string n4, .slice none 0 0, .bool false, .slice none 0 0, .slice none 0 0, .slice none 0 0, .slice none 0 0, .slice none 0 0, .bool false] _ hRg Tryz.underlying71 rfl (by kernel_rfl) ?_) | (refine wpList_store_mid rfl 71 _ _ rfl w.heap.size 0 #[.int .i64 2, .slice none 0 0, .slice none 0 0, .int .i64 op1, .string nm1, .int .i64 vk1, .bool vb1, .int .i64 vi1, .string vs1, .slice la1 ln1 lc1, .slice ka1 kn1 kc1, .slice na1 nn1 nc1, .slice xa1 xn1 xc1, .string n4, .slice none 0 0, .bool false, .slice none 0 0, .slice none 0 0, .slice none 0 0, .slice none 0 0, .slice none 0 0, .bool false] rfl rfl hTh (by kernel_rfl) (by simp [Value.oneCell']) ?_))
 have B99 := B5r.out.all [.int .i64 2, .slice none 0 0, .slice none 0 0, .int .i64 op1, .string nm1, .int .i64 vk1, .bool vb1, .int .i64 vi1, .string vs1, .slice la1 ln1 lc1, .slice ka1 kn1 kc1, .slice na1 nn1 nc1, .slice xa1 xn1 xc1, .string n4, .slice none 0 0, .bool false, .slice none 0 0, .slice none 0 0, .slice none 0 0, .slice none 0 0, .slice none 0 0, .bool false] rfl
 refine bodyPost_ret (results_cell_row (by rfl) _ _ w.heap.size 71 _ (0, 0) _ (by rfl) B99 Tryz.underlying71 rfl (by kernel_rfl)) rfl ?_
 have VC := mk_cl (w := u5) (c := { bareC 2 with e := v1.ex, var := n4 }) (show in64 (2 : Int) from by unfold in64; decide) (nRow _) nil_sl (nRowX _) nil_sl V5p.out (nRow _) nil_sl (nRow _) nil_sl (nRowX _) nil_sl (nRowX _) nil_sl (nRow _) nil_sl (nRowK _) nil_sl
 have hlo : ∀ q, ((((((((False ∨ False) ∨ T1 q) ∨ False) ∨ False) ∨ False) ∨ False) ∨ False) ∨ False) → w.heap.size + 1 ≤ q := fun q h => by
  simp only [or_false, false_or] at h
  have := hT1 q h; omega
 exact ⟨((k1 + 1) + 1), _, by omega, HK4.out, rfl, rfl, RtN.mk (VC.sets 0 _ (fun h => absurd (hlo _ h) (by omega))) (rfl) (fun b h => by have := hlo b h; omega), (S5.out.sets (Nat.le_refl _) 0 _).mv⟩
theorem Sq161637 {P : Prop} (h : P := by
 first
 |(
  guard_hyp z161637a
  have hr : Go.Proofs.YteljlahcdipilaaGreat.step (run f) (.clause wREMOVE) (rem L k) = some x := hr
  simp only [Go.Proofs.YteljlahcdipilaaGreat.step, (by decide : ¬ (wREMOVE : List UInt8) = wMATCH), (by decide : ¬ (wREMOVE : List UInt8) = wUNWIND), (by decide : ¬ (wREMOVE : List UInt8) = wWITH), (by decide : ¬ (wREMOVE : List UInt8) = wRETURN), (by decide : ¬ (wREMOVE : List UInt8) = wCREATE), (by decide : ¬ (wREMOVE : List UInt8) = wMERGE), (by decide : ¬ (wREMOVE : List UInt8) = wSET), wrd, sigB, if_true, if_false, tail_rem] at hr)
 |(
  guard_hyp z161637b
  have hr : Go.Proofs.YteljlahcdipilaaGreat.step (run f) (.clause wSET) (rem L k) = some x := hr
  simp only [Go.Proofs.YteljlahcdipilaaGreat.step, (by decide : ¬ (wSET : List UInt8) = wMATCH), (by decide : ¬ (wSET : List UInt8) = wUNWIND), (by decide : ¬ (wSET : List UInt8) = wWITH), (by decide : ¬ (wSET : List UInt8) = wRETURN), (by decide : ¬ (wSET : List UInt8) = wCREATE), (by decide : ¬ (wSET : List UInt8) = wMERGE), wrd, sigB, if_true, if_false, tail_rem] at hr)
 |(
  have hr : Go.Proofs.YteljlahcdipilaaGreat.step (run f) (.clause wRETURN) (rem L k) = some x := hr
  simp only [Go.Proofs.YteljlahcdipilaaGreat.step, (by decide : ¬ (wRETURN : List UInt8) = wMATCH), (by decide : ¬ (wRETURN : List UInt8) = wUNWIND), (by decide : ¬ (wRETURN : List UInt8) = wWITH), wrd, sigB, if_true, if_false, tail_rem] at hr)
 have HT := Lib.hid hT
 have HK0 := Lib.hid hk
 have X0 := Lib.hid hr
 have hbw := h.lt
 obtain ⟨u0, hy0⟩ : ∃ u, w.alloc (.cells #[.int .i64 0, .slice none 0 0, .slice none 0 0, .int .i64 0, .string ⟨#[]⟩, .int .i64 0, .bool false, .int .i64 0, .string ⟨#[]⟩, .slice none 0 0, .slice none 0 0, .slice none 0 0, .slice none 0 0, .string ⟨#[]⟩, .slice none 0 0, .bool false, .slice none 0 0, .slice none 0 0, .slice none 0 0, .slice none 0 0, .slice none 0 0, .bool false] 71) = u := ⟨_, rfl⟩
 have s0 : St bp a cap L w k u0 := by rw [← hy0]; exact (St.start h).alloc _
 have b0 : Block u0 w.heap.size [.int .i64 0, .slice none 0 0, .slice none 0 0, .int .i64 0, .string ⟨#[]⟩, .int .i64 0, .bool false, .int .i64 0, .string ⟨#[]⟩, .slice none 0 0, .slice none 0 0, .slice none 0 0, .slice none 0 0, .string ⟨#[]⟩, .slice none 0 0, .bool false, .slice none 0 0, .slice none 0 0, .slice none 0 0, .slice none 0 0, .slice none 0 0, .bool false] 71 := by rw [← hy0]; exact Block.new w _ _
 have B0r := Lib.hid b0
 clear b0
 have S0 := Lib.hid s0
 have HU := Lib.hid hy0
 clear s0 hy0 h hT hk hr
 have z0 := B0r.out.lt
 first
 | (guard_hyp z161637a; go_enter Tryz.func84, Tryz.ntmps84)
 | (guard_hyp z161637b; go_enter Tryz.func83, Tryz.ntmps83)
 | (go_enter Tryz.func87, Tryz.ntmps87)
 go_upto_region 1 with fail
 rw [HU.out]
 first
 | (guard_hyp z161637a; have XE : bnd (setsO f 7 (rem L k)) (fun v r => okP v r) = some x := by have h := X0.out; unfold setsO; rw [h]; cases x <;> rfl)
 | (guard_hyp z161637b; have XE : bnd (setsO f 6 (rem L k)) (fun v r => okP v r) = some x := by have h := X0.out; unfold setsO; rw [h]; cases x <;> rfl)
 | (have XE : bnd (run f (.rows 9) (rem L k)) (fun v r => okP v r) = some x := by rw [X0.out]; cases x <;> rfl)
 have XE := Lib.hid XE
 first
 | (guard_hyp z161637c; go_wp2_with (go_at_call 100; refine Stand.out ?_))
 | (go_wp2_with (go_at_call 102; refine Stand.out ?_))
 refine Stand.mk ?_
 first
 | (guard_hyp z161637a; refine ((sets_s f 7 (by unfold in64; decide)).go2 S0.out HT.out HK0.out XE.out).mono ?_)
 | (guard_hyp z161637b; refine ((sets_s f 6 (by unfold in64; decide)).go2 S0.out HT.out HK0.out XE.out).mono ?_)
 | (refine ((rows_s f 9 (by unfold in64; decide)).go2 S0.out HT.out HK0.out XE.out).mono ?_)
 rintro e u1 (⟨p9, r9, rfl, rfl, f9⟩ | ⟨v1, k1, val1, q1, l1, x1, rfl, ⟨T1, ds1, rfl, hT1, hX1⟩, m1⟩)
 ·go_wp2_with fail
  exact ⟨rfl, f9⟩
 have X1 := Lib.hid x1
 have HK1 := Lib.hid l1
 clear x1 l1
 have S1 := Lib.hid (S0.out.call m1)
 have B1r := Lib.hid (m1.blk B0r.out (by omega))
 have zw1 := S1.out.size
 have zz1 := Mv.size m1
 clear m1
 obtain ⟨kd1, a11, n11, c11, a21, n21, c21, op1, nm1, vk1, vb1, vi1, vs1, la1, ln1, lc1, ka1, kn1, kc1, na1, nn1, nc1, xa1, xn1, xc1, vr1, a51, n51, c51, un1, a71, n71, c71, a81, n81, c81, a91, n91, c91, a101, n101, c101, a111, n111, c111, de1, rfl⟩ := cl_cells hX1
 have V1p := Lib.hid hX1
 clear hX1
 have Np := Lib.hid hT1
 obtain rfl := Option.some.inj X1.out
 have hTh := block_there B1r.out 0 22 (Nat.le_refl 22)
 go_wp2_with (first | (refine wpList_store_mid rfl 71 _ _ rfl w.heap.size 0 #[.int .i64 kd1, .slice a11 n11 c11, .slice a21 n21 c21, .int .i64 op1, .string nm1, .int .i64 vk1, .bool vb1, .int .i64 vi1, .string vs1, .slice la1 ln1 lc1, .slice ka1 kn1 kc1, .slice na1 nn1 nc1, .slice xa1 xn1 xc1, .string vr1, .slice a51 n51 c51, .bool un1, .slice a71 n71 c71, .slice a81 n81 c81, .slice a91 n91 c91, .slice a101 n101 c101, .slice a111 n111 c111, .bool de1] rfl rfl hTh (by kernel_rfl) (by simp [Value.oneCell']) ?_))
 have B99 := B1r.out.all [.int .i64 kd1, .slice a11 n11 c11, .slice a21 n21 c21, .int .i64 op1, .string nm1, .int .i64 vk1, .bool vb1, .int .i64 vi1, .string vs1, .slice la1 ln1 lc1, .slice ka1 kn1 kc1, .slice na1 nn1 nc1, .slice xa1 xn1 xc1, .string vr1, .slice a51 n51 c51, .bool un1, .slice a71 n71 c71, .slice a81 n81 c81, .slice a91 n91 c91, .slice a101 n101 c101, .slice a111 n111 c111, .bool de1] rfl
 refine bodyPost_ret (results_cell_row (by rfl) _ _ w.heap.size 71 _ (0, 0) _ (by rfl) B99 Tryz.underlying71 rfl (by kernel_rfl)) rfl ?_
 exact ⟨k1, _, by omega, HK1.out, rfl, rfl, RtN.mk (V1p.out.sets 0 _ (fun h => absurd (hT1 _ h) (by omega))) (rfl) (fun b h => by have := hT1 b h; omega), (S1.out.sets (Nat.le_refl _) 0 _).mv⟩) : P := h
set_option maxHeartbeats 8000000 in
theorem give_any {f : Nat} (bp : Nat) (a : Option Addr) (cap : Nat) (L : List (Tok × Nat)) (k : Nat) (w : World) (x : Pr) (h : Ps bp a cap L k w) (hT : Tk L) (hk : k < L.length)  (hr : run (f + 1) (.clause wRETURN) (rem L k) = some x) :
    Calls Tryz.prog 87 #[.pointer (some ⟨bp, 0, none⟩)] w (PR (RtN RCl V.clause) bp L k w x) := by
 have z161637c := trivial
 exact Sq161637
set_option maxHeartbeats 8000000 in
theorem with_any {f : Nat} (bp : Nat) (a : Option Addr) (cap : Nat) (L : List (Tok × Nat)) (k : Nat) (w : World) (x : Pr) (h : Ps bp a cap L k w) (hT : Tk L) (hk : k < L.length)  (hr : run (f + 1) (.clause wWITH) (rem L k) = some x) :
    Calls Tryz.prog 80 #[.pointer (some ⟨bp, 0, none⟩)] w (PR (RtN RCl V.clause) bp L k w x) := by
 have hr : Go.Proofs.YteljlahcdipilaaGreat.step (run f) (.clause wWITH) (rem L k) = some x := hr
 simp only [Go.Proofs.YteljlahcdipilaaGreat.step, (by decide : ¬ (wWITH : List UInt8) = wMATCH), (by decide : ¬ (wWITH : List UInt8) = wUNWIND), wrd, sigB, if_true, if_false, tail_rem] at hr
 have HT := Lib.hid hT
 have HK0 := Lib.hid hk
 have X0 := Lib.hid hr
 have hbw := h.lt
 obtain ⟨u0, hy0⟩ : ∃ u, w.alloc (.cells #[.int .i64 0, .slice none 0 0, .slice none 0 0, .int .i64 0, .string ⟨#[]⟩, .int .i64 0, .bool false, .int .i64 0, .string ⟨#[]⟩, .slice none 0 0, .slice none 0 0, .slice none 0 0, .slice none 0 0, .string ⟨#[]⟩, .slice none 0 0, .bool false, .slice none 0 0, .slice none 0 0, .slice none 0 0, .slice none 0 0, .slice none 0 0, .bool false] 71) = u := ⟨_, rfl⟩
 have s0 : St bp a cap L w k u0 := by rw [← hy0]; exact (St.start h).alloc _
 have b0 : Block u0 w.heap.size [.int .i64 0, .slice none 0 0, .slice none 0 0, .int .i64 0, .string ⟨#[]⟩, .int .i64 0, .bool false, .int .i64 0, .string ⟨#[]⟩, .slice none 0 0, .slice none 0 0, .slice none 0 0, .slice none 0 0, .string ⟨#[]⟩, .slice none 0 0, .bool false, .slice none 0 0, .slice none 0 0, .slice none 0 0, .slice none 0 0, .slice none 0 0, .bool false] 71 := by rw [← hy0]; exact Block.new w _ _
 have B0r := Lib.hid b0
 clear b0
 have S0 := Lib.hid s0
 have HU := Lib.hid hy0
 clear s0 hy0 h hT hk hr
 have z0 := B0r.out.lt
 go_enter Tryz.func80, Tryz.ntmps80
 go_upto_region 1 with fail
 rw [HU.out]
 go_wp2_with (go_at_call 100; refine Stand.out ?_)
 refine Stand.mk ?_
 refine ((rows_s f 3 (by unfold in64; decide)).go2 S0.out HT.out HK0.out X0.out).mono ?_
 rintro e u1 (⟨p9, r9, rfl, rfl, f9⟩ | ⟨v1, k1, val1, q1, l1, x1, rfl, ⟨T1, ds1, rfl, hT1, hX1⟩, m1⟩)
 ·go_wp2_with fail
  exact ⟨rfl, f9⟩
 have X1 := Lib.hid x1
 have HK1 := Lib.hid l1
 clear x1 l1
 have S1 := Lib.hid (S0.out.call m1)
 have B1r := Lib.hid (m1.blk B0r.out (by omega))
 have zw1 := S1.out.size
 have zz1 := Mv.size m1
 clear m1
 obtain ⟨kd1, a11, n11, c11, a21, n21, c21, op1, nm1, vk1, vb1, vi1, vs1, la1, ln1, lc1, ka1, kn1, kc1, na1, nn1, nc1, xa1, xn1, xc1, vr1, a51, n51, c51, un1, a71, n71, c71, a81, n81, c81, a91, n91, c91, a101, n101, c101, a111, n111, c111, de1, rfl⟩ := cl_cells hX1
 have V1p := Lib.hid hX1
 clear hX1
 have Np := Lib.hid hT1
 have hTh := block_there (Block.new u1 [.int .i64 0, .slice none 0 0, .slice none 0 0, .int .i64 0, .string ⟨#[]⟩, .int .i64 0, .bool false, .int .i64 0, .string ⟨#[]⟩, .slice none 0 0, .slice none 0 0, .slice none 0 0, .slice none 0 0, .string ⟨#[]⟩, .slice none 0 0, .bool false, .slice none 0 0, .slice none 0 0, .slice none 0 0, .slice none 0 0, .slice none 0 0, .bool false] 71) 0 22 (Nat.le_refl 22)
 go_upto_region 2 with (first | (refine wpList_store_mid rfl 71 _ _ rfl u1.heap.size 0 #[.int .i64 kd1, .slice a11 n11 c11, .slice a21 n21 c21, .int .i64 op1, .string nm1, .int .i64 vk1, .bool vb1, .int .i64 vi1, .string vs1, .slice la1 ln1 lc1, .slice ka1 kn1 kc1, .slice na1 nn1 nc1, .slice xa1 xn1 xc1, .string vr1, .slice a51 n51 c51, .bool un1, .slice a71 n71 c71, .slice a81 n81 c81, .slice a91 n91 c91, .slice a101 n101 c101, .slice a111 n111 c111, .bool de1] rfl rfl hTh (by kernel_rfl) (by simp [Value.oneCell']) ?_))
 go_frame
 obtain ⟨b4, hb4⟩ := nam u1.heap.size
 rw [hb4]
 obtain ⟨u2, hu2⟩ : ∃ u, (u1.alloc (.cells #[.int .i64 0, .slice none 0 0, .slice none 0 0, .int .i64 0, .string ⟨#[]⟩, .int .i64 0, .bool false, .int .i64 0, .string ⟨#[]⟩, .slice none 0 0, .slice none 0 0, .slice none 0 0, .slice none 0 0, .string ⟨#[]⟩, .slice none 0 0, .bool false, .slice none 0 0, .slice none 0 0, .slice none 0 0, .slice none 0 0, .slice none 0 0, .bool false] 71)).setCells b4 0 ((#[.int .i64 kd1, .slice a11 n11 c11, .slice a21 n21 c21, .int .i64 op1, .string nm1, .int .i64 vk1, .bool vb1, .int .i64 vi1, .string vs1, .slice la1 ln1 lc1, .slice ka1 kn1 kc1, .slice na1 nn1 nc1, .slice xa1 xn1 xc1, .string vr1, .slice a51 n51 c51, .bool un1, .slice a71 n71 c71, .slice a81 n81 c81, .slice a91 n91 c91, .slice a101 n101 c101, .slice a111 n111 c111, .bool de1] : Array Value).toList) = u := ⟨_, rfl⟩
 rw [hu2]
 have zb4 : b4 < u2.heap.size ∧ w.heap.size < b4 ∧ u1.heap.size ≤ u2.heap.size ∧ u1.heap.size = b4 := by have := B1r.out.lt; rw [← hu2, setCells_sz, ← hb4]; simp <;> omega
 have S2 := Lib.hid (show St bp a cap L w k1 u2 from by rw [← hu2]; exact (S1.out.alloc _).sets (by have := S1.out.size; omega) 0 _)
 have B2r := Lib.hid (show Block u2 _ _ _ from by rw [← hu2]; exact (B1r.out.alloc _).of_heap (cells_other (by have := B1r.out.lt; omega) _ 0 _))
 have B2b := Lib.hid (show Block u2 b4 [.int .i64 kd1, .slice a11 n11 c11, .slice a21 n21 c21, .int .i64 op1, .string nm1, .int .i64 vk1, .bool vb1, .int .i64 vi1, .string vs1, .slice la1 ln1 lc1, .slice ka1 kn1 kc1, .slice na1 nn1 nc1, .slice xa1 xn1 xc1, .string vr1, .slice a51 n51 c51, .bool un1, .slice a71 n71 c71, .slice a81 n81 c81, .slice a91 n91 c91, .slice a101 n101 c101, .slice a111 n111 c111, .bool de1] 71 from by rw [← hu2, ← hb4]; exact (Block.new u1 [.int .i64 0, .slice none 0 0, .slice none 0 0, .int .i64 0, .string ⟨#[]⟩, .int .i64 0, .bool false, .int .i64 0, .string ⟨#[]⟩, .slice none 0 0, .slice none 0 0, .slice none 0 0, .slice none 0 0, .string ⟨#[]⟩, .slice none 0 0, .bool false, .slice none 0 0, .slice none 0 0, .slice none 0 0, .slice none 0 0, .slice none 0 0, .bool false] 71).all [.int .i64 kd1, .slice a11 n11 c11, .slice a21 n21 c21, .int .i64 op1, .string nm1, .int .i64 vk1, .bool vb1, .int .i64 vi1, .string vs1, .slice la1 ln1 lc1, .slice ka1 kn1 kc1, .slice na1 nn1 nc1, .slice xa1 xn1 xc1, .string vr1, .slice a51 n51 c51, .bool un1, .slice a71 n71 c71, .slice a81 n81 c81, .slice a91 n91 c91, .slice a101 n101 c101, .slice a111 n111 c111, .bool de1] rfl)
 have V2p := Lib.hid (show HG _ _ u2 from by rw [← hu2]; exact (V1p.out.alloc _).sets 0 _ (fun h => absurd (V1p.out.1 _ h) (by omega)))
 clear hu2 hb4 hTh
 go_wp2_with (go_at_call 96; refine Stand.out ?_)
 refine Stand.mk ?_
 refine ((may_s f wWHERE).go2 S2.out HT.out HK1.out X1.out).mono ?_
 rintro e u3 (⟨p9, r9, rfl, rfl, f9⟩ | ⟨v3, k3, val3, q3, l3, x3, rfl, ⟨T3, xa3, xc3, rfl, hT3, hX3, hs3⟩, m3⟩)
 ·go_wp2_with fail
  exact ⟨rfl, f9⟩
 have X3 := Lib.hid x3
 have HK3 := Lib.hid l3
 clear x3 l3
 have S3 := Lib.hid (S2.out.call m3)
 have B3r := Lib.hid (m3.blk B2r.out (by omega))
 have B3b := Lib.hid (m3.blk B2b.out (by omega))
 have V3p := Lib.hid (V2p.out.mv m3 (fun h => absurd (Np.out _ h) (by omega)))
 have zw3 := S3.out.size
 have zz3 := Mv.size m3
 clear m3
 have V3h := Lib.hid hX3
 clear hX3
 have Nh := Lib.hid hT3
 have HSh := Lib.hid hs3
 clear hs3
 have c2 := B3b.out.cell (i := 2) rfl
 have d2 := B3b.out.free 2
 go_upto_region 3 with fail
 clear c2 d2
 obtain ⟨u4, hu⟩ : ∃ u, (u3.setCell ⟨b4, 2, none⟩ (.slice xa3 v3.exs.length xc3)) = u := ⟨_, rfl⟩
 rw [hu]
 have S4 := Lib.hid (show St bp a cap L w k3 u4 from by rw [← hu]; exact (S3.out.set (by omega) 2 _))
 have zz4 : u4.heap.size = u3.heap.size := by rw [← hu]; simp [World.size_setCell]
 have hk4 : ∀ q, q ≠ b4 → u4.heap[q]? = u3.heap[q]? := fun q hq => by rw [← hu, Below.heap_setCell _ ⟨b4, 2, none⟩ _ q hq]
 have B4r := Lib.hid (B3r.out.of_heap (hk4 _ (by omega)))
 have B4b := Lib.hid (show Block u4 b4 [.int .i64 kd1, .slice a11 n11 c11, .slice xa3 v3.exs.length xc3, .int .i64 op1, .string nm1, .int .i64 vk1, .bool vb1, .int .i64 vi1, .string vs1, .slice la1 ln1 lc1, .slice ka1 kn1 kc1, .slice na1 nn1 nc1, .slice xa1 xn1 xc1, .string vr1, .slice a51 n51 c51, .bool un1, .slice a71 n71 c71, .slice a81 n81 c81, .slice a91 n91 c91, .slice a101 n101 c101, .slice a111 n111 c111, .bool de1] 71 from by rw [← hu]; exact (B3b.out.set 2 _))
 have V4p := Lib.hid (V3p.out.same (w1 := u4) (fun b hb => hk4 b (fun e => absurd (V1p.out.1 _ hb) (by omega))))
 have V4h := Lib.hid (V3h.out.same (w1 := u4) (fun b hb => hk4 b (fun e => absurd (hT3 _ hb) (by omega))))
 clear hu hk4
 obtain rfl := Option.some.inj X3.out
 have hRg := B4b.out.rng
 have hTh := block_there B4r.out 0 22 (Nat.le_refl 22)
 go_wp2_with (first | (refine wpList_load_mid rfl 71 _ rfl b4 0 rfl [.int .i64 kd1, .slice a11 n11 c11, .slice xa3 v3.exs.length xc3, .int .i64 op1, .string nm1, .int .i64 vk1, .bool vb1, .int .i64 vi1, .string vs1, .slice la1 ln1 lc1, .slice ka1 kn1 kc1, .slice na1 nn1 nc1, .slice xa1 xn1 xc1, .string vr1, .slice a51 n51 c51, .bool un1, .slice a71 n71 c71, .slice a81 n81 c81, .slice a91 n91 c91, .slice a101 n101 c101, .slice a111 n111 c111, .bool de1] _ hRg Tryz.underlying71 rfl (by kernel_rfl) ?_) | (refine wpList_store_mid rfl 71 _ _ rfl w.heap.size 0 #[.int .i64 kd1, .slice a11 n11 c11, .slice xa3 v3.exs.length xc3, .int .i64 op1, .string nm1, .int .i64 vk1, .bool vb1, .int .i64 vi1, .string vs1, .slice la1 ln1 lc1, .slice ka1 kn1 kc1, .slice na1 nn1 nc1, .slice xa1 xn1 xc1, .string vr1, .slice a51 n51 c51, .bool un1, .slice a71 n71 c71, .slice a81 n81 c81, .slice a91 n91 c91, .slice a101 n101 c101, .slice a111 n111 c111, .bool de1] rfl rfl hTh (by kernel_rfl) (by simp [Value.oneCell']) ?_))
 have B99 := B4r.out.all [.int .i64 kd1, .slice a11 n11 c11, .slice xa3 v3.exs.length xc3, .int .i64 op1, .string nm1, .int .i64 vk1, .bool vb1, .int .i64 vi1, .string vs1, .slice la1 ln1 lc1, .slice ka1 kn1 kc1, .slice na1 nn1 nc1, .slice xa1 xn1 xc1, .string vr1, .slice a51 n51 c51, .bool un1, .slice a71 n71 c71, .slice a81 n81 c81, .slice a91 n91 c91, .slice a101 n101 c101, .slice a111 n111 c111, .bool de1] rfl
 refine bodyPost_ret (results_cell_row (by rfl) _ _ w.heap.size 71 _ (0, 0) _ (by rfl) B99 Tryz.underlying71 rfl (by kernel_rfl)) rfl ?_
 have VC := cl_whr V4p.out V4h.out HSh.out
 have hlo : ∀ q, (T1 q ∨ T3 q) → w.heap.size + 1 ≤ q := fun q h => by
  rcases h with h | h
  ·have := hT1 q h; omega
  ·have := hT3 q h; omega
 exact ⟨k3, _, by omega, HK3.out, rfl, rfl, RtN.mk (VC.sets 0 _ (fun h => absurd (hlo _ h) (by omega))) (rfl) (fun b h => by have := hlo b h; omega), (S4.out.sets (Nat.le_refl _) 0 _).mv⟩
set_option maxHeartbeats 8000000 in
theorem merge_any {f : Nat} (bp : Nat) (a : Option Addr) (cap : Nat) (L : List (Tok × Nat)) (k : Nat) (w : World) (x : Pr) (h : Ps bp a cap L k w) (hT : Tk L) (hk : k < L.length)  (hr : run (f + 1) (.clause wMERGE) (rem L k) = some x) :
    Calls Tryz.prog 82 #[.pointer (some ⟨bp, 0, none⟩)] w (PR (RtN RCl V.clause) bp L k w x) := by
 have hr : Go.Proofs.YteljlahcdipilaaGreat.step (run f) (.clause wMERGE) (rem L k) = some x := hr
 simp only [Go.Proofs.YteljlahcdipilaaGreat.step, (by decide : ¬ (wMERGE : List UInt8) = wMATCH), (by decide : ¬ (wMERGE : List UInt8) = wUNWIND), (by decide : ¬ (wMERGE : List UInt8) = wWITH), (by decide : ¬ (wMERGE : List UInt8) = wRETURN), (by decide : ¬ (wMERGE : List UInt8) = wCREATE), wrd, sigB, if_true, if_false, tail_rem] at hr
 have HT := Lib.hid hT
 have HK0 := Lib.hid hk
 have X0 := Lib.hid hr
 have hbw := h.lt
 obtain ⟨u0, hy0⟩ : ∃ u, w.alloc (.cells #[.int .i64 0, .slice none 0 0, .slice none 0 0, .int .i64 0, .string ⟨#[]⟩, .int .i64 0, .bool false, .int .i64 0, .string ⟨#[]⟩, .slice none 0 0, .slice none 0 0, .slice none 0 0, .slice none 0 0, .string ⟨#[]⟩, .slice none 0 0, .bool false, .slice none 0 0, .slice none 0 0, .slice none 0 0, .slice none 0 0, .slice none 0 0, .bool false] 71) = u := ⟨_, rfl⟩
 have s0 : St bp a cap L w k u0 := by rw [← hy0]; exact (St.start h).alloc _
 have b0 : Block u0 w.heap.size [.int .i64 0, .slice none 0 0, .slice none 0 0, .int .i64 0, .string ⟨#[]⟩, .int .i64 0, .bool false, .int .i64 0, .string ⟨#[]⟩, .slice none 0 0, .slice none 0 0, .slice none 0 0, .slice none 0 0, .string ⟨#[]⟩, .slice none 0 0, .bool false, .slice none 0 0, .slice none 0 0, .slice none 0 0, .slice none 0 0, .slice none 0 0, .bool false] 71 := by rw [← hy0]; exact Block.new w _ _
 have B0r := Lib.hid b0
 clear b0
 have S0 := Lib.hid s0
 have HU := Lib.hid hy0
 clear s0 hy0 h hT hk hr
 have z0 := B0r.out.lt
 go_enter Tryz.func82, Tryz.ntmps82
 go_upto_region 1 with fail
 rw [HU.out]
 go_wp2_with (go_at_call 101; refine Stand.out ?_)
 refine Stand.mk ?_
 refine ((node_s f).go2 S0.out HT.out HK0.out X0.out).mono ?_
 rintro e u1 (⟨p9, r9, rfl, rfl, f9⟩ | ⟨v1, k1, val1, q1, l1, x1, rfl, ⟨T1, ds1, rfl, hT1, hX1⟩, m1⟩)
 ·go_wp2_with fail
  exact ⟨rfl, f9⟩
 have X1 := Lib.hid x1
 have HK1 := Lib.hid l1
 clear x1 l1
 have S1 := Lib.hid (S0.out.call m1)
 have B1r := Lib.hid (m1.blk B0r.out (by omega))
 have zw1 := S1.out.size
 have zz1 := Mv.size m1
 clear m1
 obtain ⟨nv1, la1, ln1, lc1, ka1, kn1, kc1, xa1, xn1, xc1, rfl⟩ := np_cells hX1
 have V1p := Lib.hid hX1
 clear hX1
 have Np := Lib.hid hT1
 have RN1 := Row.one (R := RNp) (ty := 85) (size := 4) (B := w.heap.size + 1) V1p.out rfl (fun b hb => by have := hT1 b hb; omega) (by have := S1.out.size; omega)
 obtain ⟨Sa, na, nc, ea, nsl, hSa, hRa⟩ := RN1.fin
 injection ea with e1 e2 e3
 clear e2
 subst e1 e3
 have hSA : ∀ q, Sa q → w.heap.size + 1 ≤ q ∧ q < (u1.alloc (.cells #[.string nv1, .slice la1 ln1 lc1, .slice ka1 kn1 kc1, .slice xa1 xn1 xc1] 85)).heap.size := fun q hq => RN1.lt (hSa q hq)
 have VP := mk_pt hRa nsl (nRow (R := REp) (size := 5) (u1.alloc (.cells #[.string nv1, .slice la1 ln1 lc1, .slice ka1 kn1 kc1, .slice xa1 xn1 xc1] 85))) nil_sl
 have RN2 := Row.one (R := RPt) (ty := 58) (size := 2) (B := w.heap.size + 1) (cs := [.slice (some ⟨u1.heap.size, 0, none⟩) 1 1, .slice none 0 0]) VP rfl (fun b hb => hb.elim (fun h => (hSA b h).1) (fun h => h.elim)) (by have := S1.out.size; simp; omega)
 obtain ⟨Sb, pa, pcc, eb, psl, hSb, hRb⟩ := RN2.fin
 have hSB : ∀ q, Sb q → w.heap.size + 1 ≤ q := fun q hq => (RN2.lt (hSb q hq)).1
 rw [show ((u1.alloc (.cells #[.string nv1, .slice la1 ln1 lc1, .slice ka1 kn1 kc1, .slice xa1 xn1 xc1] 85))).heap.size = u1.heap.size + 1 from by simp] at eb
 injection eb with e1 e2 e3
 clear e2
 subst e1 e3
 have SW := Lib.hid ((S1.out.alloc (.cells #[.string nv1, .slice la1 ln1 lc1, .slice ka1 kn1 kc1, .slice xa1 xn1 xc1] 85)).alloc (.cells #[.slice (some ⟨u1.heap.size, 0, none⟩) 1 1, .slice none 0 0] 58))
 have BW := Lib.hid ((B1r.out.alloc (.cells #[.string nv1, .slice la1 ln1 lc1, .slice ka1 kn1 kc1, .slice xa1 xn1 xc1] 85)).alloc (.cells #[.slice (some ⟨u1.heap.size, 0, none⟩) 1 1, .slice none 0 0] 58))
 have HRB := Lib.hid hRb
 have HSB := Lib.hid psl
 clear hRb psl RN1 RN2 hRa nsl hSa hSb VP hSA
 obtain rfl := Option.some.inj X1.out
 have hTh := block_there BW.out 0 22 (Nat.le_refl 22)
 go_wp2_with (refine wpList_store_mid rfl 71 _ _ rfl w.heap.size 0 #[.int .i64 5, .slice (some ⟨u1.heap.size + 1, 0, none⟩) 1 1, .slice none 0 0, .int .i64 0, .string ⟨#[]⟩, .int .i64 0, .bool false, .int .i64 0, .string ⟨#[]⟩, .slice none 0 0, .slice none 0 0, .slice none 0 0, .slice none 0 0, .string ⟨#[]⟩, .slice none 0 0, .bool false, .slice none 0 0, .slice none 0 0, .slice none 0 0, .slice none 0 0, .slice none 0 0, .bool false] rfl rfl hTh (by kernel_rfl) (by simp [Value.oneCell']) ?_)
 have B99 := BW.out.all [.int .i64 5, .slice (some ⟨u1.heap.size + 1, 0, none⟩) 1 1, .slice none 0 0, .int .i64 0, .string ⟨#[]⟩, .int .i64 0, .bool false, .int .i64 0, .string ⟨#[]⟩, .slice none 0 0, .slice none 0 0, .slice none 0 0, .slice none 0 0, .string ⟨#[]⟩, .slice none 0 0, .bool false, .slice none 0 0, .slice none 0 0, .slice none 0 0, .slice none 0 0, .slice none 0 0, .bool false] rfl
 refine bodyPost_ret (results_cell_row (by rfl) _ _ w.heap.size 71 _ (0, 0) _ (by rfl) B99 Tryz.underlying71 rfl (by kernel_rfl)) rfl ?_
 have VC := mk_cl (c := { bareC 5 with paths := [⟨[v1.node], []⟩] }) (show in64 (5 : Int) from by unfold in64; decide) HRB.out HSB.out (nRowX _) nil_sl (emptyX_hx _) (nRow _) nil_sl (nRow _) nil_sl (nRowX _) nil_sl (nRowX _) nil_sl (nRow _) nil_sl (nRowK _) nil_sl
 have hlo : ∀ q, ((((((((Sb q ∨ False) ∨ False) ∨ False) ∨ False) ∨ False) ∨ False) ∨ False) ∨ False) → w.heap.size + 1 ≤ q := fun q h => by
  simp only [or_false] at h
  exact hSB q h
 exact ⟨k1, _, by omega, HK1.out, rfl, rfl, RtN.mk (VC.sets 0 _ (fun h => absurd (hlo _ h) (by omega))) rfl (fun b h => by have := hlo b h; omega), (SW.out.sets (Nat.le_refl _) 0 _).mv⟩
end Go.Proofs.YteljlahcdipilaaGreat

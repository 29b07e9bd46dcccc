/- Parts Q26, Q27 of this seat (pruned, scripts that are alike kept once as default arguments: q1, q2, ..). Conditions: each says its own. -/
import Derived.Test.YteljlahcdipilaaGreatF33
namespace Go.Proofs.YteljlahcdipilaaGreat
open Go.RowKit Go.Shelf
set_option linter.unusedSimpArgs false
set_option linter.unusedVariables false
set_option maxRecDepth 100000
theorem paths_s (f : Nat) : Said 95 [] .paths (RtR RPt 2 V.paths) f := by
 cases f with
 | zero => exact Said.zero
 | succ f => exact fun bp a cap L k w x h hT hk hr => paths_any bp a cap L k w x h hT hk hr
theorem may_s (f : Nat) (wd : List UInt8) : Said 96 [.string (strOf wd)] (.maybe wd) (RtR RX 10 V.exs) f := by
 cases f with
 | zero => exact Said.zero
 | succ f => exact fun bp a cap L k w x h hT hk hr => may_any wd bp a cap L k w x h hT hk hr
theorem mk_it {S : Nat → Prop} {w : World} {cs : List Value} {t : Ex} {nm : ByteArray} (h : HX S w cs t) : HG (fun u => RIt u (cs ++ [.string nm]) ⟨t, nm⟩) S w := h.imp fun u h => ⟨cs, rfl, h⟩
theorem mk_so {S : Nat → Prop} {w : World} {cs : List Value} {t : Ex} {d : Bool} (h : HX S w cs t) : HG (fun u => RSo u (cs ++ [.bool d]) ⟨t, d⟩) S w := h.imp fun u h => ⟨cs, rfl, h⟩
set_option maxHeartbeats 8000000 in
theorem item_any {f : Nat} (bp : Nat) (a : Option Addr) (cap : Nat) (L : List (Tok × Nat)) (k : Nat) (w : World) (x : Pr) (h : Ps bp a cap L k w) (hT : Tk L) (hk : k < L.length)  (hr : run (f + 1) (.item) (rem L k) = some x) :
    Calls Tryz.prog 116 #[.pointer (some ⟨bp, 0, none⟩)] w (PR (RtN RIt V.item) bp L k w x) := by
 have hr : Go.Proofs.YteljlahcdipilaaGreat.step (run f) (.item) (rem L k) = some x := hr
 simp only [Go.Proofs.YteljlahcdipilaaGreat.step, wrd, tail_rem] at hr
 have HT := Lib.hid hT
 have HK0 := Lib.hid hk
 have X0 := Lib.hid hr
 have hbw := h.lt
 obtain ⟨u0, hy0⟩ : ∃ u, w.alloc (.cells #[.int .i64 0, .string ⟨#[]⟩, .int .i64 0, .bool false, .int .i64 0, .string ⟨#[]⟩, .slice none 0 0, .slice none 0 0, .slice none 0 0, .slice none 0 0, .string ⟨#[]⟩] 73) = u := ⟨_, rfl⟩
 have s0 : St bp a cap L w k u0 := by rw [← hy0]; exact (St.start h).alloc _
 have b0 : Block u0 w.heap.size [.int .i64 0, .string ⟨#[]⟩, .int .i64 0, .bool false, .int .i64 0, .string ⟨#[]⟩, .slice none 0 0, .slice none 0 0, .slice none 0 0, .slice none 0 0, .string ⟨#[]⟩] 73 := by rw [← hy0]; exact Block.new w _ _
 have B0r := Lib.hid b0
 clear b0
 have S0 := Lib.hid s0
 have HU := Lib.hid hy0
 clear s0 hy0 h hT hk hr
 have z0 := B0r.out.lt
 go_enter Tryz.func116, Tryz.ntmps116
 go_upto_region 1 with fail
 rw [HU.out]
 go_wp2_with (go_at_call 97; refine Stand.out ?_)
 refine Stand.mk ?_
 refine ((expr_s f 1 (by decide)).go2 S0.out HT.out HK0.out X0.out).mono ?_
 rintro e u1 (⟨p9, r9, rfl, rfl, f9⟩ | ⟨v1, k1, val1, q1, l1, x1, rfl, ⟨T1, ds1, rfl, hT1, hX1⟩, m1⟩)
 ·go_wp2_with fail
  exact ⟨rfl, f9⟩
 have X1 := Lib.hid x1
 have HK1 := Lib.hid l1
 clear x1 l1
 have S1 := Lib.hid (S0.out.call m1)
 have B1r := Lib.hid (m1.blk B0r.out (by omega))
 have zw1 := S1.out.size
 have zz1 := Mv.size m1
 clear m1
 obtain ⟨op1, nm1, vk1, vb1, vi1, vs1, la1, ln1, lc1, ka1, kn1, kc1, na1, nn1, nc1, xa1, xn1, xc1, hop, hnm, rfl⟩ := hX1.ten
 have HOP := Lib.hid hop
 have HNM := Lib.hid hnm
 clear hop hnm
 have V1p := Lib.hid hX1
 clear hX1
 have Np := Lib.hid hT1
 have hTh := block_there (Block.new u1 [.int .i64 0, .string ⟨#[]⟩, .int .i64 0, .bool false, .int .i64 0, .string ⟨#[]⟩, .slice none 0 0, .slice none 0 0, .slice none 0 0, .slice none 0 0, .string ⟨#[]⟩] 73) 0 11 (Nat.le_refl 11)
 go_upto_region 2 with (first | (refine wpList_store_mid rfl 73 _ _ rfl u1.heap.size 0 #[.int .i64 op1, .string nm1, .int .i64 vk1, .bool vb1, .int .i64 vi1, .string vs1, .slice la1 ln1 lc1, .slice ka1 kn1 kc1, .slice na1 nn1 nc1, .slice xa1 xn1 xc1, .string ⟨#[]⟩] rfl rfl hTh (by kernel_rfl) (by simp [Value.oneCell']) ?_))
 go_frame
 obtain ⟨b4, hb4⟩ := nam u1.heap.size
 rw [hb4]
 obtain ⟨u2, hu2⟩ : ∃ u, (u1.alloc (.cells #[.int .i64 0, .string ⟨#[]⟩, .int .i64 0, .bool false, .int .i64 0, .string ⟨#[]⟩, .slice none 0 0, .slice none 0 0, .slice none 0 0, .slice none 0 0, .string ⟨#[]⟩] 73)).setCells b4 0 ((#[.int .i64 op1, .string nm1, .int .i64 vk1, .bool vb1, .int .i64 vi1, .string vs1, .slice la1 ln1 lc1, .slice ka1 kn1 kc1, .slice na1 nn1 nc1, .slice xa1 xn1 xc1, .string ⟨#[]⟩] : Array Value).toList) = u := ⟨_, rfl⟩
 rw [hu2]
 have zb4 : b4 < u2.heap.size ∧ w.heap.size < b4 ∧ u1.heap.size ≤ u2.heap.size ∧ u1.heap.size = b4 := by have := B1r.out.lt; rw [← hu2, setCells_sz, ← hb4]; simp <;> omega
 have S2 := Lib.hid (show St bp a cap L w k1 u2 from by rw [← hu2]; exact (S1.out.alloc _).sets (by have := S1.out.size; omega) 0 _)
 have B2r := Lib.hid (show Block u2 _ _ _ from by rw [← hu2]; exact (B1r.out.alloc _).of_heap (cells_other (by have := B1r.out.lt; omega) _ 0 _))
 have B2b := Lib.hid (show Block u2 b4 [.int .i64 op1, .string nm1, .int .i64 vk1, .bool vb1, .int .i64 vi1, .string vs1, .slice la1 ln1 lc1, .slice ka1 kn1 kc1, .slice na1 nn1 nc1, .slice xa1 xn1 xc1, .string ⟨#[]⟩] 73 from by rw [← hu2, ← hb4]; exact (Block.new u1 [.int .i64 0, .string ⟨#[]⟩, .int .i64 0, .bool false, .int .i64 0, .string ⟨#[]⟩, .slice none 0 0, .slice none 0 0, .slice none 0 0, .slice none 0 0, .string ⟨#[]⟩] 73).all [.int .i64 op1, .string nm1, .int .i64 vk1, .bool vb1, .int .i64 vi1, .string vs1, .slice la1 ln1 lc1, .slice ka1 kn1 kc1, .slice na1 nn1 nc1, .slice xa1 xn1 xc1, .string ⟨#[]⟩] rfl)
 have V2p := Lib.hid (show HG _ _ u2 from by rw [← hu2]; exact (V1p.out.alloc _).sets 0 _ (fun h => absurd (V1p.out.1 _ h) (by omega)))
 clear hu2 hb4 hTh
 have XE := X1.out
 rw [← HOP.out] at XE
 have XM := Lib.hid (fun hh : ¬ (op1 = 2 ∧ isT 2 wAS (rem L k1) = false) => (if_neg hh).symm.trans XE)
 have XP := Lib.hid (fun hh : op1 = 2 ∧ isT 2 wAS (rem L k1) = false => (if_pos hh).symm.trans XE)
 clear XE
 have e0 := B2b.out.cell (i := 0) rfl
 by_cases h2 : op1 = 2
 ·subst h2
  cases h0 : isT 2 wAS (rem L k1) with
  | false =>
   have RY := XP.out ⟨rfl, h0⟩
   rw [← HNM.out] at RY
   have RZ := Lib.hid RY
   clear RY
   go_wp2_with (go_at_call 112; refine Stand.out ?_)
   refine Stand.mk ?_
   refine (word_st S2.out HK1.out h0).mono ?_
   rintro e u3 ⟨rfl, m3⟩
   have S3 := Lib.hid (S2.out.call m3)
   have B3r := Lib.hid (m3.blk B2r.out (by omega))
   have B3b := Lib.hid (m3.blk B2b.out (by omega))
   have V3p := Lib.hid (V2p.out.mv m3 (fun h => absurd (Np.out _ h) (by omega)))
   have zw3 := S3.out.size
   have zz3 := Mv.size m3
   clear m3
   clear e0
   have e1 := B3b.out.cell (i := 1) rfl
   have c10 := B3b.out.cell (i := 10) rfl
   have d10 := B3b.out.free 10
   go_upto_region 4 with fail
   clear c10 d10
   obtain ⟨u4, hu⟩ : ∃ u, (u3.setCell ⟨b4, 10, none⟩ (.string nm1)) = u := ⟨_, rfl⟩
   rw [hu]
   have S4 := Lib.hid (show St bp a cap L w k1 u4 from by rw [← hu]; exact (S3.out.set (by omega) 10 _))
   have zz4 : u4.heap.size = u3.heap.size := by rw [← hu]; simp [World.size_setCell]
   have hk4 : ∀ q, q ≠ b4 → u4.heap[q]? = u3.heap[q]? := fun q hq => by rw [← hu, Below.heap_setCell _ ⟨b4, 10, none⟩ _ q hq]
   have B4r := Lib.hid (B3r.out.of_heap (hk4 _ (by omega)))
   have B4b := Lib.hid (show Block u4 b4 [.int .i64 2, .string nm1, .int .i64 vk1, .bool vb1, .int .i64 vi1, .string vs1, .slice la1 ln1 lc1, .slice ka1 kn1 kc1, .slice na1 nn1 nc1, .slice xa1 xn1 xc1, .string nm1] 73 from by rw [← hu]; exact (B3b.out.set 10 _))
   have V4p := Lib.hid (V3p.out.same (w1 := u4) (fun b hb => hk4 b (fun e => absurd (V1p.out.1 _ hb) (by omega))))
   clear hu hk4
   clear e1
   obtain rfl := Option.some.inj RZ.out
   have hRg := B4b.out.rng
   have hTh := block_there B4r.out 0 11 (Nat.le_refl 11)
   go_wp2_with (first | (refine wpList_load_mid rfl 73 _ rfl b4 0 rfl [.int .i64 2, .string nm1, .int .i64 vk1, .bool vb1, .int .i64 vi1, .string vs1, .slice la1 ln1 lc1, .slice ka1 kn1 kc1, .slice na1 nn1 nc1, .slice xa1 xn1 xc1, .string nm1] _ hRg Tryz.underlying73 rfl (by kernel_rfl) ?_) | (refine wpList_store_mid rfl 73 _ _ rfl w.heap.size 0 #[.int .i64 2, .string nm1, .int .i64 vk1, .bool vb1, .int .i64 vi1, .string vs1, .slice la1 ln1 lc1, .slice ka1 kn1 kc1, .slice na1 nn1 nc1, .slice xa1 xn1 xc1, .string nm1] rfl rfl hTh (by kernel_rfl) (by simp [Value.oneCell']) ?_))
   have B99 := B4r.out.all [.int .i64 2, .string nm1, .int .i64 vk1, .bool vb1, .int .i64 vi1, .string vs1, .slice la1 ln1 lc1, .slice ka1 kn1 kc1, .slice na1 nn1 nc1, .slice xa1 xn1 xc1, .string nm1] rfl
   refine bodyPost_ret (results_cell_row (by rfl) _ _ w.heap.size 73 _ (0, 0) _ (by rfl) B99 Tryz.underlying73 rfl (by kernel_rfl)) rfl ?_
   exact ⟨k1, _, by omega, HK1.out, rfl, rfl, RtN.mk ((mk_it (nm := nm1) V4p.out).sets 0 _ (fun h => absurd (hT1 _ h) (by omega))) (rfl) (fun b h => by have := hT1 b h; omega), (S4.out.sets (Nat.le_refl _) 0 _).mv⟩
  | true =>
   have RZ := Lib.hid (XM.out (fun h => by rw [h0] at h; cases h.2))
   go_wp2_with (go_at_call 112; refine Stand.out ?_)
   refine Stand.mk ?_
   refine (word_st S2.out HK1.out h0).mono ?_
   rintro e u3 ⟨rfl, m3⟩
   have S3 := Lib.hid (S2.out.call m3)
   have B3r := Lib.hid (m3.blk B2r.out (by omega))
   have B3b := Lib.hid (m3.blk B2b.out (by omega))
   have V3p := Lib.hid (V2p.out.mv m3 (fun h => absurd (Np.out _ h) (by omega)))
   have zw3 := S3.out.size
   have zz3 := Mv.size m3
   clear m3
   clear e0
   go_wp2_with (go_at_call 98; refine Stand.out ?_)
   refine Stand.mk ?_
   refine (mustWord_go S3.out HT.out HK1.out RZ.out).mono ?_
   rintro e u4 (⟨p9, r9, rfl, rfl, f9⟩ | ⟨l4, x4, rfl, m4⟩)
   ·go_wp2_with fail
    exact ⟨rfl, f9⟩
   have X4 := Lib.hid x4
   have HK4 := Lib.hid l4
   clear x4 l4
   have S4 := Lib.hid (S3.out.call m4)
   have B4r := Lib.hid (m4.blk B3r.out (by omega))
   have B4b := Lib.hid (m4.blk B3b.out (by omega))
   have V4p := Lib.hid (V3p.out.mv m4 (fun h => absurd (Np.out _ h) (by omega)))
   have zw4 := S4.out.size
   have zz4 := Mv.size m4
   clear m4
   go_wp2_with (go_at_call 99; refine Stand.out ?_)
   refine Stand.mk ?_
   refine (name_go S4.out HT.out HK4.out X4.out).mono ?_
   rintro e u5 (⟨p9, r9, rfl, rfl, f9⟩ | ⟨n5, l5, x5, rfl, m5⟩)
   ·go_wp2_with fail
    exact ⟨rfl, f9⟩
   have X5 := Lib.hid x5
   have HK5 := Lib.hid l5
   clear x5 l5
   have S5 := Lib.hid (S4.out.call m5)
   have B5r := Lib.hid (m5.blk B4r.out (by omega))
   have B5b := Lib.hid (m5.blk B4b.out (by omega))
   have V5p := Lib.hid (V4p.out.mv m5 (fun h => absurd (Np.out _ h) (by omega)))
   have zw5 := S5.out.size
   have zz5 := Mv.size m5
   clear m5
   have c10 := B5b.out.cell (i := 10) rfl
   have d10 := B5b.out.free 10
   go_upto_region 7 with fail
   clear c10 d10
   obtain ⟨u6, hu⟩ : ∃ u, (u5.setCell ⟨b4, 10, none⟩ (.string n5)) = u := ⟨_, rfl⟩
   rw [hu]
   have S6 := Lib.hid (show St bp a cap L w ((k1 + 1) + 1) u6 from by rw [← hu]; exact (S5.out.set (by omega) 10 _))
   have zz6 : u6.heap.size = u5.heap.size := by rw [← hu]; simp [World.size_setCell]
   have hk6 : ∀ q, q ≠ b4 → u6.heap[q]? = u5.heap[q]? := fun q hq => by rw [← hu, Below.heap_setCell _ ⟨b4, 10, none⟩ _ q hq]
   have B6r := Lib.hid (B5r.out.of_heap (hk6 _ (by omega)))
   have B6b := Lib.hid (show Block u6 b4 [.int .i64 2, .string nm1, .int .i64 vk1, .bool vb1, .int .i64 vi1, .string vs1, .slice la1 ln1 lc1, .slice ka1 kn1 kc1, .slice na1 nn1 nc1, .slice xa1 xn1 xc1, .string n5] 73 from by rw [← hu]; exact (B5b.out.set 10 _))
   have V6p := Lib.hid (V5p.out.same (w1 := u6) (fun b hb => hk6 b (fun e => absurd (V1p.out.1 _ hb) (by omega))))
   clear hu hk6
   obtain rfl := Option.some.inj X5.out
   have hRg := B6b.out.rng
   have hTh := block_there B6r.out 0 11 (Nat.le_refl 11)
   go_wp2_with (first | (refine wpList_load_mid rfl 73 _ rfl b4 0 rfl [.int .i64 2, .string nm1, .int .i64 vk1, .bool vb1, .int .i64 vi1, .string vs1, .slice la1 ln1 lc1, .slice ka1 kn1 kc1, .slice na1 nn1 nc1, .slice xa1 xn1 xc1, .string n5] _ hRg Tryz.underlying73 rfl (by kernel_rfl) ?_) | (refine wpList_store_mid rfl 73 _ _ rfl w.heap.size 0 #[.int .i64 2, .string nm1, .int .i64 vk1, .bool vb1, .int .i64 vi1, .string vs1, .slice la1 ln1 lc1, .slice ka1 kn1 kc1, .slice na1 nn1 nc1, .slice xa1 xn1 xc1, .string n5] rfl rfl hTh (by kernel_rfl) (by simp [Value.oneCell']) ?_))
   have B99 := B6r.out.all [.int .i64 2, .string nm1, .int .i64 vk1, .bool vb1, .int .i64 vi1, .string vs1, .slice la1 ln1 lc1, .slice ka1 kn1 kc1, .slice na1 nn1 nc1, .slice xa1 xn1 xc1, .string n5] rfl
   refine bodyPost_ret (results_cell_row (by rfl) _ _ w.heap.size 73 _ (0, 0) _ (by rfl) B99 Tryz.underlying73 rfl (by kernel_rfl)) rfl ?_
   exact ⟨((k1 + 1) + 1), _, by omega, HK5.out, rfl, rfl, RtN.mk ((mk_it (nm := n5) V6p.out).sets 0 _ (fun h => absurd (hT1 _ h) (by omega))) (rfl) (fun b h => by have := hT1 b h; omega), (S6.out.sets (Nat.le_refl _) 0 _).mv⟩
 ·have h2b : (op1 == 2) = false := by simpa using h2
  have RZ := Lib.hid (XM.out (fun h => h2 h.1))
  go_wp2_with (go_at_call 98; refine Stand.out ?_)
  refine Stand.mk ?_
  refine (mustWord_go S2.out HT.out HK1.out RZ.out).mono ?_
  rintro e u3 (⟨p9, r9, rfl, rfl, f9⟩ | ⟨l3, x3, rfl, m3⟩)
  ·go_wp2_with fail
   exact ⟨rfl, f9⟩
  have X3 := Lib.hid x3
  have HK3 := Lib.hid l3
  clear x3 l3
  have S3 := Lib.hid (S2.out.call m3)
  have B3r := Lib.hid (m3.blk B2r.out (by omega))
  have B3b := Lib.hid (m3.blk B2b.out (by omega))
  have V3p := Lib.hid (V2p.out.mv m3 (fun h => absurd (Np.out _ h) (by omega)))
  have zw3 := S3.out.size
  have zz3 := Mv.size m3
  clear m3
  go_wp2_with (go_at_call 99; refine Stand.out ?_)
  refine Stand.mk ?_
  refine (name_go S3.out HT.out HK3.out X3.out).mono ?_
  rintro e u4 (⟨p9, r9, rfl, rfl, f9⟩ | ⟨n4, l4, x4, rfl, m4⟩)
  ·go_wp2_with fail
   exact ⟨rfl, f9⟩
  have X4 := Lib.hid x4
  have HK4 := Lib.hid l4
  clear x4 l4
  have S4 := Lib.hid (S3.out.call m4)
  have B4r := Lib.hid (m4.blk B3r.out (by omega))
  have B4b := Lib.hid (m4.blk B3b.out (by omega))
  have V4p := Lib.hid (V3p.out.mv m4 (fun h => absurd (Np.out _ h) (by omega)))
  have zw4 := S4.out.size
  have zz4 := Mv.size m4
  clear m4
  have c10 := B4b.out.cell (i := 10) rfl
  have d10 := B4b.out.free 10
  go_upto_region 7 with fail
  clear c10 d10
  obtain ⟨u5, hu⟩ : ∃ u, (u4.setCell ⟨b4, 10, none⟩ (.string n4)) = u := ⟨_, rfl⟩
  rw [hu]
  have S5 := Lib.hid (show St bp a cap L w ((k1 + 1) + 1) u5 from by rw [← hu]; exact (S4.out.set (by omega) 10 _))
  have zz5 : u5.heap.size = u4.heap.size := by rw [← hu]; simp [World.size_setCell]
  have hk5 : ∀ q, q ≠ b4 → u5.heap[q]? = u4.heap[q]? := fun q hq => by rw [← hu, Below.heap_setCell _ ⟨b4, 10, none⟩ _ q hq]
  have B5r := Lib.hid (B4r.out.of_heap (hk5 _ (by omega)))
  have B5b := Lib.hid (show Block u5 b4 [.int .i64 op1, .string nm1, .int .i64 vk1, .bool vb1, .int .i64 vi1, .string vs1, .slice la1 ln1 lc1, .slice ka1 kn1 kc1, .slice na1 nn1 nc1, .slice xa1 xn1 xc1, .string n4] 73 from by rw [← hu]; exact (B4b.out.set 10 _))
  have V5p := Lib.hid (V4p.out.same (w1 := u5) (fun b hb => hk5 b (fun e => absurd (V1p.out.1 _ hb) (by omega))))
  clear hu hk5
  obtain rfl := Option.some.inj X4.out
  have hRg := B5b.out.rng
  have hTh := block_there B5r.out 0 11 (Nat.le_refl 11)
  go_wp2_with (first | (refine wpList_load_mid rfl 73 _ rfl b4 0 rfl [.int .i64 op1, .string nm1, .int .i64 vk1, .bool vb1, .int .i64 vi1, .string vs1, .slice la1 ln1 lc1, .slice ka1 kn1 kc1, .slice na1 nn1 nc1, .slice xa1 xn1 xc1, .string n4] _ hRg Tryz.underlying73 rfl (by kernel_rfl) ?_) | (refine wpList_store_mid rfl 73 _ _ rfl w.heap.size 0 #[.int .i64 op1, .string nm1, .int .i64 vk1, .bool vb1, .int .i64 vi1, .string vs1, .slice la1 ln1 lc1, .slice ka1 kn1 kc1, .slice na1 nn1 nc1, .slice xa1 xn1 xc1, .string n4] rfl rfl hTh (by kernel_rfl) (by simp [Value.oneCell']) ?_))
  have B99 := B5r.out.all [.int .i64 op1, .string nm1, .int .i64 vk1, .bool vb1, .int .i64 vi1, .string vs1, .slice la1 ln1 lc1, .slice ka1 kn1 kc1, .slice na1 nn1 nc1, .slice xa1 xn1 xc1, .string n4] rfl
  refine bodyPost_ret (results_cell_row (by rfl) _ _ w.heap.size 73 _ (0, 0) _ (by rfl) B99 Tryz.underlying73 rfl (by kernel_rfl)) rfl ?_
  exact ⟨((k1 + 1) + 1), _, by omega, HK4.out, rfl, rfl, RtN.mk ((mk_it (nm := n4) V5p.out).sets 0 _ (fun h => absurd (hT1 _ h) (by omega))) (rfl) (fun b h => by have := hT1 b h; omega), (S5.out.sets (Nat.le_refl _) 0 _).mv⟩
structure SortAt (bp : Nat) (a : Option Addr) (cap : Nat) (L : List (Tok × Nat)) (w : World) (x : Pr) (f kb : Nat) (g k : Nat) (S : Nat → Prop) (lv : Value) (l : List Sot) (u : World) : Prop where
  st : St bp a cap L w k u
  lt : k < L.length
  ge : kb ≤ k
  ln : l.length ≤ k
  row : Row RSo 89 11 w.heap.size S u lv l
  le : g ≤ f
  rn : run g (.sortL l) (rem L k) = some x
set_option maxHeartbeats 8000000 in
theorem sorts_any {f : Nat} (bp : Nat) (a : Option Addr) (cap : Nat) (L : List (Tok × Nat)) (k : Nat) (w : World) (x : Pr) (h : Ps bp a cap L k w) (hT : Tk L) (hk : k < L.length)  (hr : run (f + 1) (.sorts) (rem L k) = some x) :
    Calls Tryz.prog 117 #[.pointer (some ⟨bp, 0, none⟩)] w (PR (RtR RSo 11 V.sorts) bp L k w x) := by
 have hr : Go.Proofs.YteljlahcdipilaaGreat.step (run f) (.sorts) (rem L k) = some x := hr
 simp only [Go.Proofs.YteljlahcdipilaaGreat.step, wrd, tail_rem] at hr
 have HT := Lib.hid hT
 have HK0 := Lib.hid hk
 have X0 := Lib.hid hr
 have hbw := h.lt
 have S0 := Lib.hid (St.start h)
 clear h hT hk hr
 go_enter Tryz.func117, Tryz.ntmps117
 cases h0 : isT 2 wORDER (rem L k) with
 | false =>
  exact Sq722639
 | true =>
  have RY := X0.out
  simp only [h0, if_true] at RY
  have RZ := Lib.hid RY
  clear RY
  go_wp2_with (go_at_call 103; refine Stand.out ?_)
  refine Stand.mk ?_
  refine (skip_t S0.out HK0.out h0).mono ?_
  rintro e u1 ⟨rfl, m1⟩
  have S1 := Lib.hid (S0.out.call m1)
  have zw1 := S1.out.size
  have zz1 := Mv.size m1
  clear m1
  have HK1 := Lib.hid (HT.out.next HK0.out h0 (by decide))
  go_wp2_with (go_at_call 98; refine Stand.out ?_)
  refine Stand.mk ?_
  refine (mustWord_go S1.out HT.out HK1.out RZ.out).mono ?_
  rintro e u2 (⟨p9, r9, rfl, rfl, f9⟩ | ⟨l2, x2, rfl, m2⟩)
  ·go_wp2_with fail
   exact ⟨rfl, f9⟩
  have X2 := Lib.hid x2
  have HK2 := Lib.hid l2
  clear x2 l2
  have S2 := Lib.hid (S1.out.call m2)
  have zw2 := S2.out.size
  have zz2 := Mv.size m2
  clear m2
  go_wp2_with fail
  go_loopg [3] f (fun g lv1 wr => ∃ (k0 : Nat) (S : Nat → Prop) (l : List Sot) (lv : Value), lv = lv1 ∧ Hid (SortAt bp a cap L w x f k g k0 S lv l wr))
  case atStart => exact ⟨k + 1 + 1, _, [], _, rfl, Lib.hid ⟨S2.out, HK2.out, by omega, by simp, Row.nil, Nat.le_refl _, X2.out⟩⟩
  case round =>
   clear X2 X0 S2 S0 HK0 RZ
   obtain ⟨k0, S, l, lv, hlv, hP⟩ := hrel
   subst hlv
   have hP := hP.out
   cases gk with
   | zero => exact absurd hP.rn (by intro h; cases h)
   | succ g =>
    have rn : Go.Proofs.YteljlahcdipilaaGreat.step (run g) (.sortL l) (rem L k0) = some x := hP.rn
    simp only [Go.Proofs.YteljlahcdipilaaGreat.step, sigB, wrd, tail_rem] at rn
    have S20 := Lib.hid hP.st
    have zw20 := hP.st.size
    have R20a := Lib.hid hP.row
    have HK20 := Lib.hid hP.lt
    have hln := hP.ln
    have hge := hP.ge
    have hll := hP.lt
    have hL := hP.st.ln
    have hgf := hP.le
    have RN := Lib.hid rn
    clear hP rn
    go_wp2_with (go_at_call 97; refine Stand.out ?_)
    refine Stand.mk ?_
    refine ((expr_s g 1 (by decide)).go2 S20.out HT.out HK20.out RN.out).mono ?_
    rintro e u21 (⟨p9, r9, rfl, rfl, f9⟩ | ⟨v21, k21, val21, q21, l21, x21, rfl, ⟨T21, ds21, rfl, hT21, hX21⟩, m21⟩)
    ·go_wp2_with fail
     exact ⟨rfl, f9⟩
    have X21 := Lib.hid x21
    have HK21 := Lib.hid l21
    clear x21 l21
    have S21 := Lib.hid (S20.out.call m21)
    have R21a := Lib.hid (R20a.out.mv m21 (by omega))
    have zw21 := S21.out.size
    have zz21 := Mv.size m21
    clear m21
    obtain ⟨op21, nm21, vk21, vb21, vi21, vs21, la21, ln21, lc21, ka21, kn21, kc21, na21, nn21, nc21, xa21, xn21, xc21, -, -, rfl⟩ := hX21.ten
    have V21p := Lib.hid hX21
    clear hX21
    have Np := Lib.hid hT21
    have hTh := block_there (Block.new u21 [.int .i64 0, .string ⟨#[]⟩, .int .i64 0, .bool false, .int .i64 0, .string ⟨#[]⟩, .slice none 0 0, .slice none 0 0, .slice none 0 0, .slice none 0 0, .bool false] 89) 0 11 (Nat.le_refl 11)
    go_upto_region 6 with (first | (refine wpList_store_mid rfl 89 _ _ rfl u21.heap.size 0 #[.int .i64 op21, .string nm21, .int .i64 vk21, .bool vb21, .int .i64 vi21, .string vs21, .slice la21 ln21 lc21, .slice ka21 kn21 kc21, .slice na21 nn21 nc21, .slice xa21 xn21 xc21, .bool false] rfl rfl hTh (by kernel_rfl) (by simp [Value.oneCell']) ?_))
    go_frame
    obtain ⟨b4, hb4⟩ := nam u21.heap.size
    rw [hb4]
    obtain ⟨u22, hu22⟩ : ∃ u, (u21.alloc (.cells #[.int .i64 0, .string ⟨#[]⟩, .int .i64 0, .bool false, .int .i64 0, .string ⟨#[]⟩, .slice none 0 0, .slice none 0 0, .slice none 0 0, .slice none 0 0, .bool false] 89)).setCells b4 0 ((#[.int .i64 op21, .string nm21, .int .i64 vk21, .bool vb21, .int .i64 vi21, .string vs21, .slice la21 ln21 lc21, .slice ka21 kn21 kc21, .slice na21 nn21 nc21, .slice xa21 xn21 xc21, .bool false] : Array Value).toList) = u := ⟨_, rfl⟩
    rw [hu22]
    have zb4 : b4 < u22.heap.size ∧ True ∧ u21.heap.size ≤ u22.heap.size ∧ u21.heap.size = b4 := by rw [← hu22, setCells_sz, ← hb4]; simp <;> omega
    have S22 := Lib.hid (show St bp a cap L w k21 u22 from by rw [← hu22]; exact (S21.out.alloc _).sets (by have := S21.out.size; omega) 0 _)
    have B22b := Lib.hid (show Block u22 b4 [.int .i64 op21, .string nm21, .int .i64 vk21, .bool vb21, .int .i64 vi21, .string vs21, .slice la21 ln21 lc21, .slice ka21 kn21 kc21, .slice na21 nn21 nc21, .slice xa21 xn21 xc21, .bool false] 89 from by rw [← hu22, ← hb4]; exact (Block.new u21 [.int .i64 0, .string ⟨#[]⟩, .int .i64 0, .bool false, .int .i64 0, .string ⟨#[]⟩, .slice none 0 0, .slice none 0 0, .slice none 0 0, .slice none 0 0, .bool false] 89).all [.int .i64 op21, .string nm21, .int .i64 vk21, .bool vb21, .int .i64 vi21, .string vs21, .slice la21 ln21 lc21, .slice ka21 kn21 kc21, .slice na21 nn21 nc21, .slice xa21 xn21 xc21, .bool false] rfl)
    have V22p := Lib.hid (show HG _ _ u22 from by rw [← hu22]; exact (V21p.out.alloc _).sets 0 _ (fun h => absurd (V21p.out.1 _ h) (by omega)))
    have R22a := Lib.hid (show Row _ _ _ _ _ u22 _ _ from by rw [← hu22]; exact (R21a.out.alloc _).sets 0 _ (fun h => absurd (R21a.out.lt h).2 (by omega)))
    clear hu22 hb4 hTh
    obtain ⟨ba, hba⟩ := nam (isT 2 wASC (rem L k21))
    obtain ⟨bd, hbd⟩ := nam (isT 2 wDESC (rem L k21))
    obtain ⟨k2, hk2⟩ := nam ((if (ba || bd) = true then k21 + 1 else k21))
    obtain ⟨Hba, Hbd, Hk2⟩ := hd3 hba hbd hk2
    have hna : ba = true → bd = false := fun h => by
     have e := isT_kind (hba.trans h)
     cases bd with
     | false => rfl
     | true => exact absurd (e.2.symm.trans (isT_kind hbd).2) (by decide)
    have XE := X21.out
    simp only [hba, hbd, tail_rem, rem_if hk2] at XE
    have XE := Lib.hid XE
    clear hba hbd hk2
    have HNA := Lib.hid hna
    clear hna
    obtain ⟨b9, hb9⟩ := nam (isT 2 wASC (rem L k21))
    obtain ⟨k9, hk9⟩ := nam ((if b9 = true then k21 + 1 else k21))
    have Hb9 := Lib.hid hb9
    have Hk9 := Lib.hid hk9
    clear hb9 hk9
    go_wp2_with (go_at_call 103; refine Stand.out ?_)
    refine Stand.mk ?_
    refine (skip_b S22.out HT.out HK21.out (by decide) Hb9.out Hk9.out).mono ?_
    rintro e u23 ⟨rfl, l23, m23⟩
    have HK23 := Lib.hid l23
    have qk9 : k21 ≤ k9 := by rw [← Hk9.out]; split <;> omega
    clear l23
    have S23 := Lib.hid (S22.out.call m23)
    have B23b := Lib.hid (m23.blk B22b.out (by omega))
    have V23p := Lib.hid (V22p.out.mv m23 (fun h => absurd (Np.out _ h) (by omega)))
    have R23a := Lib.hid (R22a.out.mv m23 (by omega))
    have zw23 := S23.out.size
    have zz23 := Mv.size m23
    clear m23
    have hb9' : b9 = ba := Hb9.out.symm.trans Hba.out
    subst hb9'
    go_upto_if 15 with fail
    go_cut [] (fun wx => Hid (St bp a cap L w k2 wx ∧ k2 < L.length ∧ Block wx b4 [.int .i64 op21, .string nm21, .int .i64 vk21, .bool vb21, .int .i64 vi21, .string vs21, .slice la21 ln21 lc21, .slice ka21 kn21 kc21, .slice na21 nn21 nc21, .slice xa21 xn21 xc21, .bool bd] 89 ∧ HX T21 wx [.int .i64 op21, .string nm21, .int .i64 vk21, .bool vb21, .int .i64 vi21, .string vs21, .slice la21 ln21 lc21, .slice ka21 kn21 kc21, .slice na21 nn21 nc21, .slice xa21 xn21 xc21] v21.ex ∧ Row RSo 89 11 w.heap.size S wx lv l))
    case first =>
     cases b9 with
     | true =>
      have e2 : k9 = k2 := by rw [← Hk9.out, ← Hk2.out]; rfl
      have e3 := HNA.out rfl
      subst e3
      go_wp2_with fail
      go_meet
      exact Lib.hid ⟨e2 ▸ S23.out, e2 ▸ HK23.out, B23b.out, V23p.out, R23a.out⟩
     | false =>
      have e9 : k21 = k9 := by rw [← Hk9.out]; rfl
      have HBD : Hid (isT 2 wDESC (rem L k9) = bd) := Lib.hid (by rw [← e9]; exact Hbd.out)
      have HK2 : Hid ((if bd = true then k9 + 1 else k9) = k2) := Lib.hid (by rw [← e9, ← Hk2.out]; cases bd <;> rfl)
      clear e9
      go_wp2_with (go_at_call 103; refine Stand.out ?_)
      refine Stand.mk ?_
      refine (skip_b S23.out HT.out HK23.out (by decide) HBD.out HK2.out).mono ?_
      rintro e u24 ⟨rfl, l24, m24⟩
      have HK24 := Lib.hid l24
      clear l24
      have S24 := Lib.hid (S23.out.call m24)
      have B24b := Lib.hid (m24.blk B23b.out (by omega))
      have V24p := Lib.hid (V23p.out.mv m24 (fun h => absurd (Np.out _ h) (by omega)))
      have R24a := Lib.hid (R23a.out.mv m24 (by omega))
      have zw24 := S24.out.size
      have zz24 := Mv.size m24
      clear m24
      have c10 := B24b.out.cell (i := 10) rfl
      have d10 := B24b.out.free 10
      go_wp2_with fail
      go_meet
      exact Lib.hid ⟨S24.out.set (by omega) 10 _, HK24.out, B24b.out.set 10 _, V24p.out.set 10 _ (fun h => absurd (V21p.out.1 _ h) (by omega)), R24a.out.same (fun b hb => Below.heap_setCell _ ⟨b4, 10, none⟩ _ _ (by show b ≠ b4; have := (R21a.out.lt hb).2; omega))⟩
    case rest =>
     have hc := hcut.out
     obtain ⟨u24, hu⟩ := nam wc
     rw [hu] at hc ⊢
     clear hu hcut
     have S24 := Lib.hid hc.1
     have HK24 := Lib.hid hc.2.1
     have B24b := Lib.hid hc.2.2.1
     have V24p := Lib.hid hc.2.2.2.1
     have R24a := Lib.hid hc.2.2.2.2
     have z24 := hc.2.2.1.lt
     have zw24 := hc.1.size
     have qk2 : k21 ≤ k2 := by rw [← Hk2.out]; split <;> omega
     clear hc
     have hRg := B24b.out.rng
     have V9 := Lib.hid (mk_so (d := bd) V24p.out)
     go_wp2_with (first | (refine wpList_load_mid rfl 89 _ rfl b4 0 rfl [.int .i64 op21, .string nm21, .int .i64 vk21, .bool vb21, .int .i64 vi21, .string vs21, .slice la21 ln21 lc21, .slice ka21 kn21 kc21, .slice na21 nn21 nc21, .slice xa21 xn21 xc21, .bool bd] _ hRg Tryz.underlying89 rfl (by kernel_rfl) ?_) | (at_builtin; refine wpList_append_row (R := RSo) rfl _ _ 68 rfl Tryz.underlying68 Tryz.infoSo rfl (by decide) (by decide) R24a.out V9.out rfl (fun b hb => ⟨by have := hT21 b hb; omega, fun e => absurd (hT21 b hb) (by have := (R20a.out.lt (.inr e)).2; omega)⟩) rfl rfl (by simp [Value.oneCell']) (by omega) (by omega) ?_))
     intro lv2 u25 hR hg ho hp
     have S25 := Lib.hid ((S24.out.alloc _).grown hg ho)
     have R25a := Lib.hid hR
     clear hR hg ho hp hRg
     cases h44 : isT 5 [44] (rem L k2) with
     | false =>
      have RY := XE.out
      simp only [h44, if_false, Bool.false_eq_true] at RY
      have RZ := Lib.hid RY
      clear RY
      go_wp2_with (go_at_call 103; refine Stand.out ?_)
      refine Stand.mk ?_
      refine (skip_f S25.out HK24.out h44).mono ?_
      rintro e u26 ⟨rfl, m26⟩
      have S26 := Lib.hid (S25.out.call m26)
      have R26a := Lib.hid (R25a.out.mv m26 (by omega))
      have zw26 := S26.out.size
      have zz26 := Mv.size m26
      clear m26
      obtain rfl := Option.some.inj RZ.out
      obtain ⟨S9, xa, xc, rfl, hsl, hS9, hR9⟩ := R26a.out.fin
      go_wp2_with fail
      go_ret
      exact ⟨k2, _, by omega, HK24.out, rfl, rfl, ⟨S9, xa, xc, by simp [V.sorts], fun b hb => (R26a.out.lt (hS9 b hb)).1, hR9, hsl⟩, S26.out.mv⟩
     | true =>
      have RY := XE.out
      simp only [h44, if_true, tail_rem] at RY
      have RZ := Lib.hid RY
      clear RY
      go_wp2_with (go_at_call 103; refine Stand.out ?_)
      refine Stand.mk ?_
      refine (skip_t S25.out HK24.out h44).mono ?_
      rintro e u26 ⟨rfl, m26⟩
      have S26 := Lib.hid (S25.out.call m26)
      have R26a := Lib.hid (R25a.out.mv m26 (by omega))
      have zw26 := S26.out.size
      have zz26 := Mv.size m26
      clear m26
      have HK26 := Lib.hid (HT.out.next HK24.out h44 (by decide))
      go_wp2_with fail
      go_roundg g
      case measure => omega
      case rel => exact ⟨k2 + 1, _, l ++ [⟨v21.ex, bd⟩], _, rfl, Lib.hid ⟨S26.out, HK26.out, by omega, by simp; omega, R26a.out, by omega, RZ.out⟩⟩
theorem item_s (f : Nat) : Said 116 [] .item (RtN RIt V.item) f := by
 cases f with
 | zero => exact Said.zero
 | succ f => exact fun bp a cap L k w x h hT hk hr => item_any bp a cap L k w x h hT hk hr
theorem sorts_s (f : Nat) : Said 117 [] .sorts (RtR RSo 11 V.sorts) f := by
 cases f with
 | zero => exact Said.zero
 | succ f => exact fun bp a cap L k w x h hT hk hr => sorts_any bp a cap L k w x h hT hk hr
abbrev HRow {α : Type} (R : World → List Value → α → Prop) (size : Nat) (S : Nat → Prop) (w : World) (xa : Option Addr) (l : List α) : Prop := HG (fun u => RowR (R u) size u.heap.size u xa l) S w
theorem emptyX_hx (w : World) : HX (fun _ => False) w zX emptyX := hx_leaf w (by unfold in64; omega)
theorem mk_cl {S1 S2 S3 S5 S7 S8 S9 S10 S11 : Nat → Prop} {w : World} {a1 a2 a5 a7 a8 a9 a10 a11 : Option Addr} {c1 c2 c5 c7 c8 c9 c10 c11 : Nat} {xe : List Value} {c : Clt} (hk : in64 c.kind)
    (h1 : HRow RPt 2 S1 w a1 c.paths) (s1 : SlOk a1 c.paths.length c1) (h2 : RowX S2 w a2 c.whr) (s2 : SlOk a2 c.whr.length c2) (h3 : HX S3 w xe c.e) (h5 : HRow RIt 11 S5 w a5 c.items) (s5 : SlOk a5 c.items.length c5)
    (h7 : HRow RSo 11 S7 w a7 c.order) (s7 : SlOk a7 c.order.length c7) (h8 : RowX S8 w a8 c.skip) (s8 : SlOk a8 c.skip.length c8) (h9 : RowX S9 w a9 c.limit) (s9 : SlOk a9 c.limit.length c9) (h10 : HRow RSi 13 S10 w a10 c.sets) (s10 : SlOk a10 c.sets.length c10) (h11 : RowK S11 w a11 c.vars) (s11 : SlOk a11 c.vars.length c11) :
    HG (fun u => RCl u ([.int .i64 c.kind, .slice a1 c.paths.length c1, .slice a2 c.whr.length c2] ++ (xe ++ [.string c.var, .slice a5 c.items.length c5, .bool c.uniq, .slice a7 c.order.length c7, .slice a8 c.skip.length c8, .slice a9 c.limit.length c9, .slice a10 c.sets.length c10, .slice a11 c.vars.length c11, .bool c.detach])) c)
      (fun b => ((((((((S1 b ∨ S2 b) ∨ S3 b) ∨ S5 b) ∨ S7 b) ∨ S8 b) ∨ S9 b) ∨ S10 b) ∨ S11 b)) w :=
  (((((((((HG.and h1 h2).and h3).and h5).and h7).and h8).and h9).and h10).and h11)).imp fun u ⟨⟨⟨⟨⟨⟨⟨⟨g1, g2⟩, g3⟩, g5⟩, g7⟩, g8⟩, g9⟩, g10⟩, g11⟩ =>
    ⟨a1, c1, a2, c2, xe, a5, c5, a7, c7, a8, c8, a9, c9, a10, c10, a11, c11, rfl, hk, s1, g1, s2, g2, g3, s5, g5, s7, g7, s8, g8, s9, g9, s10, g10, s11, g11⟩
theorem nRow {α : Type} {R : World → List Value → α → Prop} {size : Nat} (w : World) : HRow R size (fun _ => False) w none ([] : List α) := HG.pure _ fun _ => nil_row
theorem nRowX (w : World) : RowX (fun _ => False) w none [] := HG.pure _ fun _ => nil_row
theorem nRowK (w : World) : RowK (fun _ => False) w none [] := HG.pure _ fun _ => .inl rfl
end Go.Proofs.YteljlahcdipilaaGreat

/- Parts Q18 of this seat (pruned, scripts that are alike kept once as default arguments: q1, q2, ..). Conditions: each says its own. -/
import Derived.Test.YteljlahcdipilaaGreatF28
namespace Go.Proofs.YteljlahcdipilaaGreat
open Go.RowKit Go.Shelf
set_option linter.unusedSimpArgs false
set_option linter.unusedVariables false
set_option maxRecDepth 100000
theorem isT_toList {s : List UInt8} (t : List UInt8) : ((strOf t).toList == s) = decide (t = s) := by
 have := strOf_eqb t s
 rwa [strOf_list s] at this
set_option maxHeartbeats 8000000 in
theorem named_agg {f : Nat} (HR : Rec f) (bp : Nat) (a : Option Addr) (cap : Nat) (L : List (Tok × Nat)) (k : Nat) (w : World) (x : Pr) (h : Ps bp a cap L k w) (hT : Tk L) (hk : k < L.length) (hk1 : (nx (rem L k)).k = 1) (hpn : isT 5 [40] (rem L (k + 1)) = true) (hag : aggB (strOf (nx (rem L k)).t) = true) (hr : run (f + 1) (.atom) (rem L k) = some x) :
    Calls Tryz.prog 130 #[.pointer (some ⟨bp, 0, none⟩)] w (PR RtX bp L k w x) := by
 have tk13 : ¬ (1 : Nat) = 3 := by decide
 have tk14 : ¬ (1 : Nat) = 4 := by decide
 have hr : Go.Proofs.YteljlahcdipilaaGreat.step (run f) (.atom) (rem L k) = some x := hr
 simp only [Go.Proofs.YteljlahcdipilaaGreat.step, sigB, hk1, if_true, tk13, tk14, if_false, hpn, hag, tail_rem] at hr
 have HT := Lib.hid hT
 have HK0 := Lib.hid hk
 have X0 := Lib.hid hr
 have hbw := h.lt
 obtain ⟨u0, hy0⟩ : ∃ u, w.alloc (.cells #[.int .i64 0, .string ⟨#[]⟩, .int .i64 0, .bool false, .int .i64 0, .string ⟨#[]⟩, .slice none 0 0, .slice none 0 0, .slice none 0 0, .slice none 0 0] 66) = u := ⟨_, rfl⟩
 have s0 : St bp a cap L w k u0 := by rw [← hy0]; exact (St.start h).alloc _
 have b0 : Block u0 w.heap.size zX 66 := by rw [← hy0]; exact Block.new w _ _
 have B0r := Lib.hid b0
 clear b0
 have S0 := Lib.hid s0
 have HU := Lib.hid hy0
 clear s0 hy0 h hT hk hr
 obtain ⟨tk, htk⟩ := nam (nx (rem L k))
 have HTK := Lib.hid htk
 rw [htk] at hag; have HAG := Lib.hid hag; have HK1 := Lib.hid hk1
 clear hk1 htk hag
 go_enter Tryz.func130, Tryz.ntmps130
 go_upto_region 1 with fail
 rw [HU.out]
 go_wp2_with (go_at_call 99; refine Stand.out ?_)
 refine Stand.mk ?_
 refine (nameT_st S0.out HK0.out HK1.out).mono ?_
 rw [HTK.out]
 rintro e u1 ⟨rfl, m1⟩
 have S1 := Lib.hid (S0.out.call m1)
 have B1r := Lib.hid (m1.blk B0r.out (by omega))
 have zz1 := Mv.size m1
 clear m1
 have HKN : Hid (k + 1 < L.length) := Lib.hid (HT.out.step HK0.out (by rw [HK1.out]; decide))
 go_wp2_with (go_at_call 103; refine Stand.out ?_)
 refine Stand.mk ?_
 refine (skip_t S1.out HKN.out hpn).mono ?_
 rintro e u2 ⟨rfl, m2⟩
 have S2 := Lib.hid (S1.out.call m2)
 have B2r := Lib.hid (m2.blk B1r.out (by omega))
 have zz2 := Mv.size m2
 clear m2
 have HK2 := Lib.hid (HT.out.next HKN.out hpn (by decide))
 have RX := X0.out
 rw [HTK.out] at RX
 have X0 := Lib.hid RX
 clear RX
 have hag5 : tk.t = [99, 111, 117, 110, 116] ∨ tk.t = [115, 117, 109] ∨ tk.t = [109, 105, 110] ∨ tk.t = [109, 97, 120] ∨ tk.t = [99, 111, 108, 108, 101, 99, 116] := by
  have h := HAG.out
  unfold aggB at h
  simpa only [isT_toList, Bool.or_eq_true, decide_eq_true_eq, or_assoc] using h
 go_upto_region 4 with fail
 go_cut [12] (fun v wx => v = .string (strOf tk.t) ∧ u2 = wx)
 case first => go_wp2_with fail; go_meet; exact ⟨rfl, rfl⟩
 case rest =>
  obtain ⟨rfl, rfl⟩ := hcut
  go_step
  go_cut [] (fun wx => u2 = wx)
  case first =>
   rcases hag5 with ht | ht | ht | ht | ht
   ·have hc0 : ((strOf tk.t).toList == [99, 111, 117, 110, 116]) = true := (by simp [isT_toList, ht])
    clear ht
    go_wp2_with fail
    go_meet
    exact rfl
   ·have hc0 : ((strOf tk.t).toList == [99, 111, 117, 110, 116]) = false := (by simp [isT_toList, ht]); have hc1 : ((strOf tk.t).toList == [115, 117, 109]) = true := (by simp [isT_toList, ht])
    clear ht
    go_wp2_with fail
    go_meet
    exact rfl
   ·have hc0 : ((strOf tk.t).toList == [99, 111, 117, 110, 116]) = false := (by simp [isT_toList, ht]); have hc1 : ((strOf tk.t).toList == [115, 117, 109]) = false := (by simp [isT_toList, ht]); have hc2 : ((strOf tk.t).toList == [109, 105, 110]) = true := (by simp [isT_toList, ht])
    clear ht
    go_wp2_with fail
    go_meet
    exact rfl
   ·have hc0 : ((strOf tk.t).toList == [99, 111, 117, 110, 116]) = false := (by simp [isT_toList, ht]); have hc1 : ((strOf tk.t).toList == [115, 117, 109]) = false := (by simp [isT_toList, ht]); have hc2 : ((strOf tk.t).toList == [109, 105, 110]) = false := (by simp [isT_toList, ht]); have hc3 : ((strOf tk.t).toList == [109, 97, 120]) = true := (by simp [isT_toList, ht])
    clear ht
    go_wp2_with fail
    go_meet
    exact rfl
   ·have hc0 : ((strOf tk.t).toList == [99, 111, 117, 110, 116]) = false := (by simp [isT_toList, ht]); have hc1 : ((strOf tk.t).toList == [115, 117, 109]) = false := (by simp [isT_toList, ht]); have hc2 : ((strOf tk.t).toList == [109, 105, 110]) = false := (by simp [isT_toList, ht]); have hc3 : ((strOf tk.t).toList == [109, 97, 120]) = false := (by simp [isT_toList, ht]); have hc4 : ((strOf tk.t).toList == [99, 111, 108, 108, 101, 99, 116]) = true := (by simp [isT_toList, ht])
    clear ht
    go_wp2_with fail
    go_meet
    exact rfl
  case rest =>
   clear hag5
   subst hcut
   have hTh := block_there (Block.new u2 zX 66) 0 10 (Nat.le_refl 10)
   go_upto_region 12 with (refine wpList_store_mid rfl 66 _ _ rfl u2.heap.size 0 #[.int .i64 14, .string (strOf tk.t), .int .i64 0, .bool false, .int .i64 0, .string ⟨#[]⟩, .slice none 0 0, .slice none 0 0, .slice none 0 0, .slice none 0 0] rfl rfl hTh (by kernel_rfl) (by simp [Value.oneCell']) ?_)
   obtain ⟨b4, hb4⟩ := nam u2.heap.size
   rw [hb4]
   obtain ⟨u3, hu3⟩ : ∃ u, (u2.alloc (.cells #[.int .i64 0, .string ⟨#[]⟩, .int .i64 0, .bool false, .int .i64 0, .string ⟨#[]⟩, .slice none 0 0, .slice none 0 0, .slice none 0 0, .slice none 0 0] 66)).setCells b4 0 ((#[.int .i64 14, .string (strOf tk.t), .int .i64 0, .bool false, .int .i64 0, .string ⟨#[]⟩, .slice none 0 0, .slice none 0 0, .slice none 0 0, .slice none 0 0] : Array Value).toList) = u := ⟨_, rfl⟩
   rw [hu3]
   have zb4 : b4 < u3.heap.size ∧ w.heap.size < b4 ∧ u2.heap.size ≤ u3.heap.size := by have := B2r.out.lt; rw [← hu3, setCells_sz, ← hb4]; simp; omega
   have S3 := Lib.hid (show St bp a cap L w ((k + 1) + 1) u3 from by rw [← hu3]; exact (S2.out.alloc _).sets (by omega) 0 _)
   have B3r := Lib.hid (show Block u3 _ _ _ from by rw [← hu3]; exact (B2r.out.alloc _).of_heap (cells_other (by have := B2r.out.lt; omega) _ 0 _))
   have B3b := Lib.hid (show Block u3 b4 [.int .i64 14, .string (strOf tk.t), .int .i64 0, .bool false, .int .i64 0, .string ⟨#[]⟩, .slice none 0 0, .slice none 0 0, .slice none 0 0, .slice none 0 0] 66 from by rw [← hu3, ← hb4]; exact (Block.new u2 zX 66).setCells [.int .i64 14, .string (strOf tk.t), .int .i64 0, .bool false, .int .i64 0, .string ⟨#[]⟩, .slice none 0 0, .slice none 0 0, .slice none 0 0, .slice none 0 0] 0)
   clear hu3 hb4 hTh
   obtain ⟨bc, hbc⟩ := nam (decide (tk.t = wCount))
   have hcc : ((strOf tk.t).toList == [99, 111, 117, 110, 116]) = bc := by rw [isT_toList, hbc]
   have HBC := Lib.hid hbc
   clear hbc
   cases bc with
   | true =>
    have hw := of_decide_eq_true HBC.out
    cases h42 : isT 5 [42] (rem L (k + 1 + 1)) with
    | true =>
     have RX := X0.out
     rw [if_pos ⟨hw, h42⟩] at RX
     have X0 := Lib.hid RX
     clear RX hw
     go_wp2_with (go_at_call 103; refine Stand.out ?_)
     refine Stand.mk ?_
     refine (skip_t S3.out HK2.out h42).mono ?_
     rintro e u4 ⟨rfl, m4⟩
     have S4 := Lib.hid (S3.out.call m4)
     have B4r := Lib.hid (m4.blk B3r.out (by omega))
     have B4b := Lib.hid (m4.blk B3b.out (by omega))
     have zz4 := Mv.size m4
     clear m4
     have HK4 := Lib.hid (HT.out.next HK2.out h42 (by decide))
     go_wp2_with (go_at_call 118; refine Stand.out ?_)
     refine Stand.mk ?_
     refine (mustSign_go S4.out HT.out HK4.out X0.out).mono ?_
     rintro e u5 (⟨p9, r9, rfl, rfl, f9⟩ | ⟨l5, x5, rfl, m5⟩)
     ·go_wp2_with fail
      exact ⟨rfl, f9⟩
     have X5 := Lib.hid x5
     have HK5 := Lib.hid l5
     clear x5 l5
     have S5 := Lib.hid (S4.out.call m5)
     have B5r := Lib.hid (m5.blk B4r.out (by omega))
     have B5b := Lib.hid (m5.blk B4b.out (by omega))
     have zz5 := Mv.size m5
     clear m5
     obtain rfl := Option.some.inj X5.out
     obtain ⟨e0, e1, e2, e3, e4, e5, e6, e7, e8, e9⟩ := Block.ten B5b.out
     have hTh := block_there B5r.out 0 10 (Nat.le_refl 10)
     go_wp2_with (refine wpList_store_mid rfl 66 _ _ rfl w.heap.size 0 #[.int .i64 14, .string (strOf tk.t), .int .i64 0, .bool false, .int .i64 0, .string ⟨#[]⟩, .slice none 0 0, .slice none 0 0, .slice none 0 0, .slice none 0 0] rfl rfl hTh (by kernel_rfl) (by simp [Value.oneCell']) ?_)
     have B99 := B5r.out.setCells [.int .i64 14, .string (strOf tk.t), .int .i64 0, .bool false, .int .i64 0, .string ⟨#[]⟩, .slice none 0 0, .slice none 0 0, .slice none 0 0, .slice none 0 0] 0
     refine bodyPost_ret (results_cell_row (by rfl) _ _ w.heap.size 66 _ (0, 0) _ (by rfl) B99 Tryz.underlying66 rfl (by kernel_rfl)) rfl ?_
     exact ⟨((((k + 1) + 1) + 1) + 1), _, by omega, HK5.out, rfl, rfl, RtX.mk ((hx_leaf _ (by unfold in64; omega)).sets 0 _ (fun h => h)) (rfl) (fun _ h => h.elim), (S5.out.sets (Nat.le_refl _) 0 _).mv⟩
    | false =>
     have RX := X0.out
     rw [if_neg (fun h => by rw [h42] at h; cases h.2)] at RX
     have X0 := Lib.hid RX
     clear RX hw
     go_wp2_with (go_at_call 103; refine Stand.out ?_)
     refine Stand.mk ?_
     refine (skip_f S3.out HK2.out h42).mono ?_
     rintro e u4 ⟨rfl, m4⟩
     have S4 := Lib.hid (S3.out.call m4)
     have B4r := Lib.hid (m4.blk B3r.out (by omega))
     have B4b := Lib.hid (m4.blk B3b.out (by omega))
     have zz4 := Mv.size m4
     clear m4
     go_wp2_with (go_at_call 97; refine Stand.out ?_)
     refine Stand.mk ?_
     refine ((HR.expr f (Nat.le_refl _) 1 (by decide)).go2 S4.out HT.out HK2.out X0.out).mono ?_
     rintro e u5 (⟨p9, r9, rfl, rfl, f9⟩ | ⟨v5, k5, val5, q5, l5, x5, rfl, ⟨T5, ds5, rfl, hT5, hX5⟩, m5⟩)
     ·go_wp2_with fail
      exact ⟨rfl, f9⟩
     have X5 := Lib.hid x5
     have HK5 := Lib.hid l5
     clear x5 l5
     have S5 := Lib.hid (S4.out.call m5)
     have B5r := Lib.hid (m5.blk B4r.out (by omega))
     have B5b := Lib.hid (m5.blk B4b.out (by omega))
     have zz5 := Mv.size m5
     clear m5
     obtain ⟨op5, nm5, vk5, vb5, vi5, vs5, la5, ln5, lc5, ka5, kn5, kc5, na5, nn5, nc5, xa5, xn5, xc5, -, -, rfl⟩ := hX5.ten
     have V5x5 := Lib.hid hX5
     clear hX5
     have Nx5 := Lib.hid (show ¬ T5 bp from fun h => absurd (hT5 _ h) (by have := S4.out.size; omega))
     have BA := B5b.out.alloc (.cells #[.int .i64 op5, .string nm5, .int .i64 vk5, .bool vb5, .int .i64 vi5, .string vs5, .slice la5 ln5 lc5, .slice ka5 kn5 kc5, .slice na5 nn5 nc5, .slice xa5 xn5 xc5] 66)
     have e9 := BA.cell (i := 9) rfl
     have e10 := BA.free 9
     clear BA
     go_upto_region 14 with fail
     clear e9 e10
     obtain ⟨u6, hu⟩ : ∃ u, u5.alloc (.cells #[.int .i64 op5, .string nm5, .int .i64 vk5, .bool vb5, .int .i64 vi5, .string vs5, .slice la5 ln5 lc5, .slice ka5 kn5 kc5, .slice na5 nn5 nc5, .slice xa5 xn5 xc5] 66) = u := ⟨_, rfl⟩
     rw [hu]
     have S6 := Lib.hid (show St bp a cap L w k5 u6 from by rw [← hu]; exact S5.out.alloc _)
     have zz6 : u6.heap.size = u5.heap.size + 1 := by rw [← hu]; simp
     have B6r := Lib.hid (show Block u6 _ _ _ from by rw [← hu]; exact B5r.out.alloc _)
     have B6b := Lib.hid (show Block u6 _ _ _ from by rw [← hu]; exact B5b.out.alloc _)
     have B6g := Lib.hid (show Block u6 u5.heap.size [.int .i64 op5, .string nm5, .int .i64 vk5, .bool vb5, .int .i64 vi5, .string vs5, .slice la5 ln5 lc5, .slice ka5 kn5 kc5, .slice na5 nn5 nc5, .slice xa5 xn5 xc5] 66 from by rw [← hu]; exact Block.new u5 _ _)
     have V6x5 := Lib.hid (show HG _ _ u6 from by rw [← hu]; exact V5x5.out.alloc _)
     clear hu
     obtain ⟨u7, hu⟩ : ∃ u, u6.setCell ⟨b4, 9, none⟩ (.slice (some ⟨u5.heap.size, 0, none⟩) 1 1) = u := ⟨_, rfl⟩
     rw [hu]
     have S7 := Lib.hid (show St bp a cap L w k5 u7 from by rw [← hu]; exact S6.out.set (by omega) 9 _)
     have zz7 : u7.heap.size = u6.heap.size := by rw [← hu]; exact World.size_setCell _ _ _
     have B7r := Lib.hid (B6r.out.of_heap (w' := u7) (by rw [← hu]; exact Below.heap_setCell _ ⟨b4, 9, none⟩ _ _ (by show w.heap.size ≠ b4; omega)))
     have B7g := Lib.hid (B6g.out.of_heap (w' := u7) (by rw [← hu]; exact Below.heap_setCell _ ⟨b4, 9, none⟩ _ _ (by show u5.heap.size ≠ b4; omega)))
     have B7b := Lib.hid (show Block u7 b4 [.int .i64 14, .string (strOf tk.t), .int .i64 0, .bool false, .int .i64 0, .string ⟨#[]⟩, .slice none 0 0, .slice none 0 0, .slice none 0 0, .slice (some ⟨u5.heap.size, 0, none⟩) 1 1] 66 from by rw [← hu]; exact B6b.out.set 9 _)
     have V7x5 := Lib.hid (show HG _ _ u7 from by rw [← hu]; exact V6x5.out.set 9 _ (fun h => absurd (hT5 _ h) (by omega)))
     clear hu
     go_wp2_with (go_at_call 118; refine Stand.out ?_)
     refine Stand.mk ?_
     refine (mustSign_go S7.out HT.out HK5.out X5.out).mono ?_
     rintro e u8 (⟨p9, r9, rfl, rfl, f9⟩ | ⟨l8, x8, rfl, m8⟩)
     ·go_wp2_with fail
      exact ⟨rfl, f9⟩
     have X8 := Lib.hid x8
     have HK8 := Lib.hid l8
     clear x8 l8
     have S8 := Lib.hid (S7.out.call m8)
     have B8r := Lib.hid (m8.blk B7r.out (by omega))
     have B8b := Lib.hid (m8.blk B7b.out (by omega))
     have B8g := Lib.hid (m8.blk B7g.out (by omega))
     have V8x5 := Lib.hid (V7x5.out.mv m8 Nx5.out)
     have zz8 := Mv.size m8
     clear m8
     obtain rfl := Option.some.inj X8.out
     obtain ⟨e0, e1, e2, e3, e4, e5, e6, e7, e8, e9⟩ := Block.ten B8b.out
     have hTh := block_there B8r.out 0 10 (Nat.le_refl 10)
     go_wp2_with (refine wpList_store_mid rfl 66 _ _ rfl w.heap.size 0 #[.int .i64 14, .string (strOf tk.t), .int .i64 0, .bool false, .int .i64 0, .string ⟨#[]⟩, .slice none 0 0, .slice none 0 0, .slice none 0 0, .slice (some ⟨u5.heap.size, 0, none⟩) 1 1] rfl rfl hTh (by kernel_rfl) (by simp [Value.oneCell']) ?_)
     have B99 := B8r.out.setCells [.int .i64 14, .string (strOf tk.t), .int .i64 0, .bool false, .int .i64 0, .string ⟨#[]⟩, .slice none 0 0, .slice none 0 0, .slice none 0 0, .slice (some ⟨u5.heap.size, 0, none⟩) 1 1] 0
     refine bodyPost_ret (results_cell_row (by rfl) _ _ w.heap.size 66 _ (0, 0) _ (by rfl) B99 Tryz.underlying66 rfl (by kernel_rfl)) rfl ?_
     exact ⟨(k5 + 1), _, by omega, HK8.out, rfl, rfl, RtX.mk ((hx_one (g := u5.heap.size) (nm := strOf tk.t) V8x5.out B8g.out (by unfold in64; omega) rfl).sets 0 _ (fun h => h.elim (fun h => absurd (hT5 _ h) (by omega)) (fun e => by omega))) (rfl) (fun b h => h.elim (fun h => by have := hT5 b h; omega) (fun e => by omega)), (S8.out.sets (Nat.le_refl _) 0 _).mv⟩
   | false =>
    have hw := of_decide_eq_false HBC.out
    have RX := X0.out
    rw [if_neg (fun h => hw h.1)] at RX
    have X0 := Lib.hid RX
    clear RX hw
    go_wp2_with (go_at_call 97; refine Stand.out ?_)
    refine Stand.mk ?_
    refine ((HR.expr f (Nat.le_refl _) 1 (by decide)).go2 S3.out HT.out HK2.out X0.out).mono ?_
    rintro e u4 (⟨p9, r9, rfl, rfl, f9⟩ | ⟨v4, k4, val4, q4, l4, x4, rfl, ⟨T4, ds4, rfl, hT4, hX4⟩, m4⟩)
    ·go_wp2_with fail
     exact ⟨rfl, f9⟩
    have X4 := Lib.hid x4
    have HK4 := Lib.hid l4
    clear x4 l4
    have S4 := Lib.hid (S3.out.call m4)
    have B4r := Lib.hid (m4.blk B3r.out (by omega))
    have B4b := Lib.hid (m4.blk B3b.out (by omega))
    have zz4 := Mv.size m4
    clear m4
    obtain ⟨op4, nm4, vk4, vb4, vi4, vs4, la4, ln4, lc4, ka4, kn4, kc4, na4, nn4, nc4, xa4, xn4, xc4, -, -, rfl⟩ := hX4.ten
    have V4x4 := Lib.hid hX4
    clear hX4
    have Nx4 := Lib.hid (show ¬ T4 bp from fun h => absurd (hT4 _ h) (by have := S3.out.size; omega))
    have BA := B4b.out.alloc (.cells #[.int .i64 op4, .string nm4, .int .i64 vk4, .bool vb4, .int .i64 vi4, .string vs4, .slice la4 ln4 lc4, .slice ka4 kn4 kc4, .slice na4 nn4 nc4, .slice xa4 xn4 xc4] 66)
    have e9 := BA.cell (i := 9) rfl
    have e10 := BA.free 9
    clear BA
    go_upto_region 14 with fail
    clear e9 e10
    obtain ⟨u5, hu⟩ : ∃ u, u4.alloc (.cells #[.int .i64 op4, .string nm4, .int .i64 vk4, .bool vb4, .int .i64 vi4, .string vs4, .slice la4 ln4 lc4, .slice ka4 kn4 kc4, .slice na4 nn4 nc4, .slice xa4 xn4 xc4] 66) = u := ⟨_, rfl⟩
    rw [hu]
    have S5 := Lib.hid (show St bp a cap L w k4 u5 from by rw [← hu]; exact S4.out.alloc _)
    have zz5 : u5.heap.size = u4.heap.size + 1 := by rw [← hu]; simp
    have B5r := Lib.hid (show Block u5 _ _ _ from by rw [← hu]; exact B4r.out.alloc _)
    have B5b := Lib.hid (show Block u5 _ _ _ from by rw [← hu]; exact B4b.out.alloc _)
    have B5g := Lib.hid (show Block u5 u4.heap.size [.int .i64 op4, .string nm4, .int .i64 vk4, .bool vb4, .int .i64 vi4, .string vs4, .slice la4 ln4 lc4, .slice ka4 kn4 kc4, .slice na4 nn4 nc4, .slice xa4 xn4 xc4] 66 from by rw [← hu]; exact Block.new u4 _ _)
    have V5x4 := Lib.hid (show HG _ _ u5 from by rw [← hu]; exact V4x4.out.alloc _)
    clear hu
    obtain ⟨u6, hu⟩ : ∃ u, u5.setCell ⟨b4, 9, none⟩ (.slice (some ⟨u4.heap.size, 0, none⟩) 1 1) = u := ⟨_, rfl⟩
    rw [hu]
    have S6 := Lib.hid (show St bp a cap L w k4 u6 from by rw [← hu]; exact S5.out.set (by omega) 9 _)
    have zz6 : u6.heap.size = u5.heap.size := by rw [← hu]; exact World.size_setCell _ _ _
    have B6r := Lib.hid (B5r.out.of_heap (w' := u6) (by rw [← hu]; exact Below.heap_setCell _ ⟨b4, 9, none⟩ _ _ (by show w.heap.size ≠ b4; omega)))
    have B6g := Lib.hid (B5g.out.of_heap (w' := u6) (by rw [← hu]; exact Below.heap_setCell _ ⟨b4, 9, none⟩ _ _ (by show u4.heap.size ≠ b4; omega)))
    have B6b := Lib.hid (show Block u6 b4 [.int .i64 14, .string (strOf tk.t), .int .i64 0, .bool false, .int .i64 0, .string ⟨#[]⟩, .slice none 0 0, .slice none 0 0, .slice none 0 0, .slice (some ⟨u4.heap.size, 0, none⟩) 1 1] 66 from by rw [← hu]; exact B5b.out.set 9 _)
    have V6x4 := Lib.hid (show HG _ _ u6 from by rw [← hu]; exact V5x4.out.set 9 _ (fun h => absurd (hT4 _ h) (by omega)))
    clear hu
    go_wp2_with (go_at_call 118; refine Stand.out ?_)
    refine Stand.mk ?_
    refine (mustSign_go S6.out HT.out HK4.out X4.out).mono ?_
    rintro e u7 (⟨p9, r9, rfl, rfl, f9⟩ | ⟨l7, x7, rfl, m7⟩)
    ·go_wp2_with fail
     exact ⟨rfl, f9⟩
    have X7 := Lib.hid x7
    have HK7 := Lib.hid l7
    clear x7 l7
    have S7 := Lib.hid (S6.out.call m7)
    have B7r := Lib.hid (m7.blk B6r.out (by omega))
    have B7b := Lib.hid (m7.blk B6b.out (by omega))
    have B7g := Lib.hid (m7.blk B6g.out (by omega))
    have V7x4 := Lib.hid (V6x4.out.mv m7 Nx4.out)
    have zz7 := Mv.size m7
    clear m7
    obtain rfl := Option.some.inj X7.out
    obtain ⟨e0, e1, e2, e3, e4, e5, e6, e7, e8, e9⟩ := Block.ten B7b.out
    have hTh := block_there B7r.out 0 10 (Nat.le_refl 10)
    go_wp2_with (refine wpList_store_mid rfl 66 _ _ rfl w.heap.size 0 #[.int .i64 14, .string (strOf tk.t), .int .i64 0, .bool false, .int .i64 0, .string ⟨#[]⟩, .slice none 0 0, .slice none 0 0, .slice none 0 0, .slice (some ⟨u4.heap.size, 0, none⟩) 1 1] rfl rfl hTh (by kernel_rfl) (by simp [Value.oneCell']) ?_)
    have B99 := B7r.out.setCells [.int .i64 14, .string (strOf tk.t), .int .i64 0, .bool false, .int .i64 0, .string ⟨#[]⟩, .slice none 0 0, .slice none 0 0, .slice none 0 0, .slice (some ⟨u4.heap.size, 0, none⟩) 1 1] 0
    refine bodyPost_ret (results_cell_row (by rfl) _ _ w.heap.size 66 _ (0, 0) _ (by rfl) B99 Tryz.underlying66 rfl (by kernel_rfl)) rfl ?_
    exact ⟨(k4 + 1), _, by omega, HK7.out, rfl, rfl, RtX.mk ((hx_one (g := u4.heap.size) (nm := strOf tk.t) V7x4.out B7g.out (by unfold in64; omega) rfl).sets 0 _ (fun h => h.elim (fun h => absurd (hT4 _ h) (by omega)) (fun e => by omega))) (rfl) (fun b h => h.elim (fun h => by have := hT4 b h; omega) (fun e => by omega)), (S7.out.sets (Nat.le_refl _) 0 _).mv⟩
end Go.Proofs.YteljlahcdipilaaGreat

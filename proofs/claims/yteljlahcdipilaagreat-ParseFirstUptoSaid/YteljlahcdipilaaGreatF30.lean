/- Parts Q19 of this seat (pruned, scripts that are alike kept once as default arguments: q1, q2, ..). Conditions: each says its own. -/
import Derived.Test.YteljlahcdipilaaGreatF29
namespace Go.Proofs.YteljlahcdipilaaGreat
open Go.RowKit Go.Shelf
set_option linter.unusedSimpArgs false
set_option linter.unusedVariables false
set_option maxRecDepth 100000
theorem St.step {bp : Nat} {a : Option Addr} {cap : Nat} {L : List (Tok × Nat)} {w u : World} {k : Nat} (s : St bp a cap L w k u) : Mv bp (k + 1) u (u.setCell ⟨bp, 1, none⟩ (.int .i64 ((k : Int) + 1))) := by
 unfold Mv
 rw [show ((k + 1 : Nat) : Int) = (k : Int) + 1 from by omega]
 exact Below.refl _ _
theorem hx_map {S : Nat → Prop} {w : World} {ka xa : Option Addr} {kc xc : Nat} {ks : List ByteArray} {az : List Ex} (hk : RowK S w ka ks) (hs1 : SlOk ka ks.length kc) (hr : RowX S w xa az) (hs : SlOk xa az.length xc) :
    HX S w [.int .i64 6, .string ⟨#[]⟩, .int .i64 0, .bool false, .int .i64 0, .string ⟨#[]⟩, .slice none 0 0, .slice none 0 0, .slice ka ks.length kc, .slice xa az.length xc] (.mk 6 ⟨#[]⟩ emptyV ks az) :=
  ⟨hr.1, fun w' h => by
    unfold IsX
    exact ⟨zeroC, ka, kc, xa, xc, rfl, by unfold in64; omega, empty_isV _ _, hs1, hs, hk.2 w' h, isXs_iff.2 (hr.2 w' h)⟩⟩
theorem named_any {f : Nat} (HR : Rec f) (bp : Nat) (a : Option Addr) (cap : Nat) (L : List (Tok × Nat)) (k : Nat) (w : World) (x : Pr) (h : Ps bp a cap L k w) (hT : Tk L) (hk : k < L.length) (hk1 : (nx (rem L k)).k = 1) (hr : run (f + 1) .atom (rem L k) = some x) :
    Calls Tryz.prog 130 #[.pointer (some ⟨bp, 0, none⟩)] w (PR RtX bp L k w x) := by
 cases hp : isT 5 [40] (rem L (k + 1)) with
 | false => exact named_var HR bp a cap L k w x h hT hk hk1 hp hr
 | true =>
  cases hag : aggB (strOf (nx (rem L k)).t) with
  | true => exact named_agg HR bp a cap L k w x h hT hk hk1 hp hag hr
  | false =>
   have h5 := hag
   unfold aggB at h5
   simp only [Bool.or_eq_false_iff] at h5
   obtain ⟨⟨⟨⟨h0, h1⟩, h2⟩, h3⟩, h4⟩ := h5
   exact named_call HR bp a cap L k w x h hT hk hk1 hp h0 h1 h2 h3 h4 hr
set_option maxHeartbeats 8000000 in
theorem atom_any {f : Nat} (HR : Rec f) (bp : Nat) (a : Option Addr) (cap : Nat) (L : List (Tok × Nat)) (k : Nat) (w : World) (x : Pr) (h : Ps bp a cap L k w) (hT : Tk L) (hk : k < L.length)  (hr : run (f + 1) (.atom) (rem L k) = some x) :
    Calls Tryz.prog 129 #[.pointer (some ⟨bp, 0, none⟩)] w (PR RtX bp L k w x) := by
 obtain ⟨HT, HR0, HK0⟩ := hd3 hT hr hk
 have hbw := h.lt
 obtain ⟨u0, hy0⟩ : ∃ u, w.alloc (.cells #[.int .i64 0, .string ⟨#[]⟩, .int .i64 0, .bool false, .int .i64 0, .string ⟨#[]⟩, .slice none 0 0, .slice none 0 0, .slice none 0 0, .slice none 0 0] 66) = u := ⟨_, rfl⟩
 have s0 : St bp a cap L w k u0 := by rw [← hy0]; exact (St.start h).alloc _
 have b0 : Block u0 w.heap.size zX 66 := by rw [← hy0]; exact Block.new w _ _
 have B0r := Lib.hid b0
 clear b0
 have S0 := Lib.hid s0
 have HU := Lib.hid hy0
 clear s0 hy0 h hT hk hr
 have hin : in64 (nx (rem L k)).n := by obtain ⟨y, hy⟩ := get_lt HK0.out; rw [nx_rem hy]; exact (HT.out k y hy).1
 obtain ⟨tk, htk⟩ := nam (nx (rem L k))
 rw [htk] at hin
 have HTK := Lib.hid htk
 have HIN := Lib.hid hin
 clear htk hin
 have wrap1 : IntKind.i64.wrap ((k : Int) + 1) = (k : Int) + 1 := IntWalk.i64_in _ (by have := S0.out.ln; have := HK0.out; omega)
 go_enter Tryz.func129, Tryz.ntmps129
 go_upto_region 1 with fail
 rw [HU.out]
 have CN := next_st S0.out HK0.out
 rw [HTK.out] at CN
 have CN := Lib.hid CN
 go_wp2_with (go_at_call 47; refine Stand.out ?_)
 refine Stand.mk ?_
 refine CN.out.mono ?_
 rintro e u1 ⟨tp, rfl, m1⟩
 clear CN
 have S1 := Lib.hid (S0.out.call m1)
 have B1r := Lib.hid (m1.blk B0r.out (by omega))
 have zz1 := Mv.size m1
 clear m1
 have hTh := block_there (Block.new u1 [.int .i64 0, .string ⟨#[]⟩, .int .i64 0, .int .i64 0] 31) 0 4 (Nat.le_refl 4)
 go_upto_region 2 with (refine wpList_store_mid rfl 31 _ _ rfl u1.heap.size 0 #[.int .i64 tk.k, .string (strOf tk.t), .int .i64 tk.n, .int .i64 tp] rfl rfl hTh (by kernel_rfl) (by simp [Value.oneCell']) ?_)
 obtain ⟨b3, hb3⟩ := nam u1.heap.size
 rw [hb3]
 obtain ⟨u2, hu2⟩ : ∃ u, (u1.alloc (.cells #[.int .i64 0, .string ⟨#[]⟩, .int .i64 0, .int .i64 0] 31)).setCells b3 0 ((#[.int .i64 tk.k, .string (strOf tk.t), .int .i64 tk.n, .int .i64 tp] : Array Value).toList) = u := ⟨_, rfl⟩
 rw [hu2]
 have zb3 : b3 < u2.heap.size ∧ w.heap.size < b3 := by have := B1r.out.lt; rw [← hu2, setCells_sz, ← hb3]; simp; omega
 have S2 := Lib.hid (show St bp a cap L w k u2 from by rw [← hu2]; exact (S1.out.alloc _).sets (by omega) 0 _)
 have B2r := Lib.hid (show Block u2 _ _ _ from by rw [← hu2]; exact (B1r.out.alloc _).of_heap (cells_other (by omega) _ 0 _))
 have B2t := Lib.hid (show Block u2 b3 [.int .i64 tk.k, .string (strOf tk.t), .int .i64 tk.n, .int .i64 tp] 31 from by rw [← hu2, ← hb3]; exact (Block.new u1 [.int .i64 0, .string ⟨#[]⟩, .int .i64 0, .int .i64 0] 31).setCells [.int .i64 tk.k, .string (strOf tk.t), .int .i64 tk.n, .int .i64 tp] 0)
 clear hu2 hb3 hTh
 have zb := B2r.out.lt
 have t0 := B2t.out.cell (i := 0) rfl
 have t1 := B2t.out.cell (i := 1) rfl
 have t2 := B2t.out.cell (i := 2) rfl
 by_cases k3 : tk.k = 3
 ·have k3b : ((tk.k : Int) == 3) = true := by simp; omega
  have RX : Go.Proofs.YteljlahcdipilaaGreat.step (run f) .atom (rem L k) = some x := HR0.out
  simp only [Go.Proofs.YteljlahcdipilaaGreat.step, sigB, wrd, HTK.out, k3, tail_rem, if_true, if_false, Bool.false_eq_true, Bool.or_true, Bool.true_or, Bool.or_false, Bool.or_self] at RX
  have X0 := Lib.hid RX
  clear RX
  have hn6 : tk.k ≠ 6 := by omega
  have p1 := S2.out.ps.c1
  have p2 := S2.out.ps.fz
  go_upto_region 5 with fail
  clear p1 p2 t0 t1 t2
  obtain ⟨u3, hu⟩ : ∃ u, u2.setCell ⟨bp, 1, none⟩ (.int .i64 ((k : Int) + 1)) = u := ⟨_, rfl⟩
  rw [hu]
  have m3 : Mv bp (k + 1) u2 u3 := by rw [← hu]; exact S2.out.step
  clear hu
  have S3 := Lib.hid (S2.out.call m3)
  have B3r := Lib.hid (m3.blk B2r.out (by omega))
  have B3t := Lib.hid (m3.blk B2t.out (by omega))
  have zz3 := Mv.size m3
  clear m3
  have HK3 : Hid (k + 1 < L.length) := Lib.hid (HT.out.step HK0.out (by rw [HTK.out]; exact hn6))
  have t0 := B3t.out.cell (i := 0) rfl
  have t1 := B3t.out.cell (i := 1) rfl
  have t2 := B3t.out.cell (i := 2) rfl
  obtain rfl := Option.some.inj X0.out
  have hTh := block_there B3r.out 0 10 (Nat.le_refl 10)
  go_wp2_with (refine wpList_store_mid rfl 66 _ _ rfl w.heap.size 0 #[.int .i64 1, .string ⟨#[]⟩, .int .i64 2, .bool false, .int .i64 tk.n, .string ⟨#[]⟩, .slice none 0 0, .slice none 0 0, .slice none 0 0, .slice none 0 0] rfl rfl hTh (by kernel_rfl) (by simp [Value.oneCell']) ?_)
  have B99 := B3r.out.setCells [.int .i64 1, .string ⟨#[]⟩, .int .i64 2, .bool false, .int .i64 tk.n, .string ⟨#[]⟩, .slice none 0 0, .slice none 0 0, .slice none 0 0, .slice none 0 0] 0
  refine bodyPost_ret (results_cell_row (by rfl) _ _ w.heap.size 66 _ (0, 0) _ (by rfl) B99 Tryz.underlying66 rfl (by kernel_rfl)) rfl ?_
  exact ⟨(k + 1), _, by omega, HK3.out, rfl, rfl, RtX.mk ((hx_val _ (by unfold in64; omega) HIN.out).sets 0 _ (fun h => h)) (rfl) (fun _ h => h.elim), (S3.out.sets (Nat.le_refl _) 0 _).mv⟩
 ·have k3b : ((tk.k : Int) == 3) = false := by simp; omega
  by_cases k4 : tk.k = 4
  ·have k4b : ((tk.k : Int) == 4) = true := by simp; omega
   have RX : Go.Proofs.YteljlahcdipilaaGreat.step (run f) .atom (rem L k) = some x := HR0.out
   simp only [Go.Proofs.YteljlahcdipilaaGreat.step, sigB, wrd, HTK.out, k3, k4, (by decide : ¬ (4 : Nat) = 3), tail_rem, if_true, if_false, Bool.false_eq_true, Bool.or_true, Bool.true_or, Bool.or_false, Bool.or_self] at RX
   have X0 := Lib.hid RX
   clear RX
   have hn6 : tk.k ≠ 6 := by omega
   have p1 := S2.out.ps.c1
   have p2 := S2.out.ps.fz
   go_upto_region 8 with fail
   clear p1 p2 t0 t1 t2
   obtain ⟨u3, hu⟩ : ∃ u, u2.setCell ⟨bp, 1, none⟩ (.int .i64 ((k : Int) + 1)) = u := ⟨_, rfl⟩
   rw [hu]
   have m3 : Mv bp (k + 1) u2 u3 := by rw [← hu]; exact S2.out.step
   clear hu
   have S3 := Lib.hid (S2.out.call m3)
   have B3r := Lib.hid (m3.blk B2r.out (by omega))
   have B3t := Lib.hid (m3.blk B2t.out (by omega))
   have zz3 := Mv.size m3
   clear m3
   have HK3 : Hid (k + 1 < L.length) := Lib.hid (HT.out.step HK0.out (by rw [HTK.out]; exact hn6))
   have t0 := B3t.out.cell (i := 0) rfl
   have t1 := B3t.out.cell (i := 1) rfl
   have t2 := B3t.out.cell (i := 2) rfl
   obtain rfl := Option.some.inj X0.out
   have hTh := block_there B3r.out 0 10 (Nat.le_refl 10)
   go_wp2_with (refine wpList_store_mid rfl 66 _ _ rfl w.heap.size 0 #[.int .i64 1, .string ⟨#[]⟩, .int .i64 3, .bool false, .int .i64 0, .string (strOf tk.t), .slice none 0 0, .slice none 0 0, .slice none 0 0, .slice none 0 0] rfl rfl hTh (by kernel_rfl) (by simp [Value.oneCell']) ?_)
   have B99 := B3r.out.setCells [.int .i64 1, .string ⟨#[]⟩, .int .i64 3, .bool false, .int .i64 0, .string (strOf tk.t), .slice none 0 0, .slice none 0 0, .slice none 0 0, .slice none 0 0] 0
   refine bodyPost_ret (results_cell_row (by rfl) _ _ w.heap.size 66 _ (0, 0) _ (by rfl) B99 Tryz.underlying66 rfl (by kernel_rfl)) rfl ?_
   exact ⟨(k + 1), _, by omega, HK3.out, rfl, rfl, RtX.mk ((hx_val _ (by unfold in64; omega) (by unfold in64; omega)).sets 0 _ (fun h => h)) (rfl) (fun _ h => h.elim), (S3.out.sets (Nat.le_refl _) 0 _).mv⟩
  ·have k4b : ((tk.k : Int) == 4) = false := by simp; omega
   by_cases k1 : tk.k = 1
   ·have k1b : ((tk.k : Int) == 1) = true := by simp; omega
    go_wp2_with (go_at_call 130; refine Stand.out ?_)
    refine Stand.mk ?_
    refine (named_any HR bp a cap L k u2 x S2.out.ps HT.out HK0.out (by rw [HTK.out]; exact k1) HR0.out).mono ?_
    intro e u3 h3
    cases x with
    | bad r =>
     obtain ⟨k9, y9, j9, f1, f2, rfl, f3⟩ := h3
     go_wp2_with fail
     exact ⟨rfl, k9, y9, j9, f1, by first | exact f2 | rfl, rfl, Mv.trans S2.out.mv f3⟩
    | ok v3 r3 =>
     obtain ⟨k3', val, hk3, hl3, rfl, rfl, ⟨T3, ds3, rfl, hT3, hX3⟩, m3⟩ := h3
     have HK3 := Lib.hid hl3
     clear t0 t1 t2
     have S3 := Lib.hid (S2.out.call m3)
     have B3r := Lib.hid (m3.blk B2r.out (by omega))
     have B3t := Lib.hid (m3.blk B2t.out (by omega))
     have zz3 := Mv.size m3
     clear m3
     obtain ⟨op3, nm3, vk3, vb3, vi3, vs3, la3, ln3, lc3, ka3, kn3, kc3, na3, nn3, nc3, xa3, xn3, xc3, -, -, rfl⟩ := hX3.ten
     have hTh := block_there B3r.out 0 10 (Nat.le_refl 10)
     go_wp2_with (refine wpList_store_mid rfl 66 _ _ rfl w.heap.size 0 #[.int .i64 op3, .string nm3, .int .i64 vk3, .bool vb3, .int .i64 vi3, .string vs3, .slice la3 ln3 lc3, .slice ka3 kn3 kc3, .slice na3 nn3 nc3, .slice xa3 xn3 xc3] rfl rfl hTh (by kernel_rfl) (by simp [Value.oneCell']) ?_)
     have B99 := B3r.out.setCells [.int .i64 op3, .string nm3, .int .i64 vk3, .bool vb3, .int .i64 vi3, .string vs3, .slice la3 ln3 lc3, .slice ka3 kn3 kc3, .slice na3 nn3 nc3, .slice xa3 xn3 xc3] 0
     refine bodyPost_ret (results_cell_row (by rfl) _ _ w.heap.size 66 _ (0, 0) _ (by rfl) B99 Tryz.underlying66 rfl (by kernel_rfl)) rfl ?_
     exact ⟨k3', _, by omega, HK3.out, rfl, rfl, RtX.mk (hX3.sets 0 _ (fun h => absurd (hT3 _ h) (by omega))) rfl (fun b h => by have := hT3 b h; omega), (S3.out.sets (Nat.le_refl _) 0 _).mv⟩
   ·have k1b : ((tk.k : Int) == 1) = false := by simp; omega
    have HKK := Lib.hid (show _ ∧ _ ∧ _ from ⟨k3, k4, k1⟩)
    cases hN : isT 2 wNULL (rem L k) with
    | true =>
     have RX : Go.Proofs.YteljlahcdipilaaGreat.step (run f) .atom (rem L k) = some x := HR0.out
     simp only [Go.Proofs.YteljlahcdipilaaGreat.step, sigB, wrd, HTK.out, k3, k4, k1, hN, tail_rem, if_true, if_false, Bool.false_eq_true, Bool.or_true, Bool.true_or, Bool.or_false, Bool.or_self] at RX
     have X0 := Lib.hid RX
     clear RX
     go_wp2_with (go_at_call 103; refine Stand.out ?_)
     refine Stand.mk ?_
     refine (skip_t S2.out HK0.out hN).mono ?_
     rintro e u3 ⟨rfl, m3⟩
     have S3 := Lib.hid (S2.out.call m3)
     have B3r := Lib.hid (m3.blk B2r.out (by omega))
     have B3t := Lib.hid (m3.blk B2t.out (by omega))
     have zz3 := Mv.size m3
     clear m3
     have HK3 := Lib.hid (HT.out.next HK0.out hN (by decide))
     obtain rfl := Option.some.inj X0.out
     have hTh := block_there B3r.out 0 10 (Nat.le_refl 10)
     go_wp2_with (refine wpList_store_mid rfl 66 _ _ rfl w.heap.size 0 #[.int .i64 1, .string ⟨#[]⟩, .int .i64 0, .bool false, .int .i64 0, .string ⟨#[]⟩, .slice none 0 0, .slice none 0 0, .slice none 0 0, .slice none 0 0] rfl rfl hTh (by kernel_rfl) (by simp [Value.oneCell']) ?_)
     have B99 := B3r.out.setCells [.int .i64 1, .string ⟨#[]⟩, .int .i64 0, .bool false, .int .i64 0, .string ⟨#[]⟩, .slice none 0 0, .slice none 0 0, .slice none 0 0, .slice none 0 0] 0
     refine bodyPost_ret (results_cell_row (by rfl) _ _ w.heap.size 66 _ (0, 0) _ (by rfl) B99 Tryz.underlying66 rfl (by kernel_rfl)) rfl ?_
     exact ⟨(k + 1), _, by omega, HK3.out, rfl, rfl, RtX.mk ((hx_val _ (by unfold in64; omega) (by unfold in64; omega)).sets 0 _ (fun h => h)) (rfl) (fun _ h => h.elim), (S3.out.sets (Nat.le_refl _) 0 _).mv⟩
    | false =>
     go_wp2_with (go_at_call 103; refine Stand.out ?_)
     refine Stand.mk ?_
     refine (skip_f S2.out HK0.out hN).mono ?_
     rintro e u3 ⟨rfl, m3⟩
     have S3 := Lib.hid (S2.out.call m3)
     have B3r := Lib.hid (m3.blk B2r.out (by omega))
     have B3t := Lib.hid (m3.blk B2t.out (by omega))
     have zz3 := Mv.size m3
     clear m3
     cases hT1 : isT 2 wTRUE (rem L k) with
     | true =>
      have RX : Go.Proofs.YteljlahcdipilaaGreat.step (run f) .atom (rem L k) = some x := HR0.out
      simp only [Go.Proofs.YteljlahcdipilaaGreat.step, sigB, wrd, HTK.out, k3, k4, k1, hN, hT1, tail_rem, if_true, if_false, Bool.false_eq_true, Bool.or_true, Bool.true_or, Bool.or_false, Bool.or_self] at RX
      have X0 := Lib.hid RX
      clear RX
      go_wp2_with (go_at_call 112; refine Stand.out ?_)
      refine Stand.mk ?_
      refine (word_st S3.out HK0.out hT1).mono ?_
      rintro e u4 ⟨rfl, m4⟩
      have S4 := Lib.hid (S3.out.call m4)
      have B4r := Lib.hid (m4.blk B3r.out (by omega))
      have B4t := Lib.hid (m4.blk B3t.out (by omega))
      have zz4 := Mv.size m4
      clear m4
      have hk2 : tk.k = 2 := by have := (isT_kind hT1).1; rwa [HTK.out] at this
      have hn6 : tk.k ≠ 6 := by omega
      clear t0 t1 t2
      have t0 := B4t.out.cell (i := 0) rfl
      have t1 := B4t.out.cell (i := 1) rfl
      have t2 := B4t.out.cell (i := 2) rfl
      have p1 := S4.out.ps.c1
      have p2 := S4.out.ps.fz
      go_upto_region 15 with fail
      clear p1 p2 t0 t1 t2
      obtain ⟨u5, hu⟩ : ∃ u, u4.setCell ⟨bp, 1, none⟩ (.int .i64 ((k : Int) + 1)) = u := ⟨_, rfl⟩
      rw [hu]
      have m5 : Mv bp (k + 1) u4 u5 := by rw [← hu]; exact S4.out.step
      clear hu
      have S5 := Lib.hid (S4.out.call m5)
      have B5r := Lib.hid (m5.blk B4r.out (by omega))
      have B5t := Lib.hid (m5.blk B4t.out (by omega))
      have zz5 := Mv.size m5
      clear m5
      have HK5 : Hid (k + 1 < L.length) := Lib.hid (HT.out.step HK0.out (by rw [HTK.out]; exact hn6))
      have t0 := B5t.out.cell (i := 0) rfl
      have t1 := B5t.out.cell (i := 1) rfl
      have t2 := B5t.out.cell (i := 2) rfl
      obtain ⟨bb, hbb⟩ := nam (decide (tk.t = wTRUE))
      have hcc : ((strOf tk.t).toList == [84, 82, 85, 69]) = bb := by rw [isT_toList, hbb]
      have RX := X0.out
      rw [hbb] at RX
      have X0 := Lib.hid RX
      clear RX hbb
      obtain rfl := Option.some.inj X0.out
      have hTh := block_there B5r.out 0 10 (Nat.le_refl 10)
      go_wp2_with (refine wpList_store_mid rfl 66 _ _ rfl w.heap.size 0 #[.int .i64 1, .string ⟨#[]⟩, .int .i64 1, .bool bb, .int .i64 0, .string ⟨#[]⟩, .slice none 0 0, .slice none 0 0, .slice none 0 0, .slice none 0 0] rfl rfl hTh (by kernel_rfl) (by simp [Value.oneCell']) ?_)
      have B99 := B5r.out.setCells [.int .i64 1, .string ⟨#[]⟩, .int .i64 1, .bool bb, .int .i64 0, .string ⟨#[]⟩, .slice none 0 0, .slice none 0 0, .slice none 0 0, .slice none 0 0] 0
      refine bodyPost_ret (results_cell_row (by rfl) _ _ w.heap.size 66 _ (0, 0) _ (by rfl) B99 Tryz.underlying66 rfl (by kernel_rfl)) rfl ?_
      exact ⟨(k + 1), _, by omega, HK5.out, rfl, rfl, RtX.mk ((hx_val _ (by unfold in64; omega) (by unfold in64; omega)).sets 0 _ (fun h => h)) (rfl) (fun _ h => h.elim), (S5.out.sets (Nat.le_refl _) 0 _).mv⟩
     | false =>
      cases hF1 : isT 2 wFALSE (rem L k) with
      | true =>
       have RX : Go.Proofs.YteljlahcdipilaaGreat.step (run f) .atom (rem L k) = some x := HR0.out
       simp only [Go.Proofs.YteljlahcdipilaaGreat.step, sigB, wrd, HTK.out, k3, k4, k1, hN, hT1, hF1, tail_rem, if_true, if_false, Bool.false_eq_true, Bool.or_true, Bool.true_or, Bool.or_false, Bool.or_self] at RX
       have X0 := Lib.hid RX
       clear RX
       go_wp2_with (go_at_call 112; refine Stand.out ?_)
       refine Stand.mk ?_
       refine (word_st S3.out HK0.out hT1).mono ?_
       rintro e u4 ⟨rfl, m4⟩
       have S4 := Lib.hid (S3.out.call m4)
       have B4r := Lib.hid (m4.blk B3r.out (by omega))
       have B4t := Lib.hid (m4.blk B3t.out (by omega))
       have zz4 := Mv.size m4
       clear m4
       go_wp2_with (go_at_call 112; refine Stand.out ?_)
       refine Stand.mk ?_
       refine (word_st S4.out HK0.out hF1).mono ?_
       rintro e u5 ⟨rfl, m5⟩
       have S5 := Lib.hid (S4.out.call m5)
       have B5r := Lib.hid (m5.blk B4r.out (by omega))
       have B5t := Lib.hid (m5.blk B4t.out (by omega))
       have zz5 := Mv.size m5
       clear m5
       have hk2 : tk.k = 2 := by have := (isT_kind hF1).1; rwa [HTK.out] at this
       have hn6 : tk.k ≠ 6 := by omega
       clear t0 t1 t2
       have t0 := B5t.out.cell (i := 0) rfl
       have t1 := B5t.out.cell (i := 1) rfl
       have t2 := B5t.out.cell (i := 2) rfl
       have p1 := S5.out.ps.c1
       have p2 := S5.out.ps.fz
       go_upto_region 15 with fail
       clear p1 p2 t0 t1 t2
       obtain ⟨u6, hu⟩ : ∃ u, u5.setCell ⟨bp, 1, none⟩ (.int .i64 ((k : Int) + 1)) = u := ⟨_, rfl⟩
       rw [hu]
       have m6 : Mv bp (k + 1) u5 u6 := by rw [← hu]; exact S5.out.step
       clear hu
       have S6 := Lib.hid (S5.out.call m6)
       have B6r := Lib.hid (m6.blk B5r.out (by omega))
       have B6t := Lib.hid (m6.blk B5t.out (by omega))
       have zz6 := Mv.size m6
       clear m6
       have HK6 : Hid (k + 1 < L.length) := Lib.hid (HT.out.step HK0.out (by rw [HTK.out]; exact hn6))
       have t0 := B6t.out.cell (i := 0) rfl
       have t1 := B6t.out.cell (i := 1) rfl
       have t2 := B6t.out.cell (i := 2) rfl
       obtain ⟨bb, hbb⟩ := nam (decide (tk.t = wTRUE))
       have hcc : ((strOf tk.t).toList == [84, 82, 85, 69]) = bb := by rw [isT_toList, hbb]
       have RX := X0.out
       rw [hbb] at RX
       have X0 := Lib.hid RX
       clear RX hbb
       obtain rfl := Option.some.inj X0.out
       have hTh := block_there B6r.out 0 10 (Nat.le_refl 10)
       go_wp2_with (refine wpList_store_mid rfl 66 _ _ rfl w.heap.size 0 #[.int .i64 1, .string ⟨#[]⟩, .int .i64 1, .bool bb, .int .i64 0, .string ⟨#[]⟩, .slice none 0 0, .slice none 0 0, .slice none 0 0, .slice none 0 0] rfl rfl hTh (by kernel_rfl) (by simp [Value.oneCell']) ?_)
       have B99 := B6r.out.setCells [.int .i64 1, .string ⟨#[]⟩, .int .i64 1, .bool bb, .int .i64 0, .string ⟨#[]⟩, .slice none 0 0, .slice none 0 0, .slice none 0 0, .slice none 0 0] 0
       refine bodyPost_ret (results_cell_row (by rfl) _ _ w.heap.size 66 _ (0, 0) _ (by rfl) B99 Tryz.underlying66 rfl (by kernel_rfl)) rfl ?_
       exact ⟨(k + 1), _, by omega, HK6.out, rfl, rfl, RtX.mk ((hx_val _ (by unfold in64; omega) (by unfold in64; omega)).sets 0 _ (fun h => h)) (rfl) (fun _ h => h.elim), (S6.out.sets (Nat.le_refl _) 0 _).mv⟩
      | false =>
       go_wp2_with (go_at_call 112; refine Stand.out ?_)
       refine Stand.mk ?_
       refine (word_st S3.out HK0.out hT1).mono ?_
       rintro e u4 ⟨rfl, m4⟩
       have S4 := Lib.hid (S3.out.call m4)
       have B4r := Lib.hid (m4.blk B3r.out (by omega))
       have B4t := Lib.hid (m4.blk B3t.out (by omega))
       have zz4 := Mv.size m4
       clear m4
       go_wp2_with (go_at_call 112; refine Stand.out ?_)
       refine Stand.mk ?_
       refine (word_st S4.out HK0.out hF1).mono ?_
       rintro e u5 ⟨rfl, m5⟩
       have S5 := Lib.hid (S4.out.call m5)
       have B5r := Lib.hid (m5.blk B4r.out (by omega))
       have B5t := Lib.hid (m5.blk B4t.out (by omega))
       have zz5 := Mv.size m5
       clear m5
       cases h36 : isT 5 [36] (rem L k) with
       | true =>
        have RX : Go.Proofs.YteljlahcdipilaaGreat.step (run f) .atom (rem L k) = some x := HR0.out
        simp only [Go.Proofs.YteljlahcdipilaaGreat.step, sigB, wrd, HTK.out, k3, k4, k1, hN, hT1, hF1, h36, tail_rem, if_true, if_false, Bool.false_eq_true, Bool.or_true, Bool.true_or, Bool.or_false, Bool.or_self] at RX
        have X0 := Lib.hid RX
        clear RX
        go_wp2_with (go_at_call 103; refine Stand.out ?_)
        refine Stand.mk ?_
        refine (skip_t S5.out HK0.out h36).mono ?_
        rintro e u6 ⟨rfl, m6⟩
        have S6 := Lib.hid (S5.out.call m6)
        have B6r := Lib.hid (m6.blk B5r.out (by omega))
        have B6t := Lib.hid (m6.blk B5t.out (by omega))
        have zz6 := Mv.size m6
        clear m6
        have HK6 := Lib.hid (HT.out.next HK0.out h36 (by decide))
        go_wp2_with (go_at_call 99; refine Stand.out ?_)
        refine Stand.mk ?_
        refine (name_go S6.out HT.out HK6.out X0.out).mono ?_
        rintro e u7 (⟨p9, r9, rfl, rfl, f9⟩ | ⟨n7, l7, x7, rfl, m7⟩)
        ·go_wp2_with fail
         exact ⟨rfl, f9⟩
        have X7 := Lib.hid x7
        have HK7 := Lib.hid l7
        clear x7 l7
        have S7 := Lib.hid (S6.out.call m7)
        have B7r := Lib.hid (m7.blk B6r.out (by omega))
        have B7t := Lib.hid (m7.blk B6t.out (by omega))
        have zz7 := Mv.size m7
        clear m7
        obtain rfl := Option.some.inj X7.out
        have hTh := block_there B7r.out 0 10 (Nat.le_refl 10)
        go_wp2_with (refine wpList_store_mid rfl 66 _ _ rfl w.heap.size 0 #[.int .i64 3, .string n7, .int .i64 0, .bool false, .int .i64 0, .string ⟨#[]⟩, .slice none 0 0, .slice none 0 0, .slice none 0 0, .slice none 0 0] rfl rfl hTh (by kernel_rfl) (by simp [Value.oneCell']) ?_)
        have B99 := B7r.out.setCells [.int .i64 3, .string n7, .int .i64 0, .bool false, .int .i64 0, .string ⟨#[]⟩, .slice none 0 0, .slice none 0 0, .slice none 0 0, .slice none 0 0] 0
        refine bodyPost_ret (results_cell_row (by rfl) _ _ w.heap.size 66 _ (0, 0) _ (by rfl) B99 Tryz.underlying66 rfl (by kernel_rfl)) rfl ?_
        exact ⟨((k + 1) + 1), _, by omega, HK7.out, rfl, rfl, RtX.mk ((hx_leaf _ (by unfold in64; omega)).sets 0 _ (fun h => h)) (rfl) (fun _ h => h.elim), (S7.out.sets (Nat.le_refl _) 0 _).mv⟩
       | false =>
        go_wp2_with (go_at_call 103; refine Stand.out ?_)
        refine Stand.mk ?_
        refine (skip_f S5.out HK0.out h36).mono ?_
        rintro e u6 ⟨rfl, m6⟩
        have S6 := Lib.hid (S5.out.call m6)
        have B6r := Lib.hid (m6.blk B5r.out (by omega))
        have B6t := Lib.hid (m6.blk B5t.out (by omega))
        have zz6 := Mv.size m6
        clear m6
        cases h40 : isT 5 [40] (rem L k) with
        | true =>
         have RX : Go.Proofs.YteljlahcdipilaaGreat.step (run f) .atom (rem L k) = some x := HR0.out
         simp only [Go.Proofs.YteljlahcdipilaaGreat.step, sigB, wrd, HTK.out, k3, k4, k1, hN, hT1, hF1, h36, h40, tail_rem, if_true, if_false, Bool.false_eq_true, Bool.or_true, Bool.true_or, Bool.or_false, Bool.or_self] at RX
         have X0 := Lib.hid RX
         clear RX
         go_wp2_with (go_at_call 103; refine Stand.out ?_)
         refine Stand.mk ?_
         refine (skip_t S6.out HK0.out h40).mono ?_
         rintro e u7 ⟨rfl, m7⟩
         have S7 := Lib.hid (S6.out.call m7)
         have B7r := Lib.hid (m7.blk B6r.out (by omega))
         have B7t := Lib.hid (m7.blk B6t.out (by omega))
         have zz7 := Mv.size m7
         clear m7
         have HK7 := Lib.hid (HT.out.next HK0.out h40 (by decide))
         go_wp2_with (go_at_call 97; refine Stand.out ?_)
         refine Stand.mk ?_
         refine ((HR.expr f (Nat.le_refl _) 1 (by decide)).go2 S7.out HT.out HK7.out X0.out).mono ?_
         rintro e u8 (⟨p9, r9, rfl, rfl, f9⟩ | ⟨v8, k8, val8, q8, l8, x8, rfl, ⟨T8, ds8, rfl, hT8, hX8⟩, m8⟩)
         ·go_wp2_with fail
          exact ⟨rfl, f9⟩
         have X8 := Lib.hid x8
         have HK8 := Lib.hid l8
         clear x8 l8
         have S8 := Lib.hid (S7.out.call m8)
         have B8r := Lib.hid (m8.blk B7r.out (by omega))
         have B8t := Lib.hid (m8.blk B7t.out (by omega))
         have zz8 := Mv.size m8
         clear m8
         obtain ⟨op8, nm8, vk8, vb8, vi8, vs8, la8, ln8, lc8, ka8, kn8, kc8, na8, nn8, nc8, xa8, xn8, xc8, -, -, rfl⟩ := hX8.ten
         have V8x8 := Lib.hid hX8
         clear hX8
         have Nx8 := Lib.hid (show ¬ T8 bp from fun h => absurd (hT8 _ h) (by have := S7.out.size; omega))
         have hTh := block_there (Block.new u8 zX 66) 0 10 (Nat.le_refl 10)
         go_upto_region 20 with (refine wpList_store_mid rfl 66 _ _ rfl u8.heap.size 0 #[.int .i64 op8, .string nm8, .int .i64 vk8, .bool vb8, .int .i64 vi8, .string vs8, .slice la8 ln8 lc8, .slice ka8 kn8 kc8, .slice na8 nn8 nc8, .slice xa8 xn8 xc8] rfl rfl hTh (by kernel_rfl) (by simp [Value.oneCell']) ?_)
         obtain ⟨b4, hb4⟩ := nam u8.heap.size
         rw [hb4]
         obtain ⟨u9, hu9⟩ : ∃ u, (u8.alloc (.cells #[.int .i64 0, .string ⟨#[]⟩, .int .i64 0, .bool false, .int .i64 0, .string ⟨#[]⟩, .slice none 0 0, .slice none 0 0, .slice none 0 0, .slice none 0 0] 66)).setCells b4 0 ((#[.int .i64 op8, .string nm8, .int .i64 vk8, .bool vb8, .int .i64 vi8, .string vs8, .slice la8 ln8 lc8, .slice ka8 kn8 kc8, .slice na8 nn8 nc8, .slice xa8 xn8 xc8] : Array Value).toList) = u := ⟨_, rfl⟩
         rw [hu9]
         have zb4 : b4 < u9.heap.size ∧ w.heap.size < b4 ∧ u8.heap.size ≤ u9.heap.size := by have := B8r.out.lt; rw [← hu9, setCells_sz, ← hb4]; simp; omega
         have S9 := Lib.hid (show St bp a cap L w k8 u9 from by rw [← hu9]; exact (S8.out.alloc _).sets (by omega) 0 _)
         have B9r := Lib.hid (show Block u9 _ _ _ from by rw [← hu9]; exact (B8r.out.alloc _).of_heap (cells_other (by have := B8r.out.lt; omega) _ 0 _))
         have B9t := Lib.hid (show Block u9 _ _ _ from by rw [← hu9]; exact (B8t.out.alloc _).of_heap (cells_other (by have := B8t.out.lt; omega) _ 0 _))
         have B9b := Lib.hid (show Block u9 b4 [.int .i64 op8, .string nm8, .int .i64 vk8, .bool vb8, .int .i64 vi8, .string vs8, .slice la8 ln8 lc8, .slice ka8 kn8 kc8, .slice na8 nn8 nc8, .slice xa8 xn8 xc8] 66 from by rw [← hu9, ← hb4]; exact (Block.new u8 zX 66).setCells [.int .i64 op8, .string nm8, .int .i64 vk8, .bool vb8, .int .i64 vi8, .string vs8, .slice la8 ln8 lc8, .slice ka8 kn8 kc8, .slice na8 nn8 nc8, .slice xa8 xn8 xc8] 0)
         have V9x8 := Lib.hid (show HG _ _ u9 from by rw [← hu9]; exact (V8x8.out.alloc _).sets 0 _ (fun h => absurd (V8x8.out.1 _ h) (by omega)))
         clear hu9 hb4 hTh
         go_wp2_with (go_at_call 118; refine Stand.out ?_)
         refine Stand.mk ?_
         refine (mustSign_go S9.out HT.out HK8.out X8.out).mono ?_
         rintro e u10 (⟨p9, r9, rfl, rfl, f9⟩ | ⟨l10, x10, rfl, m10⟩)
         ·go_wp2_with fail
          exact ⟨rfl, f9⟩
         have X10 := Lib.hid x10
         have HK10 := Lib.hid l10
         clear x10 l10
         have S10 := Lib.hid (S9.out.call m10)
         have B10r := Lib.hid (m10.blk B9r.out (by omega))
         have B10t := Lib.hid (m10.blk B9t.out (by omega))
         have B10b := Lib.hid (m10.blk B9b.out (by omega))
         have V10x8 := Lib.hid (V9x8.out.mv m10 Nx8.out)
         have zz10 := Mv.size m10
         clear m10
         obtain rfl := Option.some.inj X10.out
         obtain ⟨e0, e1, e2, e3, e4, e5, e6, e7, e8, e9⟩ := Block.ten B10b.out
         have hTh := block_there B10r.out 0 10 (Nat.le_refl 10)
         go_wp2_with (refine wpList_store_mid rfl 66 _ _ rfl w.heap.size 0 #[.int .i64 op8, .string nm8, .int .i64 vk8, .bool vb8, .int .i64 vi8, .string vs8, .slice la8 ln8 lc8, .slice ka8 kn8 kc8, .slice na8 nn8 nc8, .slice xa8 xn8 xc8] rfl rfl hTh (by kernel_rfl) (by simp [Value.oneCell']) ?_)
         have B99 := B10r.out.setCells [.int .i64 op8, .string nm8, .int .i64 vk8, .bool vb8, .int .i64 vi8, .string vs8, .slice la8 ln8 lc8, .slice ka8 kn8 kc8, .slice na8 nn8 nc8, .slice xa8 xn8 xc8] 0
         refine bodyPost_ret (results_cell_row (by rfl) _ _ w.heap.size 66 _ (0, 0) _ (by rfl) B99 Tryz.underlying66 rfl (by kernel_rfl)) rfl ?_
         exact ⟨(k8 + 1), _, by omega, HK10.out, rfl, rfl, RtX.mk (V10x8.out.sets 0 _ (fun h => absurd (hT8 _ h) (by omega))) (rfl) (fun b h => by have := hT8 b h; omega), (S10.out.sets (Nat.le_refl _) 0 _).mv⟩
        | false =>
         go_wp2_with (go_at_call 103; refine Stand.out ?_)
         refine Stand.mk ?_
         refine (skip_f S6.out HK0.out h40).mono ?_
         rintro e u7 ⟨rfl, m7⟩
         have S7 := Lib.hid (S6.out.call m7)
         have B7r := Lib.hid (m7.blk B6r.out (by omega))
         have B7t := Lib.hid (m7.blk B6t.out (by omega))
         have zz7 := Mv.size m7
         clear m7
         cases h91 : isT 5 [91] (rem L k) with
         | true =>
          have RX : Go.Proofs.YteljlahcdipilaaGreat.step (run f) .atom (rem L k) = some x := HR0.out
          simp only [Go.Proofs.YteljlahcdipilaaGreat.step, sigB, wrd, HTK.out, k3, k4, k1, hN, hT1, hF1, h36, h40, h91, tail_rem, if_true, if_false, Bool.false_eq_true, Bool.or_true, Bool.true_or, Bool.or_false, Bool.or_self] at RX
          have X0 := Lib.hid RX
          clear RX
          go_wp2_with (go_at_call 103; refine Stand.out ?_)
          refine Stand.mk ?_
          refine (skip_t S7.out HK0.out h91).mono ?_
          rintro e u8 ⟨rfl, m8⟩
          have S8 := Lib.hid (S7.out.call m8)
          have B8r := Lib.hid (m8.blk B7r.out (by omega))
          have B8t := Lib.hid (m8.blk B7t.out (by omega))
          have zz8 := Mv.size m8
          clear m8
          have HK8 := Lib.hid (HT.out.next HK0.out h91 (by decide))
          go_wp2_with (go_at_call 131; refine Stand.out ?_)
          refine Stand.mk ?_
          refine ((HR.list f (Nat.le_refl _) [93] (by decide)).go2 S8.out HT.out HK8.out X0.out).mono ?_
          rintro e u9 (⟨p9, r9, rfl, rfl, f9⟩ | ⟨v9, k9, val9, q9, l9, x9, rfl, ⟨T9, xa9, xc9, rfl, hT9, hX9, hs9⟩, m9⟩)
          ·go_wp2_with fail
           exact ⟨rfl, f9⟩
          have X9 := Lib.hid x9
          have HK9 := Lib.hid l9
          clear x9 l9
          have S9 := Lib.hid (S8.out.call m9)
          have B9r := Lib.hid (m9.blk B8r.out (by omega))
          have B9t := Lib.hid (m9.blk B8t.out (by omega))
          have zz9 := Mv.size m9
          clear m9
          have V9y := Lib.hid hX9
          have HS9 := Lib.hid hs9
          clear hX9 hs9
          obtain rfl := Option.some.inj X9.out
          obtain ⟨yn, hyn⟩ := nam v9.exs.length
          rw [hyn]
          have HX9 := Lib.hid (show HX T9 u9 [.int .i64 5, .string ⟨#[]⟩, .int .i64 0, .bool false, .int .i64 0, .string ⟨#[]⟩, .slice none 0 0, .slice none 0 0, .slice none 0 0, .slice xa9 yn xc9] (mE 5 ⟨#[]⟩ v9.exs) from by rw [← hyn]; exact hx_args (by unfold in64; omega) HS9.out V9y.out)
          clear hyn
          have hTh := block_there B9r.out 0 10 (Nat.le_refl 10)
          go_wp2_with (refine wpList_store_mid rfl 66 _ _ rfl w.heap.size 0 #[.int .i64 5, .string ⟨#[]⟩, .int .i64 0, .bool false, .int .i64 0, .string ⟨#[]⟩, .slice none 0 0, .slice none 0 0, .slice none 0 0, .slice xa9 yn xc9] rfl rfl hTh (by kernel_rfl) (by simp [Value.oneCell']) ?_)
          have B99 := B9r.out.setCells [.int .i64 5, .string ⟨#[]⟩, .int .i64 0, .bool false, .int .i64 0, .string ⟨#[]⟩, .slice none 0 0, .slice none 0 0, .slice none 0 0, .slice xa9 yn xc9] 0
          refine bodyPost_ret (results_cell_row (by rfl) _ _ w.heap.size 66 _ (0, 0) _ (by rfl) B99 Tryz.underlying66 rfl (by kernel_rfl)) rfl ?_
          exact ⟨k9, _, by omega, HK9.out, rfl, rfl, RtX.mk (HX9.out.sets 0 _ (fun h => absurd (hT9 _ h) (by omega))) (rfl) (fun b hb => by have := hT9 b hb; omega), (S9.out.sets (Nat.le_refl _) 0 _).mv⟩
         | false =>
          go_wp2_with (go_at_call 103; refine Stand.out ?_)
          refine Stand.mk ?_
          refine (skip_f S7.out HK0.out h91).mono ?_
          rintro e u8 ⟨rfl, m8⟩
          have S8 := Lib.hid (S7.out.call m8)
          have B8r := Lib.hid (m8.blk B7r.out (by omega))
          have B8t := Lib.hid (m8.blk B7t.out (by omega))
          have zz8 := Mv.size m8
          clear m8
          cases h123 : isT 5 [123] (rem L k) with
          | true =>
           have RX : Go.Proofs.YteljlahcdipilaaGreat.step (run f) .atom (rem L k) = some x := HR0.out
           simp only [Go.Proofs.YteljlahcdipilaaGreat.step, sigB, wrd, HTK.out, k3, k4, k1, hN, hT1, hF1, h36, h40, h91, h123, tail_rem, if_true, if_false, Bool.false_eq_true, Bool.or_true, Bool.true_or, Bool.or_false, Bool.or_self] at RX
           have X0 := Lib.hid RX
           clear RX
           go_wp2_with (go_at_call 121; refine Stand.out ?_)
           refine Stand.mk ?_
           refine (sign_st S8.out HK0.out h123).mono ?_
           rintro e u9 ⟨rfl, m9⟩
           have S9 := Lib.hid (S8.out.call m9)
           have B9r := Lib.hid (m9.blk B8r.out (by omega))
           have B9t := Lib.hid (m9.blk B8t.out (by omega))
           have zz9 := Mv.size m9
           clear m9
           have hTh := block_there (Block.new u9 zX 66) 0 10 (Nat.le_refl 10)
           go_upto_region 26 with (refine wpList_store_mid rfl 66 _ _ rfl u9.heap.size 0 #[.int .i64 6, .string ⟨#[]⟩, .int .i64 0, .bool false, .int .i64 0, .string ⟨#[]⟩, .slice none 0 0, .slice none 0 0, .slice none 0 0, .slice none 0 0] rfl rfl hTh (by kernel_rfl) (by simp [Value.oneCell']) ?_)
           obtain ⟨b4, hb4⟩ := nam u9.heap.size
           rw [hb4]
           obtain ⟨u10, hu10⟩ : ∃ u, (u9.alloc (.cells #[.int .i64 0, .string ⟨#[]⟩, .int .i64 0, .bool false, .int .i64 0, .string ⟨#[]⟩, .slice none 0 0, .slice none 0 0, .slice none 0 0, .slice none 0 0] 66)).setCells b4 0 ((#[.int .i64 6, .string ⟨#[]⟩, .int .i64 0, .bool false, .int .i64 0, .string ⟨#[]⟩, .slice none 0 0, .slice none 0 0, .slice none 0 0, .slice none 0 0] : Array Value).toList) = u := ⟨_, rfl⟩
           rw [hu10]
           have zb4 : b4 < u10.heap.size ∧ w.heap.size < b4 ∧ u9.heap.size ≤ u10.heap.size := by have := B9r.out.lt; rw [← hu10, setCells_sz, ← hb4]; simp; omega
           have S10 := Lib.hid (show St bp a cap L w k u10 from by rw [← hu10]; exact (S9.out.alloc _).sets (by omega) 0 _)
           have B10r := Lib.hid (show Block u10 _ _ _ from by rw [← hu10]; exact (B9r.out.alloc _).of_heap (cells_other (by have := B9r.out.lt; omega) _ 0 _))
           have B10t := Lib.hid (show Block u10 _ _ _ from by rw [← hu10]; exact (B9t.out.alloc _).of_heap (cells_other (by have := B9t.out.lt; omega) _ 0 _))
           have B10b := Lib.hid (show Block u10 b4 [.int .i64 6, .string ⟨#[]⟩, .int .i64 0, .bool false, .int .i64 0, .string ⟨#[]⟩, .slice none 0 0, .slice none 0 0, .slice none 0 0, .slice none 0 0] 66 from by rw [← hu10, ← hb4]; exact (Block.new u9 zX 66).setCells [.int .i64 6, .string ⟨#[]⟩, .int .i64 0, .bool false, .int .i64 0, .string ⟨#[]⟩, .slice none 0 0, .slice none 0 0, .slice none 0 0, .slice none 0 0] 0)
           clear hu10 hb4 hTh
           go_wp2_with (go_at_call 122; refine Stand.out ?_)
           refine Stand.mk ?_
           refine ((HR.props f (Nat.le_refl _)).go2 S10.out HT.out HK0.out X0.out).mono ?_
           rintro e u11 (⟨p9, r9, rfl, rfl, f9⟩ | ⟨v11, k11, val11, q11, l11, x11, rfl, ⟨T11, ka11, kc11, xa11, xc11, rfl, hT11, hK11, hX11, hks11, hs11⟩, m11⟩)
           ·go_wp2_with fail
            exact ⟨rfl, f9⟩
           have X11 := Lib.hid x11
           have HK11 := Lib.hid l11
           clear x11 l11
           have S11 := Lib.hid (S10.out.call m11)
           have B11r := Lib.hid (m11.blk B10r.out (by omega))
           have B11t := Lib.hid (m11.blk B10t.out (by omega))
           have B11b := Lib.hid (m11.blk B10b.out (by omega))
           have zz11 := Mv.size m11
           clear m11
           obtain rfl := Option.some.inj X11.out
           obtain ⟨kn, hkn⟩ := nam v11.strs.length
           obtain ⟨xn, hxn⟩ := nam v11.exs.length
           rw [hkn, hxn]
           have HX9 := Lib.hid (show HX T11 u11 [.int .i64 6, .string ⟨#[]⟩, .int .i64 0, .bool false, .int .i64 0, .string ⟨#[]⟩, .slice none 0 0, .slice none 0 0, .slice ka11 kn kc11, .slice xa11 xn xc11] (.mk 6 ⟨#[]⟩ emptyV v11.strs v11.exs) from by rw [← hkn, ← hxn]; exact hx_map hK11 hks11 hX11 hs11)
           clear hkn hxn hK11 hX11 hks11 hs11
           have e8 := B11b.out.cell (i := 8) rfl
           have e9 := B11b.out.cell (i := 9) rfl
           have f8 := B11b.out.free 8
           have f9 := B11b.out.free 9
           go_upto_region 27 with fail
           clear e8 e9 f8 f9
           obtain ⟨u12, hu⟩ : ∃ u, (u11.setCell ⟨b4, 8, none⟩ (.slice ka11 kn kc11)).setCell ⟨b4, 9, none⟩ (.slice xa11 xn xc11) = u := ⟨_, rfl⟩
           rw [hu]
           have S12 := Lib.hid (show St bp a cap L w k11 u12 from by rw [← hu]; exact (S11.out.set (by omega) 8 _).set (by omega) 9 _)
           have B12r := Lib.hid ((B11r.out.of_heap (Below.heap_setCell u11 ⟨b4, 8, none⟩ (.slice ka11 kn kc11) _ (by show w.heap.size ≠ b4; omega))).of_heap (w' := u12) (by rw [← hu]; exact Below.heap_setCell _ ⟨b4, 9, none⟩ _ _ (by show w.heap.size ≠ b4; omega)))
           have B12b := Lib.hid (show Block u12 b4 [.int .i64 6, .string ⟨#[]⟩, .int .i64 0, .bool false, .int .i64 0, .string ⟨#[]⟩, .slice none 0 0, .slice none 0 0, .slice ka11 kn kc11, .slice xa11 xn xc11] 66 from by rw [← hu]; exact (B11b.out.set 8 _).set 9 _)
           have HX10 := Lib.hid (show HG _ _ u12 from by rw [← hu]; exact (HX9.out.set 8 _ (fun h => absurd (hT11 _ h) (by omega))).set 9 _ (fun h => absurd (hT11 _ h) (by omega)))
           clear hu HX9
           obtain ⟨e0, e1, e2, e3, e4, e5, e6, e7, e8, e9⟩ := Block.ten B12b.out
           have hTh := block_there B12r.out 0 10 (Nat.le_refl 10)
           go_wp2_with (refine wpList_store_mid rfl 66 _ _ rfl w.heap.size 0 #[.int .i64 6, .string ⟨#[]⟩, .int .i64 0, .bool false, .int .i64 0, .string ⟨#[]⟩, .slice none 0 0, .slice none 0 0, .slice ka11 kn kc11, .slice xa11 xn xc11] rfl rfl hTh (by kernel_rfl) (by simp [Value.oneCell']) ?_)
           have B99 := B12r.out.setCells [.int .i64 6, .string ⟨#[]⟩, .int .i64 0, .bool false, .int .i64 0, .string ⟨#[]⟩, .slice none 0 0, .slice none 0 0, .slice ka11 kn kc11, .slice xa11 xn xc11] 0
           refine bodyPost_ret (results_cell_row (by rfl) _ _ w.heap.size 66 _ (0, 0) _ (by rfl) B99 Tryz.underlying66 rfl (by kernel_rfl)) rfl ?_
           exact ⟨k11, _, by omega, HK11.out, rfl, rfl, RtX.mk (HX10.out.sets 0 _ (fun h => absurd (hT11 _ h) (by omega))) (rfl) (fun b hb => by have := hT11 b hb; omega), (S12.out.sets (Nat.le_refl _) 0 _).mv⟩
          | false =>
           go_wp2_with (go_at_call 121; refine Stand.out ?_)
           refine Stand.mk ?_
           refine (sign_st S8.out HK0.out h123).mono ?_
           rintro e u9 ⟨rfl, m9⟩
           have S9 := Lib.hid (S8.out.call m9)
           have B9r := Lib.hid (m9.blk B8r.out (by omega))
           have B9t := Lib.hid (m9.blk B8t.out (by omega))
           have zz9 := Mv.size m9
           clear m9
           have RX : Go.Proofs.YteljlahcdipilaaGreat.step (run f) .atom (rem L k) = some x := HR0.out
           simp only [Go.Proofs.YteljlahcdipilaaGreat.step, sigB, wrd, HTK.out, k3, k4, k1, hN, hT1, hF1, h36, h40, h91, h123, tail_rem, if_true, if_false, Bool.false_eq_true, Bool.or_true, Bool.true_or, Bool.or_false, Bool.or_self] at RX
           have X0 := Lib.hid RX
           clear RX
           obtain rfl := Option.some.inj X0.out
           go_wp2_with (go_at_call 88; refine Stand.out ?_)
           refine Stand.mk ?_
           refine (fail_st S9.out HK0.out).mono ?_
           rintro e u9 ⟨k9, y9, j9, f1, f2, rfl, f3⟩
           go_wp2_with fail
           exact ⟨rfl, k9, y9, j9, f1, by first | exact f2 | rfl, rfl, Mv.trans S9.out.mv f3⟩
end Go.Proofs.YteljlahcdipilaaGreat

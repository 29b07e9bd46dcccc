/- Parts Q12 of this seat (pruned, scripts that are alike kept once as default arguments: q1, q2, ..). Conditions: each says its own. -/
import Derived.Test.YteljlahcdipilaaGreatF25
namespace Go.Proofs.YteljlahcdipilaaGreat
open Go.RowKit Go.Shelf
set_option linter.unusedSimpArgs false
set_option linter.unusedVariables false
set_option maxRecDepth 100000
theorem Block.ten {w : World} {b : Nat} {c0 c1 c2 c3 c4 c5 c6 c7 c8 c9 : Value} {t : TypeId} (h : Block w b [c0, c1, c2, c3, c4, c5, c6, c7, c8, c9] t) : w.cell? ⟨b, 0, none⟩ = some c0 ∧ w.cell? ⟨b, 1, none⟩ = some c1 ∧ w.cell? ⟨b, 2, none⟩ = some c2 ∧ w.cell? ⟨b, 3, none⟩ = some c3 ∧ w.cell? ⟨b, 4, none⟩ = some c4 ∧ w.cell? ⟨b, 5, none⟩ = some c5 ∧ w.cell? ⟨b, 6, none⟩ = some c6 ∧ w.cell? ⟨b, 7, none⟩ = some c7 ∧ w.cell? ⟨b, 8, none⟩ = some c8 ∧ w.cell? ⟨b, 9, none⟩ = some c9 :=
  ⟨h.cell (i := 0) rfl, h.cell (i := 1) rfl, h.cell (i := 2) rfl, h.cell (i := 3) rfl, h.cell (i := 4) rfl, h.cell (i := 5) rfl, h.cell (i := 6) rfl, h.cell (i := 7) rfl, h.cell (i := 8) rfl, h.cell (i := 9) rfl⟩
theorem hx_two {S1 S2 : Nat → Prop} {g : Nat} {w5 : World} {cs ds : List Value} {t1 t2 : Ex} {op : Int} {nm : ByteArray} (h1 : HX S1 w5 cs t1) (h2 : HX S2 w5 ds t2) (hb : Block w5 g (cs ++ ds) 66) (ho : in64 op) (hl : cs.length = 10) (hl2 : ds.length = 10) :
    HX (fun b => (S1 b ∨ S2 b) ∨ b = g) w5 (exC op nm (some ⟨g, 0, none⟩) 2) (mE op nm [t1, t2]) :=
  ⟨fun b h => by rcases h with (h | h) | h; exact h1.1 b h; exact h2.1 b h; rw [h]; exact hb.lt, fun w' h3 => by
    have hbl := hb.of_heap (h3 g (.inr rfl))
    have hr : RowR (IsX w'.heap.size w') 10 w'.heap.size w' (some ⟨g, 0, none⟩) [t1, t2] :=
      rowR_block (css := [cs, ds]) hbl (by simp) hbl.lt (AllR.cons (h1.2 w' fun b hb => h3 b (.inl (.inl hb))) hl (AllR.cons (h2.2 w' fun b hb => h3 b (.inl (.inr hb))) hl2 AllR.nil))
    exact args_isX (az := [t1, t2]) ho ⟨⟨Nat.le_refl _, (by decide : (2 : Nat) ≤ 9223372036854775807)⟩, fun h => by cases h⟩ hr⟩
structure PostAt (bp : Nat) (a : Option Addr) (cap : Nat) (L : List (Tok × Nat)) (w : World) (x : Pr) (f b5 kb : Nat) (Gof : Ex → G) (g k : Nat) (S : Nat → Prop) (cs : List Value) (t : Ex) (u : World) : Prop where
  st : St bp a cap L w k u
  lt : k < L.length
  ge : kb ≤ k
  r4 : Block u w.heap.size zX 66
  r5 : Block u b5 cs 66
  hx : HX S u cs t
  hs : ∀ b, S b → w.heap.size < b ∧ b ≠ b5
  h5 : w.heap.size < b5
  le : g ≤ f
  rn : run g (Gof t) (rem L k) = some x
theorem Sq140283 {P : Prop} (h : P := by
 by_cases hl : least ≤ 4
 ·have hl4 : decide ((least : Int) ≤ 4) = true := by simp; omega
  have hl5 : (least : Int) ≤ 4 := by omega
  first
  |(
   guard_hyp z140283b
   have Hn2 : Hid (isT 2 wNOT (rem L k) = false) := Lib.hid (by cases h : isT 2 wNOT (rem L k) with | true => exact absurd ⟨hl, h⟩ Hn.out | false => rfl)
   go_wp2_with (go_at_call 103; refine Stand.out ?_))
  |(
   have Hn2 : Hid (isT 2 wNOT (rem L k) = nb) := Lib.hid (by rw [← HNB.out]; cases h : isT 2 wNOT (rem L k) <;> simp [hl])
   go_wp2_with (go_at_call 112; refine Stand.out ?_))
  refine Stand.mk ?_
  first
  | (guard_hyp z140283a; refine (word_st S0.out HK0.out Hn2.out).mono ?_)
  | (refine (skip_f S0.out HK0.out Hn2.out).mono ?_)
  rintro e u1 ⟨rfl, m1⟩
  have S1 := Lib.hid (S0.out.call m1)
  have B1r := Lib.hid (m1.blk B0r.out (by omega))
  have zz1 := Mv.size m1
  clear m1
  go_wp2_with fail
  go_meet
  exact ⟨rfl, Lib.hid ⟨S1.out, B1r.out⟩⟩
 ·have hl4 : decide ((least : Int) ≤ 4) = false := by simp; omega
  have hl5 : ¬ (least : Int) ≤ 4 := by omega
  first
  |(
   guard_hyp z140283a
   have hn0 : nb = false := by rw [← HNB.out]; simp [hl]
   subst hn0)
  | skip
  go_wp2_with fail
  go_meet
  exact ⟨rfl, Lib.hid ⟨S0.out, B0r.out⟩⟩) : P := h
set_option maxHeartbeats 8000000 in
theorem unary_post {f : Nat} (HR : Rec f) (least : Nat) (hl8 : least ≤ 8) (bp : Nat) (a : Option Addr) (cap : Nat) (L : List (Tok × Nat)) (k : Nat) (w : World) (x : Pr) (h : Ps bp a cap L k w) (hT : Tk L) (hk : k < L.length) (hn : ¬ (least ≤ 4 ∧ isT 2 wNOT (rem L k) = true)) (hm : isT 5 [45] (rem L k) = false) (hr : run (f + 1) (.unary least) (rem L k) = some x) :
    Calls Tryz.prog 113 #[.pointer (some ⟨bp, 0, none⟩), .int .i64 least] w (PR RtX bp L k w x) := by
 have hr : Go.Proofs.YteljlahcdipilaaGreat.step (run f) (.unary least) (rem L k) = some x := hr
 simp only [Go.Proofs.YteljlahcdipilaaGreat.step, wrd, hn, sigB, hm, if_false, Bool.false_eq_true, tail_rem] at hr
 have HT := Lib.hid hT
 have HK0 := Lib.hid hk
 have X0 := Lib.hid hr
 have hbw := h.lt
 obtain ⟨u0, hy0⟩ : ∃ u, w.alloc (.cells #[.int .i64 0, .string ⟨#[]⟩, .int .i64 0, .bool false, .int .i64 0, .string ⟨#[]⟩, .slice none 0 0, .slice none 0 0, .slice none 0 0, .slice none 0 0] 66) = u := ⟨_, rfl⟩
 have s0 : St bp a cap L w k u0 := by rw [← hy0]; exact (St.start h).alloc _
 have b0 : Block u0 w.heap.size zX 66 := by rw [← hy0]; exact Block.new w _ _
 have B0r := Lib.hid b0
 clear b0
 have S0 := Lib.hid s0
 have HU := Lib.hid hy0
 clear s0 hy0 h hT hk hr
 have Hn := Lib.hid hn
 have Hm := Lib.hid hm
 clear hn hm
 go_enter Tryz.func113, Tryz.ntmps113
 go_upto_region 1 with fail
 rw [HU.out]
 go_cut [6] (fun v wx => v = .bool false ∧ Hid (St bp a cap L w k wx ∧ Block wx w.heap.size zX 66))
 case first =>
  have z140283b := trivial
  exact Sq140283
 case rest =>
  obtain ⟨rfl, hc⟩ := hcut
  obtain ⟨u1, rfl⟩ := nam wc
  have S1 := Lib.hid hc.out.1
  have B1r := Lib.hid hc.out.2
  clear hc S0 B0r HU
  go_wp2_with (go_at_call 103; refine Stand.out ?_)
  refine Stand.mk ?_
  refine (skip_f S1.out HK0.out Hm.out).mono ?_
  rintro e u2 ⟨rfl, m2⟩
  have S2 := Lib.hid (S1.out.call m2)
  have B2r := Lib.hid (m2.blk B1r.out (by omega))
  have zz2 := Mv.size m2
  clear m2
  go_wp2_with (go_at_call 129; refine Stand.out ?_)
  refine Stand.mk ?_
  refine ((HR.atom f (Nat.le_refl _)).go2 S2.out HT.out HK0.out X0.out).mono ?_
  rintro e u3 (⟨p9, r9, rfl, rfl, f9⟩ | ⟨v3, k3, val3, q3, l3, x3, rfl, ⟨T3, ds3, rfl, hT3, hX3⟩, m3⟩)
  ·go_wp2_with fail
   exact ⟨rfl, f9⟩
  have X3 := Lib.hid x3
  have HK3 := Lib.hid l3
  clear x3 l3
  have S3 := Lib.hid (S2.out.call m3)
  have B3r := Lib.hid (m3.blk B2r.out (by omega))
  have zz3 := Mv.size m3
  clear m3
  obtain ⟨op3, nm3, vk3, vb3, vi3, vs3, la3, ln3, lc3, ka3, kn3, kc3, na3, nn3, nc3, xa3, xn3, xc3, -, -, rfl⟩ := hX3.ten
  have V3x3 := Lib.hid hX3
  clear hX3
  have Nx3 := Lib.hid (show ¬ T3 bp from fun h => absurd (hT3 _ h) (by have := S2.out.size; omega))
  have zb := B2r.out.lt
  have s9 : St bp a cap L w k3 (u3.alloc (.cells #[.int .i64 0, .string ⟨#[]⟩, .int .i64 0, .bool false, .int .i64 0, .string ⟨#[]⟩, .slice none 0 0, .slice none 0 0, .slice none 0 0, .slice none 0 0] 66)) := S3.out.alloc _
  have hTh := block_there (Block.new u3 zX 66) 0 10 (by decide)
  go_wp2_with (refine wpList_store_mid rfl 66 _ _ rfl u3.heap.size 0 #[.int .i64 op3, .string nm3, .int .i64 vk3, .bool vb3, .int .i64 vi3, .string vs3, .slice la3 ln3 lc3, .slice ka3 kn3 kc3, .slice na3 nn3 nc3, .slice xa3 xn3 xc3] rfl rfl hTh (by kernel_rfl) (by simp [Value.oneCell']) ?_)
  go_frame
  obtain ⟨b5, hb5⟩ := nam u3.heap.size
  rw [hb5]
  go_loopg [] f (fun g wr => ∃ kk S cs t, Hid (PostAt bp a cap L w x f b5 k .post g kk S cs t wr))
  case atStart =>
   rw [← hb5]
   refine ⟨k3, T3, [.int .i64 op3, .string nm3, .int .i64 vk3, .bool vb3, .int .i64 vi3, .string vs3, .slice la3 ln3 lc3, .slice ka3 kn3 kc3, .slice na3 nn3 nc3, .slice xa3 xn3 xc3], v3.ex, Lib.hid ⟨s9.sets (by omega) 0 _, HK3.out, q3, ((B3r.out.alloc _).of_heap (cells_other (by omega) _ 0 _)), (Block.new u3 zX 66).setCells [.int .i64 op3, .string nm3, .int .i64 vk3, .bool vb3, .int .i64 vi3, .string vs3, .slice la3 ln3 lc3, .slice ka3 kn3 kc3, .slice na3 nn3 nc3, .slice xa3 xn3 xc3] 0, (V3x3.out.alloc _).sets 0 _ (fun h => absurd (V3x3.out.1 _ h) (by omega)), fun b h => ⟨by have := hT3 b h; omega, by have := V3x3.out.1 b h; omega⟩, by omega, Nat.le_refl _, X3.out⟩⟩
  case round =>
   clear hb5 V3x3 B3r S3 X3 HK3 s9 hTh S2 B2r S1 B1r X0
   obtain ⟨k0, S, cs, t, hP⟩ := hrel
   have hP := hP.out
   obtain ⟨op, nm, vk, vb, vi, vs, la, ln, lc, ka, kn, kc, na, nn, nc, xa, xn, xc, hop, -, rfl⟩ := hP.hx.ten
   cases gk with
   | zero => exact absurd hP.rn (by intro h; cases h)
   | succ g =>
    have rn : Go.Proofs.YteljlahcdipilaaGreat.step (run g) (.post t) (rem L k0) = some x := hP.rn
    simp only [Go.Proofs.YteljlahcdipilaaGreat.step, sigB, tail_rem] at rn
    have S10 := Lib.hid hP.st
    have B10r := Lib.hid hP.r4
    have B10b := Lib.hid hP.r5
    have V10t := Lib.hid hP.hx
    have Nt := Lib.hid (show ¬ S bp from fun h => absurd (hP.hs bp h).1 (by omega))
    have HK10 := Lib.hid hP.lt
    have h5 := hP.h5
    have zb5 := hP.r5.lt
    have hge := hP.ge
    have HS := Lib.hid hP.hs
    have hgf := hP.le
    have RN := Lib.hid rn
    have HOP := Lib.hid hop
    clear hP rn hr HK0 hop
    cases h46 : isT 5 [46] (rem L k0) with
    | true =>
     go_wp2_with (go_at_call 103; refine Stand.out ?_)
     refine Stand.mk ?_
     refine (skip_t S10.out HK10.out h46).mono ?_
     rintro e u11 ⟨rfl, m11⟩
     have S11 := Lib.hid (S10.out.call m11)
     have B11r := Lib.hid (m11.blk B10r.out (by omega))
     have B11b := Lib.hid (m11.blk B10b.out (by omega))
     have V11t := Lib.hid (V10t.out.mv m11 Nt.out)
     have zz11 := Mv.size m11
     clear m11
     have HK11 := Lib.hid (HT.out.next HK10.out h46 (by decide))
     have RX := Lib.hid RN.out
     simp only [h46, if_true] at RX
     go_upto_region 8 with fail
     obtain ⟨u12, hu12⟩ := nam u11.drew
     have S12 := Lib.hid (show St bp a cap L w (k0 + 1) u12 from by rw [← hu12]; exact S11.out.drew)
     have zz12 : u11.heap.size = u12.heap.size := by rw [← hu12]; rfl
     have B12r := Lib.hid (B11r.out.of_heap (w' := u12) (by rw [← hu12]; rfl))
     have B12b := Lib.hid (B11b.out.of_heap (w' := u12) (by rw [← hu12]; rfl))
     have V12t := Lib.hid (V11t.out.same (w1 := u12) (fun _ _ => by rw [← hu12]; rfl))
     refine wp_region_J (S := (fun w' : World => Block w' b5 [.int .i64 op, .string nm, .int .i64 vk, .bool vb, .int .i64 vi, .string vs, .slice la ln lc, .slice ka kn kc, .slice na nn nc, .slice xa xn xc] 66)) (fun j => j == 5) (by kernel_rfl) ?_
     rw [hu12]
     clear hu12
     have hHeld : Block u12 b5 [.int .i64 op, .string nm, .int .i64 vk, .bool vb, .int .i64 vi, .string vs, .slice la ln lc, .slice ka kn kc, .slice na nn nc, .slice xa xn xc] 66 := B12b.out
     refine Jt 0 ?_
     refine Jl 2 ?_ (hy := by refine Or.inl ⟨by rfl, ?_⟩; intro w8 hSw; obtain ⟨e0, e1, e2, e3, e4, e5, e6, e7, e8, e9⟩ := Block.ten hSw; clear hSw; go_simp; try with_reducible rfl)
     refine wpAnyJ_ready (rs := [1, 3]) (by kernel_rfl) (by simp) ?_
     refine AllReadyJ.cons rfl (fun KK hKK => ?_) (AllReadyJ.cons rfl (fun KK hKK => ?_) AllReadyJ.nil)
     ·go_simp
      go_at_call 120
      refine (key_go S12.out HT.out HK11.out RX.out).mono ?_
      rintro e u13 (⟨p9, r9, rfl, rfl, f9⟩ | ⟨n13, l13, x13, rfl, m13⟩)
      ·exact ⟨rfl, f9⟩
      have X13 := Lib.hid x13
      have HK13 := Lib.hid l13
      clear x13 l13
      have S13 := Lib.hid (S12.out.call m13)
      have B13r := Lib.hid (m13.blk B12r.out (by omega))
      have B13b := Lib.hid (m13.blk B12b.out (by omega))
      have V13t := Lib.hid (V12t.out.mv m13 Nt.out)
      have zz13 := Mv.size m13
      clear m13
      refine hKK _ _ (fun _ _ => B13b.out) ?_
      clear hKK KK hHeld
      have hHeld := B13b.out
      refine Jn ?_
      refine Jr 3 fun KK hKK => ?_
      go_simp
      obtain ⟨u14, hu14⟩ : ∃ u, u13.alloc (.cells #[.int .i64 op, .string nm, .int .i64 vk, .bool vb, .int .i64 vi, .string vs, .slice la ln lc, .slice ka kn kc, .slice na nn nc, .slice xa xn xc] 66) = u := ⟨_, rfl⟩
      have S14 := Lib.hid (show St bp a cap L w ((k0 + 1) + 1) u14 from by rw [← hu14]; exact S13.out.alloc _)
      have zz14 : u14.heap.size = u13.heap.size + 1 := by rw [← hu14]; simp
      have B14r := Lib.hid (show Block u14 _ _ _ from by rw [← hu14]; exact B13r.out.alloc _)
      have B14b := Lib.hid (show Block u14 _ _ _ from by rw [← hu14]; exact B13b.out.alloc _)
      have V14t := Lib.hid (V13t.out.same (w1 := u14) (fun b hb => by rw [← hu14]; exact Below.heap_alloc _ _ _ (V13t.out.1 b hb)))
      have B14g := Lib.hid (show Block u14 u13.heap.size [.int .i64 op, .string nm, .int .i64 vk, .bool vb, .int .i64 vi, .string vs, .slice la ln lc, .slice ka kn kc, .slice na nn nc, .slice xa xn xc] 66 from by rw [← hu14]; exact Block.new u13 _ _)
      rw [hu14]
      clear hu14
      refine hKK _ _ (fun _ _ => B14b.out) ?_
      clear hKK KK hHeld
      have hHeld := B14b.out
      refine Jn ?_
      refine Jt 4 ?_
      refine Jr 5 fun KK hKK => ?_
      have hTh := block_there B14b.out 0 10 (Nat.le_refl 10)
      refine step_store_mid (by rfl) 66 _ _ (by rfl) b5 0 #[.int .i64 4, .string n13, .int .i64 0, .bool false, .int .i64 0, .string ⟨#[]⟩, .slice none 0 0, .slice none 0 0, .slice none 0 0, .slice (some ⟨u13.heap.size, 0, none⟩) 1 1] (by rfl) (by rfl) hTh (by kernel_rfl) (by simp [Value.oneCell']) ?_
      obtain ⟨u15, hu15⟩ : ∃ u, u14.setCells b5 0 ((#[.int .i64 4, .string n13, .int .i64 0, .bool false, .int .i64 0, .string ⟨#[]⟩, .slice none 0 0, .slice none 0 0, .slice none 0 0, .slice (some ⟨u13.heap.size, 0, none⟩) 1 1] : Array Value).toList) = u := ⟨_, rfl⟩
      have S15 := Lib.hid (show St bp a cap L w ((k0 + 1) + 1) u15 from by rw [← hu15]; exact S14.out.sets (by omega) 0 _)
      have zz15 : u15.heap.size = u14.heap.size := by rw [← hu15]; exact setCells_sz _ _ _
      have B15r := Lib.hid (B14r.out.of_heap (w' := u15) (by rw [← hu15]; exact cells_other (by omega) _ 0 _))
      have B15b := Lib.hid (show Block u15 _ _ _ from by rw [← hu15]; exact B14b.out.setCells [.int .i64 4, .string n13, .int .i64 0, .bool false, .int .i64 0, .string ⟨#[]⟩, .slice none 0 0, .slice none 0 0, .slice none 0 0, .slice (some ⟨u13.heap.size, 0, none⟩) 1 1] 0)
      have B15g := Lib.hid (B14g.out.of_heap (w' := u15) (by rw [← hu15]; exact cells_other (by omega) _ 0 _))
      have V15t := Lib.hid (V14t.out.same (w1 := u15) (fun b hb => by rw [← hu15]; exact cells_other (fun e => (HS.out b hb).2 (by rw [← e])) _ 0 _))
      rw [hu15]
      clear hu15
      refine hKK _ _ (fun h => absurd h (by decide)) ?_
      clear hKK KK hHeld hTh
      refine Jn ?_
      refine wpAnyJ_done (by kernel_rfl) ?_ _
      go_wp2_with fail
      go_roundg g
      case measure => omega
      case rel => exact ⟨((k0 + 1) + 1), (fun b => S b ∨ b = u13.heap.size), [.int .i64 4, .string n13, .int .i64 0, .bool false, .int .i64 0, .string ⟨#[]⟩, .slice none 0 0, .slice none 0 0, .slice none 0 0, .slice (some ⟨u13.heap.size, 0, none⟩) 1 1], mE 4 n13 [t], Lib.hid ⟨S15.out, HK13.out, by omega, B15r.out, B15b.out, hx_one (g := u13.heap.size) (nm := n13) V15t.out B15g.out (by unfold in64; omega) rfl, fun b h => h.elim (HS.out b) (fun e => by omega), h5, by omega, X13.out⟩⟩
     ·go_simp
      obtain ⟨u13, hu13⟩ : ∃ u, u12.alloc (.cells #[.int .i64 op, .string nm, .int .i64 vk, .bool vb, .int .i64 vi, .string vs, .slice la ln lc, .slice ka kn kc, .slice na nn nc, .slice xa xn xc] 66) = u := ⟨_, rfl⟩
      have S13 := Lib.hid (show St bp a cap L w (k0 + 1) u13 from by rw [← hu13]; exact S12.out.alloc _)
      have zz13 : u13.heap.size = u12.heap.size + 1 := by rw [← hu13]; simp
      have B13r := Lib.hid (show Block u13 _ _ _ from by rw [← hu13]; exact B12r.out.alloc _)
      have B13b := Lib.hid (show Block u13 _ _ _ from by rw [← hu13]; exact B12b.out.alloc _)
      have V13t := Lib.hid (V12t.out.same (w1 := u13) (fun b hb => by rw [← hu13]; exact Below.heap_alloc _ _ _ (V12t.out.1 b hb)))
      have B13g := Lib.hid (show Block u13 u12.heap.size [.int .i64 op, .string nm, .int .i64 vk, .bool vb, .int .i64 vi, .string vs, .slice la ln lc, .slice ka kn kc, .slice na nn nc, .slice xa xn xc] 66 from by rw [← hu13]; exact Block.new u12 _ _)
      rw [hu13]
      clear hu13
      refine hKK _ _ (fun _ _ => B13b.out) ?_
      clear hKK KK hHeld
      have hHeld := B13b.out
      refine Jn ?_
      refine Jr 1 fun KK hKK => ?_
      go_simp
      go_at_call 120
      refine (key_go S13.out HT.out HK11.out RX.out).mono ?_
      rintro e u14 (⟨p9, r9, rfl, rfl, f9⟩ | ⟨n14, l14, x14, rfl, m14⟩)
      ·exact ⟨rfl, f9⟩
      have X14 := Lib.hid x14
      have HK14 := Lib.hid l14
      clear x14 l14
      have S14 := Lib.hid (S13.out.call m14)
      have B14r := Lib.hid (m14.blk B13r.out (by omega))
      have B14b := Lib.hid (m14.blk B13b.out (by omega))
      have B14g := Lib.hid (m14.blk B13g.out (by omega))
      have V14t := Lib.hid (V13t.out.mv m14 Nt.out)
      have zz14 := Mv.size m14
      clear m14
      refine hKK _ _ (fun _ _ => B14b.out) ?_
      clear hKK KK hHeld
      have hHeld := B14b.out
      refine Jn ?_
      refine Jt 4 ?_
      refine Jr 5 fun KK hKK => ?_
      have hTh := block_there B14b.out 0 10 (Nat.le_refl 10)
      refine step_store_mid (by rfl) 66 _ _ (by rfl) b5 0 #[.int .i64 4, .string n14, .int .i64 0, .bool false, .int .i64 0, .string ⟨#[]⟩, .slice none 0 0, .slice none 0 0, .slice none 0 0, .slice (some ⟨u12.heap.size, 0, none⟩) 1 1] (by rfl) (by rfl) hTh (by kernel_rfl) (by simp [Value.oneCell']) ?_
      obtain ⟨u15, hu15⟩ : ∃ u, u14.setCells b5 0 ((#[.int .i64 4, .string n14, .int .i64 0, .bool false, .int .i64 0, .string ⟨#[]⟩, .slice none 0 0, .slice none 0 0, .slice none 0 0, .slice (some ⟨u12.heap.size, 0, none⟩) 1 1] : Array Value).toList) = u := ⟨_, rfl⟩
      have S15 := Lib.hid (show St bp a cap L w ((k0 + 1) + 1) u15 from by rw [← hu15]; exact S14.out.sets (by omega) 0 _)
      have zz15 : u15.heap.size = u14.heap.size := by rw [← hu15]; exact setCells_sz _ _ _
      have B15r := Lib.hid (B14r.out.of_heap (w' := u15) (by rw [← hu15]; exact cells_other (by omega) _ 0 _))
      have B15b := Lib.hid (show Block u15 _ _ _ from by rw [← hu15]; exact B14b.out.setCells [.int .i64 4, .string n14, .int .i64 0, .bool false, .int .i64 0, .string ⟨#[]⟩, .slice none 0 0, .slice none 0 0, .slice none 0 0, .slice (some ⟨u12.heap.size, 0, none⟩) 1 1] 0)
      have B15g := Lib.hid (B14g.out.of_heap (w' := u15) (by rw [← hu15]; exact cells_other (by omega) _ 0 _))
      have V15t := Lib.hid (V14t.out.same (w1 := u15) (fun b hb => by rw [← hu15]; exact cells_other (fun e => (HS.out b hb).2 (by rw [← e])) _ 0 _))
      rw [hu15]
      clear hu15
      refine hKK _ _ (fun h => absurd h (by decide)) ?_
      clear hKK KK hHeld hTh
      refine Jn ?_
      refine wpAnyJ_done (by kernel_rfl) ?_ _
      go_wp2_with fail
      go_roundg g
      case measure => omega
      case rel => exact ⟨((k0 + 1) + 1), (fun b => S b ∨ b = u12.heap.size), [.int .i64 4, .string n14, .int .i64 0, .bool false, .int .i64 0, .string ⟨#[]⟩, .slice none 0 0, .slice none 0 0, .slice none 0 0, .slice (some ⟨u12.heap.size, 0, none⟩) 1 1], mE 4 n14 [t], Lib.hid ⟨S15.out, HK14.out, by omega, B15r.out, B15b.out, hx_one (g := u12.heap.size) (nm := n14) V15t.out B15g.out (by unfold in64; omega) rfl, fun b h => h.elim (HS.out b) (fun e => by omega), h5, by omega, X14.out⟩⟩
    | false =>
     cases h91 : isT 5 [91] (rem L k0) with
     | true =>
      go_wp2_with (go_at_call 103; refine Stand.out ?_)
      refine Stand.mk ?_
      refine (skip_f S10.out HK10.out h46).mono ?_
      rintro e u11 ⟨rfl, m11⟩
      have S11 := Lib.hid (S10.out.call m11)
      have B11r := Lib.hid (m11.blk B10r.out (by omega))
      have B11b := Lib.hid (m11.blk B10b.out (by omega))
      have V11t := Lib.hid (V10t.out.mv m11 Nt.out)
      have zz11 := Mv.size m11
      clear m11
      go_wp2_with (go_at_call 103; refine Stand.out ?_)
      refine Stand.mk ?_
      refine (skip_t S11.out HK10.out h91).mono ?_
      rintro e u12 ⟨rfl, m12⟩
      have S12 := Lib.hid (S11.out.call m12)
      have B12r := Lib.hid (m12.blk B11r.out (by omega))
      have B12b := Lib.hid (m12.blk B11b.out (by omega))
      have V12t := Lib.hid (V11t.out.mv m12 Nt.out)
      have zz12 := Mv.size m12
      clear m12
      have HK12 := Lib.hid (HT.out.next HK10.out h91 (by decide))
      have RX := Lib.hid RN.out
      simp only [h46, h91, if_true, if_false, Bool.false_eq_true] at RX
      go_upto_region 10 with fail
      obtain ⟨u13, hu13⟩ := nam u12.drew
      have S13 := Lib.hid (show St bp a cap L w (k0 + 1) u13 from by rw [← hu13]; exact S12.out.drew)
      have zz13 : u12.heap.size = u13.heap.size := by rw [← hu13]; rfl
      have B13r := Lib.hid (B12r.out.of_heap (w' := u13) (by rw [← hu13]; rfl))
      have B13b := Lib.hid (B12b.out.of_heap (w' := u13) (by rw [← hu13]; rfl))
      have V13t := Lib.hid (V12t.out.same (w1 := u13) (fun _ _ => by rw [← hu13]; rfl))
      refine wp_region_J (S := (fun w' : World => Block w' b5 [.int .i64 op, .string nm, .int .i64 vk, .bool vb, .int .i64 vi, .string vs, .slice la ln lc, .slice ka kn kc, .slice na nn nc, .slice xa xn xc] 66)) (fun j => j == 5) (by kernel_rfl) ?_
      rw [hu13]
      clear hu13
      have hHeld : Block u13 b5 [.int .i64 op, .string nm, .int .i64 vk, .bool vb, .int .i64 vi, .string vs, .slice la ln lc, .slice ka kn kc, .slice na nn nc, .slice xa xn xc] 66 := B13b.out
      refine Jl 0 ?_ (hy := by refine Or.inl ⟨by rfl, ?_⟩; intro w8 hSw; obtain ⟨e0, e1, e2, e3, e4, e5, e6, e7, e8, e9⟩ := Block.ten hSw; clear hSw; go_simp; try with_reducible rfl)
      refine Jt 1 ?_
      refine Jr 2 fun KK hKK => ?_
      go_simp
      go_at_call 97
      refine ((HR.expr g (by omega) 1 (by decide)).go2 S13.out HT.out HK12.out RX.out).mono ?_
      rintro e u14 (⟨p9, r9, rfl, rfl, f9⟩ | ⟨v14, k14, val14, q14, l14, x14, rfl, ⟨T14, ds14, rfl, hT14, hX14⟩, m14⟩)
      ·exact ⟨rfl, f9⟩
      have X14 := Lib.hid x14
      have HK14 := Lib.hid l14
      clear x14 l14
      have S14 := Lib.hid (S13.out.call m14)
      have B14r := Lib.hid (m14.blk B13r.out (by omega))
      have B14b := Lib.hid (m14.blk B13b.out (by omega))
      have V14t := Lib.hid (V13t.out.mv m14 Nt.out)
      have zz14 := Mv.size m14
      clear m14
      obtain ⟨op14, nm14, vk14, vb14, vi14, vs14, la14, ln14, lc14, ka14, kn14, kc14, na14, nn14, nc14, xa14, xn14, xc14, -, -, rfl⟩ := hX14.ten
      have V14x14 := Lib.hid hX14
      clear hX14
      have Nx14 := Lib.hid (show ¬ T14 bp from fun h => absurd (hT14 _ h) (by have := S13.out.size; omega))
      refine hKK _ _ (fun _ _ => B14b.out) ?_
      clear hKK KK hHeld
      have hHeld := B14b.out
      refine Jn ?_
      refine Jr 3 fun KK hKK => ?_
      go_simp
      obtain ⟨u15, hu15⟩ : ∃ u, u14.alloc (.cells #[.int .i64 op, .string nm, .int .i64 vk, .bool vb, .int .i64 vi, .string vs, .slice la ln lc, .slice ka kn kc, .slice na nn nc, .slice xa xn xc, .int .i64 op14, .string nm14, .int .i64 vk14, .bool vb14, .int .i64 vi14, .string vs14, .slice la14 ln14 lc14, .slice ka14 kn14 kc14, .slice na14 nn14 nc14, .slice xa14 xn14 xc14] 66) = u := ⟨_, rfl⟩
      have S15 := Lib.hid (show St bp a cap L w k14 u15 from by rw [← hu15]; exact S14.out.alloc _)
      have zz15 : u15.heap.size = u14.heap.size + 1 := by rw [← hu15]; simp
      have B15r := Lib.hid (show Block u15 _ _ _ from by rw [← hu15]; exact B14r.out.alloc _)
      have B15b := Lib.hid (show Block u15 _ _ _ from by rw [← hu15]; exact B14b.out.alloc _)
      have V15t := Lib.hid (V14t.out.same (w1 := u15) (fun b hb => by rw [← hu15]; exact Below.heap_alloc _ _ _ (V14t.out.1 b hb)))
      have V15x14 := Lib.hid (V14x14.out.same (w1 := u15) (fun b hb => by rw [← hu15]; exact Below.heap_alloc _ _ _ (V14x14.out.1 b hb)))
      have B15g := Lib.hid (show Block u15 u14.heap.size [.int .i64 op, .string nm, .int .i64 vk, .bool vb, .int .i64 vi, .string vs, .slice la ln lc, .slice ka kn kc, .slice na nn nc, .slice xa xn xc, .int .i64 op14, .string nm14, .int .i64 vk14, .bool vb14, .int .i64 vi14, .string vs14, .slice la14 ln14 lc14, .slice ka14 kn14 kc14, .slice na14 nn14 nc14, .slice xa14 xn14 xc14] 66 from by rw [← hu15]; exact Block.new u14 _ _)
      rw [hu15]
      clear hu15
      refine hKK _ _ (fun _ _ => B15b.out) ?_
      clear hKK KK hHeld
      have hHeld := B15b.out
      refine Jn ?_
      refine Jt 4 ?_
      refine Jr 5 fun KK hKK => ?_
      have hTh := block_there B15b.out 0 10 (Nat.le_refl 10)
      refine step_store_mid (by rfl) 66 _ _ (by rfl) b5 0 #[.int .i64 7, .string ⟨#[]⟩, .int .i64 0, .bool false, .int .i64 0, .string ⟨#[]⟩, .slice none 0 0, .slice none 0 0, .slice none 0 0, .slice (some ⟨u14.heap.size, 0, none⟩) 2 2] (by rfl) (by rfl) hTh (by kernel_rfl) (by simp [Value.oneCell']) ?_
      obtain ⟨u16, hu16⟩ : ∃ u, u15.setCells b5 0 ((#[.int .i64 7, .string ⟨#[]⟩, .int .i64 0, .bool false, .int .i64 0, .string ⟨#[]⟩, .slice none 0 0, .slice none 0 0, .slice none 0 0, .slice (some ⟨u14.heap.size, 0, none⟩) 2 2] : Array Value).toList) = u := ⟨_, rfl⟩
      have S16 := Lib.hid (show St bp a cap L w k14 u16 from by rw [← hu16]; exact S15.out.sets (by omega) 0 _)
      have zz16 : u16.heap.size = u15.heap.size := by rw [← hu16]; exact setCells_sz _ _ _
      have B16r := Lib.hid (B15r.out.of_heap (w' := u16) (by rw [← hu16]; exact cells_other (by omega) _ 0 _))
      have B16b := Lib.hid (show Block u16 _ _ _ from by rw [← hu16]; exact B15b.out.setCells [.int .i64 7, .string ⟨#[]⟩, .int .i64 0, .bool false, .int .i64 0, .string ⟨#[]⟩, .slice none 0 0, .slice none 0 0, .slice none 0 0, .slice (some ⟨u14.heap.size, 0, none⟩) 2 2] 0)
      have B16g := Lib.hid (B15g.out.of_heap (w' := u16) (by rw [← hu16]; exact cells_other (by omega) _ 0 _))
      have V16t := Lib.hid (V15t.out.same (w1 := u16) (fun b hb => by rw [← hu16]; exact cells_other (fun e => (HS.out b hb).2 (by rw [← e])) _ 0 _))
      have V16x14 := Lib.hid (V15x14.out.same (w1 := u16) (fun b hb => by rw [← hu16]; exact cells_other (fun e => by have := hT14 b hb; omega) _ 0 _))
      rw [hu16]
      clear hu16
      refine hKK _ _ (fun h => absurd h (by decide)) ?_
      clear hKK KK hHeld hTh
      refine Jn ?_
      refine wpAnyJ_done (by kernel_rfl) ?_ _
      go_wp2_with (go_at_call 118; refine Stand.out ?_)
      refine Stand.mk ?_
      refine (mustSign_go S16.out HT.out HK14.out X14.out).mono ?_
      rintro e u17 (⟨p9, r9, rfl, rfl, f9⟩ | ⟨l17, x17, rfl, m17⟩)
      ·go_wp2_with fail
       exact ⟨rfl, f9⟩
      have X17 := Lib.hid x17
      have HK17 := Lib.hid l17
      clear x17 l17
      have S17 := Lib.hid (S16.out.call m17)
      have B17r := Lib.hid (m17.blk B16r.out (by omega))
      have B17b := Lib.hid (m17.blk B16b.out (by omega))
      have B17g := Lib.hid (m17.blk B16g.out (by omega))
      have V17t := Lib.hid (V16t.out.mv m17 Nt.out)
      have V17x14 := Lib.hid (V16x14.out.mv m17 Nx14.out)
      have zz17 := Mv.size m17
      clear m17
      go_wp2_with fail
      go_roundg g
      case measure => omega
      case rel => exact ⟨(k14 + 1), (fun b => (S b ∨ T14 b) ∨ b = u14.heap.size), [.int .i64 7, .string ⟨#[]⟩, .int .i64 0, .bool false, .int .i64 0, .string ⟨#[]⟩, .slice none 0 0, .slice none 0 0, .slice none 0 0, .slice (some ⟨u14.heap.size, 0, none⟩) 2 2], mE 7 ⟨#[]⟩ [t, v14.ex], Lib.hid ⟨S17.out, HK17.out, by omega, B17r.out, B17b.out, hx_two (g := u14.heap.size) (nm := ⟨#[]⟩) V17t.out V17x14.out B17g.out (by unfold in64; omega) rfl rfl, fun b h => h.elim (fun h => h.elim (HS.out b) (fun h => by have := hT14 b h; omega)) (fun e => by omega), h5, by omega, X17.out⟩⟩
     | false =>
      go_wp2_with (go_at_call 103; refine Stand.out ?_)
      refine Stand.mk ?_
      refine (skip_f S10.out HK10.out h46).mono ?_
      rintro e u11 ⟨rfl, m11⟩
      have S11 := Lib.hid (S10.out.call m11)
      have B11r := Lib.hid (m11.blk B10r.out (by omega))
      have B11b := Lib.hid (m11.blk B10b.out (by omega))
      have V11t := Lib.hid (V10t.out.mv m11 Nt.out)
      have zz11 := Mv.size m11
      clear m11
      go_wp2_with (go_at_call 103; refine Stand.out ?_)
      refine Stand.mk ?_
      refine (skip_f S11.out HK10.out h91).mono ?_
      rintro e u12 ⟨rfl, m12⟩
      have S12 := Lib.hid (S11.out.call m12)
      have B12r := Lib.hid (m12.blk B11r.out (by omega))
      have B12b := Lib.hid (m12.blk B11b.out (by omega))
      have V12t := Lib.hid (V11t.out.mv m12 Nt.out)
      have zz12 := Mv.size m12
      clear m12
      by_cases hp2 : op = 2
      ·subst hp2
       cases h58 : isT 5 [58] (rem L k0) with
       | true =>
        have RX := Lib.hid RN.out
        simp only [h46, h91, h58, if_true, if_false, Bool.false_eq_true, ← HOP.out, true_and] at RX
        have e0 := B12b.out.cell (i := 0) rfl
        go_wp2_with (go_at_call 103; refine Stand.out ?_)
        refine Stand.mk ?_
        refine (skip_t S12.out HK10.out h58).mono ?_
        rintro e u13 ⟨rfl, m13⟩
        have S13 := Lib.hid (S12.out.call m13)
        have B13r := Lib.hid (m13.blk B12r.out (by omega))
        have B13b := Lib.hid (m13.blk B12b.out (by omega))
        have V13t := Lib.hid (V12t.out.mv m13 Nt.out)
        have zz13 := Mv.size m13
        clear m13
        have HK13 := Lib.hid (HT.out.next HK10.out h58 (by decide))
        clear e0
        go_upto_region 13 with fail
        obtain ⟨u14, hu14⟩ := nam u13.drew
        have S14 := Lib.hid (show St bp a cap L w (k0 + 1) u14 from by rw [← hu14]; exact S13.out.drew)
        have zz14 : u13.heap.size = u14.heap.size := by rw [← hu14]; rfl
        have B14r := Lib.hid (B13r.out.of_heap (w' := u14) (by rw [← hu14]; rfl))
        have B14b := Lib.hid (B13b.out.of_heap (w' := u14) (by rw [← hu14]; rfl))
        have V14t := Lib.hid (V13t.out.same (w1 := u14) (fun _ _ => by rw [← hu14]; rfl))
        refine wp_region_J (S := (fun w' : World => Block w' b5 [.int .i64 2, .string nm, .int .i64 vk, .bool vb, .int .i64 vi, .string vs, .slice la ln lc, .slice ka kn kc, .slice na nn nc, .slice xa xn xc] 66)) (fun j => j == 5) (by kernel_rfl) ?_
        rw [hu14]
        clear hu14
        have hHeld : Block u14 b5 [.int .i64 2, .string nm, .int .i64 vk, .bool vb, .int .i64 vi, .string vs, .slice la ln lc, .slice ka kn kc, .slice na nn nc, .slice xa xn xc] 66 := B14b.out
        refine Jt 0 ?_
        refine Jl 2 ?_ (hy := by refine Or.inl ⟨by rfl, ?_⟩; intro w8 hSw; obtain ⟨e0, e1, e2, e3, e4, e5, e6, e7, e8, e9⟩ := Block.ten hSw; clear hSw; go_simp; try with_reducible rfl)
        refine wpAnyJ_ready (rs := [1, 3]) (by kernel_rfl) (by simp) ?_
        refine AllReadyJ.cons rfl (fun KK hKK => ?_) (AllReadyJ.cons rfl (fun KK hKK => ?_) AllReadyJ.nil)
        ·go_simp
         go_at_call 120
         refine (key_go S14.out HT.out HK13.out RX.out).mono ?_
         rintro e u15 (⟨p9, r9, rfl, rfl, f9⟩ | ⟨n15, l15, x15, rfl, m15⟩)
         ·exact ⟨rfl, f9⟩
         have X15 := Lib.hid x15
         have HK15 := Lib.hid l15
         clear x15 l15
         have S15 := Lib.hid (S14.out.call m15)
         have B15r := Lib.hid (m15.blk B14r.out (by omega))
         have B15b := Lib.hid (m15.blk B14b.out (by omega))
         have V15t := Lib.hid (V14t.out.mv m15 Nt.out)
         have zz15 := Mv.size m15
         clear m15
         refine hKK _ _ (fun _ _ => B15b.out) ?_
         clear hKK KK hHeld
         have hHeld := B15b.out
         refine Jn ?_
         refine Jr 3 fun KK hKK => ?_
         go_simp
         obtain ⟨u16, hu16⟩ : ∃ u, u15.alloc (.cells #[.int .i64 2, .string nm, .int .i64 vk, .bool vb, .int .i64 vi, .string vs, .slice la ln lc, .slice ka kn kc, .slice na nn nc, .slice xa xn xc] 66) = u := ⟨_, rfl⟩
         have S16 := Lib.hid (show St bp a cap L w ((k0 + 1) + 1) u16 from by rw [← hu16]; exact S15.out.alloc _)
         have zz16 : u16.heap.size = u15.heap.size + 1 := by rw [← hu16]; simp
         have B16r := Lib.hid (show Block u16 _ _ _ from by rw [← hu16]; exact B15r.out.alloc _)
         have B16b := Lib.hid (show Block u16 _ _ _ from by rw [← hu16]; exact B15b.out.alloc _)
         have V16t := Lib.hid (V15t.out.same (w1 := u16) (fun b hb => by rw [← hu16]; exact Below.heap_alloc _ _ _ (V15t.out.1 b hb)))
         have B16g := Lib.hid (show Block u16 u15.heap.size [.int .i64 2, .string nm, .int .i64 vk, .bool vb, .int .i64 vi, .string vs, .slice la ln lc, .slice ka kn kc, .slice na nn nc, .slice xa xn xc] 66 from by rw [← hu16]; exact Block.new u15 _ _)
         rw [hu16]
         clear hu16
         refine hKK _ _ (fun _ _ => B16b.out) ?_
         clear hKK KK hHeld
         have hHeld := B16b.out
         refine Jn ?_
         refine Jt 4 ?_
         refine Jr 5 fun KK hKK => ?_
         have hTh := block_there B16b.out 0 10 (Nat.le_refl 10)
         refine step_store_mid (by rfl) 66 _ _ (by rfl) b5 0 #[.int .i64 15, .string n15, .int .i64 0, .bool false, .int .i64 0, .string ⟨#[]⟩, .slice none 0 0, .slice none 0 0, .slice none 0 0, .slice (some ⟨u15.heap.size, 0, none⟩) 1 1] (by rfl) (by rfl) hTh (by kernel_rfl) (by simp [Value.oneCell']) ?_
         obtain ⟨u17, hu17⟩ : ∃ u, u16.setCells b5 0 ((#[.int .i64 15, .string n15, .int .i64 0, .bool false, .int .i64 0, .string ⟨#[]⟩, .slice none 0 0, .slice none 0 0, .slice none 0 0, .slice (some ⟨u15.heap.size, 0, none⟩) 1 1] : Array Value).toList) = u := ⟨_, rfl⟩
         have S17 := Lib.hid (show St bp a cap L w ((k0 + 1) + 1) u17 from by rw [← hu17]; exact S16.out.sets (by omega) 0 _)
         have zz17 : u17.heap.size = u16.heap.size := by rw [← hu17]; exact setCells_sz _ _ _
         have B17r := Lib.hid (B16r.out.of_heap (w' := u17) (by rw [← hu17]; exact cells_other (by omega) _ 0 _))
         have B17b := Lib.hid (show Block u17 _ _ _ from by rw [← hu17]; exact B16b.out.setCells [.int .i64 15, .string n15, .int .i64 0, .bool false, .int .i64 0, .string ⟨#[]⟩, .slice none 0 0, .slice none 0 0, .slice none 0 0, .slice (some ⟨u15.heap.size, 0, none⟩) 1 1] 0)
         have B17g := Lib.hid (B16g.out.of_heap (w' := u17) (by rw [← hu17]; exact cells_other (by omega) _ 0 _))
         have V17t := Lib.hid (V16t.out.same (w1 := u17) (fun b hb => by rw [← hu17]; exact cells_other (fun e => (HS.out b hb).2 (by rw [← e])) _ 0 _))
         rw [hu17]
         clear hu17
         refine hKK _ _ (fun h => absurd h (by decide)) ?_
         clear hKK KK hHeld hTh
         refine Jn ?_
         refine wpAnyJ_done (by kernel_rfl) ?_ _
         go_wp2_with fail
         go_roundg g
         case measure => omega
         case rel => exact ⟨((k0 + 1) + 1), (fun b => S b ∨ b = u15.heap.size), [.int .i64 15, .string n15, .int .i64 0, .bool false, .int .i64 0, .string ⟨#[]⟩, .slice none 0 0, .slice none 0 0, .slice none 0 0, .slice (some ⟨u15.heap.size, 0, none⟩) 1 1], mE 15 n15 [t], Lib.hid ⟨S17.out, HK15.out, by omega, B17r.out, B17b.out, hx_one (g := u15.heap.size) (nm := n15) V17t.out B17g.out (by unfold in64; omega) rfl, fun b h => h.elim (HS.out b) (fun e => by omega), h5, by omega, X15.out⟩⟩
        ·go_simp
         obtain ⟨u15, hu15⟩ : ∃ u, u14.alloc (.cells #[.int .i64 2, .string nm, .int .i64 vk, .bool vb, .int .i64 vi, .string vs, .slice la ln lc, .slice ka kn kc, .slice na nn nc, .slice xa xn xc] 66) = u := ⟨_, rfl⟩
         have S15 := Lib.hid (show St bp a cap L w (k0 + 1) u15 from by rw [← hu15]; exact S14.out.alloc _)
         have zz15 : u15.heap.size = u14.heap.size + 1 := by rw [← hu15]; simp
         have B15r := Lib.hid (show Block u15 _ _ _ from by rw [← hu15]; exact B14r.out.alloc _)
         have B15b := Lib.hid (show Block u15 _ _ _ from by rw [← hu15]; exact B14b.out.alloc _)
         have V15t := Lib.hid (V14t.out.same (w1 := u15) (fun b hb => by rw [← hu15]; exact Below.heap_alloc _ _ _ (V14t.out.1 b hb)))
         have B15g := Lib.hid (show Block u15 u14.heap.size [.int .i64 2, .string nm, .int .i64 vk, .bool vb, .int .i64 vi, .string vs, .slice la ln lc, .slice ka kn kc, .slice na nn nc, .slice xa xn xc] 66 from by rw [← hu15]; exact Block.new u14 _ _)
         rw [hu15]
         clear hu15
         refine hKK _ _ (fun _ _ => B15b.out) ?_
         clear hKK KK hHeld
         have hHeld := B15b.out
         refine Jn ?_
         refine Jr 1 fun KK hKK => ?_
         go_simp
         go_at_call 120
         refine (key_go S15.out HT.out HK13.out RX.out).mono ?_
         rintro e u16 (⟨p9, r9, rfl, rfl, f9⟩ | ⟨n16, l16, x16, rfl, m16⟩)
         ·exact ⟨rfl, f9⟩
         have X16 := Lib.hid x16
         have HK16 := Lib.hid l16
         clear x16 l16
         have S16 := Lib.hid (S15.out.call m16)
         have B16r := Lib.hid (m16.blk B15r.out (by omega))
         have B16b := Lib.hid (m16.blk B15b.out (by omega))
         have B16g := Lib.hid (m16.blk B15g.out (by omega))
         have V16t := Lib.hid (V15t.out.mv m16 Nt.out)
         have zz16 := Mv.size m16
         clear m16
         refine hKK _ _ (fun _ _ => B16b.out) ?_
         clear hKK KK hHeld
         have hHeld := B16b.out
         refine Jn ?_
         refine Jt 4 ?_
         refine Jr 5 fun KK hKK => ?_
         have hTh := block_there B16b.out 0 10 (Nat.le_refl 10)
         refine step_store_mid (by rfl) 66 _ _ (by rfl) b5 0 #[.int .i64 15, .string n16, .int .i64 0, .bool false, .int .i64 0, .string ⟨#[]⟩, .slice none 0 0, .slice none 0 0, .slice none 0 0, .slice (some ⟨u14.heap.size, 0, none⟩) 1 1] (by rfl) (by rfl) hTh (by kernel_rfl) (by simp [Value.oneCell']) ?_
         obtain ⟨u17, hu17⟩ : ∃ u, u16.setCells b5 0 ((#[.int .i64 15, .string n16, .int .i64 0, .bool false, .int .i64 0, .string ⟨#[]⟩, .slice none 0 0, .slice none 0 0, .slice none 0 0, .slice (some ⟨u14.heap.size, 0, none⟩) 1 1] : Array Value).toList) = u := ⟨_, rfl⟩
         have S17 := Lib.hid (show St bp a cap L w ((k0 + 1) + 1) u17 from by rw [← hu17]; exact S16.out.sets (by omega) 0 _)
         have zz17 : u17.heap.size = u16.heap.size := by rw [← hu17]; exact setCells_sz _ _ _
         have B17r := Lib.hid (B16r.out.of_heap (w' := u17) (by rw [← hu17]; exact cells_other (by omega) _ 0 _))
         have B17b := Lib.hid (show Block u17 _ _ _ from by rw [← hu17]; exact B16b.out.setCells [.int .i64 15, .string n16, .int .i64 0, .bool false, .int .i64 0, .string ⟨#[]⟩, .slice none 0 0, .slice none 0 0, .slice none 0 0, .slice (some ⟨u14.heap.size, 0, none⟩) 1 1] 0)
         have B17g := Lib.hid (B16g.out.of_heap (w' := u17) (by rw [← hu17]; exact cells_other (by omega) _ 0 _))
         have V17t := Lib.hid (V16t.out.same (w1 := u17) (fun b hb => by rw [← hu17]; exact cells_other (fun e => (HS.out b hb).2 (by rw [← e])) _ 0 _))
         rw [hu17]
         clear hu17
         refine hKK _ _ (fun h => absurd h (by decide)) ?_
         clear hKK KK hHeld hTh
         refine Jn ?_
         refine wpAnyJ_done (by kernel_rfl) ?_ _
         go_wp2_with fail
         go_roundg g
         case measure => omega
         case rel => exact ⟨((k0 + 1) + 1), (fun b => S b ∨ b = u14.heap.size), [.int .i64 15, .string n16, .int .i64 0, .bool false, .int .i64 0, .string ⟨#[]⟩, .slice none 0 0, .slice none 0 0, .slice none 0 0, .slice (some ⟨u14.heap.size, 0, none⟩) 1 1], mE 15 n16 [t], Lib.hid ⟨S17.out, HK16.out, by omega, B17r.out, B17b.out, hx_one (g := u14.heap.size) (nm := n16) V17t.out B17g.out (by unfold in64; omega) rfl, fun b h => h.elim (HS.out b) (fun e => by omega), h5, by omega, X16.out⟩⟩
       | false =>
        have RX := Lib.hid RN.out
        simp only [h46, h91, if_true, if_false, Bool.false_eq_true, ← HOP.out, h58, and_false] at RX
        obtain rfl := Option.some.inj RX.out
        obtain ⟨e0, e1, e2, e3, e4, e5, e6, e7, e8, e9⟩ := Block.ten B12b.out
        go_wp2_with (go_at_call 103; refine Stand.out ?_)
        refine Stand.mk ?_
        refine (skip_f S12.out HK10.out h58).mono ?_
        rintro e u13 ⟨rfl, m13⟩
        have S13 := Lib.hid (S12.out.call m13)
        have B13r := Lib.hid (m13.blk B12r.out (by omega))
        have B13b := Lib.hid (m13.blk B12b.out (by omega))
        have V13t := Lib.hid (V12t.out.mv m13 Nt.out)
        have zz13 := Mv.size m13
        clear m13
        clear e0 e1 e2 e3 e4 e5 e6 e7 e8 e9
        obtain ⟨e0, e1, e2, e3, e4, e5, e6, e7, e8, e9⟩ := Block.ten B13b.out
        have hTh := block_there B13r.out 0 10 (Nat.le_refl 10)
        go_wp2_with (refine wpList_store_mid rfl 66 _ _ rfl w.heap.size 0 #[.int .i64 2, .string nm, .int .i64 vk, .bool vb, .int .i64 vi, .string vs, .slice la ln lc, .slice ka kn kc, .slice na nn nc, .slice xa xn xc] rfl rfl hTh (by kernel_rfl) (by simp [Value.oneCell']) ?_)
        have B99 := B13r.out.setCells [.int .i64 2, .string nm, .int .i64 vk, .bool vb, .int .i64 vi, .string vs, .slice la ln lc, .slice ka kn kc, .slice na nn nc, .slice xa xn xc] 0
        refine bodyPost_ret (results_cell_row (by rfl) _ _ w.heap.size 66 _ (0, 0) _ (by rfl) B99 Tryz.underlying66 rfl (by kernel_rfl)) rfl ?_
        exact ⟨k0, _, hge, HK10.out, rfl, rfl, RtX.mk (V13t.out.sets 0 _ (fun h => absurd (HS.out _ h).1 (by omega))) rfl (fun b h => by have := (HS.out b h).1; omega), (S13.out.sets (Nat.le_refl _) 0 _).mv⟩
      ·skip
       have RX := Lib.hid RN.out
       simp only [h46, h91, if_true, if_false, Bool.false_eq_true, ← HOP.out, hp2, false_and] at RX
       obtain rfl := Option.some.inj RX.out
       obtain ⟨e0, e1, e2, e3, e4, e5, e6, e7, e8, e9⟩ := Block.ten B12b.out
       have hTh := block_there B12r.out 0 10 (Nat.le_refl 10)
       go_wp2_with (refine wpList_store_mid rfl 66 _ _ rfl w.heap.size 0 #[.int .i64 op, .string nm, .int .i64 vk, .bool vb, .int .i64 vi, .string vs, .slice la ln lc, .slice ka kn kc, .slice na nn nc, .slice xa xn xc] rfl rfl hTh (by kernel_rfl) (by simp [Value.oneCell']) ?_)
       have B99 := B12r.out.setCells [.int .i64 op, .string nm, .int .i64 vk, .bool vb, .int .i64 vi, .string vs, .slice la ln lc, .slice ka kn kc, .slice na nn nc, .slice xa xn xc] 0
       refine bodyPost_ret (results_cell_row (by rfl) _ _ w.heap.size 66 _ (0, 0) _ (by rfl) B99 Tryz.underlying66 rfl (by kernel_rfl)) rfl ?_
       exact ⟨k0, _, hge, HK10.out, rfl, rfl, RtX.mk (V12t.out.sets 0 _ (fun h => absurd (HS.out _ h).1 (by omega))) rfl (fun b h => by have := (HS.out b h).1; omega), (S12.out.sets (Nat.le_refl _) 0 _).mv⟩
end Go.Proofs.YteljlahcdipilaaGreat

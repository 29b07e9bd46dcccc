/- Parts Q28 of this seat (pruned, scripts that are alike kept once as default arguments: q1, q2, ..). Conditions: each says its own. -/
import Derived.Test.YteljlahcdipilaaGreatF34
namespace Go.Proofs.YteljlahcdipilaaGreat
open Go.RowKit Go.Shelf
set_option linter.unusedSimpArgs false
set_option linter.unusedVariables false
set_option maxRecDepth 100000
structure ItsAt (bp : Nat) (a : Option Addr) (cap : Nat) (L : List (Tok × Nat)) (w : World) (f b4 kb : Nat) (kd : Int) (uq : Bool) (K : V → List Tok → O) (x : Pr) (g k : Nat) (S : Nat → Prop) (lv : Value) (l : List Itt) (u : World) : Prop where
  st : St bp a cap L w k u
  lt : k < L.length
  ge : kb ≤ k
  ln : l.length ≤ k + 1
  r4 : Block u w.heap.size [.int .i64 0, .slice none 0 0, .slice none 0 0, .int .i64 0, .string ⟨#[]⟩, .int .i64 0, .bool false, .int .i64 0, .string ⟨#[]⟩, .slice none 0 0, .slice none 0 0, .slice none 0 0, .slice none 0 0, .string ⟨#[]⟩, .slice none 0 0, .bool false, .slice none 0 0, .slice none 0 0, .slice none 0 0, .slice none 0 0, .slice none 0 0, .bool false] 71
  r5 : Block u b4 [.int .i64 kd, .slice none 0 0, .slice none 0 0, .int .i64 0, .string ⟨#[]⟩, .int .i64 0, .bool false, .int .i64 0, .string ⟨#[]⟩, .slice none 0 0, .slice none 0 0, .slice none 0 0, .slice none 0 0, .string ⟨#[]⟩, lv, .bool uq, .slice none 0 0, .slice none 0 0, .slice none 0 0, .slice none 0 0, .slice none 0 0, .bool false] 71
  hb : w.heap.size < b4
  row : Row RIt 73 11 (b4 + 1) S u lv l
  le : g ≤ f
  rn : bnd (run g (.its l) (rem L k)) K = some x
set_option maxHeartbeats 8000000 in
theorem rows_any {f : Nat} (kd : Int) (hkd : in64 kd) (bp : Nat) (a : Option Addr) (cap : Nat) (L : List (Tok × Nat)) (k : Nat) (w : World) (x : Pr) (h : Ps bp a cap L k w) (hT : Tk L) (hk : k < L.length)  (hr : run (f + 1) (.rows kd) (rem L k) = some x) :
    Calls Tryz.prog 100 #[.pointer (some ⟨bp, 0, none⟩), .int .i64 kd] w (PR (RtN RCl V.clause) bp L k w x) := by
 have hr : Go.Proofs.YteljlahcdipilaaGreat.step (run f) (.rows kd) (rem L k) = some x := hr
 simp only [Go.Proofs.YteljlahcdipilaaGreat.step, wrd, tail_rem] at hr
 have HT := Lib.hid hT
 have HK0 := Lib.hid hk
 have X0 := Lib.hid hr
 have hbw := h.lt
 obtain ⟨u0, hy0⟩ : ∃ u, w.alloc (.cells #[.int .i64 0, .slice none 0 0, .slice none 0 0, .int .i64 0, .string ⟨#[]⟩, .int .i64 0, .bool false, .int .i64 0, .string ⟨#[]⟩, .slice none 0 0, .slice none 0 0, .slice none 0 0, .slice none 0 0, .string ⟨#[]⟩, .slice none 0 0, .bool false, .slice none 0 0, .slice none 0 0, .slice none 0 0, .slice none 0 0, .slice none 0 0, .bool false] 71) = u := ⟨_, rfl⟩
 have s0 : St bp a cap L w k u0 := by rw [← hy0]; exact (St.start h).alloc _
 have b0 : Block u0 w.heap.size [.int .i64 0, .slice none 0 0, .slice none 0 0, .int .i64 0, .string ⟨#[]⟩, .int .i64 0, .bool false, .int .i64 0, .string ⟨#[]⟩, .slice none 0 0, .slice none 0 0, .slice none 0 0, .slice none 0 0, .string ⟨#[]⟩, .slice none 0 0, .bool false, .slice none 0 0, .slice none 0 0, .slice none 0 0, .slice none 0 0, .slice none 0 0, .bool false] 71 := by rw [← hy0]; exact Block.new w _ _
 have B0r := Lib.hid b0
 clear b0
 have S0 := Lib.hid s0
 have HU := Lib.hid hy0
 clear s0 hy0 h hT hk hr
 have z0 := B0r.out.lt
 go_enter Tryz.func100, Tryz.ntmps100
 go_upto_region 1 with fail
 rw [HU.out]
 obtain ⟨uq, huq⟩ := nam (isT 2 wDISTINCT (rem L k))
 obtain ⟨k1, hk1⟩ := nam ((if uq = true then k + 1 else k))
 have Huq := Lib.hid huq
 have Hk1 := Lib.hid hk1
 clear huq hk1
 go_wp2_with (go_at_call 103; refine Stand.out ?_)
 refine Stand.mk ?_
 refine (skip_b S0.out HT.out HK0.out (by decide) Huq.out Hk1.out).mono ?_
 rintro e u1 ⟨rfl, l1, m1⟩
 have HK1 := Lib.hid l1
 have qk1 : k ≤ k1 := by rw [← Hk1.out]; split <;> omega
 clear l1
 have S1 := Lib.hid (S0.out.call m1)
 have B1r := Lib.hid (m1.blk B0r.out (by omega))
 have zw1 := S1.out.size
 have zz1 := Mv.size m1
 clear m1
 have XE := X0.out
 simp only [Huq.out, tail_rem, rem_if Hk1.out] at XE
 have XE := Lib.hid XE
 have hTh := block_there (Block.new u1 [.int .i64 0, .slice none 0 0, .slice none 0 0, .int .i64 0, .string ⟨#[]⟩, .int .i64 0, .bool false, .int .i64 0, .string ⟨#[]⟩, .slice none 0 0, .slice none 0 0, .slice none 0 0, .slice none 0 0, .string ⟨#[]⟩, .slice none 0 0, .bool false, .slice none 0 0, .slice none 0 0, .slice none 0 0, .slice none 0 0, .slice none 0 0, .bool false] 71) 0 22 (Nat.le_refl 22)
 go_upto_region 2 with (first | (refine wpList_store_mid rfl 71 _ _ rfl u1.heap.size 0 #[.int .i64 kd, .slice none 0 0, .slice none 0 0, .int .i64 0, .string ⟨#[]⟩, .int .i64 0, .bool false, .int .i64 0, .string ⟨#[]⟩, .slice none 0 0, .slice none 0 0, .slice none 0 0, .slice none 0 0, .string ⟨#[]⟩, .slice none 0 0, .bool uq, .slice none 0 0, .slice none 0 0, .slice none 0 0, .slice none 0 0, .slice none 0 0, .bool false] rfl rfl hTh (by kernel_rfl) (by simp [Value.oneCell']) ?_))
 go_frame
 obtain ⟨b4, hb4⟩ := nam u1.heap.size
 rw [hb4]
 obtain ⟨u2, hu2⟩ : ∃ u, (u1.alloc (.cells #[.int .i64 0, .slice none 0 0, .slice none 0 0, .int .i64 0, .string ⟨#[]⟩, .int .i64 0, .bool false, .int .i64 0, .string ⟨#[]⟩, .slice none 0 0, .slice none 0 0, .slice none 0 0, .slice none 0 0, .string ⟨#[]⟩, .slice none 0 0, .bool false, .slice none 0 0, .slice none 0 0, .slice none 0 0, .slice none 0 0, .slice none 0 0, .bool false] 71)).setCells b4 0 ((#[.int .i64 kd, .slice none 0 0, .slice none 0 0, .int .i64 0, .string ⟨#[]⟩, .int .i64 0, .bool false, .int .i64 0, .string ⟨#[]⟩, .slice none 0 0, .slice none 0 0, .slice none 0 0, .slice none 0 0, .string ⟨#[]⟩, .slice none 0 0, .bool uq, .slice none 0 0, .slice none 0 0, .slice none 0 0, .slice none 0 0, .slice none 0 0, .bool false] : Array Value).toList) = u := ⟨_, rfl⟩
 rw [hu2]
 have zb4 : b4 < u2.heap.size ∧ w.heap.size < b4 ∧ u1.heap.size ≤ u2.heap.size ∧ u1.heap.size = b4 := by have := B1r.out.lt; rw [← hu2, setCells_sz, ← hb4]; simp <;> omega
 have S2 := Lib.hid (show St bp a cap L w k1 u2 from by rw [← hu2]; exact (S1.out.alloc _).sets (by have := S1.out.size; omega) 0 _)
 have B2r := Lib.hid (show Block u2 _ _ _ from by rw [← hu2]; exact (B1r.out.alloc _).of_heap (cells_other (by have := B1r.out.lt; omega) _ 0 _))
 have B2b := Lib.hid (show Block u2 b4 [.int .i64 kd, .slice none 0 0, .slice none 0 0, .int .i64 0, .string ⟨#[]⟩, .int .i64 0, .bool false, .int .i64 0, .string ⟨#[]⟩, .slice none 0 0, .slice none 0 0, .slice none 0 0, .slice none 0 0, .string ⟨#[]⟩, .slice none 0 0, .bool uq, .slice none 0 0, .slice none 0 0, .slice none 0 0, .slice none 0 0, .slice none 0 0, .bool false] 71 from by rw [← hu2, ← hb4]; exact (Block.new u1 [.int .i64 0, .slice none 0 0, .slice none 0 0, .int .i64 0, .string ⟨#[]⟩, .int .i64 0, .bool false, .int .i64 0, .string ⟨#[]⟩, .slice none 0 0, .slice none 0 0, .slice none 0 0, .slice none 0 0, .string ⟨#[]⟩, .slice none 0 0, .bool false, .slice none 0 0, .slice none 0 0, .slice none 0 0, .slice none 0 0, .slice none 0 0, .bool false] 71).all [.int .i64 kd, .slice none 0 0, .slice none 0 0, .int .i64 0, .string ⟨#[]⟩, .int .i64 0, .bool false, .int .i64 0, .string ⟨#[]⟩, .slice none 0 0, .slice none 0 0, .slice none 0 0, .slice none 0 0, .string ⟨#[]⟩, .slice none 0 0, .bool uq, .slice none 0 0, .slice none 0 0, .slice none 0 0, .slice none 0 0, .slice none 0 0, .bool false] rfl)
 clear hu2 hb4 hTh
 go_wp2_with (go_at_call 116; refine Stand.out ?_)
 refine Stand.mk ?_
 refine ((item_s f).go2 S2.out HT.out HK1.out XE.out).mono ?_
 rintro e u3 (⟨p9, r9, rfl, rfl, f9⟩ | ⟨v3, k3, val3, q3, l3, x3, rfl, ⟨T3, ds3, rfl, hT3, hX3⟩, m3⟩)
 ·go_wp2_with fail
  exact ⟨rfl, f9⟩
 have X3 := Lib.hid x3
 have HK3 := Lib.hid l3
 clear x3 l3
 have S3 := Lib.hid (S2.out.call m3)
 have B3r := Lib.hid (m3.blk B2r.out (by omega))
 have B3b := Lib.hid (m3.blk B2b.out (by omega))
 have zw3 := S3.out.size
 have zz3 := Mv.size m3
 clear m3
 obtain ⟨op3, nm3, vk3, vb3, vi3, vs3, la3, ln3, lc3, ka3, kn3, kc3, na3, nn3, nc3, xa3, xn3, xc3, as3, rfl⟩ := it_cells hX3
 have V3p := Lib.hid hX3
 clear hX3
 have Np := Lib.hid hT3
 have BA := B3b.out.alloc (.cells #[.int .i64 op3, .string nm3, .int .i64 vk3, .bool vb3, .int .i64 vi3, .string vs3, .slice la3 ln3 lc3, .slice ka3 kn3 kc3, .slice na3 nn3 nc3, .slice xa3 xn3 xc3, .string as3] 73)
 have c9 := BA.cell (i := 14) rfl
 have d9 := BA.free 14
 clear BA
 go_upto_region 3 with fail
 clear c9 d9
 obtain ⟨u4, hu⟩ : ∃ u, u3.alloc (.cells #[.int .i64 op3, .string nm3, .int .i64 vk3, .bool vb3, .int .i64 vi3, .string vs3, .slice la3 ln3 lc3, .slice ka3 kn3 kc3, .slice na3 nn3 nc3, .slice xa3 xn3 xc3, .string as3] 73) = u := ⟨_, rfl⟩
 rw [hu]
 have S4 := Lib.hid (show St bp a cap L w k3 u4 from by rw [← hu]; exact S3.out.alloc _)
 have zz4 : u4.heap.size = u3.heap.size + 1 := by rw [← hu]; simp
 have B4r := Lib.hid (show Block u4 _ _ _ from by rw [← hu]; exact B3r.out.alloc _)
 have B4b := Lib.hid (show Block u4 _ _ _ from by rw [← hu]; exact B3b.out.alloc _)
 have B4g := Lib.hid (show Block u4 u3.heap.size [.int .i64 op3, .string nm3, .int .i64 vk3, .bool vb3, .int .i64 vi3, .string vs3, .slice la3 ln3 lc3, .slice ka3 kn3 kc3, .slice na3 nn3 nc3, .slice xa3 xn3 xc3, .string as3] 73 from by rw [← hu]; exact Block.new u3 _ _)
 have V4p := Lib.hid (show HG _ _ u4 from by rw [← hu]; exact V3p.out.alloc _)
 clear hu
 have c14 := B4b.out.cell (i := 14) rfl
 have d14 := B4b.out.free 14
 clear c14 d14
 obtain ⟨u5, hu⟩ : ∃ u, (u4.setCell ⟨b4, 14, none⟩ (.slice (some ⟨u3.heap.size, 0, none⟩) 1 1)) = u := ⟨_, rfl⟩
 rw [hu]
 have S5 := Lib.hid (show St bp a cap L w k3 u5 from by rw [← hu]; exact (S4.out.set (by omega) 14 _))
 have zz5 : u5.heap.size = u4.heap.size := by rw [← hu]; simp [World.size_setCell]
 have hk5 : ∀ q, q ≠ b4 → u5.heap[q]? = u4.heap[q]? := fun q hq => by rw [← hu, Below.heap_setCell _ ⟨b4, 14, none⟩ _ q hq]
 have B5r := Lib.hid (B4r.out.of_heap (hk5 _ (by omega)))
 have B5b := Lib.hid (show Block u5 b4 [.int .i64 kd, .slice none 0 0, .slice none 0 0, .int .i64 0, .string ⟨#[]⟩, .int .i64 0, .bool false, .int .i64 0, .string ⟨#[]⟩, .slice none 0 0, .slice none 0 0, .slice none 0 0, .slice none 0 0, .string ⟨#[]⟩, .slice (some ⟨u3.heap.size, 0, none⟩) 1 1, .bool uq, .slice none 0 0, .slice none 0 0, .slice none 0 0, .slice none 0 0, .slice none 0 0, .bool false] 71 from by rw [← hu]; exact (B4b.out.set 14 _))
 have B5g := Lib.hid (B4g.out.of_heap (hk5 _ (by omega)))
 have V5p := Lib.hid (V4p.out.same (w1 := u5) (fun b hb => hk5 b (fun e => absurd (hT3 _ hb) (by omega))))
 clear hu hk5
 obtain ⟨K, hK⟩ : ∃ K : V → List Tok → O, (fun is r1 => bnd (run f .sorts r1) fun os r2 => bnd (run f (.maybe wSKIP) r2) fun sk r3 => bnd (run f (.maybe wLIMIT) r3) fun li r4 => okP (.cl { bareC kd with items := is.items, uniq := uq, order := os.sorts, skip := sk.exs, limit := li.exs }) r4) = K := ⟨_, rfl⟩
 have XK := X3.out
 rw [hK] at XK
 have HKD := Lib.hid hK
 clear hK
 go_loopg [] f (fun g wr => ∃ k0 S lv l, Hid (ItsAt bp a cap L w f b4 k kd uq K x g k0 S lv l wr))
 case atStart => exact ⟨k3, _, _, [v3.item], Lib.hid ⟨S5.out, HK3.out, by omega, by simp, B5r.out, B5b.out, by omega, Row.one_at B5g.out V5p.out rfl (fun b hb => ⟨by have := hT3 b hb; omega, by have := V3p.out.1 b hb; omega⟩) (by omega), Nat.le_refl _, XK⟩⟩
 case round =>
  clear XK X3 X0 S5 B5r B5b B5g V5p HU
  obtain ⟨k0, S, lv, l, hP⟩ := hrel
  have hP := hP.out
  cases gk with
  | zero => exact absurd hP.rn (by intro h; cases h)
  | succ g =>
   have rn : bnd (Go.Proofs.YteljlahcdipilaaGreat.step (run g) (.its l) (rem L k0)) K = some x := hP.rn
   simp only [Go.Proofs.YteljlahcdipilaaGreat.step, sigB, tail_rem] at rn
   have S20 := Lib.hid hP.st
   have zw20 := hP.st.size
   have R20a := Lib.hid hP.row
   have B20r := Lib.hid hP.r4
   have B20b := Lib.hid hP.r5
   have HK20 := Lib.hid hP.lt
   have hln := hP.ln
   have hge := hP.ge
   have hll := hP.lt
   have hL := hP.st.ln
   have hgf := hP.le
   have hb4 := hP.hb
   have zb5 := hP.r5.lt
   have RN := Lib.hid rn
   clear hP rn
   cases h44 : isT 5 [44] (rem L k0) with
   | true =>
    have RY := RN.out
    simp only [h44, if_true, bnd_bnd] at RY
    have RZ := Lib.hid RY
    clear RY
    go_wp2_with (go_at_call 103; refine Stand.out ?_)
    refine Stand.mk ?_
    refine (skip_t S20.out HK20.out h44).mono ?_
    rintro e u21 ⟨rfl, m21⟩
    have S21 := Lib.hid (S20.out.call m21)
    have B21r := Lib.hid (m21.blk B20r.out (by omega))
    have B21b := Lib.hid (m21.blk B20b.out (by omega))
    have R21a := Lib.hid (R20a.out.mv m21 (by omega))
    have zw21 := S21.out.size
    have zz21 := Mv.size m21
    clear m21
    have HK21 := Lib.hid (HT.out.next HK20.out h44 (by decide))
    go_upto_region 4 with fail
    obtain ⟨u22, hu22⟩ := nam u21.drew
    have S22 := Lib.hid (show St bp a cap L w (k0 + 1) u22 from by rw [← hu22]; exact S21.out.drew)
    have zz22 : u21.heap.size = u22.heap.size := by rw [← hu22]; rfl
    have B22r := Lib.hid (B21r.out.of_heap (w' := u22) (by rw [← hu22]; rfl))
    have B22b := Lib.hid (B21b.out.of_heap (w' := u22) (by rw [← hu22]; rfl))
    have R22a := Lib.hid (R21a.out.same (w1 := u22) (fun _ _ => by rw [← hu22]; rfl))
    refine wp_region_J (S := (fun w' : World => w'.cell? ⟨b4, 14, none⟩ = some (lv))) (fun j => j == 7) (by kernel_rfl) ?_
    rw [hu22]
    clear hu22
    have hHeld : ((fun w' : World => w'.cell? ⟨b4, 14, none⟩ = some (lv))) u22 := B22b.out.cell (i := 14) rfl
    refine Jt 0 ?_
    refine Jl 1 ?_
    refine Jt 2 ?_
    refine Jr 3 fun KK hKK => ?_
    go_simp
    go_at_call 116
    refine ((item_s g).go2 S22.out HT.out HK21.out RZ.out).mono ?_
    rintro e u23 (⟨p9, r9, rfl, rfl, f9⟩ | ⟨v23, k23, val23, q23, l23, x23, rfl, ⟨T23, ds23, rfl, hT23, hX23⟩, m23⟩)
    ·exact ⟨rfl, f9⟩
    have X23 := Lib.hid x23
    have HK23 := Lib.hid l23
    clear x23 l23
    have S23 := Lib.hid (S22.out.call m23)
    have B23r := Lib.hid (m23.blk B22r.out (by omega))
    have B23b := Lib.hid (m23.blk B22b.out (by omega))
    have R23a := Lib.hid (R22a.out.mv m23 (by omega))
    have zw23 := S23.out.size
    have zz23 := Mv.size m23
    clear m23
    obtain ⟨op23, nm23, vk23, vb23, vi23, vs23, la23, ln23, lc23, ka23, kn23, kc23, na23, nn23, nc23, xa23, xn23, xc23, as23, rfl⟩ := it_cells hX23
    have V23y := Lib.hid hX23
    clear hX23
    have Ny := Lib.hid hT23
    refine hKK _ _ (fun _ _ => B23b.out.cell (i := 14) rfl) ?_
    clear hKK KK hHeld
    have hHeld := B23b.out.cell (i := 14) rfl
    refine Jn ?_
    refine Jr 4 fun KK hKK => ?_
    go_simp
    refine hKK _ _ (fun _ _ => (B23b.out.alloc _).cell (i := 14) rfl) ?_
    clear hKK KK hHeld
    have hHeld := (B23b.out.alloc (.cells #[.int .i64 op23, .string nm23, .int .i64 vk23, .bool vb23, .int .i64 vi23, .string vs23, .slice la23 ln23 lc23, .slice ka23 kn23 kc23, .slice na23 nn23 nc23, .slice xa23 xn23 xc23, .string as23] 73)).cell (i := 14) rfl
    refine Jn ?_
    refine Jr 5 fun KK hKK => ?_
    refine step_append_row (R := RIt) rfl _ _ 67 rfl Tryz.underlying67 Tryz.infoIt rfl (by decide) (by decide) R23a.out V23y.out rfl (fun b hb => ⟨by have := hT23 b hb; omega, fun e => absurd (hT23 b hb) (by have := (R22a.out.lt (.inr e)).2; omega)⟩) rfl rfl (by simp [Value.oneCell']) (by omega) (by omega) ?_
    intro lv24 u24 hR hg ho hp
    obtain ⟨ga24, gn24, gc24, rfl⟩ := hR.slice
    have S24 := Lib.hid ((S23.out.alloc _).grown hg (fun q e => by have := ho q e; omega))
    have R24a := Lib.hid hR
    have zz24 : u23.heap.size + 1 ≤ u24.heap.size := by have := hg.size; simpa using this
    have B24r := Lib.hid (B23r.out.of_heap (w' := u24) ((hg.block _ (by have := B23r.out.lt; simp; omega) (fun e => by have := ho _ e.symm; omega)).trans (Below.heap_alloc _ _ _ B23r.out.lt)))
    have B24b := Lib.hid (B23b.out.of_heap (w' := u24) ((hg.block _ (by have := B23b.out.lt; simp; omega) (fun e => by have := ho _ e.symm; omega)).trans (Below.heap_alloc _ _ _ B23b.out.lt)))
    refine hKK _ _ (fun _ _ => B24b.out.cell (i := 14) rfl) ?_
    clear hKK KK hHeld
    have hHeld := B24b.out.cell (i := 14) rfl
    refine Jn ?_
    refine Jt 6 ?_
    refine Jr 7 fun KK hKK => ?_
    have d14 := B24b.out.free 14
    have c14 := B24b.out.cell (i := 14) rfl
    go_simp
    have c14 := B24b.out.cell (i := 14) rfl
    have d14 := B24b.out.free 14
    clear c14 d14
    obtain ⟨u25, hu⟩ : ∃ u, (u24.setCell ⟨b4, 14, none⟩ (.slice ga24 gn24 gc24)) = u := ⟨_, rfl⟩
    rw [hu]
    have S25 := Lib.hid (show St bp a cap L w k23 u25 from by rw [← hu]; exact (S24.out.set (by omega) 14 _))
    have zz25 : u25.heap.size = u24.heap.size := by rw [← hu]; simp [World.size_setCell]
    have hk25 : ∀ q, q ≠ b4 → u25.heap[q]? = u24.heap[q]? := fun q hq => by rw [← hu, Below.heap_setCell _ ⟨b4, 14, none⟩ _ q hq]
    have B25r := Lib.hid (B24r.out.of_heap (hk25 _ (by omega)))
    have B25b := Lib.hid (show Block u25 b4 [.int .i64 kd, .slice none 0 0, .slice none 0 0, .int .i64 0, .string ⟨#[]⟩, .int .i64 0, .bool false, .int .i64 0, .string ⟨#[]⟩, .slice none 0 0, .slice none 0 0, .slice none 0 0, .slice none 0 0, .string ⟨#[]⟩, .slice ga24 gn24 gc24, .bool uq, .slice none 0 0, .slice none 0 0, .slice none 0 0, .slice none 0 0, .slice none 0 0, .bool false] 71 from by rw [← hu]; exact (B24b.out.set 14 _))
    have R25a := Lib.hid (R24a.out.same (w1 := u25) (fun b hb => hk25 b (fun e => by have := (R24a.out.lt hb).1; omega)))
    clear hu hk25
    refine hKK _ _ (fun h => absurd h (by decide)) ?_
    clear hKK KK hHeld
    refine Jn ?_
    refine wpAnyJ_done (by kernel_rfl) ?_ _
    go_wp2_with fail
    go_roundg g
    case measure => omega
    case rel => exact ⟨k23, _, _, l ++ [v23.item], Lib.hid ⟨S25.out, HK23.out, by omega, by simp; omega, B25r.out, B25b.out, hb4, R25a.out, by omega, X23.out⟩⟩
   | false =>
    have RY := RN.out
    simp only [h44, if_false, Bool.false_eq_true, bnd_okP] at RY
    rw [← HKD.out] at RY
    have RZ := Lib.hid RY
    clear RY
    go_wp2_with (go_at_call 103; refine Stand.out ?_)
    refine Stand.mk ?_
    refine (skip_f S20.out HK20.out h44).mono ?_
    rintro e u21 ⟨rfl, m21⟩
    have S21 := Lib.hid (S20.out.call m21)
    have B21r := Lib.hid (m21.blk B20r.out (by omega))
    have B21b := Lib.hid (m21.blk B20b.out (by omega))
    have R21a := Lib.hid (R20a.out.mv m21 (by omega))
    have zw21 := S21.out.size
    have zz21 := Mv.size m21
    clear m21
    obtain ⟨Si, ia, ic, rfl, hsl, hSi, hRi⟩ := R21a.out.fin
    have V21i := Lib.hid hRi
    have HSI := Lib.hid hsl
    have hSI : ∀ q, Si q → b4 + 1 ≤ q := fun q hq => (R21a.out.lt (hSi q hq)).1
    clear hRi hsl
    have Ni := Lib.hid hSI
    go_wp2_with (go_at_call 117; refine Stand.out ?_)
    refine Stand.mk ?_
    refine ((sorts_s f).go2 S21.out HT.out HK20.out RZ.out).mono ?_
    rintro e u22 (⟨p9, r9, rfl, rfl, f9⟩ | ⟨v22, k22, val22, q22, l22, x22, rfl, ⟨T22, xa22, xc22, rfl, hT22, hX22, hs22⟩, m22⟩)
    ·go_wp2_with fail
     exact ⟨rfl, f9⟩
    have X22 := Lib.hid x22
    have HK22 := Lib.hid l22
    clear x22 l22
    have S22 := Lib.hid (S21.out.call m22)
    have B22r := Lib.hid (m22.blk B21r.out (by omega))
    have B22b := Lib.hid (m22.blk B21b.out (by omega))
    have V22i := Lib.hid (V21i.out.mv m22 (fun h => absurd (Ni.out _ h) (by omega)))
    have zw22 := S22.out.size
    have zz22 := Mv.size m22
    clear m22
    have V22o := Lib.hid hX22
    clear hX22
    have No := Lib.hid hT22
    have HSo := Lib.hid hs22
    clear hs22
    have c16 := B22b.out.cell (i := 16) rfl
    have d16 := B22b.out.free 16
    go_upto_region 6 with fail
    clear c16 d16
    obtain ⟨u23, hu⟩ : ∃ u, (u22.setCell ⟨b4, 16, none⟩ (.slice xa22 v22.sorts.length xc22)) = u := ⟨_, rfl⟩
    rw [hu]
    have S23 := Lib.hid (show St bp a cap L w k22 u23 from by rw [← hu]; exact (S22.out.set (by omega) 16 _))
    have zz23 : u23.heap.size = u22.heap.size := by rw [← hu]; simp [World.size_setCell]
    have hk23 : ∀ q, q ≠ b4 → u23.heap[q]? = u22.heap[q]? := fun q hq => by rw [← hu, Below.heap_setCell _ ⟨b4, 16, none⟩ _ q hq]
    have B23r := Lib.hid (B22r.out.of_heap (hk23 _ (by omega)))
    have B23b := Lib.hid (show Block u23 b4 [.int .i64 kd, .slice none 0 0, .slice none 0 0, .int .i64 0, .string ⟨#[]⟩, .int .i64 0, .bool false, .int .i64 0, .string ⟨#[]⟩, .slice none 0 0, .slice none 0 0, .slice none 0 0, .slice none 0 0, .string ⟨#[]⟩, .slice ia l.length ic, .bool uq, .slice xa22 v22.sorts.length xc22, .slice none 0 0, .slice none 0 0, .slice none 0 0, .slice none 0 0, .bool false] 71 from by rw [← hu]; exact (B22b.out.set 16 _))
    have V23i := Lib.hid (V22i.out.same (w1 := u23) (fun b hb => hk23 b (fun e => absurd (Ni.out _ hb) (by omega))))
    have V23o := Lib.hid (V22o.out.same (w1 := u23) (fun b hb => hk23 b (fun e => absurd (No.out _ hb) (by omega))))
    clear hu hk23
    go_wp2_with (go_at_call 96; refine Stand.out ?_)
    refine Stand.mk ?_
    refine ((may_s f wSKIP).go2 S23.out HT.out HK22.out X22.out).mono ?_
    rintro e u24 (⟨p9, r9, rfl, rfl, f9⟩ | ⟨v24, k24, val24, q24, l24, x24, rfl, ⟨T24, xa24, xc24, rfl, hT24, hX24, hs24⟩, m24⟩)
    ·go_wp2_with fail
     exact ⟨rfl, f9⟩
    have X24 := Lib.hid x24
    have HK24 := Lib.hid l24
    clear x24 l24
    have S24 := Lib.hid (S23.out.call m24)
    have B24r := Lib.hid (m24.blk B23r.out (by omega))
    have B24b := Lib.hid (m24.blk B23b.out (by omega))
    have V24i := Lib.hid (V23i.out.mv m24 (fun h => absurd (Ni.out _ h) (by omega)))
    have V24o := Lib.hid (V23o.out.mv m24 (fun h => absurd (No.out _ h) (by omega)))
    have zw24 := S24.out.size
    have zz24 := Mv.size m24
    clear m24
    have V24s := Lib.hid hX24
    clear hX24
    have Ns := Lib.hid hT24
    have HSs := Lib.hid hs24
    clear hs24
    have c17 := B24b.out.cell (i := 17) rfl
    have d17 := B24b.out.free 17
    go_upto_region 7 with fail
    clear c17 d17
    obtain ⟨u25, hu⟩ : ∃ u, (u24.setCell ⟨b4, 17, none⟩ (.slice xa24 v24.exs.length xc24)) = u := ⟨_, rfl⟩
    rw [hu]
    have S25 := Lib.hid (show St bp a cap L w k24 u25 from by rw [← hu]; exact (S24.out.set (by omega) 17 _))
    have zz25 : u25.heap.size = u24.heap.size := by rw [← hu]; simp [World.size_setCell]
    have hk25 : ∀ q, q ≠ b4 → u25.heap[q]? = u24.heap[q]? := fun q hq => by rw [← hu, Below.heap_setCell _ ⟨b4, 17, none⟩ _ q hq]
    have B25r := Lib.hid (B24r.out.of_heap (hk25 _ (by omega)))
    have B25b := Lib.hid (show Block u25 b4 [.int .i64 kd, .slice none 0 0, .slice none 0 0, .int .i64 0, .string ⟨#[]⟩, .int .i64 0, .bool false, .int .i64 0, .string ⟨#[]⟩, .slice none 0 0, .slice none 0 0, .slice none 0 0, .slice none 0 0, .string ⟨#[]⟩, .slice ia l.length ic, .bool uq, .slice xa22 v22.sorts.length xc22, .slice xa24 v24.exs.length xc24, .slice none 0 0, .slice none 0 0, .slice none 0 0, .bool false] 71 from by rw [← hu]; exact (B24b.out.set 17 _))
    have V25i := Lib.hid (V24i.out.same (w1 := u25) (fun b hb => hk25 b (fun e => absurd (Ni.out _ hb) (by omega))))
    have V25o := Lib.hid (V24o.out.same (w1 := u25) (fun b hb => hk25 b (fun e => absurd (No.out _ hb) (by omega))))
    have V25s := Lib.hid (V24s.out.same (w1 := u25) (fun b hb => hk25 b (fun e => absurd (Ns.out _ hb) (by omega))))
    clear hu hk25
    go_wp2_with (go_at_call 96; refine Stand.out ?_)
    refine Stand.mk ?_
    refine ((may_s f wLIMIT).go2 S25.out HT.out HK24.out X24.out).mono ?_
    rintro e u26 (⟨p9, r9, rfl, rfl, f9⟩ | ⟨v26, k26, val26, q26, l26, x26, rfl, ⟨T26, xa26, xc26, rfl, hT26, hX26, hs26⟩, m26⟩)
    ·go_wp2_with fail
     exact ⟨rfl, f9⟩
    have X26 := Lib.hid x26
    have HK26 := Lib.hid l26
    clear x26 l26
    have S26 := Lib.hid (S25.out.call m26)
    have B26r := Lib.hid (m26.blk B25r.out (by omega))
    have B26b := Lib.hid (m26.blk B25b.out (by omega))
    have V26i := Lib.hid (V25i.out.mv m26 (fun h => absurd (Ni.out _ h) (by omega)))
    have V26o := Lib.hid (V25o.out.mv m26 (fun h => absurd (No.out _ h) (by omega)))
    have V26s := Lib.hid (V25s.out.mv m26 (fun h => absurd (Ns.out _ h) (by omega)))
    have zw26 := S26.out.size
    have zz26 := Mv.size m26
    clear m26
    have V26t := Lib.hid hX26
    clear hX26
    have Nt := Lib.hid hT26
    have HSt := Lib.hid hs26
    clear hs26
    have c18 := B26b.out.cell (i := 18) rfl
    have d18 := B26b.out.free 18
    go_upto_region 8 with fail
    clear c18 d18
    obtain ⟨u27, hu⟩ : ∃ u, (u26.setCell ⟨b4, 18, none⟩ (.slice xa26 v26.exs.length xc26)) = u := ⟨_, rfl⟩
    rw [hu]
    have S27 := Lib.hid (show St bp a cap L w k26 u27 from by rw [← hu]; exact (S26.out.set (by omega) 18 _))
    have zz27 : u27.heap.size = u26.heap.size := by rw [← hu]; simp [World.size_setCell]
    have hk27 : ∀ q, q ≠ b4 → u27.heap[q]? = u26.heap[q]? := fun q hq => by rw [← hu, Below.heap_setCell _ ⟨b4, 18, none⟩ _ q hq]
    have B27r := Lib.hid (B26r.out.of_heap (hk27 _ (by omega)))
    have B27b := Lib.hid (show Block u27 b4 [.int .i64 kd, .slice none 0 0, .slice none 0 0, .int .i64 0, .string ⟨#[]⟩, .int .i64 0, .bool false, .int .i64 0, .string ⟨#[]⟩, .slice none 0 0, .slice none 0 0, .slice none 0 0, .slice none 0 0, .string ⟨#[]⟩, .slice ia l.length ic, .bool uq, .slice xa22 v22.sorts.length xc22, .slice xa24 v24.exs.length xc24, .slice xa26 v26.exs.length xc26, .slice none 0 0, .slice none 0 0, .bool false] 71 from by rw [← hu]; exact (B26b.out.set 18 _))
    have V27i := Lib.hid (V26i.out.same (w1 := u27) (fun b hb => hk27 b (fun e => absurd (Ni.out _ hb) (by omega))))
    have V27o := Lib.hid (V26o.out.same (w1 := u27) (fun b hb => hk27 b (fun e => absurd (No.out _ hb) (by omega))))
    have V27s := Lib.hid (V26s.out.same (w1 := u27) (fun b hb => hk27 b (fun e => absurd (Ns.out _ hb) (by omega))))
    have V27t := Lib.hid (V26t.out.same (w1 := u27) (fun b hb => hk27 b (fun e => absurd (Nt.out _ hb) (by omega))))
    clear hu hk27
    obtain rfl := Option.some.inj X26.out
    have hRg := B27b.out.rng
    have hTh := block_there B27r.out 0 22 (Nat.le_refl 22)
    go_wp2_with (first | (refine wpList_load_mid rfl 71 _ rfl b4 0 rfl [.int .i64 kd, .slice none 0 0, .slice none 0 0, .int .i64 0, .string ⟨#[]⟩, .int .i64 0, .bool false, .int .i64 0, .string ⟨#[]⟩, .slice none 0 0, .slice none 0 0, .slice none 0 0, .slice none 0 0, .string ⟨#[]⟩, .slice ia l.length ic, .bool uq, .slice xa22 v22.sorts.length xc22, .slice xa24 v24.exs.length xc24, .slice xa26 v26.exs.length xc26, .slice none 0 0, .slice none 0 0, .bool false] _ hRg Tryz.underlying71 rfl (by kernel_rfl) ?_) | (refine wpList_store_mid rfl 71 _ _ rfl w.heap.size 0 #[.int .i64 kd, .slice none 0 0, .slice none 0 0, .int .i64 0, .string ⟨#[]⟩, .int .i64 0, .bool false, .int .i64 0, .string ⟨#[]⟩, .slice none 0 0, .slice none 0 0, .slice none 0 0, .slice none 0 0, .string ⟨#[]⟩, .slice ia l.length ic, .bool uq, .slice xa22 v22.sorts.length xc22, .slice xa24 v24.exs.length xc24, .slice xa26 v26.exs.length xc26, .slice none 0 0, .slice none 0 0, .bool false] rfl rfl hTh (by kernel_rfl) (by simp [Value.oneCell']) ?_))
    have B99 := B27r.out.all [.int .i64 kd, .slice none 0 0, .slice none 0 0, .int .i64 0, .string ⟨#[]⟩, .int .i64 0, .bool false, .int .i64 0, .string ⟨#[]⟩, .slice none 0 0, .slice none 0 0, .slice none 0 0, .slice none 0 0, .string ⟨#[]⟩, .slice ia l.length ic, .bool uq, .slice xa22 v22.sorts.length xc22, .slice xa24 v24.exs.length xc24, .slice xa26 v26.exs.length xc26, .slice none 0 0, .slice none 0 0, .bool false] rfl
    refine bodyPost_ret (results_cell_row (by rfl) _ _ w.heap.size 71 _ (0, 0) _ (by rfl) B99 Tryz.underlying71 rfl (by kernel_rfl)) rfl ?_
    have VC := mk_cl (c := { bareC kd with items := l, uniq := uq, order := v22.sorts, skip := v24.exs, limit := v26.exs }) hkd (nRow u27) nil_sl (nRowX u27) nil_sl (emptyX_hx u27) V27i.out HSI.out V27o.out HSo.out V27s.out HSs.out V27t.out HSt.out (nRow u27) nil_sl (nRowK u27) nil_sl
    have hlo : ∀ q, ((((((((False ∨ False) ∨ False) ∨ Si q) ∨ T22 q) ∨ T24 q) ∨ T26 q) ∨ False) ∨ False) → w.heap.size + 1 ≤ q := fun q h => by
     have h : Si q ∨ T22 q ∨ T24 q ∨ T26 q := by simpa [or_assoc] using h
     rcases h with h | h | h | h
     ·have := Ni.out q h; omega
     ·have := hT22 q h; omega
     ·have := hT24 q h; omega
     ·have := hT26 q h; omega
    exact ⟨k26, _, by omega, HK26.out, rfl, rfl, RtN.mk (VC.sets 0 _ (fun h => absurd (hlo _ h) (by omega))) (rfl) (fun b h => by have := hlo b h; omega), (S27.out.sets (Nat.le_refl _) 0 _).mv⟩
end Go.Proofs.YteljlahcdipilaaGreat

/- Parts Q24, Q25 of this seat (pruned, scripts that are alike kept once as default arguments: q1, q2, ..). Conditions: each says its own. -/
import Derived.Test.YteljlahcdipilaaGreatF32
namespace Go.Proofs.YteljlahcdipilaaGreat
open Go.RowKit Go.Shelf
set_option linter.unusedSimpArgs false
set_option linter.unusedVariables false
set_option maxRecDepth 100000
theorem node_s (f : Nat) : Said 101 [] .node (RtN RNp V.node) f := by
 cases f with
 | zero => exact Said.zero
 | succ f => exact fun bp a cap L k w x h hT hk hr => node_any bp a cap L k w x h hT hk hr
theorem edge_s (f : Nat) : Said 128 [] .edge (RtN REp V.edge) f := by
 cases f with
 | zero => exact Said.zero
 | succ f => exact fun bp a cap L k w x h hT hk hr => edge_any bp a cap L k w x h hT hk hr
structure SegAt (bp : Nat) (a : Option Addr) (cap : Nat) (L : List (Tok × Nat)) (w : World) (f b4 kb : Nat) (x : Pr) (g k : Nat) (Sn Se : Nat → Prop) (nv ev : Value) (ns : List Npt) (es : List Ept) (u : World) : Prop where
  st : St bp a cap L w k u
  lt : k < L.length
  ln : es.length + kb ≤ k ∧ ns.length = es.length + 1
  kk : kb = 0
  r4 : Block u w.heap.size [.slice none 0 0, .slice none 0 0] 58
  r5 : Block u b4 [nv, ev] 58
  hb : w.heap.size < b4
  rn' : Row RNp 85 4 (w.heap.size + 1) Sn u nv ns
  re : Row REp 87 5 (b4 + 1) Se u ev es
  fa : ∀ q, (Sn q ∨ nv.ownBlock = some q) → q ≠ b4
  ap : Aprt Sn nv Se ev
  le : g ≤ f
  rn : run g (.segs ns es) (rem L k) = some x
theorem mk_pt {S1 S2 : Nat → Prop} {w : World} {na ea : Option Addr} {nc ec : Nat} {ns : List Npt} {es : List Ept} (h1 : HG (fun u => RowR (RNp u) 4 u.heap.size u na ns) S1 w) (s1 : SlOk na ns.length nc) (h2 : HG (fun u => RowR (REp u) 5 u.heap.size u ea es) S2 w) (s2 : SlOk ea es.length ec) :
    HG (fun u => RPt u [.slice na ns.length nc, .slice ea es.length ec] ⟨ns, es⟩) (fun b => S1 b ∨ S2 b) w :=
  (HG.and h1 h2).imp fun u h => ⟨na, nc, ea, ec, rfl, s1, h.1, s2, h.2⟩
set_option maxHeartbeats 8000000 in
theorem path_any {f : Nat} (bp : Nat) (a : Option Addr) (cap : Nat) (L : List (Tok × Nat)) (k : Nat) (w : World) (x : Pr) (h : Ps bp a cap L k w) (hT : Tk L) (hk : k < L.length)  (hr : run (f + 1) (.path) (rem L k) = some x) :
    Calls Tryz.prog 111 #[.pointer (some ⟨bp, 0, none⟩)] w (PR (RtN RPt V.path) bp L k w x) := by
 have hr : Go.Proofs.YteljlahcdipilaaGreat.step (run f) (.path) (rem L k) = some x := hr
 simp only [Go.Proofs.YteljlahcdipilaaGreat.step, tail_rem] at hr
 have HT := Lib.hid hT
 have HK0 := Lib.hid hk
 have X0 := Lib.hid hr
 have hbw := h.lt
 obtain ⟨u0, hy0⟩ : ∃ u, w.alloc (.cells #[.slice none 0 0, .slice none 0 0] 58) = u := ⟨_, rfl⟩
 have s0 : St bp a cap L w k u0 := by rw [← hy0]; exact (St.start h).alloc _
 have b0 : Block u0 w.heap.size [.slice none 0 0, .slice none 0 0] 58 := by rw [← hy0]; exact Block.new w _ _
 have B0r := Lib.hid b0
 clear b0
 have S0 := Lib.hid s0
 have HU := Lib.hid hy0
 clear s0 hy0 h hT hk hr
 have z0 := B0r.out.lt
 go_enter Tryz.func111, Tryz.ntmps111
 go_upto_region 1 with fail
 rw [HU.out]
 go_wp2_with (go_at_call 101; refine Stand.out ?_)
 refine Stand.mk ?_
 refine ((node_s f).go2 S0.out HT.out HK0.out X0.out).mono ?_
 rintro e u1 (⟨p9, r9, rfl, rfl, f9⟩ | ⟨v1, k1, val1, q1, l1, x1, rfl, ⟨T1, ds1, rfl, hT1, hX1⟩, m1⟩)
 ·go_wp2_with fail
  exact ⟨rfl, f9⟩
 have X1 := Lib.hid x1
 have HK1 := Lib.hid l1
 clear x1 l1
 have S1 := Lib.hid (S0.out.call m1)
 have B1r := Lib.hid (m1.blk B0r.out (by omega))
 have zw1 := S1.out.size
 have zz1 := Mv.size m1
 clear m1
 obtain ⟨nv1, la1, ln1, lc1, ka1, kn1, kc1, xa1, xn1, xc1, rfl⟩ := np_cells hX1
 have V1n := Lib.hid hX1
 clear hX1
 have Nn := Lib.hid hT1
 have z0 := B0r.out.lt
 have hTh : ((u1.alloc (.cells #[.string nv1, .slice la1 ln1 lc1, .slice ka1 kn1 kc1, .slice xa1 xn1 xc1] 85)).alloc (.cells #[.slice none 0 0, .slice none 0 0] 58)).there (u1.heap.size + 1) 0 2 := by have h := block_there (Block.new (u1.alloc (.cells #[.string nv1, .slice la1 ln1 lc1, .slice ka1 kn1 kc1, .slice xa1 xn1 xc1] 85)) [.slice none 0 0, .slice none 0 0] 58) 0 2 (Nat.le_refl 2); simpa using h
 go_wp2_with (refine wpList_store_mid rfl 58 _ _ rfl (u1.heap.size + 1) 0 #[.slice (some ⟨u1.heap.size, 0, none⟩) 1 1, .slice none 0 0] rfl rfl hTh (by kernel_rfl) (by simp [Value.oneCell']) ?_)
 go_frame
 obtain ⟨b4, hb4⟩ := nam (u1.heap.size + 1)
 rw [hb4]
 obtain ⟨g9, hg9⟩ := nam u1.heap.size
 obtain ⟨u2, hu2⟩ : ∃ u, (u1.alloc (.cells #[.string nv1, .slice la1 ln1 lc1, .slice ka1 kn1 kc1, .slice xa1 xn1 xc1] 85)) = u := ⟨_, rfl⟩
 have S2 := Lib.hid (show St bp a cap L w k1 u2 from by rw [← hu2]; exact S1.out.alloc _)
 have zz2 : u2.heap.size = b4 := by rw [← hu2, ← hb4]; simp
 have zr := B1r.out.lt
 have B2r := Lib.hid (show Block u2 _ _ _ from by rw [← hu2]; exact B1r.out.alloc _)
 have B2g := Lib.hid (show Block u2 g9 [.string nv1, .slice la1 ln1 lc1, .slice ka1 kn1 kc1, .slice xa1 xn1 xc1] 85 from by rw [← hu2, ← hg9]; exact Block.new u1 _ _)
 have V2n := Lib.hid (show HG _ _ u2 from by rw [← hu2]; exact V1n.out.alloc _)
 obtain ⟨u3, hu3⟩ : ∃ u, (u2.alloc (.cells #[.slice none 0 0, .slice none 0 0] 58)).setCells b4 0 ((#[.slice (some ⟨g9, 0, none⟩) 1 1, .slice none 0 0] : Array Value).toList) = u := ⟨_, rfl⟩
 rw [hu2, hg9, hu3]
 have zb4 : b4 < u3.heap.size ∧ w.heap.size < g9 ∧ g9 + 1 = b4 := by rw [← hu3, setCells_sz, ← hb4, ← hg9]; simp; omega
 have S3 := Lib.hid (show St bp a cap L w k1 u3 from by rw [← hu3]; exact (S2.out.alloc _).sets (by omega) 0 _)
 have B3r := Lib.hid (show Block u3 _ _ _ from by rw [← hu3]; exact (B2r.out.alloc _).of_heap (cells_other (by have := B2r.out.lt; omega) _ 0 _))
 have B3g := Lib.hid (show Block u3 _ _ _ from by rw [← hu3]; exact (B2g.out.alloc _).of_heap (cells_other (by have := B2g.out.lt; omega) _ 0 _))
 have B3b := Lib.hid (show Block u3 b4 [.slice (some ⟨g9, 0, none⟩) 1 1, .slice none 0 0] 58 from by rw [← hu3, ← zz2]; exact (Block.new u2 [.slice none 0 0, .slice none 0 0] 58).all [.slice (some ⟨g9, 0, none⟩) 1 1, .slice none 0 0] rfl)
 have V3n := Lib.hid (show HG _ _ u3 from by rw [← hu3]; exact (V2n.out.alloc _).sets 0 _ (fun h => absurd (V2n.out.1 _ h) (by omega)))
 clear hu3 hb4 hTh hu2
 go_loopg [] f (fun g wr => ∃ k0 Sn Se nv ev ns es, Hid (SegAt bp a cap L w f b4 0 x g k0 Sn Se nv ev ns es wr) ∧ k ≤ k0)
 case atStart => exact ⟨k1, T1, _, _, _, [v1.node], [], Lib.hid ⟨S3.out, HK1.out, ⟨by simp, rfl⟩, rfl, B3r.out, B3b.out, by omega, Row.one_at B3g.out V3n.out rfl (fun b hb => ⟨by have := hT1 b hb; omega, by have := V1n.out.1 b hb; omega⟩) (by omega), Row.nil, fun q hq => by rcases hq with hq | hq; have := V1n.out.1 q hq; omega; have e : g9 = q := Option.some.inj hq; omega, fun q hq h => h.elim (fun h => h) (fun h => by cases h), Nat.le_refl _, X1.out⟩, q1⟩
 case round =>
  clear X1 X0 S3 B3r B3b B3g V3n
  obtain ⟨k0, Sn, Se, nv, ev, ns, es, hP, hkk⟩ := hrel
  have hP := hP.out
  cases gk with
  | zero => exact absurd hP.rn (by intro h; cases h)
  | succ g =>
   have rn : Go.Proofs.YteljlahcdipilaaGreat.step (run g) (.segs ns es) (rem L k0) = some x := hP.rn
   simp only [Go.Proofs.YteljlahcdipilaaGreat.step, sigB] at rn
   have S20 := Lib.hid hP.st
   have R20n := Lib.hid hP.rn'
   have R20e := Lib.hid hP.re
   have B20r := Lib.hid hP.r4
   have B20b := Lib.hid hP.r5
   have HK20 := Lib.hid hP.lt
   have hln := hP.ln.1
   have hnl := hP.ln.2
   have hll := hP.lt
   have hL := hP.st.ln
   have hgf := hP.le
   have hb4 := hP.hb
   have zb5 := hP.r5.lt
   have FA := Lib.hid hP.fa
   have AP := Lib.hid hP.ap
   have RN := Lib.hid rn
   clear hP rn
   cases hs : (isT 5 [45] (rem L k0) || isT 5 [60] (rem L k0)) with
   | false =>
    have RY := RN.out
    simp only [hs, if_false, Bool.false_eq_true] at RY
    have RX := Lib.hid RY
    clear RY
    have h45 := (Bool.or_eq_false_iff.1 hs).1
    have h60 := (Bool.or_eq_false_iff.1 hs).2
    go_wp2_with (go_at_call 121; refine Stand.out ?_)
    refine Stand.mk ?_
    refine (sign_st S20.out HK20.out h45).mono ?_
    rintro e u21 ⟨rfl, m21⟩
    have S21 := Lib.hid (S20.out.call m21)
    have B21r := Lib.hid (m21.blk B20r.out (by omega))
    have B21b := Lib.hid (m21.blk B20b.out (by omega))
    have R21n := Lib.hid (R20n.out.mv m21 (by omega))
    have R21e := Lib.hid (R20e.out.mv m21 (by omega))
    have zw21 := S21.out.size
    have zz21 := Mv.size m21
    clear m21
    go_wp2_with (go_at_call 121; refine Stand.out ?_)
    refine Stand.mk ?_
    refine (sign_st S21.out HK20.out h60).mono ?_
    rintro e u22 ⟨rfl, m22⟩
    have S22 := Lib.hid (S21.out.call m22)
    have B22r := Lib.hid (m22.blk B21r.out (by omega))
    have B22b := Lib.hid (m22.blk B21b.out (by omega))
    have R22n := Lib.hid (R21n.out.mv m22 (by omega))
    have R22e := Lib.hid (R21e.out.mv m22 (by omega))
    have zw22 := S22.out.size
    have zz22 := Mv.size m22
    clear m22
    obtain ⟨S8, na, nc, rfl, nsl, hS8, hR8⟩ := R22n.out.fin
    obtain ⟨S9, ea, ec, rfl, esl, hS9, hR9⟩ := R22e.out.fin
    obtain ⟨nn, hnn⟩ := nam ns.length
    obtain ⟨en, hen⟩ := nam es.length
    have VP := mk_pt hR8 nsl hR9 esl
    have B9b := B22b.out
    rw [hnn, hen] at VP B9b
    have hSP : ∀ q, (S8 q ∨ S9 q) → w.heap.size + 1 ≤ q := fun q hq => hq.elim (fun h => (R22n.out.lt (hS8 q h)).1) (fun h => by have := (R22e.out.lt (hS9 q h)).1; omega)
    replace B22b := Lib.hid B9b
    have VP := Lib.hid VP
    clear B9b hR8 hR9 nsl esl hnn hen
    obtain rfl := Option.some.inj RX.out
    have hRg := B22b.out.rng
    have hTh := block_there B22r.out 0 2 (Nat.le_refl 2)
    go_wp2_with (first | (refine wpList_load_mid rfl 58 _ rfl b4 0 rfl [.slice na nn nc, .slice ea en ec] _ hRg Tryz.underlying58 rfl (by kernel_rfl) ?_) | (refine wpList_store_mid rfl 58 _ _ rfl w.heap.size 0 #[.slice na nn nc, .slice ea en ec] rfl rfl hTh (by kernel_rfl) (by simp [Value.oneCell']) ?_))
    have B99 := B22r.out.all [.slice na nn nc, .slice ea en ec] rfl
    refine bodyPost_ret (results_cell_row (by rfl) _ _ w.heap.size 58 _ (0, 0) _ (by rfl) B99 Tryz.underlying58 rfl (by kernel_rfl)) rfl ?_
    exact ⟨k0, _, by omega, HK20.out, rfl, rfl, RtN.mk (VP.out.sets 0 _ (fun h => absurd (hSP _ h) (by omega))) (rfl) (fun b h => by have := hSP b h; omega), (S22.out.sets (Nat.le_refl _) 0 _).mv⟩
   | true =>
    have RY := RN.out
    simp only [hs, if_true] at RY
    have RX := Lib.hid RY
    clear RY
    go_upto_region 2 with fail
    go_cut [13] (fun v wx => v = .bool true ∧ Hid (Mv bp k0 wr wx))
    case first =>
     cases h45 : isT 5 [45] (rem L k0) with
     | true =>
      go_wp2_with (go_at_call 121; refine Stand.out ?_)
      refine Stand.mk ?_
      refine (sign_st S20.out HK20.out h45).mono ?_
      rintro e u21 ⟨rfl, m21⟩
      go_wp2_with fail
      go_meet
      exact ⟨rfl, Lib.hid m21⟩
     | false =>
      have h60 : isT 5 [60] (rem L k0) = true := by rw [h45] at hs; simpa using hs
      go_wp2_with (go_at_call 121; refine Stand.out ?_)
      refine Stand.mk ?_
      refine (sign_st S20.out HK20.out h45).mono ?_
      rintro e u21 ⟨rfl, m21⟩
      have S21 := Lib.hid (S20.out.call m21)
      have M21 := Lib.hid m21
      clear m21
      go_wp2_with (go_at_call 121; refine Stand.out ?_)
      refine Stand.mk ?_
      refine (sign_st S21.out HK20.out h60).mono ?_
      rintro e u22 ⟨rfl, m22⟩
      go_wp2_with fail
      go_meet
      exact ⟨rfl, Lib.hid (Mv.trans M21.out m22)⟩
    case rest =>
     obtain ⟨rfl, m21⟩ := hcut
     have m21 := m21.out
     obtain ⟨u21, hu⟩ := nam wc
     rw [hu] at m21 ⊢
     clear hu
     have S21 := Lib.hid (S20.out.call m21)
     have B21r := Lib.hid (m21.blk B20r.out (by omega))
     have B21b := Lib.hid (m21.blk B20b.out (by omega))
     have R21n := Lib.hid (R20n.out.mv m21 (by omega))
     have R21e := Lib.hid (R20e.out.mv m21 (by omega))
     have zw21 := S21.out.size
     have zz21 := Mv.size m21
     clear m21
     go_upto_region 3 with fail
     obtain ⟨u22, hu22⟩ := nam u21.drew
     have S22 := Lib.hid (show St bp a cap L w k0 u22 from by rw [← hu22]; exact S21.out.drew)
     have zz22 : u21.heap.size = u22.heap.size := by rw [← hu22]; rfl
     have B22r := Lib.hid (B21r.out.of_heap (w' := u22) (by rw [← hu22]; rfl))
     have B22b := Lib.hid (B21b.out.of_heap (w' := u22) (by rw [← hu22]; rfl))
     have R22n := Lib.hid (R21n.out.same (w1 := u22) (fun _ _ => by rw [← hu22]; rfl))
     have R22e := Lib.hid (R21e.out.same (w1 := u22) (fun _ _ => by rw [← hu22]; rfl))
     refine wp_region_J (S := (fun w' : World => w'.cell? ⟨b4, 1, none⟩ = some (ev))) (fun j => j == 7) (by kernel_rfl) ?_
     rw [hu22]
     clear hu22
     have hHeld : ((fun w' : World => w'.cell? ⟨b4, 1, none⟩ = some (ev))) u22 := B22b.out.cell (i := 1) rfl
     refine Jt 0 ?_
     refine Jl 1 ?_
     refine Jt 2 ?_
     refine Jr 3 fun KK hKK => ?_
     go_simp
     go_at_call 128
     refine ((edge_s g).go2 S22.out HT.out HK20.out RX.out).mono ?_
     rintro e u23 (⟨p9, r9, rfl, rfl, f9⟩ | ⟨v23, k23, val23, q23, l23, x23, rfl, ⟨T23, ds23, rfl, hT23, hX23⟩, m23⟩)
     ·exact ⟨rfl, f9⟩
     have X23 := Lib.hid x23
     have HK23 := Lib.hid l23
     clear x23 l23
     have S23 := Lib.hid (S22.out.call m23)
     have B23r := Lib.hid (m23.blk B22r.out (by omega))
     have B23b := Lib.hid (m23.blk B22b.out (by omega))
     have R23n := Lib.hid (R22n.out.mv m23 (by omega))
     have R23e := Lib.hid (R22e.out.mv m23 (by omega))
     have zw23 := S23.out.size
     have zz23 := Mv.size m23
     clear m23
     obtain ⟨ev23, et23, ed23, ka23, kn23, kc23, xa23, xn23, xc23, rfl⟩ := ep_cells hX23
     have V23y := Lib.hid hX23
     clear hX23
     have Ny := Lib.hid hT23
     refine hKK _ _ (fun _ _ => B23b.out.cell (i := 1) rfl) ?_
     clear hKK KK hHeld
     have hHeld := B23b.out.cell (i := 1) rfl
     refine Jn ?_
     refine Jr 4 fun KK hKK => ?_
     go_simp
     refine hKK _ _ (fun _ _ => (B23b.out.alloc _).cell (i := 1) rfl) ?_
     clear hKK KK hHeld
     have hHeld := (B23b.out.alloc (.cells #[.string ev23, .string et23, .int .i64 ed23, .slice ka23 kn23 kc23, .slice xa23 xn23 xc23] 87)).cell (i := 1) rfl
     refine Jn ?_
     refine Jr 5 fun KK hKK => ?_
     refine step_append_row (R := REp) rfl _ _ 56 rfl Tryz.underlying56 Tryz.infoEp rfl (by decide) (by decide) R23e.out V23y.out rfl (fun b hb => ⟨by have := hT23 b hb; omega, fun e => absurd (hT23 b hb) (by have := (R22e.out.lt (.inr e)).2; omega)⟩) rfl rfl (by simp [Value.oneCell']) (by omega) (by omega) ?_
     intro lv24 u24 hR hg ho hp
     obtain ⟨ga24, gn24, gc24, rfl⟩ := hR.slice
     have S24 := Lib.hid ((S23.out.alloc _).grown hg (fun q e => by have := ho q e; omega))
     have R24e := Lib.hid hR
     have zz24 : u23.heap.size + 1 ≤ u24.heap.size := by have := hg.size; simpa using this
     have B24r := Lib.hid (B23r.out.of_heap (w' := u24) ((hg.block _ (by have := B23r.out.lt; simp; omega) (fun e => by have := ho _ e.symm; omega)).trans (Below.heap_alloc _ _ _ B23r.out.lt)))
     have B24b := Lib.hid (B23b.out.of_heap (w' := u24) ((hg.block _ (by have := B23b.out.lt; simp; omega) (fun e => by have := ho _ e.symm; omega)).trans (Below.heap_alloc _ _ _ B23b.out.lt)))
     have R24n := Lib.hid (R23n.out.grown hg (fun q hq e => AP.out q hq (.inr e)))
     have AP2 : Hid (Aprt Sn nv (fun b => Se b ∨ T23 b) (.slice ga24 gn24 gc24)) := Lib.hid (fun q hq h => by rcases h with (h | h) | h; exact AP.out q hq (.inl h); exact absurd (hT23 q h) (by have := (R22n.out.lt hq).2; omega); rcases hp q h with e | e; exact AP.out q hq (.inr e); exact absurd (R23n.out.lt hq).2 (by omega))
     refine hKK _ _ (fun _ _ => B24b.out.cell (i := 1) rfl) ?_
     clear hKK KK hHeld
     have hHeld := B24b.out.cell (i := 1) rfl
     refine Jn ?_
     refine Jt 6 ?_
     refine Jr 7 fun KK hKK => ?_
     have d1 := B24b.out.free 1
     have c1 := B24b.out.cell (i := 1) rfl
     go_simp
     have c1 := B24b.out.cell (i := 1) rfl
     have d1 := B24b.out.free 1
     clear c1 d1
     obtain ⟨u25, hu⟩ : ∃ u, (u24.setCell ⟨b4, 1, none⟩ (.slice ga24 gn24 gc24)) = u := ⟨_, rfl⟩
     rw [hu]
     have S25 := Lib.hid (show St bp a cap L w k23 u25 from by rw [← hu]; exact (S24.out.set (by omega) 1 _))
     have zz25 : u25.heap.size = u24.heap.size := by rw [← hu]; simp [World.size_setCell]
     have hk25 : ∀ q, q ≠ b4 → u25.heap[q]? = u24.heap[q]? := fun q hq => by rw [← hu, Below.heap_setCell _ ⟨b4, 1, none⟩ _ q hq]
     have B25r := Lib.hid (B24r.out.of_heap (hk25 _ (by omega)))
     have B25b := Lib.hid (show Block u25 b4 [nv, .slice ga24 gn24 gc24] 58 from by rw [← hu]; exact (B24b.out.set 1 _))
     have R25n := Lib.hid (R24n.out.same (w1 := u25) (fun b hb => hk25 b (FA.out _ hb)))
     have R25e := Lib.hid (R24e.out.same (w1 := u25) (fun b hb => hk25 b (fun e => by have := (R24e.out.lt hb).1; omega)))
     clear hu hk25
     refine hKK _ _ (fun h => absurd h (by decide)) ?_
     clear hKK KK hHeld
     refine Jn ?_
     refine wpAnyJ_done (by kernel_rfl) ?_ _
     go_upto_region 4 with fail
     obtain ⟨u26, hu26⟩ := nam u25.drew
     have S26 := Lib.hid (show St bp a cap L w k23 u26 from by rw [← hu26]; exact S25.out.drew)
     have zz26 : u25.heap.size = u26.heap.size := by rw [← hu26]; rfl
     have B26r := Lib.hid (B25r.out.of_heap (w' := u26) (by rw [← hu26]; rfl))
     have B26b := Lib.hid (B25b.out.of_heap (w' := u26) (by rw [← hu26]; rfl))
     have R26n := Lib.hid (R25n.out.same (w1 := u26) (fun _ _ => by rw [← hu26]; rfl))
     have R26e := Lib.hid (R25e.out.same (w1 := u26) (fun _ _ => by rw [← hu26]; rfl))
     refine wp_region_J (S := (fun w' : World => w'.cell? ⟨b4, 0, none⟩ = some (nv))) (fun j => j == 7) (by kernel_rfl) ?_
     rw [hu26]
     clear hu26
     have hHeld : ((fun w' : World => w'.cell? ⟨b4, 0, none⟩ = some (nv))) u26 := B26b.out.cell (i := 0) rfl
     refine Jt 0 ?_
     refine Jl 1 ?_
     refine Jt 2 ?_
     refine Jr 3 fun KK hKK => ?_
     go_simp
     go_at_call 101
     refine ((node_s g).go3 S26.out HT.out HK23.out X23.out).mono ?_
     rintro e u27 (⟨p9, r9, rfl, rfl, f9⟩ | ⟨v27, k27, val27, q27, l27, x27, y27, rfl, ⟨T27, ds27, rfl, hT27, hX27⟩, m27⟩)
     ·exact ⟨rfl, f9⟩
     have pr27 := node_prog HK23.out l27 y27
     have X27 := Lib.hid x27
     have HK27 := Lib.hid l27
     clear x27 l27 y27
     have S27 := Lib.hid (S26.out.call m27)
     have B27r := Lib.hid (m27.blk B26r.out (by omega))
     have B27b := Lib.hid (m27.blk B26b.out (by omega))
     have R27n := Lib.hid (R26n.out.mv m27 (by omega))
     have R27e := Lib.hid (R26e.out.mv m27 (by omega))
     have zw27 := S27.out.size
     have zz27 := Mv.size m27
     clear m27
     obtain ⟨nv27, la27, ln27, lc27, ka27, kn27, kc27, xa27, xn27, xc27, rfl⟩ := np_cells hX27
     have V27y := Lib.hid hX27
     clear hX27
     have Ny := Lib.hid hT27
     refine hKK _ _ (fun _ _ => B27b.out.cell (i := 0) rfl) ?_
     clear hKK KK hHeld
     have hHeld := B27b.out.cell (i := 0) rfl
     refine Jn ?_
     refine Jr 4 fun KK hKK => ?_
     go_simp
     refine hKK _ _ (fun _ _ => (B27b.out.alloc _).cell (i := 0) rfl) ?_
     clear hKK KK hHeld
     have hHeld := (B27b.out.alloc (.cells #[.string nv27, .slice la27 ln27 lc27, .slice ka27 kn27 kc27, .slice xa27 xn27 xc27] 85)).cell (i := 0) rfl
     refine Jn ?_
     refine Jr 5 fun KK hKK => ?_
     refine step_append_row (R := RNp) rfl _ _ 55 rfl Tryz.underlying55 Tryz.infoNp rfl (by decide) (by decide) R27n.out V27y.out rfl (fun b hb => ⟨by have := hT27 b hb; omega, fun e => absurd (hT27 b hb) (by have := (R26n.out.lt (.inr e)).2; omega)⟩) rfl rfl (by simp [Value.oneCell']) (by omega) (by omega) ?_
     intro lv28 u28 hR hg ho hp
     obtain ⟨ga28, gn28, gc28, rfl⟩ := hR.slice
     have S28 := Lib.hid ((S27.out.alloc _).grown hg (fun q e => by have := ho q e; omega))
     have R28n := Lib.hid hR
     have zz28 : u27.heap.size + 1 ≤ u28.heap.size := by have := hg.size; simpa using this
     have B28r := Lib.hid (B27r.out.of_heap (w' := u28) ((hg.block _ (by have := B27r.out.lt; simp; omega) (fun e => by have := ho _ e.symm; omega)).trans (Below.heap_alloc _ _ _ B27r.out.lt)))
     have B28b := Lib.hid (B27b.out.of_heap (w' := u28) ((hg.block _ (by have := B27b.out.lt; simp; omega) (fun e => FA.out _ (.inr e.symm) rfl)).trans (Below.heap_alloc _ _ _ B27b.out.lt)))
     have R28e := Lib.hid (R27e.out.grown hg (fun q hq e => AP2.out q (.inr e) hq))
     have AP3 : Hid (Aprt (fun b => Sn b ∨ T27 b) (.slice ga28 gn28 gc28) (fun b => Se b ∨ T23 b) (.slice ga24 gn24 gc24)) := Lib.hid (fun q hq h => by rcases hq with (hq | hq) | hq; exact AP2.out q (.inl hq) h; exact absurd (hT27 q hq) (by have := (R26e.out.lt h).2; omega); rcases hp q hq with e | e; exact AP2.out q (.inr e) h; exact absurd (R27e.out.lt h).2 (by omega))
     have FA3 : Hid (∀ q, ((Sn q ∨ T27 q) ∨ (Value.slice ga28 gn28 gc28).ownBlock = some q) → q ≠ b4) := Lib.hid (fun q hq => by rcases hq with (hq | hq) | hq; exact FA.out q (.inl hq); have := hT27 q hq; omega; rcases hp q hq with e | e; exact FA.out q (.inr e); omega)
     refine hKK _ _ (fun _ _ => B28b.out.cell (i := 0) rfl) ?_
     clear hKK KK hHeld
     have hHeld := B28b.out.cell (i := 0) rfl
     refine Jn ?_
     refine Jt 6 ?_
     refine Jr 7 fun KK hKK => ?_
     have d0 := B28b.out.free 0
     have c0 := B28b.out.cell (i := 0) rfl
     go_simp
     have c0 := B28b.out.cell (i := 0) rfl
     have d0 := B28b.out.free 0
     clear c0 d0
     obtain ⟨u29, hu⟩ : ∃ u, (u28.setCell ⟨b4, 0, none⟩ (.slice ga28 gn28 gc28)) = u := ⟨_, rfl⟩
     rw [hu]
     have S29 := Lib.hid (show St bp a cap L w k27 u29 from by rw [← hu]; exact (S28.out.set (by omega) 0 _))
     have zz29 : u29.heap.size = u28.heap.size := by rw [← hu]; simp [World.size_setCell]
     have hk29 : ∀ q, q ≠ b4 → u29.heap[q]? = u28.heap[q]? := fun q hq => by rw [← hu, Below.heap_setCell _ ⟨b4, 0, none⟩ _ q hq]
     have B29r := Lib.hid (B28r.out.of_heap (hk29 _ (by omega)))
     have B29b := Lib.hid (show Block u29 b4 [.slice ga28 gn28 gc28, .slice ga24 gn24 gc24] 58 from by rw [← hu]; exact (B28b.out.set 0 _))
     have R29n := Lib.hid (R28n.out.same (w1 := u29) (fun b hb => hk29 b (FA3.out _ hb)))
     have R29e := Lib.hid (R28e.out.same (w1 := u29) (fun b hb => hk29 b (fun e => by have := (R28e.out.lt hb).1; omega)))
     clear hu hk29
     refine hKK _ _ (fun h => absurd h (by decide)) ?_
     clear hKK KK hHeld
     refine Jn ?_
     refine wpAnyJ_done (by kernel_rfl) ?_ _
     go_wp2_with fail
     go_roundg g
     case measure => omega
     case rel => exact ⟨k27, _, _, _, _, ns ++ [v27.node], es ++ [v23.edge], Lib.hid ⟨S29.out, HK27.out, ⟨by simp; omega, by simp [hnl]⟩, rfl, B29r.out, B29b.out, hb4, R29n.out, R29e.out, FA3.out, AP3.out, by omega, X27.out⟩, by omega⟩
theorem path_s (f : Nat) : Said 111 [] .path (RtN RPt V.path) f := by
 cases f with
 | zero => exact Said.zero
 | succ f => exact fun bp a cap L k w x h hT hk hr => path_any bp a cap L k w x h hT hk hr
structure MoreAt (bp : Nat) (a : Option Addr) (cap : Nat) (L : List (Tok × Nat)) (w : World) (x : Pr) (f kb : Nat) (g k : Nat) (S : Nat → Prop) (lv : Value) (l : List Ptt) (u : World) : Prop where
  st : St bp a cap L w k u
  lt : k < L.length
  ge : kb ≤ k
  ln : l.length ≤ k + 1
  row : Row RPt 58 2 w.heap.size S u lv l
  le : g ≤ f
  rn : run g (.more l) (rem L k) = some x
set_option maxHeartbeats 8000000 in
theorem paths_any {f : Nat} (bp : Nat) (a : Option Addr) (cap : Nat) (L : List (Tok × Nat)) (k : Nat) (w : World) (x : Pr) (h : Ps bp a cap L k w) (hT : Tk L) (hk : k < L.length)  (hr : run (f + 1) (.paths) (rem L k) = some x) :
    Calls Tryz.prog 95 #[.pointer (some ⟨bp, 0, none⟩)] w (PR (RtR RPt 2 V.paths) bp L k w x) := by
 have hr : Go.Proofs.YteljlahcdipilaaGreat.step (run f) (.paths) (rem L k) = some x := hr
 simp only [Go.Proofs.YteljlahcdipilaaGreat.step, tail_rem] at hr
 have HT := Lib.hid hT
 have HK0 := Lib.hid hk
 have X0 := Lib.hid hr
 have hbw := h.lt
 have S0 := Lib.hid (St.start h)
 clear h hT hk hr
 go_enter Tryz.func95, Tryz.ntmps95
 go_wp2_with (go_at_call 111; refine Stand.out ?_)
 refine Stand.mk ?_
 refine ((path_s f).go2 S0.out HT.out HK0.out X0.out).mono ?_
 rintro e u1 (⟨p9, r9, rfl, rfl, f9⟩ | ⟨v1, k1, val1, q1, l1, x1, rfl, ⟨T1, ds1, rfl, hT1, hX1⟩, m1⟩)
 ·go_wp2_with fail
  exact ⟨rfl, f9⟩
 have X1 := Lib.hid x1
 have HK1 := Lib.hid l1
 clear x1 l1
 have S1 := Lib.hid (S0.out.call m1)
 have zw1 := S1.out.size
 have zz1 := Mv.size m1
 clear m1
 obtain ⟨pa1, pn1, pc1, qa1, qn1, qc1, rfl⟩ := pt_cells hX1
 have V1p := Lib.hid hX1
 clear hX1
 have Np := Lib.hid hT1
 have R9 := Row.one (R := RPt) (ty := 58) (size := 2) (B := w.heap.size) V1p.out rfl (fun b hb => hT1 b hb) S1.out.size
 have S9 := Lib.hid (S1.out.alloc (.cells #[.slice pa1 pn1 pc1, .slice qa1 qn1 qc1] 58))
 have R9 := Lib.hid R9
 go_wp2_with fail
 go_loopg [3] f (fun g lv wr => ∃ (k0 : Nat) (S : Nat → Prop) (l : List Ptt), Hid (MoreAt bp a cap L w x f k g k0 S lv l wr))
 case atStart => exact ⟨k1, _, [v1.path], Lib.hid ⟨S9.out, HK1.out, q1, by simp, R9.out, Nat.le_refl _, X1.out⟩⟩
 case round =>
  clear X1 X0 S1 S9 R9 V1p S0 HK0
  obtain ⟨k0, S, l, hP⟩ := hrel
  have hP := hP.out
  cases gk with
  | zero => exact absurd hP.rn (by intro h; cases h)
  | succ g =>
   have rn : Go.Proofs.YteljlahcdipilaaGreat.step (run g) (.more l) (rem L k0) = some x := hP.rn
   simp only [Go.Proofs.YteljlahcdipilaaGreat.step, sigB, tail_rem] at rn
   have S20 := Lib.hid hP.st
   have R20a := Lib.hid hP.row
   have HK20 := Lib.hid hP.lt
   have hln := hP.ln
   have hge := hP.ge
   have hll := hP.lt
   have hL := hP.st.ln
   have hgf := hP.le
   have RN := Lib.hid rn
   clear hP rn
   cases h44 : isT 5 [44] (rem L k0) with
   | false =>
    have RY := RN.out
    simp only [h44, if_false, Bool.false_eq_true] at RY
    have RZ := Lib.hid RY
    clear RY
    go_wp2_with (go_at_call 103; refine Stand.out ?_)
    refine Stand.mk ?_
    refine (skip_f S20.out HK20.out h44).mono ?_
    rintro e u21 ⟨rfl, m21⟩
    have S21 := Lib.hid (S20.out.call m21)
    have R21a := Lib.hid (R20a.out.mv m21 (by omega))
    have zw21 := S21.out.size
    have zz21 := Mv.size m21
    clear m21
    obtain rfl := Option.some.inj RZ.out
    obtain ⟨S9, xa, xc, rfl, hsl, hS9, hR9⟩ := R21a.out.fin
    go_wp2_with fail
    go_ret
    exact ⟨k0, _, hge, HK20.out, rfl, rfl, ⟨S9, xa, xc, rfl, fun b hb => (R21a.out.lt (hS9 b hb)).1, hR9, hsl⟩, S21.out.mv⟩
   | true =>
    have RY := RN.out
    simp only [h44, if_true] at RY
    have RZ := Lib.hid RY
    clear RY
    go_wp2_with (go_at_call 103; refine Stand.out ?_)
    refine Stand.mk ?_
    refine (skip_t S20.out HK20.out h44).mono ?_
    rintro e u21 ⟨rfl, m21⟩
    have S21 := Lib.hid (S20.out.call m21)
    have R21a := Lib.hid (R20a.out.mv m21 (by omega))
    have zw21 := S21.out.size
    have zz21 := Mv.size m21
    clear m21
    have HK21 := Lib.hid (HT.out.next HK20.out h44 (by decide))
    go_wp2_with (go_at_call 111; refine Stand.out ?_)
    refine Stand.mk ?_
    refine ((path_s g).go2 S21.out HT.out HK21.out RZ.out).mono ?_
    rintro e u22 (⟨p9, r9, rfl, rfl, f9⟩ | ⟨v22, k22, val22, q22, l22, x22, rfl, ⟨T22, ds22, rfl, hT22, hX22⟩, m22⟩)
    ·go_wp2_with fail
     exact ⟨rfl, f9⟩
    have X22 := Lib.hid x22
    have HK22 := Lib.hid l22
    clear x22 l22
    have S22 := Lib.hid (S21.out.call m22)
    have R22a := Lib.hid (R21a.out.mv m22 (by omega))
    have zw22 := S22.out.size
    have zz22 := Mv.size m22
    clear m22
    obtain ⟨pa22, pn22, pc22, qa22, qn22, qc22, rfl⟩ := pt_cells hX22
    have V22p := Lib.hid hX22
    clear hX22
    have Np := Lib.hid hT22
    go_wp2_with (at_builtin; refine wpList_append_row (R := RPt) rfl _ _ 59 rfl Tryz.underlying59 Tryz.infoPt rfl (by decide) (by decide) R22a.out V22p.out rfl (fun b hb => ⟨by have := hT22 b hb; omega, fun e => absurd (hT22 b hb) (by have := (R21a.out.lt (.inr e)).2; omega)⟩) rfl rfl (by simp [Value.oneCell']) (by omega) S22.out.size ?_)
    intro lv u30 hR hg ho hp
    have S30 := Lib.hid ((S22.out.alloc _).grown hg ho)
    have R30a := Lib.hid hR
    clear hR hg ho hp
    go_wp2_with fail
    go_roundg g
    case measure => omega
    case rel => exact ⟨k22, _, l ++ [v22.path], Lib.hid ⟨S30.out, HK22.out, by omega, by simp; omega, R30a.out, by omega, X22.out⟩⟩
theorem Sq722639 {P : Prop} (h : P := by
 have RY := X0.out
 simp only [h0, if_false, Bool.false_eq_true] at RY
 have RZ := Lib.hid RY
 clear RY
 go_wp2_with (go_at_call 103; refine Stand.out ?_)
 refine Stand.mk ?_
 refine (skip_f S0.out HK0.out h0).mono ?_
 rintro e u1 ⟨rfl, m1⟩
 have S1 := Lib.hid (S0.out.call m1)
 have zw1 := S1.out.size
 have zz1 := Mv.size m1
 clear m1
 obtain rfl := Option.some.inj RZ.out
 go_wp2_with fail
 go_ret
 exact ⟨k, _, Nat.le_refl _, HK0.out, rfl, rfl, ⟨fun _ => False, none, 0, rfl, fun _ h => h.elim, HG.pure _ fun _ => nil_row, nil_sl⟩, S1.out.mv⟩) : P := h
set_option maxHeartbeats 8000000 in
theorem may_any {f : Nat} (wd : List UInt8) (bp : Nat) (a : Option Addr) (cap : Nat) (L : List (Tok × Nat)) (k : Nat) (w : World) (x : Pr) (h : Ps bp a cap L k w) (hT : Tk L) (hk : k < L.length)  (hr : run (f + 1) (.maybe wd) (rem L k) = some x) :
    Calls Tryz.prog 96 #[.pointer (some ⟨bp, 0, none⟩), .string (strOf wd)] w (PR (RtR RX 10 V.exs) bp L k w x) := by
 have hr : Go.Proofs.YteljlahcdipilaaGreat.step (run f) (.maybe wd) (rem L k) = some x := hr
 simp only [Go.Proofs.YteljlahcdipilaaGreat.step, wrd, tail_rem] at hr
 have HT := Lib.hid hT
 have HK0 := Lib.hid hk
 have X0 := Lib.hid hr
 have hbw := h.lt
 have S0 := Lib.hid (St.start h)
 clear h hT hk hr
 go_enter Tryz.func96, Tryz.ntmps96
 cases h0 : isT 2 wd (rem L k) with
 | false =>
  exact Sq722639
 | true =>
  have RY := X0.out
  simp only [h0, if_true] at RY
  have RZ := Lib.hid RY
  clear RY
  go_wp2_with (go_at_call 103; refine Stand.out ?_)
  refine Stand.mk ?_
  refine (skip_t S0.out HK0.out h0).mono ?_
  rintro e u1 ⟨rfl, m1⟩
  have S1 := Lib.hid (S0.out.call m1)
  have zw1 := S1.out.size
  have zz1 := Mv.size m1
  clear m1
  have HK1 := Lib.hid (HT.out.next HK0.out h0 (by decide))
  go_wp2_with (go_at_call 97; refine Stand.out ?_)
  refine Stand.mk ?_
  refine ((expr_s f 1 (by decide)).go2 S1.out HT.out HK1.out RZ.out).mono ?_
  rintro e u2 (⟨p9, r9, rfl, rfl, f9⟩ | ⟨v2, k2, val2, q2, l2, x2, rfl, ⟨T2, ds2, rfl, hT2, hX2⟩, m2⟩)
  ·go_wp2_with fail
   exact ⟨rfl, f9⟩
  have X2 := Lib.hid x2
  have HK2 := Lib.hid l2
  clear x2 l2
  have S2 := Lib.hid (S1.out.call m2)
  have zw2 := S2.out.size
  have zz2 := Mv.size m2
  clear m2
  obtain ⟨op2, nm2, vk2, vb2, vi2, vs2, la2, ln2, lc2, ka2, kn2, kc2, na2, nn2, nc2, xa2, xn2, xc2, -, -, rfl⟩ := hX2.ten
  have V2p := Lib.hid hX2
  clear hX2
  have Np := Lib.hid hT2
  obtain rfl := Option.some.inj X2.out
  have R9 := Row.one (R := RX) (ty := 66) (size := 10) (B := w.heap.size) V2p.out rfl (fun b hb => by have := hT2 b hb; omega) S2.out.size
  obtain ⟨S9, xa, xc, e9, hsl, hS9, hR9⟩ := R9.fin
  injection e9 with e91 e92 e93
  subst e91 e93
  clear e92
  have S9' := Lib.hid (S2.out.alloc (.cells #[.int .i64 op2, .string nm2, .int .i64 vk2, .bool vb2, .int .i64 vi2, .string vs2, .slice la2 ln2 lc2, .slice ka2 kn2 kc2, .slice na2 nn2 nc2, .slice xa2 xn2 xc2] 66))
  have FF := Lib.hid (show _ ∧ _ ∧ _ ∧ _ from ⟨R9, hsl, hS9, hR9⟩)
  clear R9 hsl hS9 hR9
  go_wp2_with fail
  go_ret
  exact ⟨k2, _, by omega, HK2.out, rfl, rfl, ⟨S9, _, _, rfl, fun b hb => (FF.out.1.lt (FF.out.2.2.1 b hb)).1, FF.out.2.2.2, FF.out.2.1⟩, S9'.out.mv⟩
end Go.Proofs.YteljlahcdipilaaGreat

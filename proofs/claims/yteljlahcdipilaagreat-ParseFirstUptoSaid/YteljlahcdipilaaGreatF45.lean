/- Parts X31K4, X31K5, X31K6, X31K7 of this seat (pruned, scripts that are alike kept once as default arguments: q1, q2, ..). Conditions: each says its own. -/
import Derived.Test.YteljlahcdipilaaGreatF43
namespace Go.Proofs.YteljlahcdipilaaGreat
open Go.RowKit Go.Shelf
set_option linter.unusedSimpArgs false
set_option linter.unusedVariables false
set_option maxRecDepth 100000
set_option maxRecDepth 100000 in
theorem arm31_4 {P : Prop} (h : P := by
 have hk := HK.out
 clear HK
 subst hk
 obtain ⟨hin, s1, r1, s2, r2, s5, r5, s7, r7, s8, r8, s9, r9, s10, r10, s11, r11, hE⟩ := HRS.out
 obtain ⟨hn1, hn2, hn5, hn7, hn8, hn9, hn10, hn11, hxll, hxkn, hxnn, hxxn⟩ := HN.out
 have hhc : hasC ⟨4, l1, l2, .mk op nm (.mk xk xb xi xs xl xks) xns xaz, vr, l5, un, l7, l8, l9, l10, l11, de⟩ = ⟨4, l1, [], emptyX, ⟨#[]⟩, [], false, [], [], [], [], [], false⟩ := by simp [hasC, bareC]
 have hcb : IsCl B w [.int .i64 4, .slice a1 l1.length c1, .slice none 0 0, .int .i64 0, .string ⟨#[]⟩, .int .i64 0, .bool false, .int .i64 0, .string ⟨#[]⟩, .slice none 0 0, .slice none 0 0, .slice none 0 0, .slice none 0 0, .string ⟨#[]⟩, .slice none 0 0, .bool false, .slice none 0 0, .slice none 0 0, .slice none 0 0, .slice none 0 0, .slice none 0 0, .bool false] (hasC ⟨4, l1, l2, .mk op nm (.mk xk xb xi xs xl xks) xns xaz, vr, l5, un, l7, l8, l9, l10, l11, de⟩) := by rw [hhc]; exact ⟨a1, c1, none, 0, zeroX, none, 0, none, 0, none, 0, none, 0, none, 0, none, 0, rfl, hin, s1, r1, nil_sl, nil_row, zero_isX _ _, nil_sl, nil_row, nil_sl, nil_row, nil_sl, nil_row, nil_sl, nil_row, nil_sl, nil_row, nil_sl, Cells.nil⟩
 clear hhc
 try simp only [hn1, hn2, hn5, hn7, hn8, hn9, hn10, hn11, hxll, hxkn, hxnn, hxxn] at hcb
 have HCB := Lib.hid hcb
 clear hcb hE s1 r1 s2 r2 s5 r5 s7 r7 s8 r8 s9 r9 s10 r10 s11 r11 hin hn1 hn2 hn5 hn7 hn8 hn9 hn10 hn11 hxll hxkn hxnn hxxn
 obtain ⟨r0, HXr0, HSr0, HQr0, HKpt', mr0, fr0⟩ := st_box p7 HKpt (by have := HZ0.out; omega) 0 (.string ⟨#[67, 82, 69, 65, 84, 69, 32]⟩)
 replace HPpt := Lib.hid (HPpt.out.moved HXr0.out (by have := HZ0.out; omega) (by have := HZ0.out; omega))
 replace HKhas := Lib.hid (HKhas.out.of_heap (HQr0.out _ (by have := HZ0.out; omega)))
 replace HKpt : Hid (Block _ _ [.string ⟨#[67, 82, 69, 65, 84, 69, 32]⟩, .slice papt n1 pcpt, .int .i64 1, .int .i64 1048576] 103) := HKpt'
 clear HKpt'
 replace HZ0 := Lib.hid (And.intro HZ0.out HSr0.out)
 go_wp2_with fail
 rw [HXr0.out]
 have HDR : Hid (p6.w.heap.size < r0.w.heap.size) := Lib.hid (by have := HZ0.out; omega)
 replace HZ0 := Lib.hid (And.intro HZ0.out HDR.out)
 have y1 := cy_one p6.w.heap.size (e1 r0) (by have := HZ0.out; omega)
 obtain ⟨zpt0, zpt1, zpt2, zpt3⟩ := cz4 p6.w.heap.size HKpt.out (by have := HZ0.out; omega)
 clear e0 e1 e2 e3 e4 e5 e6 e7 e8 e9 e10 e11 e12 e13 e14 e15 e16 e17 e18 e19 e20 e21
 have HSS := Lib.hid (fun v => And.intro (y1 v) (And.intro (zpt0 v) (And.intro (zpt1 v) (And.intro (zpt2 v) (zpt3 v)))))
 refine wp_region_noPanic ?_
 refine wp_region_J (S := fun u : World => u.cell? ⟨w.heap.size, 1, none⟩ = some (.slice a1 n1 c1) ∧ u.cell? ⟨q1.w.heap.size, 0, none⟩ = some (.string ⟨#[67, 82, 69, 65, 84, 69, 32]⟩) ∧ u.cell? ⟨q1.w.heap.size, 1, none⟩ = some (.slice papt n1 pcpt) ∧ u.cell? ⟨q1.w.heap.size, 2, none⟩ = some (.int .i64 1) ∧ u.cell? ⟨q1.w.heap.size, 3, none⟩ = some (.int .i64 1048576)) (fun j => false) (by kernel_rfl) ?_
 obtain ⟨v0, HXv0, HH0, HSv0⟩ := mk_start (p6.w.heap.size) r0.w HKhas
 rw [HXv0.out]
 have hHeld := HSS.out v0
 replace HZ0 := Lib.hid (And.intro HZ0.out HSv0.out)
 refine Jl 0 ?_
 refine Jt 2 ?_
 refine Jl 3 ?_
 refine Jr 1 fun KK hKK => ?_
 obtain ⟨v1, HXv1, HBv1, HKl, HSv1⟩ := al_box v0 (Nat.le_of_lt HDR.out) [.string ⟨#[67, 82, 69, 65, 84, 69, 32]⟩, .slice papt n1 pcpt, .int .i64 1, .int .i64 1048576] 103
 have HH1 := Lib.hid (HH0.out.below HBv1.out HH0.out.lt)
 replace HZ0 := Lib.hid (And.intro HZ0.out HSv1.out)
 go_simp
 rw [HXv1.out]
 refine hKK _ _ (fun _ _ => HSS.out v1) ?_
 clear hKK KK hHeld
 have hHeld := HSS.out v1
 refine Jn ?_
 refine Jt 4 ?_
 refine Jt 5 ?_
 refine Jr 6 fun KK hKK => ?_
 obtain ⟨v2, HXv2, HSv2, HQv2, HH2, gv2, fv2⟩ := st_box v1 HH1 (Nat.le_refl _) 1 (.slice a1 n1 c1)
 replace HKl := Lib.hid (HKl.out.of_heap (HQv2.out _ (by have := HZ0.out; omega)))
 replace HZ0 := Lib.hid (And.intro HZ0.out HSv2.out)
 go_simp
 rw [HXv2.out]
 refine hKK _ _ (fun _ _ => HSS.out v2) ?_
 clear hKK KK hHeld gv2 fv2
 have hHeld := HSS.out v2
 refine Jn ?_
 refine wpAnyJ_done (by kernel_rfl) ?_ _
 refine NoPanic.normal ?_
 clear hHeld
 have HBW : Hid (Below w.heap.size w v2.w) := Lib.hid ((HBE.out r0).trans (v2.below.mono (by have := HZ0.out; omega)))
 have HCA := Lib.hid (HCC.out.below HBW.out (by have := HZ0.out; omega))
 have HCD := Lib.hid (HCB.out.below HBW.out (by have := HZ0.out; omega))
 have HGO := Lib.hid (HAL _ _ _ _ B v2.w HCA.out HCD.out (by have := HZ0.out; omega))
 have HRG1 := Lib.hid (rangeAt_ext v2 (HRA.out r0) (by have := HZ0.out; omega))
 have HRG2 := Lib.hid (rg_of HCD.out (rangeAt_block HH2.out))
 go_wp2_with (first | (refine wpList_load_mid rfl 71 _ rfl (w.heap.size) 0 rfl _ _ HRG1.out Tryz.underlying71 rfl (by kernel_rfl) ?_) | (refine wpList_load_mid rfl 71 _ rfl (p6.w.heap.size) 0 rfl _ _ HRG2.out Tryz.underlying71 rfl (by kernel_rfl) ?_))
 refine HGO.out.mono ?_
 rintro e w9 ⟨rfl, hb9⟩
 go_wp2_with fail
 go_ret2
 have hz9 := hb9.size
 obtain ⟨hn1, hn2, hn5, hn7, hn8, hn9, hn10, hn11, -⟩ := HN.out
 have hgb : groupsB ⟨4, l1, l2, .mk op nm (.mk xk xb xi xs xl xks) xns xaz, vr, l5, un, l7, l8, l9, l10, l11, de⟩ = alikeB ⟨4, l1, l2, .mk op nm (.mk xk xb xi xs xl xks) xns xaz, vr, l5, un, l7, l8, l9, l10, l11, de⟩ (hasC ⟨4, l1, l2, .mk op nm (.mk xk xb xi xs xl xks) xns xaz, vr, l5, un, l7, l8, l9, l10, l11, de⟩) := by simp [groupsB]
 have hgl : groupsL ⟨4, l1, l2, .mk op nm (.mk xk xb xi xs xl xks) xns xaz, vr, l5, un, l7, l8, l9, l10, l11, de⟩ = [pathsG ⟨4, l1, l2, .mk op nm (.mk xk xb xi xs xl xks) xns xaz, vr, l5, un, l7, l8, l9, l10, l11, de⟩ ⟨#[67, 82, 69, 65, 84, 69, 32]⟩ 1048576] := by simp [groupsL]
 rw [hgb, hgl]
 refine ⟨some ⟨v0.w.heap.size, 0, none⟩, 1, 1, rfl, rfl, ⟨⟨Nat.le_refl _, by omega⟩, fun h => by cases h⟩, gr_row (css := [[.string ⟨#[67, 82, 69, 65, 84, 69, 32]⟩, .slice papt n1 pcpt, .int .i64 1, .int .i64 1048576]]) (HKl.out.below hb9 HKl.out.lt) rfl ?_, HBW.out.trans (hb9.mono HBW.out.size)⟩
 exact AllGr.cons (mk_gr ((HPpt.out.below v2.below (by have := HZ0.out; omega) (by have := HZ0.out; omega)).below hb9 (by have := HZ0.out; omega) (by have := HZ0.out; omega)) (by rw [List.length_map]; exact hn1) HLpt.out _ _ _) (AllGr.nil)) : P := h
set_option maxHeartbeats 64000000 in
theorem groups_4 (HAL : AlikeSaid) (c : Clt) (cs : List Value) (B : Nat) (w : World) (hc : IsCl B w cs c) (hB : B ≤ w.heap.size) (hw : wtCl c ≤ 1048576) (hk : c.kind = 4) :
    Calls Tryz.prog 35 #[.agg cs.toArray] w fun e w' => ∃ a n cap, e = .returned (.tuple #[.slice a n cap, .bool (groupsB c)]) ∧ n = (groupsL c).length ∧ SlOk a n cap ∧ GRow B w' a (groupsL c) ∧ Below w.heap.size w w' := by
 have zk4 := trivial
 exact pre31
set_option maxRecDepth 100000 in
theorem Sq696135 {P : Prop} (h : P := by
 first
 |(
  guard_hyp z696135a
  have hn0 : ((n1 : Int) == 1) = false := by have := HN.out.1; simp at this; subst this; simp; omega
  have HMB : Hid (mergeBad ⟨5, (pp :: pq :: pr), l2, .mk op nm (.mk xk xb xi xs xl xks) xns xaz, vr, l5, un, l7, l8, l9, l10, l11, de⟩ = false) := Lib.hid (by simp [mergeBad]))
 |(
  guard_hyp z696135b
  have hn0 : ((n1 : Int) == 1) = false := by have := HN.out.1; simp at this; subst this; rfl
  have HMB : Hid (mergeBad ⟨5, [], l2, .mk op nm (.mk xk xb xi xs xl xks) xns xaz, vr, l5, un, l7, l8, l9, l10, l11, de⟩ = false) := Lib.hid (by simp [mergeBad]))
 | (have HMB : Hid (mergeBad ⟨5, [pp], l2, .mk op nm (.mk xk xb xi xs xl xks) xns xaz, vr, l5, un, l7, l8, l9, l10, l11, de⟩ = false) := Lib.hid (by simp [mergeBad, hmm]))
 go_wp2_with fail
 have HDR : Hid (p6.w.heap.size < r1.w.heap.size) := Lib.hid (by have := HZ0.out; omega)
 replace HZ0 := Lib.hid (And.intro HZ0.out HDR.out)
 have y1 := cy_one p6.w.heap.size (e1 r1) (by have := HZ0.out; omega)
 obtain ⟨zpt0, zpt1, zpt2, zpt3⟩ := cz4 p6.w.heap.size HKpt.out (by have := HZ0.out; omega)
 clear e0 e1 e2 e3 e4 e5 e6 e7 e8 e9 e10 e11 e12 e13 e14 e15 e16 e17 e18 e19 e20 e21
 have HSS := Lib.hid (fun v => And.intro (y1 v) (And.intro (zpt0 v) (And.intro (zpt1 v) (And.intro (zpt2 v) (zpt3 v)))))
 refine wp_region_noPanic ?_
 first
 | (guard_hyp z696135c; refine wp_region_J (S := fun u : World => u.cell? ⟨w.heap.size, 1, none⟩ = some (.slice (some ⟨bb, off, none⟩) 1 c1) ∧ u.cell? ⟨q1.w.heap.size, 0, none⟩ = some (.string ⟨#[77, 69, 82, 71, 69, 32]⟩) ∧ u.cell? ⟨q1.w.heap.size, 1, none⟩ = some (.slice papt 1 pcpt) ∧ u.cell? ⟨q1.w.heap.size, 2, none⟩ = some (.int .i64 1) ∧ u.cell? ⟨q1.w.heap.size, 3, none⟩ = some (.int .i64 1)) (fun j => false) (by kernel_rfl) ?_)
 | (refine wp_region_J (S := fun u : World => u.cell? ⟨w.heap.size, 1, none⟩ = some (.slice a1 n1 c1) ∧ u.cell? ⟨q1.w.heap.size, 0, none⟩ = some (.string ⟨#[77, 69, 82, 71, 69, 32]⟩) ∧ u.cell? ⟨q1.w.heap.size, 1, none⟩ = some (.slice papt n1 pcpt) ∧ u.cell? ⟨q1.w.heap.size, 2, none⟩ = some (.int .i64 1) ∧ u.cell? ⟨q1.w.heap.size, 3, none⟩ = some (.int .i64 1)) (fun j => false) (by kernel_rfl) ?_)
 obtain ⟨v0, HXv0, HH0, HSv0⟩ := mk_start (p6.w.heap.size) r1.w HKhas
 rw [HXv0.out]
 have hHeld := HSS.out v0
 replace HZ0 := Lib.hid (And.intro HZ0.out HSv0.out)
 refine Jl 0 ?_
 refine Jt 2 ?_
 refine Jl 3 ?_
 refine Jr 1 fun KK hKK => ?_
 first
 | (guard_hyp z696135c; obtain ⟨v1, HXv1, HBv1, HKl, HSv1⟩ := al_box v0 (Nat.le_of_lt HDR.out) [.string ⟨#[77, 69, 82, 71, 69, 32]⟩, .slice papt 1 pcpt, .int .i64 1, .int .i64 1] 103)
 | (obtain ⟨v1, HXv1, HBv1, HKl, HSv1⟩ := al_box v0 (Nat.le_of_lt HDR.out) [.string ⟨#[77, 69, 82, 71, 69, 32]⟩, .slice papt n1 pcpt, .int .i64 1, .int .i64 1] 103)
 have HH1 := Lib.hid (HH0.out.below HBv1.out HH0.out.lt)
 replace HZ0 := Lib.hid (And.intro HZ0.out HSv1.out)
 go_simp
 rw [HXv1.out]
 refine hKK _ _ (fun _ _ => HSS.out v1) ?_
 clear hKK KK hHeld
 have hHeld := HSS.out v1
 refine Jn ?_
 refine Jt 4 ?_
 refine Jt 5 ?_
 refine Jr 6 fun KK hKK => ?_
 first
 | (guard_hyp z696135c; obtain ⟨v2, HXv2, HSv2, HQv2, HH2, gv2, fv2⟩ := st_box v1 HH1 (Nat.le_refl _) 1 (.slice (some ⟨bb, off, none⟩) 1 c1))
 | (obtain ⟨v2, HXv2, HSv2, HQv2, HH2, gv2, fv2⟩ := st_box v1 HH1 (Nat.le_refl _) 1 (.slice a1 n1 c1))
 replace HKl := Lib.hid (HKl.out.of_heap (HQv2.out _ (by have := HZ0.out; omega)))
 replace HZ0 := Lib.hid (And.intro HZ0.out HSv2.out)
 go_simp
 rw [HXv2.out]
 refine hKK _ _ (fun _ _ => HSS.out v2) ?_
 clear hKK KK hHeld gv2 fv2
 have hHeld := HSS.out v2
 refine Jn ?_
 refine wpAnyJ_done (by kernel_rfl) ?_ _
 refine NoPanic.normal ?_
 clear hHeld
 have HBW : Hid (Below w.heap.size w v2.w) := Lib.hid ((HBE.out r1).trans (v2.below.mono (by have := HZ0.out; omega)))
 have HCA := Lib.hid (HCC.out.below HBW.out (by have := HZ0.out; omega))
 have HCD := Lib.hid (HCB.out.below HBW.out (by have := HZ0.out; omega))
 have HGO := Lib.hid (HAL _ _ _ _ B v2.w HCA.out HCD.out (by have := HZ0.out; omega))
 have HRG1 := Lib.hid (rangeAt_ext v2 (HRA.out r1) (by have := HZ0.out; omega))
 have HRG2 := Lib.hid (rg_of HCD.out (rangeAt_block HH2.out))
 go_wp2_with (first | (refine wpList_load_mid rfl 71 _ rfl (w.heap.size) 0 rfl _ _ HRG1.out Tryz.underlying71 rfl (by kernel_rfl) ?_) | (refine wpList_load_mid rfl 71 _ rfl (p6.w.heap.size) 0 rfl _ _ HRG2.out Tryz.underlying71 rfl (by kernel_rfl) ?_))
 refine HGO.out.mono ?_
 rintro e w9 ⟨rfl, hb9⟩
 go_wp2_with fail
 go_ret2
 have hz9 := hb9.size
 obtain ⟨hn1, hn2, hn5, hn7, hn8, hn9, hn10, hn11, -⟩ := HN.out
 first
 |(
  guard_hyp z696135a
  have hgb : groupsB ⟨5, (pp :: pq :: pr), l2, .mk op nm (.mk xk xb xi xs xl xks) xns xaz, vr, l5, un, l7, l8, l9, l10, l11, de⟩ = alikeB ⟨5, (pp :: pq :: pr), l2, .mk op nm (.mk xk xb xi xs xl xks) xns xaz, vr, l5, un, l7, l8, l9, l10, l11, de⟩ (hasC ⟨5, (pp :: pq :: pr), l2, .mk op nm (.mk xk xb xi xs xl xks) xns xaz, vr, l5, un, l7, l8, l9, l10, l11, de⟩) := by simp [groupsB, HMB.out]
  have hgl : groupsL ⟨5, (pp :: pq :: pr), l2, .mk op nm (.mk xk xb xi xs xl xks) xns xaz, vr, l5, un, l7, l8, l9, l10, l11, de⟩ = [pathsG ⟨5, (pp :: pq :: pr), l2, .mk op nm (.mk xk xb xi xs xl xks) xns xaz, vr, l5, un, l7, l8, l9, l10, l11, de⟩ ⟨#[77, 69, 82, 71, 69, 32]⟩ 1] := by simp [groupsL, HMB.out])
 |(
  guard_hyp z696135c
  have hgb : groupsB ⟨5, [pp], l2, .mk op nm (.mk xk xb xi xs xl xks) xns xaz, vr, l5, un, l7, l8, l9, l10, l11, de⟩ = alikeB ⟨5, [pp], l2, .mk op nm (.mk xk xb xi xs xl xks) xns xaz, vr, l5, un, l7, l8, l9, l10, l11, de⟩ (hasC ⟨5, [pp], l2, .mk op nm (.mk xk xb xi xs xl xks) xns xaz, vr, l5, un, l7, l8, l9, l10, l11, de⟩) := by simp [groupsB, HMB.out]
  have hgl : groupsL ⟨5, [pp], l2, .mk op nm (.mk xk xb xi xs xl xks) xns xaz, vr, l5, un, l7, l8, l9, l10, l11, de⟩ = [pathsG ⟨5, [pp], l2, .mk op nm (.mk xk xb xi xs xl xks) xns xaz, vr, l5, un, l7, l8, l9, l10, l11, de⟩ ⟨#[77, 69, 82, 71, 69, 32]⟩ 1] := by simp [groupsL, HMB.out])
 |(
  have hgb : groupsB ⟨5, [], l2, .mk op nm (.mk xk xb xi xs xl xks) xns xaz, vr, l5, un, l7, l8, l9, l10, l11, de⟩ = alikeB ⟨5, [], l2, .mk op nm (.mk xk xb xi xs xl xks) xns xaz, vr, l5, un, l7, l8, l9, l10, l11, de⟩ (hasC ⟨5, [], l2, .mk op nm (.mk xk xb xi xs xl xks) xns xaz, vr, l5, un, l7, l8, l9, l10, l11, de⟩) := by simp [groupsB, HMB.out]
  have hgl : groupsL ⟨5, [], l2, .mk op nm (.mk xk xb xi xs xl xks) xns xaz, vr, l5, un, l7, l8, l9, l10, l11, de⟩ = [pathsG ⟨5, [], l2, .mk op nm (.mk xk xb xi xs xl xks) xns xaz, vr, l5, un, l7, l8, l9, l10, l11, de⟩ ⟨#[77, 69, 82, 71, 69, 32]⟩ 1] := by simp [groupsL, HMB.out])
 rw [hgb, hgl]
 first
 | (guard_hyp z696135c; refine ⟨some ⟨v0.w.heap.size, 0, none⟩, 1, 1, rfl, rfl, ⟨⟨Nat.le_refl _, by omega⟩, fun h => by cases h⟩, gr_row (css := [[.string ⟨#[77, 69, 82, 71, 69, 32]⟩, .slice papt 1 pcpt, .int .i64 1, .int .i64 1]]) (HKl.out.below hb9 HKl.out.lt) rfl ?_, HBW.out.trans (hb9.mono HBW.out.size)⟩)
 | (refine ⟨some ⟨v0.w.heap.size, 0, none⟩, 1, 1, rfl, rfl, ⟨⟨Nat.le_refl _, by omega⟩, fun h => by cases h⟩, gr_row (css := [[.string ⟨#[77, 69, 82, 71, 69, 32]⟩, .slice papt n1 pcpt, .int .i64 1, .int .i64 1]]) (HKl.out.below hb9 HKl.out.lt) rfl ?_, HBW.out.trans (hb9.mono HBW.out.size)⟩)
 exact AllGr.cons (mk_gr ((HPpt.out.below v2.below (by have := HZ0.out; omega) (by have := HZ0.out; omega)).below hb9 (by have := HZ0.out; omega) (by have := HZ0.out; omega)) (by rw [List.length_map]; exact hn1) HLpt.out _ _ _) (AllGr.nil)) : P := h
set_option maxRecDepth 100000 in
theorem arm31_5 {P : Prop} (h : P := by
 have hk := HK.out
 clear HK
 subst hk
 obtain ⟨hin, s1, r1, s2, r2, s5, r5, s7, r7, s8, r8, s9, r9, s10, r10, s11, r11, hE⟩ := HRS.out
 obtain ⟨hn1, hn2, hn5, hn7, hn8, hn9, hn10, hn11, hxll, hxkn, hxnn, hxxn⟩ := HN.out
 have hhc : hasC ⟨5, l1, l2, .mk op nm (.mk xk xb xi xs xl xks) xns xaz, vr, l5, un, l7, l8, l9, l10, l11, de⟩ = ⟨5, l1, [], emptyX, ⟨#[]⟩, [], false, [], [], [], [], [], false⟩ := by simp [hasC, bareC]
 have hcb : IsCl B w [.int .i64 5, .slice a1 l1.length c1, .slice none 0 0, .int .i64 0, .string ⟨#[]⟩, .int .i64 0, .bool false, .int .i64 0, .string ⟨#[]⟩, .slice none 0 0, .slice none 0 0, .slice none 0 0, .slice none 0 0, .string ⟨#[]⟩, .slice none 0 0, .bool false, .slice none 0 0, .slice none 0 0, .slice none 0 0, .slice none 0 0, .slice none 0 0, .bool false] (hasC ⟨5, l1, l2, .mk op nm (.mk xk xb xi xs xl xks) xns xaz, vr, l5, un, l7, l8, l9, l10, l11, de⟩) := by rw [hhc]; exact ⟨a1, c1, none, 0, zeroX, none, 0, none, 0, none, 0, none, 0, none, 0, none, 0, rfl, hin, s1, r1, nil_sl, nil_row, zero_isX _ _, nil_sl, nil_row, nil_sl, nil_row, nil_sl, nil_row, nil_sl, nil_row, nil_sl, nil_row, nil_sl, Cells.nil⟩
 clear hhc
 try simp only [hn1, hn2, hn5, hn7, hn8, hn9, hn10, hn11, hxll, hxkn, hxnn, hxxn] at hcb
 have HCB := Lib.hid hcb
 have HR1 := Lib.hid r1
 clear hcb hE s1 r1 s2 r2 s5 r5 s7 r7 s8 r8 s9 r9 s10 r10 s11 r11 hin hn1 hn2 hn5 hn7 hn8 hn9 hn10 hn11 hxll hxkn hxnn hxxn
 have m3 : p7.w.cell? ⟨q1.w.heap.size, 3, none⟩ = some _ := HKpt.out.cell (i := 3) rfl
 have f3 : p7.w.frozen? ⟨q1.w.heap.size, 3, none⟩ = false := HKpt.out.free 3
 obtain ⟨r0, HXr0, HSr0, HQr0, HKpt', mr0, fr0⟩ := st_box p7 HKpt (by have := HZ0.out; omega) 0 (.string ⟨#[77, 69, 82, 71, 69, 32]⟩)
 replace HPpt := Lib.hid (HPpt.out.moved HXr0.out (by have := HZ0.out; omega) (by have := HZ0.out; omega))
 replace HKhas := Lib.hid (HKhas.out.of_heap (HQr0.out _ (by have := HZ0.out; omega)))
 replace HKpt : Hid (Block _ _ [.string ⟨#[77, 69, 82, 71, 69, 32]⟩, .slice papt n1 pcpt, .int .i64 1, .int .i64 1048576] 103) := HKpt'
 clear HKpt'
 replace HZ0 := Lib.hid (And.intro HZ0.out HSr0.out)
 obtain ⟨r1, HXr1, HSr1, HQr1, HKpt', mr1, fr1⟩ := st_box r0 HKpt (by have := HZ0.out; omega) 3 (.int .i64 1)
 replace HPpt := Lib.hid (HPpt.out.moved HXr1.out (by have := HZ0.out; omega) (by have := HZ0.out; omega))
 replace HKhas := Lib.hid (HKhas.out.of_heap (HQr1.out _ (by have := HZ0.out; omega)))
 replace HKpt : Hid (Block _ _ [.string ⟨#[77, 69, 82, 71, 69, 32]⟩, .slice papt n1 pcpt, .int .i64 1, .int .i64 1] 103) := HKpt'
 clear HKpt'
 replace HZ0 := Lib.hid (And.intro HZ0.out HSr1.out)
 go_upto_region 31 with fail
 rw [HXr0.out, HXr1.out]
 rcases l1 with _ | ⟨pp, _ | ⟨pq, pr⟩⟩
 ·have z696135b := trivial
  exact Sq696135
 ·have hn1' : n1 = 1 := by have := HN.out.1; simpa using this.symm
  subst hn1'
  obtain ⟨bb, off, cs, hea, hbb, hlen, hcell, hpt⟩ := HR1.out 0 pp rfl
  obtain ⟨pna, pnc, pea, pec, rfl, hrest⟩ := hpt
  clear hrest
  subst hea
  have hx : r1.w.cell? ⟨bb, off + 1, none⟩ = some (.slice pea pp.edges.length pec) := by rw [(HBE.out r1).cell (by show bb < w.heap.size; have := HZ0.out; omega)]; have := hcell 1 _ rfl; simpa using this
  clear hcell hlen hbb
  obtain ⟨mm, hmm⟩ := nam pp.edges.length
  rw [hmm] at hx
  rcases mm with _ | mm
  ·have z696135c := trivial
   exact Sq696135
  ·have hgt : decide ((0 : Int) < ((mm + 1 : Nat) : Int)) = true := by first | (simp; done) | (simp; omega)
   go_wp2_with fail
   go_ret2
   have hmb : mergeBad ⟨5, [pp], l2, .mk op nm (.mk xk xb xi xs xl xks) xns xaz, vr, l5, un, l7, l8, l9, l10, l11, de⟩ = true := by simp [mergeBad, hmm]
   have hgb : groupsB ⟨5, [pp], l2, .mk op nm (.mk xk xb xi xs xl xks) xns xaz, vr, l5, un, l7, l8, l9, l10, l11, de⟩ = false := by simp [groupsB, hmb]
   have hgl : groupsL ⟨5, [pp], l2, .mk op nm (.mk xk xb xi xs xl xks) xns xaz, vr, l5, un, l7, l8, l9, l10, l11, de⟩ = [] := by simp [groupsL, hmb]
   rw [hgb, hgl]
   exact ⟨none, 0, 0, rfl, rfl, nil_sl, GRow.nil, HBE.out r1⟩
 ·have z696135a := trivial
  exact Sq696135) : P := h
set_option maxHeartbeats 64000000 in
theorem groups_5 (HAL : AlikeSaid) (c : Clt) (cs : List Value) (B : Nat) (w : World) (hc : IsCl B w cs c) (hB : B ≤ w.heap.size) (hw : wtCl c ≤ 1048576) (hk : c.kind = 5) :
    Calls Tryz.prog 35 #[.agg cs.toArray] w fun e w' => ∃ a n cap, e = .returned (.tuple #[.slice a n cap, .bool (groupsB c)]) ∧ n = (groupsL c).length ∧ SlOk a n cap ∧ GRow B w' a (groupsL c) ∧ Below w.heap.size w w' := by
 have zk5 := trivial
 exact pre31
set_option maxRecDepth 100000 in
theorem arm31_6 {P : Prop} (h : P := by
 have hk := HK.out
 clear HK
 subst hk
 obtain ⟨hin, s1, r1, s2, r2, s5, r5, s7, r7, s8, r8, s9, r9, s10, r10, s11, r11, hE⟩ := HRS.out
 obtain ⟨hn1, hn2, hn5, hn7, hn8, hn9, hn10, hn11, hxll, hxkn, hxnn, hxxn⟩ := HN.out
 have hhc : hasC ⟨6, l1, l2, .mk op nm (.mk xk xb xi xs xl xks) xns xaz, vr, l5, un, l7, l8, l9, l10, l11, de⟩ = ⟨6, [], [], emptyX, ⟨#[]⟩, [], false, [], [], [], l10, [], false⟩ := by simp [hasC, bareC]
 have hcb : IsCl B w [.int .i64 6, .slice none 0 0, .slice none 0 0, .int .i64 0, .string ⟨#[]⟩, .int .i64 0, .bool false, .int .i64 0, .string ⟨#[]⟩, .slice none 0 0, .slice none 0 0, .slice none 0 0, .slice none 0 0, .string ⟨#[]⟩, .slice none 0 0, .bool false, .slice none 0 0, .slice none 0 0, .slice none 0 0, .slice a10 l10.length c10, .slice none 0 0, .bool false] (hasC ⟨6, l1, l2, .mk op nm (.mk xk xb xi xs xl xks) xns xaz, vr, l5, un, l7, l8, l9, l10, l11, de⟩) := by rw [hhc]; exact ⟨none, 0, none, 0, zeroX, none, 0, none, 0, none, 0, none, 0, a10, c10, none, 0, rfl, hin, nil_sl, nil_row, nil_sl, nil_row, zero_isX _ _, nil_sl, nil_row, nil_sl, nil_row, nil_sl, nil_row, nil_sl, nil_row, s10, r10, nil_sl, Cells.nil⟩
 clear hhc
 try simp only [hn1, hn2, hn5, hn7, hn8, hn9, hn10, hn11, hxll, hxkn, hxnn, hxxn] at hcb
 have HCB := Lib.hid hcb
 clear hcb hE s1 r1 s2 r2 s5 r5 s7 r7 s8 r8 s9 r9 s10 r10 s11 r11 hin hn1 hn2 hn5 hn7 hn8 hn9 hn10 hn11 hxll hxkn hxnn hxxn
 obtain ⟨r0, HXr0, HSr0, HQr0, HKsi', mr0, fr0⟩ := st_box p7 HKsi (by have := HZ0.out; omega) 0 (.string ⟨#[83, 69, 84, 32]⟩)
 replace HPsi := Lib.hid (HPsi.out.moved HXr0.out (by have := HZ0.out; omega) (by have := HZ0.out; omega))
 replace HKhas := Lib.hid (HKhas.out.of_heap (HQr0.out _ (by have := HZ0.out; omega)))
 replace HKsi : Hid (Block _ _ [.string ⟨#[83, 69, 84, 32]⟩, .slice pasi n10 pcsi, .int .i64 1, .int .i64 1048576] 103) := HKsi'
 clear HKsi'
 replace HZ0 := Lib.hid (And.intro HZ0.out HSr0.out)
 go_upto_region 37 with fail
 rw [HXr0.out]
 go_wp2_with fail
 have HDR : Hid (p6.w.heap.size < r0.w.heap.size) := Lib.hid (by have := HZ0.out; omega)
 replace HZ0 := Lib.hid (And.intro HZ0.out HDR.out)
 have y19 := cy_one p6.w.heap.size (e19 r0) (by have := HZ0.out; omega)
 obtain ⟨zsi0, zsi1, zsi2, zsi3⟩ := cz4 p6.w.heap.size HKsi.out (by have := HZ0.out; omega)
 clear e0 e1 e2 e3 e4 e5 e6 e7 e8 e9 e10 e11 e12 e13 e14 e15 e16 e17 e18 e19 e20 e21
 have HSS := Lib.hid (fun v => And.intro (y19 v) (And.intro (zsi0 v) (And.intro (zsi1 v) (And.intro (zsi2 v) (zsi3 v)))))
 refine wp_region_noPanic ?_
 refine wp_region_J (S := fun u : World => u.cell? ⟨w.heap.size, 19, none⟩ = some (.slice a10 n10 c10) ∧ u.cell? ⟨q6.w.heap.size, 0, none⟩ = some (.string ⟨#[83, 69, 84, 32]⟩) ∧ u.cell? ⟨q6.w.heap.size, 1, none⟩ = some (.slice pasi n10 pcsi) ∧ u.cell? ⟨q6.w.heap.size, 2, none⟩ = some (.int .i64 1) ∧ u.cell? ⟨q6.w.heap.size, 3, none⟩ = some (.int .i64 1048576)) (fun j => false) (by kernel_rfl) ?_
 obtain ⟨v0, HXv0, HH0, HSv0⟩ := mk_start (p6.w.heap.size) r0.w HKhas
 rw [HXv0.out]
 have hHeld := HSS.out v0
 replace HZ0 := Lib.hid (And.intro HZ0.out HSv0.out)
 refine Jl 0 ?_
 refine Jt 2 ?_
 refine Jl 3 ?_
 refine Jr 1 fun KK hKK => ?_
 obtain ⟨v1, HXv1, HBv1, HKl, HSv1⟩ := al_box v0 (Nat.le_of_lt HDR.out) [.string ⟨#[83, 69, 84, 32]⟩, .slice pasi n10 pcsi, .int .i64 1, .int .i64 1048576] 103
 have HH1 := Lib.hid (HH0.out.below HBv1.out HH0.out.lt)
 replace HZ0 := Lib.hid (And.intro HZ0.out HSv1.out)
 go_simp
 rw [HXv1.out]
 refine hKK _ _ (fun _ _ => HSS.out v1) ?_
 clear hKK KK hHeld
 have hHeld := HSS.out v1
 refine Jn ?_
 refine Jt 4 ?_
 refine Jt 5 ?_
 refine Jr 6 fun KK hKK => ?_
 obtain ⟨v2, HXv2, HSv2, HQv2, HH2, gv2, fv2⟩ := st_box v1 HH1 (Nat.le_refl _) 19 (.slice a10 n10 c10)
 replace HKl := Lib.hid (HKl.out.of_heap (HQv2.out _ (by have := HZ0.out; omega)))
 replace HZ0 := Lib.hid (And.intro HZ0.out HSv2.out)
 go_simp
 rw [HXv2.out]
 refine hKK _ _ (fun _ _ => HSS.out v2) ?_
 clear hKK KK hHeld gv2 fv2
 have hHeld := HSS.out v2
 refine Jn ?_
 refine wpAnyJ_done (by kernel_rfl) ?_ _
 refine NoPanic.normal ?_
 clear hHeld
 have HBW : Hid (Below w.heap.size w v2.w) := Lib.hid ((HBE.out r0).trans (v2.below.mono (by have := HZ0.out; omega)))
 have HCA := Lib.hid (HCC.out.below HBW.out (by have := HZ0.out; omega))
 have HCD := Lib.hid (HCB.out.below HBW.out (by have := HZ0.out; omega))
 have HGO := Lib.hid (HAL _ _ _ _ B v2.w HCA.out HCD.out (by have := HZ0.out; omega))
 have HRG1 := Lib.hid (rangeAt_ext v2 (HRA.out r0) (by have := HZ0.out; omega))
 have HRG2 := Lib.hid (rg_of HCD.out (rangeAt_block HH2.out))
 go_wp2_with (first | (refine wpList_load_mid rfl 71 _ rfl (w.heap.size) 0 rfl _ _ HRG1.out Tryz.underlying71 rfl (by kernel_rfl) ?_) | (refine wpList_load_mid rfl 71 _ rfl (p6.w.heap.size) 0 rfl _ _ HRG2.out Tryz.underlying71 rfl (by kernel_rfl) ?_))
 refine HGO.out.mono ?_
 rintro e w9 ⟨rfl, hb9⟩
 go_wp2_with fail
 go_ret2
 have hz9 := hb9.size
 obtain ⟨hn1, hn2, hn5, hn7, hn8, hn9, hn10, hn11, -⟩ := HN.out
 have hgb : groupsB ⟨6, l1, l2, .mk op nm (.mk xk xb xi xs xl xks) xns xaz, vr, l5, un, l7, l8, l9, l10, l11, de⟩ = alikeB ⟨6, l1, l2, .mk op nm (.mk xk xb xi xs xl xks) xns xaz, vr, l5, un, l7, l8, l9, l10, l11, de⟩ (hasC ⟨6, l1, l2, .mk op nm (.mk xk xb xi xs xl xks) xns xaz, vr, l5, un, l7, l8, l9, l10, l11, de⟩) := by simp [groupsB]
 have hgl : groupsL ⟨6, l1, l2, .mk op nm (.mk xk xb xi xs xl xks) xns xaz, vr, l5, un, l7, l8, l9, l10, l11, de⟩ = [setsG ⟨6, l1, l2, .mk op nm (.mk xk xb xi xs xl xks) xns xaz, vr, l5, un, l7, l8, l9, l10, l11, de⟩ ⟨#[83, 69, 84, 32]⟩] := by simp [groupsL]
 rw [hgb, hgl]
 refine ⟨some ⟨v0.w.heap.size, 0, none⟩, 1, 1, rfl, rfl, ⟨⟨Nat.le_refl _, by omega⟩, fun h => by cases h⟩, gr_row (css := [[.string ⟨#[83, 69, 84, 32]⟩, .slice pasi n10 pcsi, .int .i64 1, .int .i64 1048576]]) (HKl.out.below hb9 HKl.out.lt) rfl ?_, HBW.out.trans (hb9.mono HBW.out.size)⟩
 exact AllGr.cons (mk_gr ((HPsi.out.below v2.below (by have := HZ0.out; omega) (by have := HZ0.out; omega)).below hb9 (by have := HZ0.out; omega) (by have := HZ0.out; omega)) (by rw [List.length_map]; exact hn10) HLsi.out _ _ _) (AllGr.nil)) : P := h
set_option maxHeartbeats 64000000 in
theorem groups_6 (HAL : AlikeSaid) (c : Clt) (cs : List Value) (B : Nat) (w : World) (hc : IsCl B w cs c) (hB : B ≤ w.heap.size) (hw : wtCl c ≤ 1048576) (hk : c.kind = 6) :
    Calls Tryz.prog 35 #[.agg cs.toArray] w fun e w' => ∃ a n cap, e = .returned (.tuple #[.slice a n cap, .bool (groupsB c)]) ∧ n = (groupsL c).length ∧ SlOk a n cap ∧ GRow B w' a (groupsL c) ∧ Below w.heap.size w w' := by
 have zk6 := trivial
 exact pre31
set_option maxRecDepth 100000 in
theorem arm31_7 {P : Prop} (h : P := by
 have hk := HK.out
 clear HK
 subst hk
 obtain ⟨hin, s1, r1, s2, r2, s5, r5, s7, r7, s8, r8, s9, r9, s10, r10, s11, r11, hE⟩ := HRS.out
 obtain ⟨hn1, hn2, hn5, hn7, hn8, hn9, hn10, hn11, hxll, hxkn, hxnn, hxxn⟩ := HN.out
 have hhc : hasC ⟨7, l1, l2, .mk op nm (.mk xk xb xi xs xl xks) xns xaz, vr, l5, un, l7, l8, l9, l10, l11, de⟩ = ⟨7, [], [], emptyX, ⟨#[]⟩, [], false, [], [], [], l10, [], false⟩ := by simp [hasC, bareC]
 have hcb : IsCl B w [.int .i64 7, .slice none 0 0, .slice none 0 0, .int .i64 0, .string ⟨#[]⟩, .int .i64 0, .bool false, .int .i64 0, .string ⟨#[]⟩, .slice none 0 0, .slice none 0 0, .slice none 0 0, .slice none 0 0, .string ⟨#[]⟩, .slice none 0 0, .bool false, .slice none 0 0, .slice none 0 0, .slice none 0 0, .slice a10 l10.length c10, .slice none 0 0, .bool false] (hasC ⟨7, l1, l2, .mk op nm (.mk xk xb xi xs xl xks) xns xaz, vr, l5, un, l7, l8, l9, l10, l11, de⟩) := by rw [hhc]; exact ⟨none, 0, none, 0, zeroX, none, 0, none, 0, none, 0, none, 0, a10, c10, none, 0, rfl, hin, nil_sl, nil_row, nil_sl, nil_row, zero_isX _ _, nil_sl, nil_row, nil_sl, nil_row, nil_sl, nil_row, nil_sl, nil_row, s10, r10, nil_sl, Cells.nil⟩
 clear hhc
 try simp only [hn1, hn2, hn5, hn7, hn8, hn9, hn10, hn11, hxll, hxkn, hxnn, hxxn] at hcb
 have HCB := Lib.hid hcb
 clear hcb hE s1 r1 s2 r2 s5 r5 s7 r7 s8 r8 s9 r9 s10 r10 s11 r11 hin hn1 hn2 hn5 hn7 hn8 hn9 hn10 hn11 hxll hxkn hxnn hxxn
 obtain ⟨r0, HXr0, HSr0, HQr0, HKsi', mr0, fr0⟩ := st_box p7 HKsi (by have := HZ0.out; omega) 0 (.string ⟨#[83, 69, 84, 32]⟩)
 replace HPsi := Lib.hid (HPsi.out.moved HXr0.out (by have := HZ0.out; omega) (by have := HZ0.out; omega))
 replace HKhas := Lib.hid (HKhas.out.of_heap (HQr0.out _ (by have := HZ0.out; omega)))
 replace HKsi : Hid (Block _ _ [.string ⟨#[83, 69, 84, 32]⟩, .slice pasi n10 pcsi, .int .i64 1, .int .i64 1048576] 103) := HKsi'
 clear HKsi'
 replace HZ0 := Lib.hid (And.intro HZ0.out HSr0.out)
 go_upto_region 37 with fail
 rw [HXr0.out]
 obtain ⟨r1, HXr1, HSr1, HQr1, HKsi', mr1, fr1⟩ := st_box r0 HKsi (by have := HZ0.out; omega) 0 (.string ⟨#[82, 69, 77, 79, 86, 69, 32]⟩)
 replace HPsi := Lib.hid (HPsi.out.moved HXr1.out (by have := HZ0.out; omega) (by have := HZ0.out; omega))
 replace HKhas := Lib.hid (HKhas.out.of_heap (HQr1.out _ (by have := HZ0.out; omega)))
 replace HKsi : Hid (Block _ _ [.string ⟨#[82, 69, 77, 79, 86, 69, 32]⟩, .slice pasi n10 pcsi, .int .i64 1, .int .i64 1048576] 103) := HKsi'
 clear HKsi'
 replace HZ0 := Lib.hid (And.intro HZ0.out HSr1.out)
 go_wp2_with fail
 rw [HXr1.out]
 have HDR : Hid (p6.w.heap.size < r1.w.heap.size) := Lib.hid (by have := HZ0.out; omega)
 replace HZ0 := Lib.hid (And.intro HZ0.out HDR.out)
 have y19 := cy_one p6.w.heap.size (e19 r1) (by have := HZ0.out; omega)
 obtain ⟨zsi0, zsi1, zsi2, zsi3⟩ := cz4 p6.w.heap.size HKsi.out (by have := HZ0.out; omega)
 clear e0 e1 e2 e3 e4 e5 e6 e7 e8 e9 e10 e11 e12 e13 e14 e15 e16 e17 e18 e19 e20 e21
 have HSS := Lib.hid (fun v => And.intro (y19 v) (And.intro (zsi0 v) (And.intro (zsi1 v) (And.intro (zsi2 v) (zsi3 v)))))
 refine wp_region_noPanic ?_
 refine wp_region_J (S := fun u : World => u.cell? ⟨w.heap.size, 19, none⟩ = some (.slice a10 n10 c10) ∧ u.cell? ⟨q6.w.heap.size, 0, none⟩ = some (.string ⟨#[82, 69, 77, 79, 86, 69, 32]⟩) ∧ u.cell? ⟨q6.w.heap.size, 1, none⟩ = some (.slice pasi n10 pcsi) ∧ u.cell? ⟨q6.w.heap.size, 2, none⟩ = some (.int .i64 1) ∧ u.cell? ⟨q6.w.heap.size, 3, none⟩ = some (.int .i64 1048576)) (fun j => false) (by kernel_rfl) ?_
 obtain ⟨v0, HXv0, HH0, HSv0⟩ := mk_start (p6.w.heap.size) r1.w HKhas
 rw [HXv0.out]
 have hHeld := HSS.out v0
 replace HZ0 := Lib.hid (And.intro HZ0.out HSv0.out)
 refine Jl 0 ?_
 refine Jt 2 ?_
 refine Jl 3 ?_
 refine Jr 1 fun KK hKK => ?_
 obtain ⟨v1, HXv1, HBv1, HKl, HSv1⟩ := al_box v0 (Nat.le_of_lt HDR.out) [.string ⟨#[82, 69, 77, 79, 86, 69, 32]⟩, .slice pasi n10 pcsi, .int .i64 1, .int .i64 1048576] 103
 have HH1 := Lib.hid (HH0.out.below HBv1.out HH0.out.lt)
 replace HZ0 := Lib.hid (And.intro HZ0.out HSv1.out)
 go_simp
 rw [HXv1.out]
 refine hKK _ _ (fun _ _ => HSS.out v1) ?_
 clear hKK KK hHeld
 have hHeld := HSS.out v1
 refine Jn ?_
 refine Jt 4 ?_
 refine Jt 5 ?_
 refine Jr 6 fun KK hKK => ?_
 obtain ⟨v2, HXv2, HSv2, HQv2, HH2, gv2, fv2⟩ := st_box v1 HH1 (Nat.le_refl _) 19 (.slice a10 n10 c10)
 replace HKl := Lib.hid (HKl.out.of_heap (HQv2.out _ (by have := HZ0.out; omega)))
 replace HZ0 := Lib.hid (And.intro HZ0.out HSv2.out)
 go_simp
 rw [HXv2.out]
 refine hKK _ _ (fun _ _ => HSS.out v2) ?_
 clear hKK KK hHeld gv2 fv2
 have hHeld := HSS.out v2
 refine Jn ?_
 refine wpAnyJ_done (by kernel_rfl) ?_ _
 refine NoPanic.normal ?_
 clear hHeld
 have HBW : Hid (Below w.heap.size w v2.w) := Lib.hid ((HBE.out r1).trans (v2.below.mono (by have := HZ0.out; omega)))
 have HCA := Lib.hid (HCC.out.below HBW.out (by have := HZ0.out; omega))
 have HCD := Lib.hid (HCB.out.below HBW.out (by have := HZ0.out; omega))
 have HGO := Lib.hid (HAL _ _ _ _ B v2.w HCA.out HCD.out (by have := HZ0.out; omega))
 have HRG1 := Lib.hid (rangeAt_ext v2 (HRA.out r1) (by have := HZ0.out; omega))
 have HRG2 := Lib.hid (rg_of HCD.out (rangeAt_block HH2.out))
 go_wp2_with (first | (refine wpList_load_mid rfl 71 _ rfl (w.heap.size) 0 rfl _ _ HRG1.out Tryz.underlying71 rfl (by kernel_rfl) ?_) | (refine wpList_load_mid rfl 71 _ rfl (p6.w.heap.size) 0 rfl _ _ HRG2.out Tryz.underlying71 rfl (by kernel_rfl) ?_))
 refine HGO.out.mono ?_
 rintro e w9 ⟨rfl, hb9⟩
 go_wp2_with fail
 go_ret2
 have hz9 := hb9.size
 obtain ⟨hn1, hn2, hn5, hn7, hn8, hn9, hn10, hn11, -⟩ := HN.out
 have hgb : groupsB ⟨7, l1, l2, .mk op nm (.mk xk xb xi xs xl xks) xns xaz, vr, l5, un, l7, l8, l9, l10, l11, de⟩ = alikeB ⟨7, l1, l2, .mk op nm (.mk xk xb xi xs xl xks) xns xaz, vr, l5, un, l7, l8, l9, l10, l11, de⟩ (hasC ⟨7, l1, l2, .mk op nm (.mk xk xb xi xs xl xks) xns xaz, vr, l5, un, l7, l8, l9, l10, l11, de⟩) := by simp [groupsB]
 have hgl : groupsL ⟨7, l1, l2, .mk op nm (.mk xk xb xi xs xl xks) xns xaz, vr, l5, un, l7, l8, l9, l10, l11, de⟩ = [setsG ⟨7, l1, l2, .mk op nm (.mk xk xb xi xs xl xks) xns xaz, vr, l5, un, l7, l8, l9, l10, l11, de⟩ ⟨#[82, 69, 77, 79, 86, 69, 32]⟩] := by simp [groupsL]
 rw [hgb, hgl]
 refine ⟨some ⟨v0.w.heap.size, 0, none⟩, 1, 1, rfl, rfl, ⟨⟨Nat.le_refl _, by omega⟩, fun h => by cases h⟩, gr_row (css := [[.string ⟨#[82, 69, 77, 79, 86, 69, 32]⟩, .slice pasi n10 pcsi, .int .i64 1, .int .i64 1048576]]) (HKl.out.below hb9 HKl.out.lt) rfl ?_, HBW.out.trans (hb9.mono HBW.out.size)⟩
 exact AllGr.cons (mk_gr ((HPsi.out.below v2.below (by have := HZ0.out; omega) (by have := HZ0.out; omega)).below hb9 (by have := HZ0.out; omega) (by have := HZ0.out; omega)) (by rw [List.length_map]; exact hn10) HLsi.out _ _ _) (AllGr.nil)) : P := h
set_option maxHeartbeats 64000000 in
theorem groups_7 (HAL : AlikeSaid) (c : Clt) (cs : List Value) (B : Nat) (w : World) (hc : IsCl B w cs c) (hB : B ≤ w.heap.size) (hw : wtCl c ≤ 1048576) (hk : c.kind = 7) :
    Calls Tryz.prog 35 #[.agg cs.toArray] w fun e w' => ∃ a n cap, e = .returned (.tuple #[.slice a n cap, .bool (groupsB c)]) ∧ n = (groupsL c).length ∧ SlOk a n cap ∧ GRow B w' a (groupsL c) ∧ Below w.heap.size w w' := by
 have zk7 := trivial
 exact pre31
end Go.Proofs.YteljlahcdipilaaGreat

/- Parts X31K8, X31K9, X29A, X32 of this seat (pruned, scripts that are alike kept once as default arguments: q1, q2, ..). Conditions: each says its own. -/
import Derived.Test.YteljlahcdipilaaGreatF23
import Derived.Test.YteljlahcdipilaaGreatF44
import Derived.Test.YteljlahcdipilaaGreatF45
namespace Go.Proofs.YteljlahcdipilaaGreat
open Go.RowKit Go.Shelf
set_option linter.unusedSimpArgs false
set_option linter.unusedVariables false
set_option maxRecDepth 100000
set_option maxRecDepth 100000 in
theorem arm31_8 {P : Prop} (h : P := by
 have hk := HK.out
 clear HK
 subst hk
 obtain ⟨hin, s1, r1, s2, r2, s5, r5, s7, r7, s8, r8, s9, r9, s10, r10, s11, r11, hE⟩ := HRS.out
 obtain ⟨hn1, hn2, hn5, hn7, hn8, hn9, hn10, hn11, hxll, hxkn, hxnn, hxxn⟩ := HN.out
 have hhc : hasC ⟨8, l1, l2, .mk op nm (.mk xk xb xi xs xl xks) xns xaz, vr, l5, un, l7, l8, l9, l10, l11, de⟩ = ⟨8, [], [], emptyX, ⟨#[]⟩, [], false, [], [], [], [], l11, de⟩ := by simp [hasC, bareC]
 have hcb : IsCl B w [.int .i64 8, .slice none 0 0, .slice none 0 0, .int .i64 0, .string ⟨#[]⟩, .int .i64 0, .bool false, .int .i64 0, .string ⟨#[]⟩, .slice none 0 0, .slice none 0 0, .slice none 0 0, .slice none 0 0, .string ⟨#[]⟩, .slice none 0 0, .bool false, .slice none 0 0, .slice none 0 0, .slice none 0 0, .slice none 0 0, .slice a11 l11.length c11, .bool de] (hasC ⟨8, l1, l2, .mk op nm (.mk xk xb xi xs xl xks) xns xaz, vr, l5, un, l7, l8, l9, l10, l11, de⟩) := by rw [hhc]; exact ⟨none, 0, none, 0, zeroX, none, 0, none, 0, none, 0, none, 0, none, 0, a11, c11, rfl, hin, nil_sl, nil_row, nil_sl, nil_row, zero_isX _ _, nil_sl, nil_row, nil_sl, nil_row, nil_sl, nil_row, nil_sl, nil_row, nil_sl, nil_row, s11, r11⟩
 clear hhc
 try simp only [hn1, hn2, hn5, hn7, hn8, hn9, hn10, hn11, hxll, hxkn, hxnn, hxxn] at hcb
 have HCB := Lib.hid hcb
 clear hcb hE s1 r1 s2 r2 s5 r5 s7 r7 s8 r8 s9 r9 s10 r10 s11 r11 hin hn1 hn2 hn5 hn7 hn8 hn9 hn10 hn11 hxll hxkn hxnn hxxn
 cases de with
 | false =>
  go_wp2_with fail
  have HDR : Hid (p6.w.heap.size < p7.w.heap.size) := Lib.hid (by have := HZ0.out; omega)
  replace HZ0 := Lib.hid (And.intro HZ0.out HDR.out)
  have y20 := cy_one p6.w.heap.size (e20 p7) (by have := HZ0.out; omega)
  have y21 := cy_one p6.w.heap.size (e21 p7) (by have := HZ0.out; omega)
  obtain ⟨znm0, znm1, znm2, znm3⟩ := cz4 p6.w.heap.size HKnm.out (by have := HZ0.out; omega)
  clear e0 e1 e2 e3 e4 e5 e6 e7 e8 e9 e10 e11 e12 e13 e14 e15 e16 e17 e18 e19 e20 e21
  have HSS := Lib.hid (fun v => And.intro (y20 v) (And.intro (y21 v) (And.intro (znm0 v) (And.intro (znm1 v) (And.intro (znm2 v) (znm3 v))))))
  refine wp_region_noPanic ?_
  refine wp_region_J (S := fun u : World => u.cell? ⟨w.heap.size, 20, none⟩ = some (.slice a11 n11 c11) ∧ u.cell? ⟨w.heap.size, 21, none⟩ = some (.bool false) ∧ u.cell? ⟨q5.w.heap.size, 0, none⟩ = some (.string ⟨#[68, 69, 76, 69, 84, 69, 32]⟩) ∧ u.cell? ⟨q5.w.heap.size, 1, none⟩ = some (.slice panm n11 pcnm) ∧ u.cell? ⟨q5.w.heap.size, 2, none⟩ = some (.int .i64 1) ∧ u.cell? ⟨q5.w.heap.size, 3, none⟩ = some (.int .i64 1048576)) (fun j => false) (by kernel_rfl) ?_
  obtain ⟨v0, HXv0, HH0, HSv0⟩ := mk_start (p6.w.heap.size) p7.w HKhas
  rw [HXv0.out]
  have hHeld := HSS.out v0
  replace HZ0 := Lib.hid (And.intro HZ0.out HSv0.out)
  refine Jl 0 ?_
  refine Jt 2 ?_
  refine Jl 3 ?_
  refine Jt 4 ?_
  refine Jl 5 ?_
  refine Jr 1 fun KK hKK => ?_
  obtain ⟨v1, HXv1, HBv1, HKl, HSv1⟩ := al_box v0 (Nat.le_of_lt HDR.out) [.string ⟨#[68, 69, 76, 69, 84, 69, 32]⟩, .slice panm n11 pcnm, .int .i64 1, .int .i64 1048576] 103
  have HH1 := Lib.hid (HH0.out.below HBv1.out HH0.out.lt)
  replace HZ0 := Lib.hid (And.intro HZ0.out HSv1.out)
  go_simp
  rw [HXv1.out]
  refine hKK _ _ (fun _ _ => HSS.out v1) ?_
  clear hKK KK hHeld
  have hHeld := HSS.out v1
  refine Jn ?_
  refine Jt 6 ?_
  refine Jt 7 ?_
  refine Jr 8 fun KK hKK => ?_
  obtain ⟨v2, HXv2, HSv2, HQv2, HH2, gv2, fv2⟩ := st_box v1 HH1 (Nat.le_refl _) 20 (.slice a11 n11 c11)
  replace HKl := Lib.hid (HKl.out.of_heap (HQv2.out _ (by have := HZ0.out; omega)))
  replace HZ0 := Lib.hid (And.intro HZ0.out HSv2.out)
  go_simp
  rw [HXv2.out]
  refine hKK _ _ (fun _ _ => HSS.out v2) ?_
  clear hKK KK hHeld gv2 fv2
  have hHeld := HSS.out v2
  refine Jn ?_
  refine Jt 9 ?_
  refine Jr 10 fun KK hKK => ?_
  obtain ⟨v3, HXv3, HSv3, HQv3, HH3, gv3, fv3⟩ := st_box v2 HH2 (Nat.le_refl _) 21 (.bool false)
  replace HKl := Lib.hid (HKl.out.of_heap (HQv3.out _ (by have := HZ0.out; omega)))
  replace HZ0 := Lib.hid (And.intro HZ0.out HSv3.out)
  go_simp
  rw [HXv3.out]
  refine hKK _ _ (fun _ _ => HSS.out v3) ?_
  clear hKK KK hHeld gv3 fv3
  have hHeld := HSS.out v3
  refine Jn ?_
  refine wpAnyJ_done (by kernel_rfl) ?_ _
  refine NoPanic.normal ?_
  clear hHeld
  have HBW : Hid (Below w.heap.size w v3.w) := Lib.hid ((HBE.out p7).trans (v3.below.mono (by have := HZ0.out; omega)))
  have HCA := Lib.hid (HCC.out.below HBW.out (by have := HZ0.out; omega))
  have HCD := Lib.hid (HCB.out.below HBW.out (by have := HZ0.out; omega))
  have HGO := Lib.hid (HAL _ _ _ _ B v3.w HCA.out HCD.out (by have := HZ0.out; omega))
  have HRG1 := Lib.hid (rangeAt_ext v3 (HRA.out p7) (by have := HZ0.out; omega))
  have HRG2 := Lib.hid (rg_of HCD.out (rangeAt_block HH3.out))
  go_wp2_with (first | (refine wpList_load_mid rfl 71 _ rfl (w.heap.size) 0 rfl _ _ HRG1.out Tryz.underlying71 rfl (by kernel_rfl) ?_) | (refine wpList_load_mid rfl 71 _ rfl (p6.w.heap.size) 0 rfl _ _ HRG2.out Tryz.underlying71 rfl (by kernel_rfl) ?_))
  refine HGO.out.mono ?_
  rintro e w9 ⟨rfl, hb9⟩
  go_wp2_with fail
  go_ret2
  have hz9 := hb9.size
  obtain ⟨hn1, hn2, hn5, hn7, hn8, hn9, hn10, hn11, -⟩ := HN.out
  have hgb : groupsB ⟨8, l1, l2, .mk op nm (.mk xk xb xi xs xl xks) xns xaz, vr, l5, un, l7, l8, l9, l10, l11, false⟩ = alikeB ⟨8, l1, l2, .mk op nm (.mk xk xb xi xs xl xks) xns xaz, vr, l5, un, l7, l8, l9, l10, l11, false⟩ (hasC ⟨8, l1, l2, .mk op nm (.mk xk xb xi xs xl xks) xns xaz, vr, l5, un, l7, l8, l9, l10, l11, false⟩) := by simp [groupsB]
  have hgl : groupsL ⟨8, l1, l2, .mk op nm (.mk xk xb xi xs xl xks) xns xaz, vr, l5, un, l7, l8, l9, l10, l11, false⟩ = [⟨⟨#[68, 69, 76, 69, 84, 69, 32]⟩, l11.map .nm, 1, 1048576⟩] := by simp [groupsL]
  rw [hgb, hgl]
  refine ⟨some ⟨v0.w.heap.size, 0, none⟩, 1, 1, rfl, rfl, ⟨⟨Nat.le_refl _, by omega⟩, fun h => by cases h⟩, gr_row (css := [[.string ⟨#[68, 69, 76, 69, 84, 69, 32]⟩, .slice panm n11 pcnm, .int .i64 1, .int .i64 1048576]]) (HKl.out.below hb9 HKl.out.lt) rfl ?_, HBW.out.trans (hb9.mono HBW.out.size)⟩
  exact AllGr.cons (mk_gr ((HPnm.out.below v3.below (by have := HZ0.out; omega) (by have := HZ0.out; omega)).below hb9 (by have := HZ0.out; omega) (by have := HZ0.out; omega)) (by rw [List.length_map]; exact hn11) HLnm.out _ _ _) (AllGr.nil)
 | true =>
  obtain ⟨r0, HXr0, HSr0, HQr0, HKnm', mr0, fr0⟩ := st_box p7 HKnm (by have := HZ0.out; omega) 0 (.string ⟨#[68, 69, 84, 65, 67, 72, 32, 68, 69, 76, 69, 84, 69, 32]⟩)
  replace HPnm := Lib.hid (HPnm.out.moved HXr0.out (by have := HZ0.out; omega) (by have := HZ0.out; omega))
  replace HKhas := Lib.hid (HKhas.out.of_heap (HQr0.out _ (by have := HZ0.out; omega)))
  replace HKnm : Hid (Block _ _ [.string ⟨#[68, 69, 84, 65, 67, 72, 32, 68, 69, 76, 69, 84, 69, 32]⟩, .slice panm n11 pcnm, .int .i64 1, .int .i64 1048576] 103) := HKnm'
  clear HKnm'
  replace HZ0 := Lib.hid (And.intro HZ0.out HSr0.out)
  go_wp2_with fail
  rw [HXr0.out]
  have HDR : Hid (p6.w.heap.size < r0.w.heap.size) := Lib.hid (by have := HZ0.out; omega)
  replace HZ0 := Lib.hid (And.intro HZ0.out HDR.out)
  have y20 := cy_one p6.w.heap.size (e20 r0) (by have := HZ0.out; omega)
  have y21 := cy_one p6.w.heap.size (e21 r0) (by have := HZ0.out; omega)
  obtain ⟨znm0, znm1, znm2, znm3⟩ := cz4 p6.w.heap.size HKnm.out (by have := HZ0.out; omega)
  clear e0 e1 e2 e3 e4 e5 e6 e7 e8 e9 e10 e11 e12 e13 e14 e15 e16 e17 e18 e19 e20 e21
  have HSS := Lib.hid (fun v => And.intro (y20 v) (And.intro (y21 v) (And.intro (znm0 v) (And.intro (znm1 v) (And.intro (znm2 v) (znm3 v))))))
  refine wp_region_noPanic ?_
  refine wp_region_J (S := fun u : World => u.cell? ⟨w.heap.size, 20, none⟩ = some (.slice a11 n11 c11) ∧ u.cell? ⟨w.heap.size, 21, none⟩ = some (.bool true) ∧ u.cell? ⟨q5.w.heap.size, 0, none⟩ = some (.string ⟨#[68, 69, 84, 65, 67, 72, 32, 68, 69, 76, 69, 84, 69, 32]⟩) ∧ u.cell? ⟨q5.w.heap.size, 1, none⟩ = some (.slice panm n11 pcnm) ∧ u.cell? ⟨q5.w.heap.size, 2, none⟩ = some (.int .i64 1) ∧ u.cell? ⟨q5.w.heap.size, 3, none⟩ = some (.int .i64 1048576)) (fun j => false) (by kernel_rfl) ?_
  obtain ⟨v0, HXv0, HH0, HSv0⟩ := mk_start (p6.w.heap.size) r0.w HKhas
  rw [HXv0.out]
  have hHeld := HSS.out v0
  replace HZ0 := Lib.hid (And.intro HZ0.out HSv0.out)
  refine Jl 0 ?_
  refine Jt 2 ?_
  refine Jl 3 ?_
  refine Jt 4 ?_
  refine Jl 5 ?_
  refine Jr 1 fun KK hKK => ?_
  obtain ⟨v1, HXv1, HBv1, HKl, HSv1⟩ := al_box v0 (Nat.le_of_lt HDR.out) [.string ⟨#[68, 69, 84, 65, 67, 72, 32, 68, 69, 76, 69, 84, 69, 32]⟩, .slice panm n11 pcnm, .int .i64 1, .int .i64 1048576] 103
  have HH1 := Lib.hid (HH0.out.below HBv1.out HH0.out.lt)
  replace HZ0 := Lib.hid (And.intro HZ0.out HSv1.out)
  go_simp
  rw [HXv1.out]
  refine hKK _ _ (fun _ _ => HSS.out v1) ?_
  clear hKK KK hHeld
  have hHeld := HSS.out v1
  refine Jn ?_
  refine Jt 6 ?_
  refine Jt 7 ?_
  refine Jr 8 fun KK hKK => ?_
  obtain ⟨v2, HXv2, HSv2, HQv2, HH2, gv2, fv2⟩ := st_box v1 HH1 (Nat.le_refl _) 20 (.slice a11 n11 c11)
  replace HKl := Lib.hid (HKl.out.of_heap (HQv2.out _ (by have := HZ0.out; omega)))
  replace HZ0 := Lib.hid (And.intro HZ0.out HSv2.out)
  go_simp
  rw [HXv2.out]
  refine hKK _ _ (fun _ _ => HSS.out v2) ?_
  clear hKK KK hHeld gv2 fv2
  have hHeld := HSS.out v2
  refine Jn ?_
  refine Jt 9 ?_
  refine Jr 10 fun KK hKK => ?_
  obtain ⟨v3, HXv3, HSv3, HQv3, HH3, gv3, fv3⟩ := st_box v2 HH2 (Nat.le_refl _) 21 (.bool true)
  replace HKl := Lib.hid (HKl.out.of_heap (HQv3.out _ (by have := HZ0.out; omega)))
  replace HZ0 := Lib.hid (And.intro HZ0.out HSv3.out)
  go_simp
  rw [HXv3.out]
  refine hKK _ _ (fun _ _ => HSS.out v3) ?_
  clear hKK KK hHeld gv3 fv3
  have hHeld := HSS.out v3
  refine Jn ?_
  refine wpAnyJ_done (by kernel_rfl) ?_ _
  refine NoPanic.normal ?_
  clear hHeld
  have HBW : Hid (Below w.heap.size w v3.w) := Lib.hid ((HBE.out r0).trans (v3.below.mono (by have := HZ0.out; omega)))
  have HCA := Lib.hid (HCC.out.below HBW.out (by have := HZ0.out; omega))
  have HCD := Lib.hid (HCB.out.below HBW.out (by have := HZ0.out; omega))
  have HGO := Lib.hid (HAL _ _ _ _ B v3.w HCA.out HCD.out (by have := HZ0.out; omega))
  have HRG1 := Lib.hid (rangeAt_ext v3 (HRA.out r0) (by have := HZ0.out; omega))
  have HRG2 := Lib.hid (rg_of HCD.out (rangeAt_block HH3.out))
  go_wp2_with (first | (refine wpList_load_mid rfl 71 _ rfl (w.heap.size) 0 rfl _ _ HRG1.out Tryz.underlying71 rfl (by kernel_rfl) ?_) | (refine wpList_load_mid rfl 71 _ rfl (p6.w.heap.size) 0 rfl _ _ HRG2.out Tryz.underlying71 rfl (by kernel_rfl) ?_))
  refine HGO.out.mono ?_
  rintro e w9 ⟨rfl, hb9⟩
  go_wp2_with fail
  go_ret2
  have hz9 := hb9.size
  obtain ⟨hn1, hn2, hn5, hn7, hn8, hn9, hn10, hn11, -⟩ := HN.out
  have hgb : groupsB ⟨8, l1, l2, .mk op nm (.mk xk xb xi xs xl xks) xns xaz, vr, l5, un, l7, l8, l9, l10, l11, true⟩ = alikeB ⟨8, l1, l2, .mk op nm (.mk xk xb xi xs xl xks) xns xaz, vr, l5, un, l7, l8, l9, l10, l11, true⟩ (hasC ⟨8, l1, l2, .mk op nm (.mk xk xb xi xs xl xks) xns xaz, vr, l5, un, l7, l8, l9, l10, l11, true⟩) := by simp [groupsB]
  have hgl : groupsL ⟨8, l1, l2, .mk op nm (.mk xk xb xi xs xl xks) xns xaz, vr, l5, un, l7, l8, l9, l10, l11, true⟩ = [⟨⟨#[68, 69, 84, 65, 67, 72, 32, 68, 69, 76, 69, 84, 69, 32]⟩, l11.map .nm, 1, 1048576⟩] := by simp [groupsL]
  rw [hgb, hgl]
  refine ⟨some ⟨v0.w.heap.size, 0, none⟩, 1, 1, rfl, rfl, ⟨⟨Nat.le_refl _, by omega⟩, fun h => by cases h⟩, gr_row (css := [[.string ⟨#[68, 69, 84, 65, 67, 72, 32, 68, 69, 76, 69, 84, 69, 32]⟩, .slice panm n11 pcnm, .int .i64 1, .int .i64 1048576]]) (HKl.out.below hb9 HKl.out.lt) rfl ?_, HBW.out.trans (hb9.mono HBW.out.size)⟩
  exact AllGr.cons (mk_gr ((HPnm.out.below v3.below (by have := HZ0.out; omega) (by have := HZ0.out; omega)).below hb9 (by have := HZ0.out; omega) (by have := HZ0.out; omega)) (by rw [List.length_map]; exact hn11) HLnm.out _ _ _) (AllGr.nil)) : P := h
set_option maxHeartbeats 64000000 in
theorem groups_8 (HAL : AlikeSaid) (c : Clt) (cs : List Value) (B : Nat) (w : World) (hc : IsCl B w cs c) (hB : B ≤ w.heap.size) (hw : wtCl c ≤ 1048576) (hk : c.kind = 8) :
    Calls Tryz.prog 35 #[.agg cs.toArray] w fun e w' => ∃ a n cap, e = .returned (.tuple #[.slice a n cap, .bool (groupsB c)]) ∧ n = (groupsL c).length ∧ SlOk a n cap ∧ GRow B w' a (groupsL c) ∧ Below w.heap.size w w' := by
 have zk8 := trivial
 exact pre31
set_option maxRecDepth 100000 in
theorem arm31_9 {P : Prop} (h : P := by
 have hk := HK.out
 clear HK
 subst hk
 obtain ⟨hin, s1, r1, s2, r2, s5, r5, s7, r7, s8, r8, s9, r9, s10, r10, s11, r11, hE⟩ := HRS.out
 obtain ⟨hn1, hn2, hn5, hn7, hn8, hn9, hn10, hn11, hxll, hxkn, hxnn, hxxn⟩ := HN.out
 have hhc : hasC ⟨9, l1, l2, .mk op nm (.mk xk xb xi xs xl xks) xns xaz, vr, l5, un, l7, l8, l9, l10, l11, de⟩ = ⟨9, [], [], emptyX, ⟨#[]⟩, l5, un, l7, l8, l9, [], [], false⟩ := by simp [hasC, bareC]
 have hcb : IsCl B w [.int .i64 9, .slice none 0 0, .slice none 0 0, .int .i64 0, .string ⟨#[]⟩, .int .i64 0, .bool false, .int .i64 0, .string ⟨#[]⟩, .slice none 0 0, .slice none 0 0, .slice none 0 0, .slice none 0 0, .string ⟨#[]⟩, .slice a5 l5.length c5, .bool un, .slice a7 l7.length c7, .slice a8 l8.length c8, .slice a9 l9.length c9, .slice none 0 0, .slice none 0 0, .bool false] (hasC ⟨9, l1, l2, .mk op nm (.mk xk xb xi xs xl xks) xns xaz, vr, l5, un, l7, l8, l9, l10, l11, de⟩) := by rw [hhc]; exact ⟨none, 0, none, 0, zeroX, a5, c5, a7, c7, a8, c8, a9, c9, none, 0, none, 0, rfl, hin, nil_sl, nil_row, nil_sl, nil_row, zero_isX _ _, s5, r5, s7, r7, s8, r8, s9, r9, nil_sl, nil_row, nil_sl, Cells.nil⟩
 clear hhc
 try simp only [hn1, hn2, hn5, hn7, hn8, hn9, hn10, hn11, hxll, hxkn, hxnn, hxxn] at hcb
 have HCB := Lib.hid hcb
 clear hcb hE s1 r1 s2 r2 s5 r5 s7 r7 s8 r8 s9 r9 s10 r10 s11 r11 hin hn1 hn2 hn5 hn7 hn8 hn9 hn10 hn11 hxll hxkn hxnn hxxn
 have huz : uw.size ≤ 9 := by rw [← HUW.out]; cases un <;> decide
 have hus : ((⟨#[82, 69, 84, 85, 82, 78, 32]⟩ : ByteArray) ++ uw).size = 7 + uw.size := by rw [ByteArray.size_append]; rfl
 have hus2 : ((⟨#[87, 73, 84, 72, 32]⟩ : ByteArray) ++ uw).size = 5 + uw.size := by rw [ByteArray.size_append]; rfl
 obtain ⟨r0, HXr0, HSr0, HQr0, HKit', mr0, fr0⟩ := st_box p7 HKit (by have := HZ0.out; omega) 0 (.string (⟨#[82, 69, 84, 85, 82, 78, 32]⟩ ++ uw))
 replace HPit := Lib.hid (HPit.out.moved HXr0.out (by have := HZ0.out; omega) (by have := HZ0.out; omega))
 replace HPso := Lib.hid (HPso.out.moved HXr0.out (by have := HZ0.out; omega) (by have := HZ0.out; omega))
 replace HPex5 := Lib.hid (HPex5.out.moved HXr0.out (by have := HZ0.out; omega) (by have := HZ0.out; omega))
 replace HPex6 := Lib.hid (HPex6.out.moved HXr0.out (by have := HZ0.out; omega) (by have := HZ0.out; omega))
 replace HKtail := Lib.hid (HKtail.out.of_heap (HQr0.out _ (by have := HZ0.out; omega)))
 replace HKhas := Lib.hid (HKhas.out.of_heap (HQr0.out _ (by have := HZ0.out; omega)))
 replace HKit : Hid (Block _ _ [.string (⟨#[82, 69, 84, 85, 82, 78, 32]⟩ ++ uw), .slice pait n5 pcit, .int .i64 1, .int .i64 1048576] 103) := HKit'
 clear HKit'
 replace HZ0 := Lib.hid (And.intro HZ0.out HSr0.out)
 go_upto_region 21 with fail
 rw [HXr0.out]
 have mi0 : r0.w.cell? ⟨q3.w.heap.size, 0, none⟩ = some _ := HKit.out.cell (i := 0) rfl
 have mi1 : r0.w.cell? ⟨q3.w.heap.size, 1, none⟩ = some _ := HKit.out.cell (i := 1) rfl
 have mi2 : r0.w.cell? ⟨q3.w.heap.size, 2, none⟩ = some _ := HKit.out.cell (i := 2) rfl
 have mi3 : r0.w.cell? ⟨q3.w.heap.size, 3, none⟩ = some _ := HKit.out.cell (i := 3) rfl
 have HDR : Hid (p6.w.heap.size < r0.w.heap.size) := Lib.hid (by have := HZ0.out; omega)
 replace HZ0 := Lib.hid (And.intro HZ0.out HDR.out)
 have y0 := cy_one p6.w.heap.size (e0 r0) (by have := HZ0.out; omega)
 have y14 := cy_one p6.w.heap.size (e14 r0) (by have := HZ0.out; omega)
 have y15 := cy_one p6.w.heap.size (e15 r0) (by have := HZ0.out; omega)
 have y16 := cy_one p6.w.heap.size (e16 r0) (by have := HZ0.out; omega)
 have y17 := cy_one p6.w.heap.size (e17 r0) (by have := HZ0.out; omega)
 have y18 := cy_one p6.w.heap.size (e18 r0) (by have := HZ0.out; omega)
 clear e0 e1 e2 e3 e4 e5 e6 e7 e8 e9 e10 e11 e12 e13 e14 e15 e16 e17 e18 e19 e20 e21
 have HTL : Hid (∀ v : Ext p6.w.heap.size r0.w, Block v.w (x3.w.heap.size) [.string ⟨#[32, 79, 82, 68, 69, 82, 32, 66, 89, 32]⟩, .slice paso n7 pcso, .int .i64 0, .int .i64 1048576, .string ⟨#[32, 83, 75, 73, 80, 32]⟩, .slice paex5 n8 pcex5, .int .i64 0, .int .i64 1, .string ⟨#[32, 76, 73, 77, 73, 84, 32]⟩, .slice paex6 n9 pcex6, .int .i64 0, .int .i64 1] 103) := Lib.hid (fun v => HKtail.out.below v.below (by have := HZ0.out; omega))
 obtain ⟨vv, hvv⟩ := Ext.start p6.w.heap.size r0.w
 obtain ⟨v8, hal, hbb, hbk, hlt⟩ := mk_alloc vv (Nat.le_of_lt HDR.out) [.string (⟨#[82, 69, 84, 85, 82, 78, 32]⟩ ++ uw), .slice pait n5 pcit, .int .i64 1, .int .i64 1048576] 103
 rw [← hvv] at hal hbb hbk hlt
 have HXv8 := Lib.hid hal
 have HSv8 := Lib.hid hlt
 have HO8 : Hid (v8.w.ownsRow (p6.w.heap.size + 1) 103 4 (.slice (some ⟨r0.w.heap.size, 0, none⟩) 1 1) 1 [.string (⟨#[82, 69, 84, 85, 82, 78, 32]⟩ ++ uw), .slice pait n5 pcit, .int .i64 1, .int .i64 1048576]) := Lib.hid (ownG_new hbk (by have := HZ0.out; omega) rfl (by decide))
 have HHv8 := Lib.hid (HKhas.out.below hbb HKhas.out.lt)
 clear hal hbb hbk hlt hvv vv
 replace HZ0 := Lib.hid (And.intro HZ0.out HSv8.out)
 obtain ⟨i0, hi, hz0, hz1, hz2⟩ := info_parts Tryz.infoGroup
 have I0 := Lib.hid hi
 have I1 := Lib.hid hz0
 have I2 := Lib.hid hz1
 have I3 := Lib.hid hz2
 clear hi hz0 hz1 hz2
 go_wp2_with (at_builtin; refine Stand.out ?_)
 refine Stand.mk ?_
 rw [HXv8.out]
 refine wpList_append_own _ rfl _ _ 98 rfl (p6.w.heap.size + 1) 103 i0 (.agg #[.string ⟨#[]⟩, .slice none 0 0, .int .i64 0, .int .i64 0]) 4 56 Tryz.underlying98 I0.out I1.out I2.out I3.out rfl (by omega) (.slice (some ⟨r0.w.heap.size, 0, none⟩) 1 1) 1 [.string (⟨#[82, 69, 84, 85, 82, 78, 32]⟩ ++ uw), .slice pait n5 pcit, .int .i64 1, .int .i64 1048576] rfl HO8.out ⟨x3.w.heap.size, 0, none⟩ 3 3 [.string ⟨#[32, 79, 82, 68, 69, 82, 32, 66, 89, 32]⟩, .slice paso n7 pcso, .int .i64 0, .int .i64 1048576, .string ⟨#[32, 83, 75, 73, 80, 32]⟩, .slice paex5 n8 pcex5, .int .i64 0, .int .i64 1, .string ⟨#[32, 76, 73, 77, 73, 84, 32]⟩, .slice paex6 n9 pcex6, .int .i64 0, .int .i64 1] rfl rfl (fun j u hu => by rw [Addr.add_mid, Nat.zero_add]; exact (HTL.out v8).cell hu) (by simp [Value.oneCell']) (by decide) (by decide) (by have := HZ0.out; omega) ?_
 intro vr' w4 hown hgrow _
 obtain ⟨g, cap, rfl, hslg, hgb, hgl⟩ := ownG_form hown (by omega)
 have hbel : Below (p6.w.heap.size + 1) v8.w w4 := Below.grown (Below.refl _ _) hgrow (by have := HZ0.out; omega) (fun q hq => (show r0.w.heap.size = q from by simpa [Value.ownBlock] using hq) ▸ (by have := HZ0.out; omega))
 obtain ⟨v9, hv9⟩ : ∃ v : Ext p6.w.heap.size r0.w, w4 = v.w := ⟨⟨w4, v8.below.trans (hbel.mono (by omega))⟩, rfl⟩
 subst hv9
 have HSv9 := Lib.hid hbel.size
 have HSg : Hid (p6.w.heap.size + 1 ≤ g ∧ g < v9.w.heap.size) := Lib.hid ⟨hgb, hgl⟩
 have HHv9 := Lib.hid (HHv8.out.below hbel (by omega))
 have HSLG := Lib.hid hslg
 have HOWN : Hid (v9.w.ownsRow (p6.w.heap.size + 1) 103 4 (.slice (some ⟨g, 0, none⟩) 4 cap) 4 [.string (⟨#[82, 69, 84, 85, 82, 78, 32]⟩ ++ uw), .slice pait n5 pcit, .int .i64 1, .int .i64 1048576, .string ⟨#[32, 79, 82, 68, 69, 82, 32, 66, 89, 32]⟩, .slice paso n7 pcso, .int .i64 0, .int .i64 1048576, .string ⟨#[32, 83, 75, 73, 80, 32]⟩, .slice paex5 n8 pcex5, .int .i64 0, .int .i64 1, .string ⟨#[32, 76, 73, 77, 73, 84, 32]⟩, .slice paex6 n9 pcex6, .int .i64 0, .int .i64 1]) := Lib.hid hown
 clear hown hgrow hslg hgb hgl hbel HTL
 replace HZ0 := Lib.hid (And.intro HZ0.out HSv9.out)
 replace HZ0 := Lib.hid (And.intro HZ0.out HSg.out)
 go_wp2_with fail
 have HSS := Lib.hid (fun v => And.intro (y14 v) (And.intro (y15 v) (And.intro (y16 v) (And.intro (y17 v) (y18 v)))))
 refine wp_region_noPanic ?_
 refine wp_region_J (S := fun u : World => u.cell? ⟨w.heap.size, 14, none⟩ = some (.slice a5 n5 c5) ∧ u.cell? ⟨w.heap.size, 15, none⟩ = some (.bool un) ∧ u.cell? ⟨w.heap.size, 16, none⟩ = some (.slice a7 n7 c7) ∧ u.cell? ⟨w.heap.size, 17, none⟩ = some (.slice a8 n8 c8) ∧ u.cell? ⟨w.heap.size, 18, none⟩ = some (.slice a9 n9 c9)) (fun j => false) (by kernel_rfl) ?_
 obtain ⟨v0, HXv0, HH0, HSv0⟩ := mk_draw v9 HHv9
 replace HOWN := Lib.hid (own_drew HOWN.out HXv0.out)
 rw [HXv0.out]
 have hHeld := HSS.out v0
 replace HZ0 := Lib.hid (And.intro HZ0.out HSv0.out)
 refine Jt 0 ?_
 refine Jl 1 ?_
 refine Jt 2 ?_
 refine Jl 3 ?_
 refine Jt 4 ?_
 refine Jl 5 ?_
 refine Jt 6 ?_
 refine Jl 7 ?_
 refine Jt 8 ?_
 refine Jl 9 ?_
 refine Jt 10 ?_
 refine Jr 11 fun KK hKK => ?_
 obtain ⟨v1, HXv1, HSv1, HQv1, HH1, gv1, fv1⟩ := st_box v0 HH0 (Nat.le_refl _) 14 (.slice a5 n5 c5)
 replace HOWN := Lib.hid (ownG_keep HOWN.out (fun q hq _ => HQv1.out q (by have := HZ0.out; omega)))
 replace HZ0 := Lib.hid (And.intro HZ0.out HSv1.out)
 go_simp
 rw [HXv1.out]
 refine hKK _ _ (fun _ _ => HSS.out v1) ?_
 clear hKK KK hHeld gv1 fv1
 have hHeld := HSS.out v1
 refine Jn ?_
 refine Jt 12 ?_
 refine Jr 13 fun KK hKK => ?_
 obtain ⟨v2, HXv2, HSv2, HQv2, HH2, gv2, fv2⟩ := st_box v1 HH1 (Nat.le_refl _) 15 (.bool un)
 replace HOWN := Lib.hid (ownG_keep HOWN.out (fun q hq _ => HQv2.out q (by have := HZ0.out; omega)))
 replace HZ0 := Lib.hid (And.intro HZ0.out HSv2.out)
 go_simp
 rw [HXv2.out]
 refine hKK _ _ (fun _ _ => HSS.out v2) ?_
 clear hKK KK hHeld gv2 fv2
 have hHeld := HSS.out v2
 refine Jn ?_
 refine Jt 14 ?_
 refine Jr 15 fun KK hKK => ?_
 obtain ⟨v3, HXv3, HSv3, HQv3, HH3, gv3, fv3⟩ := st_box v2 HH2 (Nat.le_refl _) 16 (.slice a7 n7 c7)
 replace HOWN := Lib.hid (ownG_keep HOWN.out (fun q hq _ => HQv3.out q (by have := HZ0.out; omega)))
 replace HZ0 := Lib.hid (And.intro HZ0.out HSv3.out)
 go_simp
 rw [HXv3.out]
 refine hKK _ _ (fun _ _ => HSS.out v3) ?_
 clear hKK KK hHeld gv3 fv3
 have hHeld := HSS.out v3
 refine Jn ?_
 refine Jt 16 ?_
 refine Jr 17 fun KK hKK => ?_
 obtain ⟨v4, HXv4, HSv4, HQv4, HH4, gv4, fv4⟩ := st_box v3 HH3 (Nat.le_refl _) 17 (.slice a8 n8 c8)
 replace HOWN := Lib.hid (ownG_keep HOWN.out (fun q hq _ => HQv4.out q (by have := HZ0.out; omega)))
 replace HZ0 := Lib.hid (And.intro HZ0.out HSv4.out)
 go_simp
 rw [HXv4.out]
 refine hKK _ _ (fun _ _ => HSS.out v4) ?_
 clear hKK KK hHeld gv4 fv4
 have hHeld := HSS.out v4
 refine Jn ?_
 refine Jt 18 ?_
 refine Jr 19 fun KK hKK => ?_
 obtain ⟨v5, HXv5, HSv5, HQv5, HH5, gv5, fv5⟩ := st_box v4 HH4 (Nat.le_refl _) 18 (.slice a9 n9 c9)
 replace HOWN := Lib.hid (ownG_keep HOWN.out (fun q hq _ => HQv5.out q (by have := HZ0.out; omega)))
 replace HZ0 := Lib.hid (And.intro HZ0.out HSv5.out)
 go_simp
 rw [HXv5.out]
 refine hKK _ _ (fun _ _ => HSS.out v5) ?_
 clear hKK KK hHeld gv5 fv5
 have hHeld := HSS.out v5
 refine Jn ?_
 refine wpAnyJ_done (by kernel_rfl) ?_ _
 refine NoPanic.normal ?_
 clear hHeld
 have HBW : Hid (Below w.heap.size w v5.w) := Lib.hid ((HBE.out r0).trans (v5.below.mono (by have := HZ0.out; omega)))
 have HCA := Lib.hid (HCC.out.below HBW.out (by have := HZ0.out; omega))
 have HCD := Lib.hid (HCB.out.below HBW.out (by have := HZ0.out; omega))
 have HGO := Lib.hid (HAL _ _ _ _ B v5.w HCA.out HCD.out (by have := HZ0.out; omega))
 have HRG1 := Lib.hid (rangeAt_ext v5 (HRA.out r0) (by have := HZ0.out; omega))
 have HRG2 := Lib.hid (rg_of HCD.out (rangeAt_block HH5.out))
 go_wp2_with (first | (refine wpList_load_mid rfl 71 _ rfl (w.heap.size) 0 rfl _ _ HRG1.out Tryz.underlying71 rfl (by kernel_rfl) ?_) | (refine wpList_load_mid rfl 71 _ rfl (p6.w.heap.size) 0 rfl _ _ HRG2.out Tryz.underlying71 rfl (by kernel_rfl) ?_))
 refine HGO.out.mono ?_
 rintro e w9 ⟨rfl, hb9⟩
 go_wp2_with fail
 go_ret2
 have hz9 := hb9.size
 obtain ⟨hn1, hn2, hn5, hn7, hn8, hn9, hn10, hn11, -⟩ := HN.out
 have hgb : groupsB ⟨9, l1, l2, .mk op nm (.mk xk xb xi xs xl xks) xns xaz, vr, l5, un, l7, l8, l9, l10, l11, de⟩ = alikeB ⟨9, l1, l2, .mk op nm (.mk xk xb xi xs xl xks) xns xaz, vr, l5, un, l7, l8, l9, l10, l11, de⟩ (hasC ⟨9, l1, l2, .mk op nm (.mk xk xb xi xs xl xks) xns xaz, vr, l5, un, l7, l8, l9, l10, l11, de⟩) := by simp [groupsB]
 have hgl : groupsL ⟨9, l1, l2, .mk op nm (.mk xk xb xi xs xl xks) xns xaz, vr, l5, un, l7, l8, l9, l10, l11, de⟩ = itemsG ⟨9, l1, l2, .mk op nm (.mk xk xb xi xs xl xks) xns xaz, vr, l5, un, l7, l8, l9, l10, l11, de⟩ (⟨#[82, 69, 84, 85, 82, 78, 32]⟩ ++ uw) :: tailG ⟨9, l1, l2, .mk op nm (.mk xk xb xi xs xl xks) xns xaz, vr, l5, un, l7, l8, l9, l10, l11, de⟩ := by rw [← HUW.out]; simp [groupsL, uniqW]
 rw [hgb, hgl]
 refine ⟨some ⟨g, 0, none⟩, 4, cap, rfl, rfl, HSLG.out, gr_own (css := [[.string (⟨#[82, 69, 84, 85, 82, 78, 32]⟩ ++ uw), .slice pait n5 pcit, .int .i64 1, .int .i64 1048576], [.string ⟨#[32, 79, 82, 68, 69, 82, 32, 66, 89, 32]⟩, .slice paso n7 pcso, .int .i64 0, .int .i64 1048576], [.string ⟨#[32, 83, 75, 73, 80, 32]⟩, .slice paex5 n8 pcex5, .int .i64 0, .int .i64 1], [.string ⟨#[32, 76, 73, 77, 73, 84, 32]⟩, .slice paex6 n9 pcex6, .int .i64 0, .int .i64 1]]) (ownG_keep HOWN.out (fun q _ hq => hb9.block q hq)) rfl ?_, HBW.out.trans (hb9.mono HBW.out.size)⟩
 exact AllGr.cons (mk_gr ((HPit.out.below v5.below (by have := HZ0.out; omega) (by have := HZ0.out; omega)).below hb9 (by have := HZ0.out; omega) (by have := HZ0.out; omega)) (by rw [List.length_map]; exact hn5) HLit.out _ _ _) (AllGr.cons (mk_gr ((HPso.out.below v5.below (by have := HZ0.out; omega) (by have := HZ0.out; omega)).below hb9 (by have := HZ0.out; omega) (by have := HZ0.out; omega)) (by rw [List.length_map]; exact hn7) HLso.out _ _ _) (AllGr.cons (mk_gr ((HPex5.out.below v5.below (by have := HZ0.out; omega) (by have := HZ0.out; omega)).below hb9 (by have := HZ0.out; omega) (by have := HZ0.out; omega)) (by rw [List.length_map]; exact hn8) HLex5.out _ _ _) (AllGr.cons (mk_gr ((HPex6.out.below v5.below (by have := HZ0.out; omega) (by have := HZ0.out; omega)).below hb9 (by have := HZ0.out; omega) (by have := HZ0.out; omega)) (by rw [List.length_map]; exact hn9) HLex6.out _ _ _) (AllGr.nil))))) : P := h
set_option maxHeartbeats 64000000 in
theorem groups_9 (HAL : AlikeSaid) (c : Clt) (cs : List Value) (B : Nat) (w : World) (hc : IsCl B w cs c) (hB : B ≤ w.heap.size) (hw : wtCl c ≤ 1048576) (hk : c.kind = 9) :
    Calls Tryz.prog 35 #[.agg cs.toArray] w fun e w' => ∃ a n cap, e = .returned (.tuple #[.slice a n cap, .bool (groupsB c)]) ∧ n = (groupsL c).length ∧ SlOk a n cap ∧ GRow B w' a (groupsL c) ∧ Below w.heap.size w w' := by
 have zk9 := trivial
 exact pre31
theorem Sq292165 {P : Prop} (h : P := by
 have z469970b := trivial
 exact Sq469970) : P := h
theorem Sq469970 {P : Prop} (h : P := by
 first
 | (guard_hyp z469970c; have hqq : Q = true := HQ2.symm.trans rfl)
 | (have hqq : Q = false := HQ2.symm.trans rfl)
 subst hqq
 clear HQ2
 go_enter Tryz.func70, Tryz.ntmps70
 go_upto_region 1 with fail
 rw [HW0.out, HU0.out]
 simp only [List.append_eq, List.cons_append, List.nil_append]
 clear HW0 HU0
 go_wp2_with fail
 first
 |(
  guard_hyp z469970b
  first
  |(
   guard_hyp z292165a
   refine (HBL.out _).mono ?_
   rintro e w2 ⟨rfl, u2, rfl⟩
   clear HBL
   go_wp2_with fail)
  | skip)
 |(
  first
  |(
   guard_hyp z148260a
   refine (HBL.out _).mono ?_
   rintro e w2 ⟨rfl, u2, rfl⟩
   clear HBL
   go_wp2_with fail)
  | skip)
 go_ret
 exact ⟨by rfl, HBE.out _⟩) : P := h
theorem Sq148260 {P : Prop} (h : P := by
 cases t3 with
 | false =>
  exact Sq469970
 | true =>
  cases t4 with
  | false =>
   exact Sq469970
  | true =>
   cases t5 with
   | false =>
    exact Sq469970
   | true =>
    cases t6 with
    | false =>
     exact Sq469970
    | true =>
     cases t7 with
     | false =>
      exact Sq469970
     | true =>
      cases t8 with
      | false =>
       exact Sq469970
      | true =>
       cases t9 with
       | false =>
        exact Sq469970
       | true =>
        cases t10 with
        | false =>
         exact Sq469970
        | true =>
         cases t11 with
         | false =>
          exact Sq469970
         | true =>
          have z469970c := trivial
          exact Sq469970) : P := h
set_option maxHeartbeats 64000000 in
theorem alike_any : AlikeSaid := by
 intro a c cs ds B w ha hc hB
 obtain ⟨Q, hQ⟩ := nam (alikeB a c)
 rw [hQ]
 obtain ⟨kdp, l1p, l2p, ep, vrp, l5p, unp, l7p, l8p, l9p, l10p, l11p, dep⟩ := a
 obtain ⟨a1p, c1p, a2p, c2p, xep, a5p, c5p, a7p, c7p, a8p, c8p, a9p, c9p, a10p, c10p, a11p, c11p, rfl, -, -, -, -, -, hEp, -⟩ := ha
 simp only at hEp
 obtain ⟨kdq, l1q, l2q, eq, vrq, l5q, unq, l7q, l8q, l9q, l10q, l11q, deq⟩ := c
 obtain ⟨a1q, c1q, a2q, c2q, xeq, a5q, c5q, a7q, c7q, a8q, c8q, a9q, c9q, a10q, c10q, a11q, c11q, rfl, -, -, -, -, -, hEq, -⟩ := hc
 simp only at hEq
 unfold alikeB at hQ
 simp only at hQ
 have hE0 := hEp
 obtain ⟨opp, nmp, vp, nsp, azp⟩ := ep
 obtain ⟨kp, bbp, ip, sp, lvp, ksp, lap, lcp, kap, kcp, nap, ncp, xap, xcp, -, rfl, -⟩ := hEp.cells
 obtain ⟨opq, nmq, vq, nsq, azq⟩ := eq
 obtain ⟨kq, bbq, iq, sq, lvq, ksq, laq, lcq, kaq, kcq, naq, ncq, xaq, xcq, -, rfl, -⟩ := hEq.cells
 rw [show opX (Ex.mk opq nmq vq nsq azq) = opq from rfl] at hQ
 obtain ⟨bn, hbn⟩ := nam (noneB (Ex.mk opp nmp vp nsp azp))
 simp only [List.cons_append, List.nil_append]
 obtain ⟨n1p, hn1p⟩ := nam l1p.length
 obtain ⟨n2p, hn2p⟩ := nam l2p.length
 obtain ⟨n5p, hn5p⟩ := nam l5p.length
 obtain ⟨n7p, hn7p⟩ := nam l7p.length
 obtain ⟨n8p, hn8p⟩ := nam l8p.length
 obtain ⟨n9p, hn9p⟩ := nam l9p.length
 obtain ⟨n10p, hn10p⟩ := nam l10p.length
 obtain ⟨n11p, hn11p⟩ := nam l11p.length
 obtain ⟨llp, hllp⟩ := nam lvp.length
 obtain ⟨knp, hknp⟩ := nam ksp.length
 obtain ⟨nnp, hnnp⟩ := nam nsp.length
 obtain ⟨xnp, hxnp⟩ := nam azp.length
 obtain ⟨n1q, hn1q⟩ := nam l1q.length
 obtain ⟨n2q, hn2q⟩ := nam l2q.length
 obtain ⟨n5q, hn5q⟩ := nam l5q.length
 obtain ⟨n7q, hn7q⟩ := nam l7q.length
 obtain ⟨n8q, hn8q⟩ := nam l8q.length
 obtain ⟨n9q, hn9q⟩ := nam l9q.length
 obtain ⟨n10q, hn10q⟩ := nam l10q.length
 obtain ⟨n11q, hn11q⟩ := nam l11q.length
 obtain ⟨llq, hllq⟩ := nam lvq.length
 obtain ⟨knq, hknq⟩ := nam ksq.length
 obtain ⟨nnq, hnnq⟩ := nam nsq.length
 obtain ⟨xnq, hxnq⟩ := nam azq.length
 rw [hn1p, hn1q, hn2p, hn2q, hn5p, hn5q, hn7p, hn7q, hn8p, hn8q, hn9p, hn9q, hn10p, hn10q, hn11p, hn11q] at hQ ⊢
 rw [hllp, hllq, hknp, hknq, hnnp, hnnq, hxnp, hxnq]
 rw [hllp, hknp, hnnp, hxnp] at hE0
 obtain ⟨W0, u0, hW0, hu0, hsz, hbe, hce, hde⟩ := box_ext2 w [.int .i64 kdp, .slice a1p n1p c1p, .slice a2p n2p c2p, .int .i64 opp, .string nmp, .int .i64 kp, .bool bbp, .int .i64 ip, .string sp, .slice lap llp lcp, .slice kap knp kcp, .slice nap nnp ncp, .slice xap xnp xcp, .string vrp, .slice a5p n5p c5p, .bool unp, .slice a7p n7p c7p, .slice a8p n8p c8p, .slice a9p n9p c9p, .slice a10p n10p c10p, .slice a11p n11p c11p, .bool dep] [.int .i64 kdq, .slice a1q n1q c1q, .slice a2q n2q c2q, .int .i64 opq, .string nmq, .int .i64 kq, .bool bbq, .int .i64 iq, .string sq, .slice laq llq lcq, .slice kaq knq kcq, .slice naq nnq ncq, .slice xaq xnq xcq, .string vrq, .slice a5q n5q c5q, .bool unq, .slice a7q n7q c7q, .slice a8q n8q c8q, .slice a9q n9q c9q, .slice a10q n10q c10q, .slice a11q n11q c11q, .bool deq] 71 71
 obtain ⟨e0, e1, e2, e3, e4, e5, e6, e7, e8, e9, e10, e11, e12, e13, e14, e15, e16, e17, e18, e19, e20, e21⟩ := ce22 hce
 obtain ⟨f0, f1, f2, f3, f4, f5, f6, f7, f8, f9, f10, f11, f12, f13, f14, f15, f16, f17, f18, f19, f20, f21⟩ := ce22 hde
 have HBL := Lib.hid (fun u : Ext (w.heap.size + 2) W0 => ext_call u hsz (pblank_any (.mk opp nmp vp nsp azp) _ B u.w (IsX.below (hbe u) hB _ _ hE0) (Nat.le_trans hB (hbe u).size)))
 rw [hbn] at HBL hQ
 obtain ⟨HQ, HBE, HW0, HU0⟩ := hd4 hQ hbe hW0 hu0
 clear hbe hW0 hu0 hsz hce hde hE0 hEp hEq hbn hQ hn1p hn1q hn2p hn2q hn5p hn5q hn7p hn7q hn8p hn8q hn9p hn9q hn10p hn10q hn11p hn11q hllp hllq hknp hknq hnnp hnnq hxnp hxnq
 obtain ⟨t0, h0⟩ : ∃ r, ((n1p : Int) == n1q) = r := ⟨_, rfl⟩
 obtain ⟨t1, h1⟩ : ∃ r, ((n2p : Int) == n2q) = r := ⟨_, rfl⟩
 obtain ⟨tz, ho⟩ := nam ((opq == 0))
 have ho' : (opq != 0) = !tz := by rw [← ho]; rfl
 obtain ⟨t3, h3⟩ := nam ((vrp.toList == vrq.toList))
 obtain ⟨t4, h4⟩ : ∃ r, ((n5p : Int) == n5q) = r := ⟨_, rfl⟩
 obtain ⟨t5, h5⟩ := nam ((unp == unq))
 obtain ⟨t6, h6⟩ : ∃ r, ((n7p : Int) == n7q) = r := ⟨_, rfl⟩
 obtain ⟨t7, h7⟩ : ∃ r, ((n8p : Int) == n8q) = r := ⟨_, rfl⟩
 obtain ⟨t8, h8⟩ : ∃ r, ((n9p : Int) == n9q) = r := ⟨_, rfl⟩
 obtain ⟨t9, h9⟩ : ∃ r, ((n10p : Int) == n10q) = r := ⟨_, rfl⟩
 obtain ⟨t10, h10⟩ : ∃ r, ((n11p : Int) == n11q) = r := ⟨_, rfl⟩
 obtain ⟨t11, h11⟩ := nam ((dep == deq))
 have HQ2 : (t0 && (t1 && ((!tz || bn) && (t3 && (t4 && (t5 && (t6 && (t7 && (t8 && (t9 && (t10 && (t11)))))))))))) = Q := by subst h0; subst h1; subst h3; subst h4; subst h5; subst h6; subst h7; subst h8; subst h9; subst h10; subst h11; rw [← ho']; exact HQ.out
 clear HQ
 cases t0 with
 | false =>
  exact Sq292165
 | true =>
  cases t1 with
  | false =>
   exact Sq292165
  | true =>
   cases tz with
   | false =>
    exact Sq148260
   | true =>
    cases bn with
    | false =>
     have z292165a := trivial
     exact Sq292165
    | true =>
     have z148260a := trivial
     exact Sq148260
theorem groups_any : GroupsSaid := by
 intro c cs B w hc hB hw
 by_cases h1 : c.kind = 1
 ·exact groups_1 alike_any c cs B w hc hB hw h1
 by_cases h2 : c.kind = 2
 ·exact groups_2 alike_any c cs B w hc hB hw h2
 by_cases h3 : c.kind = 3
 ·exact groups_3 alike_any c cs B w hc hB hw h3
 by_cases h4 : c.kind = 4
 ·exact groups_4 alike_any c cs B w hc hB hw h4
 by_cases h5 : c.kind = 5
 ·exact groups_5 alike_any c cs B w hc hB hw h5
 by_cases h6 : c.kind = 6
 ·exact groups_6 alike_any c cs B w hc hB hw h6
 by_cases h7 : c.kind = 7
 ·exact groups_7 alike_any c cs B w hc hB hw h7
 by_cases h8 : c.kind = 8
 ·exact groups_8 alike_any c cs B w hc hB hw h8
 by_cases h9 : c.kind = 9
 ·exact groups_9 alike_any c cs B w hc hB hw h9
 exact groups_0 alike_any c cs B w hc hB hw (by omega)
end Go.Proofs.YteljlahcdipilaaGreat

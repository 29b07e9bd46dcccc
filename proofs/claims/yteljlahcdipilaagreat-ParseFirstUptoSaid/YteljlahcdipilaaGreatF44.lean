/- Parts X31K2, X31K3 of this seat (pruned, scripts that are alike kept once as default arguments: q1, q2, ..). Conditions: each says its own. -/
import Derived.Test.YteljlahcdipilaaGreatF43
namespace Go.Proofs.YteljlahcdipilaaGreat
open Go.RowKit Go.Shelf
set_option linter.unusedSimpArgs false
set_option linter.unusedVariables false
set_option maxRecDepth 100000
set_option maxRecDepth 100000 in
theorem Sq520695 {P : Prop} (h : P := by
 first
 | (guard_hyp z520695a; obtain ⟨v1, HXv1, HBv1, HKv1, HSv1⟩ := al_box v0 (Nat.le_of_lt HDR.out) [.iface 132 (.agg #[.int .i64 op, .string nm, .int .i64 xk, .bool xb, .int .i64 xi, .string xs, .slice xla xll xlc, .slice xka xkn xkc, .slice xna xnn xnc, .slice xxa xxn xxc])] 105)
 | (obtain ⟨v1, HXv1, HBv1, HKv1, HSv1⟩ := al_box v0 (Nat.le_of_lt HDR.out) [.iface 141 (.string vr)] 105)
 have HH1 := Lib.hid (HH0.out.below HBv1.out HH0.out.lt)
 first
 | (guard_hyp z520695a; have HPE := Lib.hid (part_one (B := B) (p := (.ex (.mk op nm (.mk xk xb xi xs xl xks) xns xaz))) HKv1.out HSv1.out ⟨_, rfl, HEI.out v1⟩))
 | (have HPN := Lib.hid (part_one (B := B) (p := (.nm vr)) HKv1.out HSv1.out rfl))
 replace HZ0 := Lib.hid (And.intro HZ0.out HSv1.out)
 go_simp
 rw [HXv1.out]
 refine hKK _ _ (fun _ _ => HSS.out v1) ?_
 clear hKK KK hHeld
 have hHeld := HSS.out v1
 refine Jn ?_
 first
 |(
  guard_hyp z520695b
  refine Jt 9 ?_
  refine Jr 3 fun KK hKK => ?_
  obtain ⟨v2, HXv2, HBv2, HKv2, HSv2⟩ := al_box v1 (Nat.le_of_lt HDR.out) [.iface 132 (.agg #[.int .i64 op, .string nm, .int .i64 xk, .bool xb, .int .i64 xi, .string xs, .slice xla xll xlc, .slice xka xkn xkc, .slice xna xnn xnc, .slice xxa xxn xxc])] 105)
 |(
  refine Jt 4 ?_
  refine Jr 8 fun KK hKK => ?_
  obtain ⟨v2, HXv2, HBv2, HKv2, HSv2⟩ := al_box v1 (Nat.le_of_lt HDR.out) [.iface 141 (.string vr)] 105)
 have HH2 := Lib.hid (HH1.out.below HBv2.out HH1.out.lt)
 first
 |(
  guard_hyp z520695b
  have HPE := Lib.hid (part_one (B := B) (p := (.ex (.mk op nm (.mk xk xb xi xs xl xks) xns xaz))) HKv2.out HSv2.out ⟨_, rfl, HEI.out v2⟩)
  replace HPN := Lib.hid (HPN.out.below HBv2.out (by have := HZ0.out; omega) (by have := HZ0.out; omega)))
 |(
  have HPN := Lib.hid (part_one (B := B) (p := (.nm vr)) HKv2.out HSv2.out rfl)
  replace HPE := Lib.hid (HPE.out.below HBv2.out (by have := HZ0.out; omega) (by have := HZ0.out; omega)))
 replace HZ0 := Lib.hid (And.intro HZ0.out HSv2.out)
 go_simp
 rw [HXv2.out]
 refine hKK _ _ (fun _ _ => HSS.out v2) ?_
 clear hKK KK hHeld
 have hHeld := HSS.out v2
 refine Jn ?_
 first
 | (guard_hyp z520695a; refine Jt 9 ?_)
 | (refine Jt 4 ?_)
 refine Jr 10 fun KK hKK => ?_
 first
 | (guard_hyp z520695a; obtain ⟨v3, HXv3, HBv3, HKl, HSv3⟩ := al_box v2 (Nat.le_of_lt HDR.out) [.string ⟨#[85, 78, 87, 73, 78, 68, 32]⟩, .slice (some ⟨v0.w.heap.size, 0, none⟩) 1 1, .int .i64 1, .int .i64 1, .string ⟨#[32, 65, 83, 32]⟩, .slice (some ⟨v1.w.heap.size, 0, none⟩) 1 1, .int .i64 1, .int .i64 1] 103)
 | (obtain ⟨v3, HXv3, HBv3, HKl, HSv3⟩ := al_box v2 (Nat.le_of_lt HDR.out) [.string ⟨#[85, 78, 87, 73, 78, 68, 32]⟩, .slice (some ⟨v1.w.heap.size, 0, none⟩) 1 1, .int .i64 1, .int .i64 1, .string ⟨#[32, 65, 83, 32]⟩, .slice (some ⟨v0.w.heap.size, 0, none⟩) 1 1, .int .i64 1, .int .i64 1] 103)
 have HH3 := Lib.hid (HH2.out.below HBv3.out HH2.out.lt)
 replace HPE := Lib.hid (HPE.out.below HBv3.out (by have := HZ0.out; omega) (by have := HZ0.out; omega))
 replace HPN := Lib.hid (HPN.out.below HBv3.out (by have := HZ0.out; omega) (by have := HZ0.out; omega))
 replace HZ0 := Lib.hid (And.intro HZ0.out HSv3.out)
 go_simp
 rw [HXv3.out]
 refine hKK _ _ (fun _ _ => HSS.out v3) ?_
 clear hKK KK hHeld
 have hHeld := HSS.out v3
 refine Jn ?_
 refine Jt 15 ?_
 refine Jt 16 ?_
 refine Jr 17 fun KK hKK => ?_
 obtain ⟨v4, hst, hss, hsk⟩ := mk_stores v3 (p6.w.heap.size) (Nat.le_refl _) 3 [.int .i64 op, .string nm, .int .i64 xk, .bool xb, .int .i64 xi, .string xs, .slice xla xll xlc, .slice xka xkn xkc, .slice xna xnn xnc, .slice xxa xxn xxc]
 have HXv4 := Lib.hid (show World.setCells _ _ 3 (#[.int .i64 op, .string nm, .int .i64 xk, .bool xb, .int .i64 xi, .string xs, .slice xla xll xlc, .slice xka xkn xkc, .slice xna xnn xnc, .slice xxa xxn xxc] : Array Value).toList = v4.w from hst)
 have HSv4 : Hid (v4.w.heap.size = v3.w.heap.size) := Lib.hid hss
 have HH4 : Hid (Block v4.w (p6.w.heap.size) [.int .i64 2, .slice none 0 0, .slice none 0 0, .int .i64 op, .string nm, .int .i64 xk, .bool xb, .int .i64 xi, .string xs, .slice xla xll xlc, .slice xka xkn xkc, .slice xna xnn xnc, .slice xxa xxn xxc, .string ⟨#[]⟩, .slice none 0 0, .bool false, .slice none 0 0, .slice none 0 0, .slice none 0 0, .slice none 0 0, .slice none 0 0, .bool false] 71) := Lib.hid (by rw [← hst]; exact HH3.out.setCells [.int .i64 op, .string nm, .int .i64 xk, .bool xb, .int .i64 xi, .string xs, .slice xla xll xlc, .slice xka xkn xkc, .slice xna xnn xnc, .slice xxa xxn xxc] 3)
 replace HKl := Lib.hid (HKl.out.of_heap (hsk _ (by have := HZ0.out; omega)))
 replace HPE := Lib.hid (HPE.out.keep (by rw [← hst]; exact below_setCells (by have := HZ0.out; omega) _ _ _ (Below.refl _ _)) (fun q h1 h2 => hsk q (by have := HZ0.out; omega)))
 replace HPN := Lib.hid (HPN.out.keep (by rw [← hst]; exact below_setCells (by have := HZ0.out; omega) _ _ _ (Below.refl _ _)) (fun q h1 h2 => hsk q (by have := HZ0.out; omega)))
 clear hst hss hsk
 replace HZ0 := Lib.hid (And.intro HZ0.out HSv4.out)
 have HT9 : Hid (World.there v3.w (p6.w.heap.size) 3 10) := Lib.hid (block_there HH3.out 3 10 (by decide))
 refine step_store_mid (by rfl) 66 _ _ (by rfl) (p6.w.heap.size) 3 #[.int .i64 op, .string nm, .int .i64 xk, .bool xb, .int .i64 xi, .string xs, .slice xla xll xlc, .slice xka xkn xkc, .slice xna xnn xnc, .slice xxa xxn xxc] (by rfl) (by rfl) HT9.out (by kernel_rfl) (by simp [Value.oneCell']) ?_
 rw [HXv4.out]
 refine hKK _ _ (fun _ _ => HSS.out v4) ?_
 clear hKK KK hHeld HT9
 have hHeld := HSS.out v4
 refine Jn ?_
 refine Jt 18 ?_
 refine Jr 19 fun KK hKK => ?_
 obtain ⟨v5, HXv5, HSv5, HQv5, HH5, g5, f5⟩ := st_box v4 HH4 (Nat.le_refl _) 13 (.string vr)
 replace HKl := Lib.hid (HKl.out.of_heap (HQv5.out _ (by have := HZ0.out; omega)))
 replace HPE := Lib.hid (HPE.out.moved HXv5.out (by have := HZ0.out; omega) (by have := HZ0.out; omega))
 replace HPN := Lib.hid (HPN.out.moved HXv5.out (by have := HZ0.out; omega) (by have := HZ0.out; omega))
 replace HZ0 := Lib.hid (And.intro HZ0.out HSv5.out)
 go_simp
 rw [HXv5.out]
 refine hKK _ _ (fun _ _ => HSS.out v5) ?_
 clear hKK KK hHeld g5 f5
 have hHeld := HSS.out v5
 refine Jn ?_
 refine wpAnyJ_done (by kernel_rfl) ?_ _
 refine NoPanic.normal ?_
 clear hHeld
 have HBW : Hid (Below w.heap.size w v5.w) := Lib.hid ((HBE.out p7).trans (v5.below.mono (by have := HZ0.out; omega)))
 have HCA := Lib.hid (HCC.out.below HBW.out (by have := HZ0.out; omega))
 have HCD := Lib.hid (HCB.out.below HBW.out (by have := HZ0.out; omega))
 have HGO := Lib.hid (HAL _ _ _ _ B v5.w HCA.out HCD.out (by have := HZ0.out; omega))
 have HRG1 := Lib.hid (rangeAt_ext v5 (HRA.out p7) (by have := HZ0.out; omega))
 have HRG2 := Lib.hid (rg_of HCD.out (rangeAt_block HH5.out))
 go_wp2_with (first | (refine wpList_load_mid rfl 71 _ rfl (w.heap.size) 0 rfl _ _ HRG1.out Tryz.underlying71 rfl (by kernel_rfl) ?_) | (refine wpList_load_mid rfl 71 _ rfl (p6.w.heap.size) 0 rfl _ _ HRG2.out Tryz.underlying71 rfl (by kernel_rfl) ?_))
 refine HGO.out.mono ?_
 rintro e w9 ⟨rfl, hb9⟩
 go_wp2_with fail
 go_ret2
 have hz9 := hb9.size
 obtain ⟨hn1, hn2, hn5, hn7, hn8, hn9, hn10, hn11, -⟩ := HN.out
 have hgb : groupsB ⟨2, l1, l2, .mk op nm (.mk xk xb xi xs xl xks) xns xaz, vr, l5, un, l7, l8, l9, l10, l11, de⟩ = alikeB ⟨2, l1, l2, .mk op nm (.mk xk xb xi xs xl xks) xns xaz, vr, l5, un, l7, l8, l9, l10, l11, de⟩ (hasC ⟨2, l1, l2, .mk op nm (.mk xk xb xi xs xl xks) xns xaz, vr, l5, un, l7, l8, l9, l10, l11, de⟩) := by simp [groupsB]
 have hgl : groupsL ⟨2, l1, l2, .mk op nm (.mk xk xb xi xs xl xks) xns xaz, vr, l5, un, l7, l8, l9, l10, l11, de⟩ = [⟨⟨#[85, 78, 87, 73, 78, 68, 32]⟩, [.ex (.mk op nm (.mk xk xb xi xs xl xks) xns xaz)], 1, 1⟩, ⟨⟨#[32, 65, 83, 32]⟩, [.nm vr], 1, 1⟩] := by simp [groupsL]
 rw [hgb, hgl]
 first
 | (guard_hyp z520695a; refine ⟨some ⟨v2.w.heap.size, 0, none⟩, 2, 2, rfl, rfl, ⟨⟨Nat.le_refl _, by omega⟩, fun h => by cases h⟩, gr_row (css := [[.string ⟨#[85, 78, 87, 73, 78, 68, 32]⟩, .slice (some ⟨v0.w.heap.size, 0, none⟩) 1 1, .int .i64 1, .int .i64 1], [.string ⟨#[32, 65, 83, 32]⟩, .slice (some ⟨v1.w.heap.size, 0, none⟩) 1 1, .int .i64 1, .int .i64 1]]) (HKl.out.below hb9 HKl.out.lt) rfl ?_, HBW.out.trans (hb9.mono HBW.out.size)⟩)
 | (refine ⟨some ⟨v2.w.heap.size, 0, none⟩, 2, 2, rfl, rfl, ⟨⟨Nat.le_refl _, by omega⟩, fun h => by cases h⟩, gr_row (css := [[.string ⟨#[85, 78, 87, 73, 78, 68, 32]⟩, .slice (some ⟨v1.w.heap.size, 0, none⟩) 1 1, .int .i64 1, .int .i64 1], [.string ⟨#[32, 65, 83, 32]⟩, .slice (some ⟨v0.w.heap.size, 0, none⟩) 1 1, .int .i64 1, .int .i64 1]]) (HKl.out.below hb9 HKl.out.lt) rfl ?_, HBW.out.trans (hb9.mono HBW.out.size)⟩)
 exact AllGr.cons (mk_gr (HPE.out.below hb9 (by have := HZ0.out; omega) (by have := HZ0.out; omega)) rfl one_sl _ _ _) (AllGr.cons (mk_gr (HPN.out.below hb9 (by have := HZ0.out; omega) (by have := HZ0.out; omega)) rfl one_sl _ _ _) (AllGr.nil))) : P := h
set_option maxRecDepth 100000 in
theorem arm31_2 {P : Prop} (h : P := by
 have hk := HK.out
 clear HK
 subst hk
 obtain ⟨hin, s1, r1, s2, r2, s5, r5, s7, r7, s8, r8, s9, r9, s10, r10, s11, r11, hE⟩ := HRS.out
 obtain ⟨hn1, hn2, hn5, hn7, hn8, hn9, hn10, hn11, hxll, hxkn, hxnn, hxxn⟩ := HN.out
 have hhc : hasC ⟨2, l1, l2, .mk op nm (.mk xk xb xi xs xl xks) xns xaz, vr, l5, un, l7, l8, l9, l10, l11, de⟩ = ⟨2, [], [], .mk op nm (.mk xk xb xi xs xl xks) xns xaz, vr, [], false, [], [], [], [], [], false⟩ := by simp [hasC, bareC]
 have hcb : IsCl B w [.int .i64 2, .slice none 0 0, .slice none 0 0, .int .i64 op, .string nm, .int .i64 xk, .bool xb, .int .i64 xi, .string xs, .slice xla xl.length xlc, .slice xka xks.length xkc, .slice xna xns.length xnc, .slice xxa xaz.length xxc, .string vr, .slice none 0 0, .bool false, .slice none 0 0, .slice none 0 0, .slice none 0 0, .slice none 0 0, .slice none 0 0, .bool false] (hasC ⟨2, l1, l2, .mk op nm (.mk xk xb xi xs xl xks) xns xaz, vr, l5, un, l7, l8, l9, l10, l11, de⟩) := by rw [hhc]; exact ⟨none, 0, none, 0, _, none, 0, none, 0, none, 0, none, 0, none, 0, none, 0, rfl, hin, nil_sl, nil_row, nil_sl, nil_row, hE, nil_sl, nil_row, nil_sl, nil_row, nil_sl, nil_row, nil_sl, nil_row, nil_sl, nil_row, nil_sl, Cells.nil⟩
 clear hhc
 try simp only [hn1, hn2, hn5, hn7, hn8, hn9, hn10, hn11, hxll, hxkn, hxnn, hxxn] at hcb
 have HCB := Lib.hid hcb
 have HEX := HE0
 clear hcb hE s1 r1 s2 r2 s5 r5 s7 r7 s8 r8 s9 r9 s10 r10 s11 r11 hin hn1 hn2 hn5 hn7 hn8 hn9 hn10 hn11 hxll hxkn hxnn hxxn
 go_wp2_with fail
 have HDR : Hid (p6.w.heap.size < p7.w.heap.size) := Lib.hid (by have := HZ0.out; omega)
 replace HZ0 := Lib.hid (And.intro HZ0.out HDR.out)
 have y3 := cy_one p6.w.heap.size (e3 p7) (by have := HZ0.out; omega)
 have y4 := cy_one p6.w.heap.size (e4 p7) (by have := HZ0.out; omega)
 have y5 := cy_one p6.w.heap.size (e5 p7) (by have := HZ0.out; omega)
 have y6 := cy_one p6.w.heap.size (e6 p7) (by have := HZ0.out; omega)
 have y7 := cy_one p6.w.heap.size (e7 p7) (by have := HZ0.out; omega)
 have y8 := cy_one p6.w.heap.size (e8 p7) (by have := HZ0.out; omega)
 have y9 := cy_one p6.w.heap.size (e9 p7) (by have := HZ0.out; omega)
 have y10 := cy_one p6.w.heap.size (e10 p7) (by have := HZ0.out; omega)
 have y11 := cy_one p6.w.heap.size (e11 p7) (by have := HZ0.out; omega)
 have y12 := cy_one p6.w.heap.size (e12 p7) (by have := HZ0.out; omega)
 have y13 := cy_one p6.w.heap.size (e13 p7) (by have := HZ0.out; omega)
 clear e0 e1 e2 e3 e4 e5 e6 e7 e8 e9 e10 e11 e12 e13 e14 e15 e16 e17 e18 e19 e20 e21
 have HSS := Lib.hid (fun v => And.intro (y3 v) (And.intro (y4 v) (And.intro (y5 v) (And.intro (y6 v) (And.intro (y7 v) (And.intro (y8 v) (And.intro (y9 v) (And.intro (y10 v) (And.intro (y11 v) (And.intro (y12 v) (y13 v)))))))))))
 have HEI : Hid (∀ v : Ext p6.w.heap.size p7.w, IsX B v.w [.int .i64 op, .string nm, .int .i64 xk, .bool xb, .int .i64 xi, .string xs, .slice xla xll xlc, .slice xka xkn xkc, .slice xna xnn xnc, .slice xxa xxn xxc] (.mk op nm (.mk xk xb xi xs xl xks) xns xaz)) := Lib.hid (fun v => IsX.below (v.below.mono (by have := HZ0.out; omega)) (Nat.le_refl _) _ _ (IsX.below (HBE.out p7) (by have := HZ0.out; omega) _ _ HEX.out))
 refine wp_region_noPanic ?_
 refine wp_region_J (S := fun u : World => u.cell? ⟨w.heap.size, 3, none⟩ = some (.int .i64 op) ∧ u.cell? ⟨w.heap.size, 4, none⟩ = some (.string nm) ∧ u.cell? ⟨w.heap.size, 5, none⟩ = some (.int .i64 xk) ∧ u.cell? ⟨w.heap.size, 6, none⟩ = some (.bool xb) ∧ u.cell? ⟨w.heap.size, 7, none⟩ = some (.int .i64 xi) ∧ u.cell? ⟨w.heap.size, 8, none⟩ = some (.string xs) ∧ u.cell? ⟨w.heap.size, 9, none⟩ = some (.slice xla xll xlc) ∧ u.cell? ⟨w.heap.size, 10, none⟩ = some (.slice xka xkn xkc) ∧ u.cell? ⟨w.heap.size, 11, none⟩ = some (.slice xna xnn xnc) ∧ u.cell? ⟨w.heap.size, 12, none⟩ = some (.slice xxa xxn xxc) ∧ u.cell? ⟨w.heap.size, 13, none⟩ = some (.string vr)) (fun j => false) (by kernel_rfl) ?_
 obtain ⟨v0, HXv0, HH0, HSv0⟩ := mk_start (p6.w.heap.size) p7.w HKhas
 rw [HXv0.out]
 have hHeld := HSS.out v0
 replace HZ0 := Lib.hid (And.intro HZ0.out HSv0.out)
 refine Jt 0 ?_
 refine Jl 1 ?_
 refine Jt 2 ?_
 refine Jt 5 ?_
 refine Jl 6 ?_
 refine Jt 7 ?_
 refine Jt 11 ?_
 refine Jl 12 ?_
 refine Jt 13 ?_
 refine Jl 14 ?_
 refine wpAnyJ_ready (rs := [3, 8]) (by kernel_rfl) (by simp) ?_
 refine AllReadyJ.cons rfl (fun KK hKK => ?_) (AllReadyJ.cons rfl (fun KK hKK => ?_) AllReadyJ.nil)
 ·have z520695a := trivial
  exact Sq520695
 ·have z520695b := trivial
  exact Sq520695) : P := h
set_option maxHeartbeats 64000000 in
theorem groups_2 (HAL : AlikeSaid) (c : Clt) (cs : List Value) (B : Nat) (w : World) (hc : IsCl B w cs c) (hB : B ≤ w.heap.size) (hw : wtCl c ≤ 1048576) (hk : c.kind = 2) :
    Calls Tryz.prog 35 #[.agg cs.toArray] w fun e w' => ∃ a n cap, e = .returned (.tuple #[.slice a n cap, .bool (groupsB c)]) ∧ n = (groupsL c).length ∧ SlOk a n cap ∧ GRow B w' a (groupsL c) ∧ Below w.heap.size w w' := by
 have zk2 := trivial
 exact pre31
set_option maxRecDepth 100000 in
theorem arm31_3 {P : Prop} (h : P := by
 have hk := HK.out
 clear HK
 subst hk
 obtain ⟨hin, s1, r1, s2, r2, s5, r5, s7, r7, s8, r8, s9, r9, s10, r10, s11, r11, hE⟩ := HRS.out
 obtain ⟨hn1, hn2, hn5, hn7, hn8, hn9, hn10, hn11, hxll, hxkn, hxnn, hxxn⟩ := HN.out
 have hhc : hasC ⟨3, l1, l2, .mk op nm (.mk xk xb xi xs xl xks) xns xaz, vr, l5, un, l7, l8, l9, l10, l11, de⟩ = ⟨3, [], l2, emptyX, ⟨#[]⟩, l5, un, l7, l8, l9, [], [], false⟩ := by simp [hasC, bareC]
 have hcb : IsCl B w [.int .i64 3, .slice none 0 0, .slice a2 l2.length c2, .int .i64 0, .string ⟨#[]⟩, .int .i64 0, .bool false, .int .i64 0, .string ⟨#[]⟩, .slice none 0 0, .slice none 0 0, .slice none 0 0, .slice none 0 0, .string ⟨#[]⟩, .slice a5 l5.length c5, .bool un, .slice a7 l7.length c7, .slice a8 l8.length c8, .slice a9 l9.length c9, .slice none 0 0, .slice none 0 0, .bool false] (hasC ⟨3, l1, l2, .mk op nm (.mk xk xb xi xs xl xks) xns xaz, vr, l5, un, l7, l8, l9, l10, l11, de⟩) := by rw [hhc]; exact ⟨none, 0, a2, c2, zeroX, a5, c5, a7, c7, a8, c8, a9, c9, none, 0, none, 0, rfl, hin, nil_sl, nil_row, s2, r2, zero_isX _ _, s5, r5, s7, r7, s8, r8, s9, r9, nil_sl, nil_row, nil_sl, Cells.nil⟩
 clear hhc
 try simp only [hn1, hn2, hn5, hn7, hn8, hn9, hn10, hn11, hxll, hxkn, hxnn, hxxn] at hcb
 have HCB := Lib.hid hcb
 clear hcb hE s1 r1 s2 r2 s5 r5 s7 r7 s8 r8 s9 r9 s10 r10 s11 r11 hin hn1 hn2 hn5 hn7 hn8 hn9 hn10 hn11 hxll hxkn hxnn hxxn
 have huz : uw.size ≤ 9 := by rw [← HUW.out]; cases un <;> decide
 have hus : ((⟨#[82, 69, 84, 85, 82, 78, 32]⟩ : ByteArray) ++ uw).size = 7 + uw.size := by rw [ByteArray.size_append]; rfl
 have hus2 : ((⟨#[87, 73, 84, 72, 32]⟩ : ByteArray) ++ uw).size = 5 + uw.size := by rw [ByteArray.size_append]; rfl
 obtain ⟨r0, HXr0, HSr0, HQr0, HKit', mr0, fr0⟩ := st_box p7 HKit (by have := HZ0.out; omega) 0 (.string (⟨#[82, 69, 84, 85, 82, 78, 32]⟩ ++ uw))
 replace HPit := Lib.hid (HPit.out.moved HXr0.out (by have := HZ0.out; omega) (by have := HZ0.out; omega))
 replace HPso := Lib.hid (HPso.out.moved HXr0.out (by have := HZ0.out; omega) (by have := HZ0.out; omega))
 replace HPex5 := Lib.hid (HPex5.out.moved HXr0.out (by have := HZ0.out; omega) (by have := HZ0.out; omega))
 replace HPex6 := Lib.hid (HPex6.out.moved HXr0.out (by have := HZ0.out; omega) (by have := HZ0.out; omega))
 replace HPex := Lib.hid (HPex.out.moved HXr0.out (by have := HZ0.out; omega) (by have := HZ0.out; omega))
 replace HKex := Lib.hid (HKex.out.of_heap (HQr0.out _ (by have := HZ0.out; omega)))
 replace HKtail := Lib.hid (HKtail.out.of_heap (HQr0.out _ (by have := HZ0.out; omega)))
 replace HKhas := Lib.hid (HKhas.out.of_heap (HQr0.out _ (by have := HZ0.out; omega)))
 replace HKit : Hid (Block _ _ [.string (⟨#[82, 69, 84, 85, 82, 78, 32]⟩ ++ uw), .slice pait n5 pcit, .int .i64 1, .int .i64 1048576] 103) := HKit'
 clear HKit'
 replace HZ0 := Lib.hid (And.intro HZ0.out HSr0.out)
 go_upto_region 21 with fail
 rw [HXr0.out]
 have mi0 : r0.w.cell? ⟨q3.w.heap.size, 0, none⟩ = some _ := HKit.out.cell (i := 0) rfl
 have mi1 : r0.w.cell? ⟨q3.w.heap.size, 1, none⟩ = some _ := HKit.out.cell (i := 1) rfl
 have mi2 : r0.w.cell? ⟨q3.w.heap.size, 2, none⟩ = some _ := HKit.out.cell (i := 2) rfl
 have mi3 : r0.w.cell? ⟨q3.w.heap.size, 3, none⟩ = some _ := HKit.out.cell (i := 3) rfl
 have HDR : Hid (p6.w.heap.size < r0.w.heap.size) := Lib.hid (by have := HZ0.out; omega)
 replace HZ0 := Lib.hid (And.intro HZ0.out HDR.out)
 have y0 := cy_one p6.w.heap.size (e0 r0) (by have := HZ0.out; omega)
 have y2 := cy_one p6.w.heap.size (e2 r0) (by have := HZ0.out; omega)
 have y14 := cy_one p6.w.heap.size (e14 r0) (by have := HZ0.out; omega)
 have y15 := cy_one p6.w.heap.size (e15 r0) (by have := HZ0.out; omega)
 have y16 := cy_one p6.w.heap.size (e16 r0) (by have := HZ0.out; omega)
 have y17 := cy_one p6.w.heap.size (e17 r0) (by have := HZ0.out; omega)
 have y18 := cy_one p6.w.heap.size (e18 r0) (by have := HZ0.out; omega)
 obtain ⟨zex0, zex1, zex2, zex3⟩ := cz4 p6.w.heap.size HKex.out (by have := HZ0.out; omega)
 clear e0 e1 e2 e3 e4 e5 e6 e7 e8 e9 e10 e11 e12 e13 e14 e15 e16 e17 e18 e19 e20 e21
 have HTL : Hid (∀ v : Ext p6.w.heap.size r0.w, Block v.w (x3.w.heap.size) [.string ⟨#[32, 79, 82, 68, 69, 82, 32, 66, 89, 32]⟩, .slice paso n7 pcso, .int .i64 0, .int .i64 1048576, .string ⟨#[32, 83, 75, 73, 80, 32]⟩, .slice paex5 n8 pcex5, .int .i64 0, .int .i64 1, .string ⟨#[32, 76, 73, 77, 73, 84, 32]⟩, .slice paex6 n9 pcex6, .int .i64 0, .int .i64 1] 103) := Lib.hid (fun v => HKtail.out.below v.below (by have := HZ0.out; omega))
 obtain ⟨vv, hvv⟩ := Ext.start p6.w.heap.size r0.w
 obtain ⟨v8, hal, hbb, hbk, hlt⟩ := mk_alloc vv (Nat.le_of_lt HDR.out) [.string (⟨#[82, 69, 84, 85, 82, 78, 32]⟩ ++ uw), .slice pait n5 pcit, .int .i64 1, .int .i64 1048576] 103
 rw [← hvv] at hal hbb hbk hlt
 have HXv8 := Lib.hid hal
 have HSv8 := Lib.hid hlt
 have HO8 : Hid (v8.w.ownsRow (p6.w.heap.size + 1) 103 4 (.slice (some ⟨r0.w.heap.size, 0, none⟩) 1 1) 1 [.string (⟨#[82, 69, 84, 85, 82, 78, 32]⟩ ++ uw), .slice pait n5 pcit, .int .i64 1, .int .i64 1048576]) := Lib.hid (ownG_new hbk (by have := HZ0.out; omega) rfl (by decide))
 have HHv8 := Lib.hid (HKhas.out.below hbb HKhas.out.lt)
 clear hal hbb hbk hlt hvv vv
 replace HZ0 := Lib.hid (And.intro HZ0.out HSv8.out)
 obtain ⟨i0, hi, hz0, hz1, hz2⟩ := info_parts Tryz.infoGroup
 have I0 := Lib.hid hi
 have I1 := Lib.hid hz0
 have I2 := Lib.hid hz1
 have I3 := Lib.hid hz2
 clear hi hz0 hz1 hz2
 go_wp2_with (at_builtin; refine Stand.out ?_)
 refine Stand.mk ?_
 rw [HXv8.out]
 refine wpList_append_own _ rfl _ _ 98 rfl (p6.w.heap.size + 1) 103 i0 (.agg #[.string ⟨#[]⟩, .slice none 0 0, .int .i64 0, .int .i64 0]) 4 56 Tryz.underlying98 I0.out I1.out I2.out I3.out rfl (by omega) (.slice (some ⟨r0.w.heap.size, 0, none⟩) 1 1) 1 [.string (⟨#[82, 69, 84, 85, 82, 78, 32]⟩ ++ uw), .slice pait n5 pcit, .int .i64 1, .int .i64 1048576] rfl HO8.out ⟨x3.w.heap.size, 0, none⟩ 3 3 [.string ⟨#[32, 79, 82, 68, 69, 82, 32, 66, 89, 32]⟩, .slice paso n7 pcso, .int .i64 0, .int .i64 1048576, .string ⟨#[32, 83, 75, 73, 80, 32]⟩, .slice paex5 n8 pcex5, .int .i64 0, .int .i64 1, .string ⟨#[32, 76, 73, 77, 73, 84, 32]⟩, .slice paex6 n9 pcex6, .int .i64 0, .int .i64 1] rfl rfl (fun j u hu => by rw [Addr.add_mid, Nat.zero_add]; exact (HTL.out v8).cell hu) (by simp [Value.oneCell']) (by decide) (by decide) (by have := HZ0.out; omega) ?_
 intro vr' w4 hown hgrow _
 obtain ⟨g, cap, rfl, hslg, hgb, hgl⟩ := ownG_form hown (by omega)
 have hbel : Below (p6.w.heap.size + 1) v8.w w4 := Below.grown (Below.refl _ _) hgrow (by have := HZ0.out; omega) (fun q hq => (show r0.w.heap.size = q from by simpa [Value.ownBlock] using hq) ▸ (by have := HZ0.out; omega))
 obtain ⟨v9, hv9⟩ : ∃ v : Ext p6.w.heap.size r0.w, w4 = v.w := ⟨⟨w4, v8.below.trans (hbel.mono (by omega))⟩, rfl⟩
 subst hv9
 have HSv9 := Lib.hid hbel.size
 have HSg : Hid (p6.w.heap.size + 1 ≤ g ∧ g < v9.w.heap.size) := Lib.hid ⟨hgb, hgl⟩
 have HHv9 := Lib.hid (HHv8.out.below hbel (by omega))
 have HSLG := Lib.hid hslg
 have HOWN : Hid (v9.w.ownsRow (p6.w.heap.size + 1) 103 4 (.slice (some ⟨g, 0, none⟩) 4 cap) 4 [.string (⟨#[82, 69, 84, 85, 82, 78, 32]⟩ ++ uw), .slice pait n5 pcit, .int .i64 1, .int .i64 1048576, .string ⟨#[32, 79, 82, 68, 69, 82, 32, 66, 89, 32]⟩, .slice paso n7 pcso, .int .i64 0, .int .i64 1048576, .string ⟨#[32, 83, 75, 73, 80, 32]⟩, .slice paex5 n8 pcex5, .int .i64 0, .int .i64 1, .string ⟨#[32, 76, 73, 77, 73, 84, 32]⟩, .slice paex6 n9 pcex6, .int .i64 0, .int .i64 1]) := Lib.hid hown
 clear hown hgrow hslg hgb hgl hbel HTL
 replace HZ0 := Lib.hid (And.intro HZ0.out HSv9.out)
 replace HZ0 := Lib.hid (And.intro HZ0.out HSg.out)
 have gw0 : v9.w.cell? ⟨g, 0, none⟩ = some _ := ownG_cell HOWN.out (k := 0) rfl
 have fw0 : v9.w.frozen? ⟨g, 0, none⟩ = false := ownG_free HOWN.out
 obtain ⟨v10, hst, hss, hsk⟩ := mk_store v9 g (by have := HZ0.out; omega) 0 (.string (⟨#[87, 73, 84, 72, 32]⟩ ++ uw))
 have HXv10 := Lib.hid hst
 have HSv10 : Hid (v10.w.heap.size = v9.w.heap.size) := Lib.hid hss
 have HHv10 := Lib.hid (HHv9.out.of_heap (hsk _ (by have := HZ0.out; omega)))
 have HOW2 : Hid (v10.w.ownsRow (p6.w.heap.size + 1) 103 4 (.slice (some ⟨g, 0, none⟩) 4 cap) 4 [.string (⟨#[87, 73, 84, 72, 32]⟩ ++ uw), .slice pait n5 pcit, .int .i64 1, .int .i64 1048576, .string ⟨#[32, 79, 82, 68, 69, 82, 32, 66, 89, 32]⟩, .slice paso n7 pcso, .int .i64 0, .int .i64 1048576, .string ⟨#[32, 83, 75, 73, 80, 32]⟩, .slice paex5 n8 pcex5, .int .i64 0, .int .i64 1, .string ⟨#[32, 76, 73, 77, 73, 84, 32]⟩, .slice paex6 n9 pcex6, .int .i64 0, .int .i64 1]) := Lib.hid (by rw [← hst]; exact ownG_set HOWN.out 0 _)
 clear HOWN hst hss hsk
 go_wp2_with fail
 rw [HXv10.out]
 clear gw0 fw0
 replace HZ0 := Lib.hid (And.intro HZ0.out HSv10.out)
 have HSS : Hid (∀ v : Ext p6.w.heap.size r0.w, (fun u : World => u.cell? ⟨w.heap.size, 2, none⟩ = some (.slice a2 n2 c2) ∧ u.cell? ⟨q2.w.heap.size, 0, none⟩ = some (.string ⟨#[32, 87, 72, 69, 82, 69, 32]⟩) ∧ u.cell? ⟨q2.w.heap.size, 1, none⟩ = some (.slice paex n2 pcex) ∧ u.cell? ⟨q2.w.heap.size, 2, none⟩ = some (.int .i64 0) ∧ u.cell? ⟨q2.w.heap.size, 3, none⟩ = some (.int .i64 1)) v.w) := Lib.hid (fun v => ⟨y2 v, zex0 v, zex1 v, zex2 v, zex3 v⟩)
 refine wp_region_noPanic ?_
 refine wp_region_J (S := fun u : World => u.cell? ⟨w.heap.size, 2, none⟩ = some (.slice a2 n2 c2) ∧ u.cell? ⟨q2.w.heap.size, 0, none⟩ = some (.string ⟨#[32, 87, 72, 69, 82, 69, 32]⟩) ∧ u.cell? ⟨q2.w.heap.size, 1, none⟩ = some (.slice paex n2 pcex) ∧ u.cell? ⟨q2.w.heap.size, 2, none⟩ = some (.int .i64 0) ∧ u.cell? ⟨q2.w.heap.size, 3, none⟩ = some (.int .i64 1)) (fun j => false) (by kernel_rfl) ?_
 obtain ⟨v11, hv11⟩ : ∃ v : Ext p6.w.heap.size r0.w, v10.w.drew = v.w := ⟨⟨_, v10.below.drew⟩, rfl⟩
 have HHv11 : Hid (Block v11.w (p6.w.heap.size) [.int .i64 3, .slice none 0 0, .slice none 0 0, .int .i64 0, .string ⟨#[]⟩, .int .i64 0, .bool false, .int .i64 0, .string ⟨#[]⟩, .slice none 0 0, .slice none 0 0, .slice none 0 0, .slice none 0 0, .string ⟨#[]⟩, .slice none 0 0, .bool false, .slice none 0 0, .slice none 0 0, .slice none 0 0, .slice none 0 0, .slice none 0 0, .bool false] 71) := Lib.hid (by rw [← hv11]; exact HHv10.out.drew)
 have HSv11 : Hid (v11.w.heap.size = v10.w.heap.size) := Lib.hid (by rw [← hv11]; rfl)
 replace HOW2 : Hid (v11.w.ownsRow (p6.w.heap.size + 1) 103 4 (.slice (some ⟨g, 0, none⟩) 4 cap) 4 [.string (⟨#[87, 73, 84, 72, 32]⟩ ++ uw), .slice pait n5 pcit, .int .i64 1, .int .i64 1048576, .string ⟨#[32, 79, 82, 68, 69, 82, 32, 66, 89, 32]⟩, .slice paso n7 pcso, .int .i64 0, .int .i64 1048576, .string ⟨#[32, 83, 75, 73, 80, 32]⟩, .slice paex5 n8 pcex5, .int .i64 0, .int .i64 1, .string ⟨#[32, 76, 73, 77, 73, 84, 32]⟩, .slice paex6 n9 pcex6, .int .i64 0, .int .i64 1]) := Lib.hid (by rw [← hv11]; exact HOW2.out)
 rw [hv11]
 clear hv11
 have hHeld := HSS.out v11
 replace HZ0 := Lib.hid (And.intro HZ0.out HSv11.out)
 refine Jt 0 ?_
 refine Jl 1 ?_
 refine Jt 4 ?_
 refine Jl 5 ?_
 refine Jr 2 fun KK hKK => ?_
 obtain ⟨v12, hal, hbb, hbk, hlt⟩ := mk_alloc v11 (Nat.le_of_lt HDR.out) [.string ⟨#[32, 87, 72, 69, 82, 69, 32]⟩, .slice paex n2 pcex, .int .i64 0, .int .i64 1] 103
 obtain ⟨HXv12, HSv12, HKw⟩ := hd3 hal hlt hbk
 have HHv12 := Lib.hid (HHv11.out.below hbb HHv11.out.lt)
 replace HOW2 : Hid (v12.w.ownsRow (p6.w.heap.size + 1) 103 4 (.slice (some ⟨g, 0, none⟩) 4 cap) 4 [.string (⟨#[87, 73, 84, 72, 32]⟩ ++ uw), .slice pait n5 pcit, .int .i64 1, .int .i64 1048576, .string ⟨#[32, 79, 82, 68, 69, 82, 32, 66, 89, 32]⟩, .slice paso n7 pcso, .int .i64 0, .int .i64 1048576, .string ⟨#[32, 83, 75, 73, 80, 32]⟩, .slice paex5 n8 pcex5, .int .i64 0, .int .i64 1, .string ⟨#[32, 76, 73, 77, 73, 84, 32]⟩, .slice paex6 n9 pcex6, .int .i64 0, .int .i64 1]) := Lib.hid (ownG_keep HOW2.out (fun q _ hq => hbb.block q hq))
 clear hal hbb hbk hlt
 replace HZ0 := Lib.hid (And.intro HZ0.out HSv12.out)
 go_simp
 rw [HXv12.out]
 refine hKK _ _ (fun _ _ => HSS.out v12) ?_
 clear hKK KK hHeld
 have hHeld := HSS.out v12
 refine Jn ?_
 refine Jr 3 fun KK hKK => ?_
 refine step_append_lies _ (by rfl) _ _ 98 (by rfl) (p6.w.heap.size + 1) 103 i0 (.agg #[.string ⟨#[]⟩, .slice none 0 0, .int .i64 0, .int .i64 0]) 4 56 Tryz.underlying98 I0.out I1.out I2.out I3.out rfl (by decide) (.slice (some ⟨g, 0, none⟩) 4 cap) 4 [.string (⟨#[87, 73, 84, 72, 32]⟩ ++ uw), .slice pait n5 pcit, .int .i64 1, .int .i64 1048576, .string ⟨#[32, 79, 82, 68, 69, 82, 32, 66, 89, 32]⟩, .slice paso n7 pcso, .int .i64 0, .int .i64 1048576, .string ⟨#[32, 83, 75, 73, 80, 32]⟩, .slice paex5 n8 pcex5, .int .i64 0, .int .i64 1, .string ⟨#[32, 76, 73, 77, 73, 84, 32]⟩, .slice paex6 n9 pcex6, .int .i64 0, .int .i64 1] (by rfl) HOW2.out ⟨v11.w.heap.size, 0, none⟩ 1 1 [.string ⟨#[32, 87, 72, 69, 82, 69, 32]⟩, .slice paex n2 pcex, .int .i64 0, .int .i64 1] (by rfl) (by rfl) (fun j u hu => by rw [Addr.add_mid, Nat.zero_add]; exact HKw.out.cell hu) (by simp [Value.oneCell']) (by decide) (by decide) (by decide) (by have := HZ0.out; omega) v12.w.heap.size rfl ?_
 intro g2 cap2 w5 hown hgrow hg2 hlt
 have hbel : Below (p6.w.heap.size + 1) v12.w w5 := Below.grown (Below.refl _ _) hgrow (by have := HZ0.out; omega) (fun q hq => (show g = q from by simpa [Value.ownBlock] using hq) ▸ (by have := HZ0.out; omega))
 obtain ⟨v13, hv13⟩ : ∃ v : Ext p6.w.heap.size r0.w, w5 = v.w := ⟨⟨w5, v12.below.trans (hbel.mono (by omega))⟩, rfl⟩
 subst hv13
 have HSv13 := Lib.hid hbel.size
 have HSg2 : Hid (p6.w.heap.size + 1 ≤ g2 ∧ g2 < v13.w.heap.size) := Lib.hid ⟨(ownG_sl hown).2, hlt⟩
 have HHv13 := Lib.hid (HHv12.out.below hbel (by omega))
 have HSLG2 := Lib.hid (ownG_sl hown).1
 have HOWN : Hid (v13.w.ownsRow (p6.w.heap.size + 1) 103 4 (.slice (some ⟨g2, 0, none⟩) 5 cap2) 5 [.string (⟨#[87, 73, 84, 72, 32]⟩ ++ uw), .slice pait n5 pcit, .int .i64 1, .int .i64 1048576, .string ⟨#[32, 79, 82, 68, 69, 82, 32, 66, 89, 32]⟩, .slice paso n7 pcso, .int .i64 0, .int .i64 1048576, .string ⟨#[32, 83, 75, 73, 80, 32]⟩, .slice paex5 n8 pcex5, .int .i64 0, .int .i64 1, .string ⟨#[32, 76, 73, 77, 73, 84, 32]⟩, .slice paex6 n9 pcex6, .int .i64 0, .int .i64 1, .string ⟨#[32, 87, 72, 69, 82, 69, 32]⟩, .slice paex n2 pcex, .int .i64 0, .int .i64 1]) := Lib.hid hown
 clear hown hgrow hg2 hlt hbel
 refine hKK _ _ (fun _ _ => HSS.out v13) ?_
 clear hKK KK hHeld
 have hHeld := HSS.out v13
 replace HZ0 := Lib.hid (And.intro HZ0.out HSv13.out)
 replace HZ0 := Lib.hid (And.intro HZ0.out HSg2.out)
 refine Jn ?_
 refine Jt 6 ?_
 refine Jt 7 ?_
 refine Jr 8 fun KK hKK => ?_
 have g14 : v13.w.cell? ⟨p6.w.heap.size, 2, none⟩ = some (.slice none 0 0) := HHv13.out.cell (i := 2) rfl
 have f14 : v13.w.frozen? ⟨p6.w.heap.size, 2, none⟩ = false := HHv13.out.free 2
 obtain ⟨v14, hst, hss, hsk⟩ := mk_store v13 (p6.w.heap.size) (Nat.le_refl _) 2 (.slice a2 n2 c2)
 have HXv14 := Lib.hid hst
 have HSv14 : Hid (v14.w.heap.size = v13.w.heap.size) := Lib.hid hss
 have HHv14 : Hid (Block v14.w (p6.w.heap.size) [.int .i64 3, .slice none 0 0, .slice a2 n2 c2, .int .i64 0, .string ⟨#[]⟩, .int .i64 0, .bool false, .int .i64 0, .string ⟨#[]⟩, .slice none 0 0, .slice none 0 0, .slice none 0 0, .slice none 0 0, .string ⟨#[]⟩, .slice none 0 0, .bool false, .slice none 0 0, .slice none 0 0, .slice none 0 0, .slice none 0 0, .slice none 0 0, .bool false] 71) := Lib.hid (by rw [← hst]; exact HHv13.out.set 2 _)
 replace HOWN := Lib.hid (ownG_keep HOWN.out (fun q hq _ => hsk q (by have := HZ0.out; omega)))
 clear hst hss hsk
 replace HZ0 := Lib.hid (And.intro HZ0.out HSv14.out)
 go_simp
 rw [HXv14.out]
 refine hKK _ _ (fun _ _ => HSS.out v14) ?_
 clear hKK KK hHeld g14 f14
 have hHeld := HSS.out v14
 refine Jn ?_
 refine wpAnyJ_done (by kernel_rfl) ?_ _
 refine NoPanic.normal ?_
 clear hHeld
 go_wp2_with fail
 have HSS := Lib.hid (fun v => And.intro (y14 v) (And.intro (y15 v) (And.intro (y16 v) (And.intro (y17 v) (y18 v)))))
 refine wp_region_noPanic ?_
 refine wp_region_J (S := fun u : World => u.cell? ⟨w.heap.size, 14, none⟩ = some (.slice a5 n5 c5) ∧ u.cell? ⟨w.heap.size, 15, none⟩ = some (.bool un) ∧ u.cell? ⟨w.heap.size, 16, none⟩ = some (.slice a7 n7 c7) ∧ u.cell? ⟨w.heap.size, 17, none⟩ = some (.slice a8 n8 c8) ∧ u.cell? ⟨w.heap.size, 18, none⟩ = some (.slice a9 n9 c9)) (fun j => false) (by kernel_rfl) ?_
 obtain ⟨v0, HXv0, HH0, HSv0⟩ := mk_draw v14 HHv14
 replace HOWN := Lib.hid (own_drew HOWN.out HXv0.out)
 rw [HXv0.out]
 have hHeld := HSS.out v0
 replace HZ0 := Lib.hid (And.intro HZ0.out HSv0.out)
 refine Jt 0 ?_
 refine Jl 1 ?_
 refine Jt 2 ?_
 refine Jl 3 ?_
 refine Jt 4 ?_
 refine Jl 5 ?_
 refine Jt 6 ?_
 refine Jl 7 ?_
 refine Jt 8 ?_
 refine Jl 9 ?_
 refine Jt 10 ?_
 refine Jr 11 fun KK hKK => ?_
 obtain ⟨v1, HXv1, HSv1, HQv1, HH1, gv1, fv1⟩ := st_box v0 HH0 (Nat.le_refl _) 14 (.slice a5 n5 c5)
 replace HOWN := Lib.hid (ownG_keep HOWN.out (fun q hq _ => HQv1.out q (by have := HZ0.out; omega)))
 replace HZ0 := Lib.hid (And.intro HZ0.out HSv1.out)
 go_simp
 rw [HXv1.out]
 refine hKK _ _ (fun _ _ => HSS.out v1) ?_
 clear hKK KK hHeld gv1 fv1
 have hHeld := HSS.out v1
 refine Jn ?_
 refine Jt 12 ?_
 refine Jr 13 fun KK hKK => ?_
 obtain ⟨v2, HXv2, HSv2, HQv2, HH2, gv2, fv2⟩ := st_box v1 HH1 (Nat.le_refl _) 15 (.bool un)
 replace HOWN := Lib.hid (ownG_keep HOWN.out (fun q hq _ => HQv2.out q (by have := HZ0.out; omega)))
 replace HZ0 := Lib.hid (And.intro HZ0.out HSv2.out)
 go_simp
 rw [HXv2.out]
 refine hKK _ _ (fun _ _ => HSS.out v2) ?_
 clear hKK KK hHeld gv2 fv2
 have hHeld := HSS.out v2
 refine Jn ?_
 refine Jt 14 ?_
 refine Jr 15 fun KK hKK => ?_
 obtain ⟨v3, HXv3, HSv3, HQv3, HH3, gv3, fv3⟩ := st_box v2 HH2 (Nat.le_refl _) 16 (.slice a7 n7 c7)
 replace HOWN := Lib.hid (ownG_keep HOWN.out (fun q hq _ => HQv3.out q (by have := HZ0.out; omega)))
 replace HZ0 := Lib.hid (And.intro HZ0.out HSv3.out)
 go_simp
 rw [HXv3.out]
 refine hKK _ _ (fun _ _ => HSS.out v3) ?_
 clear hKK KK hHeld gv3 fv3
 have hHeld := HSS.out v3
 refine Jn ?_
 refine Jt 16 ?_
 refine Jr 17 fun KK hKK => ?_
 obtain ⟨v4, HXv4, HSv4, HQv4, HH4, gv4, fv4⟩ := st_box v3 HH3 (Nat.le_refl _) 17 (.slice a8 n8 c8)
 replace HOWN := Lib.hid (ownG_keep HOWN.out (fun q hq _ => HQv4.out q (by have := HZ0.out; omega)))
 replace HZ0 := Lib.hid (And.intro HZ0.out HSv4.out)
 go_simp
 rw [HXv4.out]
 refine hKK _ _ (fun _ _ => HSS.out v4) ?_
 clear hKK KK hHeld gv4 fv4
 have hHeld := HSS.out v4
 refine Jn ?_
 refine Jt 18 ?_
 refine Jr 19 fun KK hKK => ?_
 obtain ⟨v5, HXv5, HSv5, HQv5, HH5, gv5, fv5⟩ := st_box v4 HH4 (Nat.le_refl _) 18 (.slice a9 n9 c9)
 replace HOWN := Lib.hid (ownG_keep HOWN.out (fun q hq _ => HQv5.out q (by have := HZ0.out; omega)))
 replace HZ0 := Lib.hid (And.intro HZ0.out HSv5.out)
 go_simp
 rw [HXv5.out]
 refine hKK _ _ (fun _ _ => HSS.out v5) ?_
 clear hKK KK hHeld gv5 fv5
 have hHeld := HSS.out v5
 refine Jn ?_
 refine wpAnyJ_done (by kernel_rfl) ?_ _
 refine NoPanic.normal ?_
 clear hHeld
 have HBW : Hid (Below w.heap.size w v5.w) := Lib.hid ((HBE.out r0).trans (v5.below.mono (by have := HZ0.out; omega)))
 have HCA := Lib.hid (HCC.out.below HBW.out (by have := HZ0.out; omega))
 have HCD := Lib.hid (HCB.out.below HBW.out (by have := HZ0.out; omega))
 have HGO := Lib.hid (HAL _ _ _ _ B v5.w HCA.out HCD.out (by have := HZ0.out; omega))
 have HRG1 := Lib.hid (rangeAt_ext v5 (HRA.out r0) (by have := HZ0.out; omega))
 have HRG2 := Lib.hid (rg_of HCD.out (rangeAt_block HH5.out))
 go_wp2_with (first | (refine wpList_load_mid rfl 71 _ rfl (w.heap.size) 0 rfl _ _ HRG1.out Tryz.underlying71 rfl (by kernel_rfl) ?_) | (refine wpList_load_mid rfl 71 _ rfl (p6.w.heap.size) 0 rfl _ _ HRG2.out Tryz.underlying71 rfl (by kernel_rfl) ?_))
 refine HGO.out.mono ?_
 rintro e w9 ⟨rfl, hb9⟩
 go_wp2_with fail
 go_ret2
 have hz9 := hb9.size
 obtain ⟨hn1, hn2, hn5, hn7, hn8, hn9, hn10, hn11, -⟩ := HN.out
 have hgb : groupsB ⟨3, l1, l2, .mk op nm (.mk xk xb xi xs xl xks) xns xaz, vr, l5, un, l7, l8, l9, l10, l11, de⟩ = alikeB ⟨3, l1, l2, .mk op nm (.mk xk xb xi xs xl xks) xns xaz, vr, l5, un, l7, l8, l9, l10, l11, de⟩ (hasC ⟨3, l1, l2, .mk op nm (.mk xk xb xi xs xl xks) xns xaz, vr, l5, un, l7, l8, l9, l10, l11, de⟩) := by simp [groupsB]
 have hgl : groupsL ⟨3, l1, l2, .mk op nm (.mk xk xb xi xs xl xks) xns xaz, vr, l5, un, l7, l8, l9, l10, l11, de⟩ = itemsG ⟨3, l1, l2, .mk op nm (.mk xk xb xi xs xl xks) xns xaz, vr, l5, un, l7, l8, l9, l10, l11, de⟩ (⟨#[87, 73, 84, 72, 32]⟩ ++ uw) :: (tailG ⟨3, l1, l2, .mk op nm (.mk xk xb xi xs xl xks) xns xaz, vr, l5, un, l7, l8, l9, l10, l11, de⟩ ++ [whereG ⟨3, l1, l2, .mk op nm (.mk xk xb xi xs xl xks) xns xaz, vr, l5, un, l7, l8, l9, l10, l11, de⟩]) := by rw [← HUW.out]; simp [groupsL, uniqW]
 rw [hgb, hgl]
 refine ⟨some ⟨g2, 0, none⟩, 5, cap2, rfl, rfl, HSLG2.out, gr_own (css := [[.string (⟨#[87, 73, 84, 72, 32]⟩ ++ uw), .slice pait n5 pcit, .int .i64 1, .int .i64 1048576], [.string ⟨#[32, 79, 82, 68, 69, 82, 32, 66, 89, 32]⟩, .slice paso n7 pcso, .int .i64 0, .int .i64 1048576], [.string ⟨#[32, 83, 75, 73, 80, 32]⟩, .slice paex5 n8 pcex5, .int .i64 0, .int .i64 1], [.string ⟨#[32, 76, 73, 77, 73, 84, 32]⟩, .slice paex6 n9 pcex6, .int .i64 0, .int .i64 1], [.string ⟨#[32, 87, 72, 69, 82, 69, 32]⟩, .slice paex n2 pcex, .int .i64 0, .int .i64 1]]) (ownG_keep HOWN.out (fun q _ hq => hb9.block q hq)) rfl ?_, HBW.out.trans (hb9.mono HBW.out.size)⟩
 exact AllGr.cons (mk_gr ((HPit.out.below v5.below (by have := HZ0.out; omega) (by have := HZ0.out; omega)).below hb9 (by have := HZ0.out; omega) (by have := HZ0.out; omega)) (by rw [List.length_map]; exact hn5) HLit.out _ _ _) (AllGr.cons (mk_gr ((HPso.out.below v5.below (by have := HZ0.out; omega) (by have := HZ0.out; omega)).below hb9 (by have := HZ0.out; omega) (by have := HZ0.out; omega)) (by rw [List.length_map]; exact hn7) HLso.out _ _ _) (AllGr.cons (mk_gr ((HPex5.out.below v5.below (by have := HZ0.out; omega) (by have := HZ0.out; omega)).below hb9 (by have := HZ0.out; omega) (by have := HZ0.out; omega)) (by rw [List.length_map]; exact hn8) HLex5.out _ _ _) (AllGr.cons (mk_gr ((HPex6.out.below v5.below (by have := HZ0.out; omega) (by have := HZ0.out; omega)).below hb9 (by have := HZ0.out; omega) (by have := HZ0.out; omega)) (by rw [List.length_map]; exact hn9) HLex6.out _ _ _) (AllGr.cons (mk_gr ((HPex.out.below v5.below (by have := HZ0.out; omega) (by have := HZ0.out; omega)).below hb9 (by have := HZ0.out; omega) (by have := HZ0.out; omega)) (by rw [List.length_map]; exact hn2) HLex.out _ _ _) (AllGr.nil)))))) : P := h
set_option maxHeartbeats 64000000 in
theorem groups_3 (HAL : AlikeSaid) (c : Clt) (cs : List Value) (B : Nat) (w : World) (hc : IsCl B w cs c) (hB : B ≤ w.heap.size) (hw : wtCl c ≤ 1048576) (hk : c.kind = 3) :
    Calls Tryz.prog 35 #[.agg cs.toArray] w fun e w' => ∃ a n cap, e = .returned (.tuple #[.slice a n cap, .bool (groupsB c)]) ∧ n = (groupsL c).length ∧ SlOk a n cap ∧ GRow B w' a (groupsL c) ∧ Below w.heap.size w w' := by
 have zk3 := trivial
 exact pre31
end Go.Proofs.YteljlahcdipilaaGreat

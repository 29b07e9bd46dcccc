/- Parts X31K2 of this seat (pruned, scripts that are alike kept once as default arguments: q1, q2, ..). Conditions: each says its own. -/
import Derived.Test.YtndhpdclpgemfaaGreatV15
namespace Go.Proofs.YtndhpdclpgemfaaGreat
open Go.RowKit Go.Shelf
set_option linter.unusedSimpArgs false
set_option linter.unusedVariables false
set_option maxRecDepth 100000
set_option maxRecDepth 100000 in
theorem Sv867105 {P : Prop} (h : P := by
 first
 | (guard_hyp z867105a; obtain ⟨v1, HXv1, HBv1, HKv1, HSv1⟩ := al_box v0 (Nat.le_of_lt HDR.out) [.iface 93 (.agg #[.int .i64 op, .string nm, .int .i64 xk, .bool xb, .int .i64 xi, .string xs, .slice xla xll xlc, .slice xka xkn xkc, .slice xna xnn xnc, .slice xxa xxn xxc])] 85)
 | (obtain ⟨v1, HXv1, HBv1, HKv1, HSv1⟩ := al_box v0 (Nat.le_of_lt HDR.out) [.iface 122 (.string vr)] 85)
 have HH1 := Lib.hid (HH0.out.below HBv1.out HH0.out.lt)
 first
 | (guard_hyp z867105a; have HPE := Lib.hid (part_one (B := B) (p := (.ex (.mk op nm (.mk xk xb xi xs xl xks) xns xaz))) HKv1.out HSv1.out ⟨_, rfl, HEI.out v1⟩))
 | (have HPN := Lib.hid (part_one (B := B) (p := (.nm vr)) HKv1.out HSv1.out rfl))
 replace HZ0 := Lib.hid (And.intro HZ0.out HSv1.out)
 go_simp
 rw [HXv1.out]
 refine hKK _ _ (fun _ _ => HSS.out v1) ?_
 clear hKK KK hHeld
 have hHeld := HSS.out v1
 refine Jn ?_
 first
 |(
  guard_hyp z867105b
  refine Jt 9 ?_
  refine Jr 3 fun KK hKK => ?_
  obtain ⟨v2, HXv2, HBv2, HKv2, HSv2⟩ := al_box v1 (Nat.le_of_lt HDR.out) [.iface 93 (.agg #[.int .i64 op, .string nm, .int .i64 xk, .bool xb, .int .i64 xi, .string xs, .slice xla xll xlc, .slice xka xkn xkc, .slice xna xnn xnc, .slice xxa xxn xxc])] 85)
 |(
  refine Jt 4 ?_
  refine Jr 8 fun KK hKK => ?_
  obtain ⟨v2, HXv2, HBv2, HKv2, HSv2⟩ := al_box v1 (Nat.le_of_lt HDR.out) [.iface 122 (.string vr)] 85)
 have HH2 := Lib.hid (HH1.out.below HBv2.out HH1.out.lt)
 first
 |(
  guard_hyp z867105b
  have HPE := Lib.hid (part_one (B := B) (p := (.ex (.mk op nm (.mk xk xb xi xs xl xks) xns xaz))) HKv2.out HSv2.out ⟨_, rfl, HEI.out v2⟩)
  replace HPN := Lib.hid (HPN.out.below HBv2.out (by have := HZ0.out; omega) (by have := HZ0.out; omega)))
 |(
  have HPN := Lib.hid (part_one (B := B) (p := (.nm vr)) HKv2.out HSv2.out rfl)
  replace HPE := Lib.hid (HPE.out.below HBv2.out (by have := HZ0.out; omega) (by have := HZ0.out; omega)))
 replace HZ0 := Lib.hid (And.intro HZ0.out HSv2.out)
 go_simp
 rw [HXv2.out]
 refine hKK _ _ (fun _ _ => HSS.out v2) ?_
 clear hKK KK hHeld
 have hHeld := HSS.out v2
 refine Jn ?_
 first
 | (guard_hyp z867105a; refine Jt 9 ?_)
 | (refine Jt 4 ?_)
 refine Jr 10 fun KK hKK => ?_
 first
 | (guard_hyp z867105a; obtain ⟨v3, HXv3, HBv3, HKl, HSv3⟩ := al_box v2 (Nat.le_of_lt HDR.out) [.string ⟨#[85, 78, 87, 73, 78, 68, 32]⟩, .slice (some ⟨v0.w.heap.size, 0, none⟩) 1 1, .int .i64 1, .int .i64 1, .string ⟨#[32, 65, 83, 32]⟩, .slice (some ⟨v1.w.heap.size, 0, none⟩) 1 1, .int .i64 1, .int .i64 1] 83)
 | (obtain ⟨v3, HXv3, HBv3, HKl, HSv3⟩ := al_box v2 (Nat.le_of_lt HDR.out) [.string ⟨#[85, 78, 87, 73, 78, 68, 32]⟩, .slice (some ⟨v1.w.heap.size, 0, none⟩) 1 1, .int .i64 1, .int .i64 1, .string ⟨#[32, 65, 83, 32]⟩, .slice (some ⟨v0.w.heap.size, 0, none⟩) 1 1, .int .i64 1, .int .i64 1] 83)
 have HH3 := Lib.hid (HH2.out.below HBv3.out HH2.out.lt)
 replace HPE := Lib.hid (HPE.out.below HBv3.out (by have := HZ0.out; omega) (by have := HZ0.out; omega))
 replace HPN := Lib.hid (HPN.out.below HBv3.out (by have := HZ0.out; omega) (by have := HZ0.out; omega))
 replace HZ0 := Lib.hid (And.intro HZ0.out HSv3.out)
 go_simp
 rw [HXv3.out]
 refine hKK _ _ (fun _ _ => HSS.out v3) ?_
 clear hKK KK hHeld
 have hHeld := HSS.out v3
 refine Jn ?_
 refine Jt 15 ?_
 refine Jt 16 ?_
 refine Jr 17 fun KK hKK => ?_
 obtain ⟨v4, hst, hss, hsk⟩ := mk_stores v3 (p6.w.heap.size) (Nat.le_refl _) 3 [.int .i64 op, .string nm, .int .i64 xk, .bool xb, .int .i64 xi, .string xs, .slice xla xll xlc, .slice xka xkn xkc, .slice xna xnn xnc, .slice xxa xxn xxc]
 have HXv4 := Lib.hid (show World.setCells _ _ 3 (#[.int .i64 op, .string nm, .int .i64 xk, .bool xb, .int .i64 xi, .string xs, .slice xla xll xlc, .slice xka xkn xkc, .slice xna xnn xnc, .slice xxa xxn xxc] : Array Value).toList = v4.w from hst)
 have HSv4 : Hid (v4.w.heap.size = v3.w.heap.size) := Lib.hid hss
 have HH4 : Hid (Block v4.w (p6.w.heap.size) [.int .i64 2, .slice none 0 0, .slice none 0 0, .int .i64 op, .string nm, .int .i64 xk, .bool xb, .int .i64 xi, .string xs, .slice xla xll xlc, .slice xka xkn xkc, .slice xna xnn xnc, .slice xxa xxn xxc, .string ⟨#[]⟩, .slice none 0 0, .bool false, .slice none 0 0, .slice none 0 0, .slice none 0 0, .slice none 0 0, .slice none 0 0, .bool false] 42) := Lib.hid (by rw [← hst]; exact HH3.out.setCells [.int .i64 op, .string nm, .int .i64 xk, .bool xb, .int .i64 xi, .string xs, .slice xla xll xlc, .slice xka xkn xkc, .slice xna xnn xnc, .slice xxa xxn xxc] 3)
 replace HKl := Lib.hid (HKl.out.of_heap (hsk _ (by have := HZ0.out; omega)))
 replace HPE := Lib.hid (HPE.out.keep (by rw [← hst]; exact below_setCells (by have := HZ0.out; omega) _ _ _ (Below.refl _ _)) (fun q h1 h2 => hsk q (by have := HZ0.out; omega)))
 replace HPN := Lib.hid (HPN.out.keep (by rw [← hst]; exact below_setCells (by have := HZ0.out; omega) _ _ _ (Below.refl _ _)) (fun q h1 h2 => hsk q (by have := HZ0.out; omega)))
 clear hst hss hsk
 replace HZ0 := Lib.hid (And.intro HZ0.out HSv4.out)
 have HT9 : Hid (World.there v3.w (p6.w.heap.size) 3 10) := Lib.hid (block_there HH3.out 3 10 (by decide))
 refine step_store_mid (by rfl) 36 _ _ (by rfl) (p6.w.heap.size) 3 #[.int .i64 op, .string nm, .int .i64 xk, .bool xb, .int .i64 xi, .string xs, .slice xla xll xlc, .slice xka xkn xkc, .slice xna xnn xnc, .slice xxa xxn xxc] (by rfl) (by rfl) HT9.out (by kernel_rfl) (by simp [Value.oneCell']) ?_
 rw [HXv4.out]
 refine hKK _ _ (fun _ _ => HSS.out v4) ?_
 clear hKK KK hHeld HT9
 have hHeld := HSS.out v4
 refine Jn ?_
 refine Jt 18 ?_
 refine Jr 19 fun KK hKK => ?_
 obtain ⟨v5, HXv5, HSv5, HQv5, HH5, g5, f5⟩ := st_box v4 HH4 (Nat.le_refl _) 13 (.string vr)
 replace HKl := Lib.hid (HKl.out.of_heap (HQv5.out _ (by have := HZ0.out; omega)))
 replace HPE := Lib.hid (HPE.out.moved HXv5.out (by have := HZ0.out; omega) (by have := HZ0.out; omega))
 replace HPN := Lib.hid (HPN.out.moved HXv5.out (by have := HZ0.out; omega) (by have := HZ0.out; omega))
 replace HZ0 := Lib.hid (And.intro HZ0.out HSv5.out)
 go_simp
 rw [HXv5.out]
 refine hKK _ _ (fun _ _ => HSS.out v5) ?_
 clear hKK KK hHeld g5 f5
 have hHeld := HSS.out v5
 refine Jn ?_
 refine wpAnyJ_done (by kernel_rfl) ?_ _
 refine NoPanic.normal ?_
 clear hHeld
 have HBW : Hid (Below w.heap.size w v5.w) := Lib.hid ((HBE.out p7).trans (v5.below.mono (by have := HZ0.out; omega)))
 have HCA := Lib.hid (HCC.out.below HBW.out (by have := HZ0.out; omega))
 have HCD := Lib.hid (HCB.out.below HBW.out (by have := HZ0.out; omega))
 have HGO := Lib.hid (HAL _ _ _ _ B v5.w HCA.out HCD.out (by have := HZ0.out; omega))
 have HRG1 := Lib.hid (rangeAt_ext v5 (HRA.out p7) (by have := HZ0.out; omega))
 have HRG2 := Lib.hid (rg_of HCD.out (rangeAt_block HH5.out))
 go_wp2_with (first | (refine wpList_load_mid rfl 42 _ rfl (w.heap.size) 0 rfl _ _ HRG1.out Tryz.underlying42 rfl (by kernel_rfl) ?_) | (refine wpList_load_mid rfl 42 _ rfl (p6.w.heap.size) 0 rfl _ _ HRG2.out Tryz.underlying42 rfl (by kernel_rfl) ?_))
 refine HGO.out.mono ?_
 rintro e w9 ⟨rfl, hb9⟩
 go_wp2_with fail
 go_ret2
 have hz9 := hb9.size
 obtain ⟨hn1, hn2, hn5, hn7, hn8, hn9, hn10, hn11, -⟩ := HN.out
 have hgb : groupsB ⟨2, l1, l2, .mk op nm (.mk xk xb xi xs xl xks) xns xaz, vr, l5, un, l7, l8, l9, l10, l11, de⟩ = alikeB ⟨2, l1, l2, .mk op nm (.mk xk xb xi xs xl xks) xns xaz, vr, l5, un, l7, l8, l9, l10, l11, de⟩ (hasC ⟨2, l1, l2, .mk op nm (.mk xk xb xi xs xl xks) xns xaz, vr, l5, un, l7, l8, l9, l10, l11, de⟩) := by simp [groupsB]
 have hgl : groupsL ⟨2, l1, l2, .mk op nm (.mk xk xb xi xs xl xks) xns xaz, vr, l5, un, l7, l8, l9, l10, l11, de⟩ = [⟨⟨#[85, 78, 87, 73, 78, 68, 32]⟩, [.ex (.mk op nm (.mk xk xb xi xs xl xks) xns xaz)], 1, 1⟩, ⟨⟨#[32, 65, 83, 32]⟩, [.nm vr], 1, 1⟩] := by simp [groupsL]
 rw [hgb, hgl]
 first
 | (guard_hyp z867105a; refine ⟨some ⟨v2.w.heap.size, 0, none⟩, 2, 2, rfl, rfl, ⟨⟨Nat.le_refl _, by omega⟩, fun h => by cases h⟩, gr_row (css := [[.string ⟨#[85, 78, 87, 73, 78, 68, 32]⟩, .slice (some ⟨v0.w.heap.size, 0, none⟩) 1 1, .int .i64 1, .int .i64 1], [.string ⟨#[32, 65, 83, 32]⟩, .slice (some ⟨v1.w.heap.size, 0, none⟩) 1 1, .int .i64 1, .int .i64 1]]) (HKl.out.below hb9 HKl.out.lt) rfl ?_, HBW.out.trans (hb9.mono HBW.out.size)⟩)
 | (refine ⟨some ⟨v2.w.heap.size, 0, none⟩, 2, 2, rfl, rfl, ⟨⟨Nat.le_refl _, by omega⟩, fun h => by cases h⟩, gr_row (css := [[.string ⟨#[85, 78, 87, 73, 78, 68, 32]⟩, .slice (some ⟨v1.w.heap.size, 0, none⟩) 1 1, .int .i64 1, .int .i64 1], [.string ⟨#[32, 65, 83, 32]⟩, .slice (some ⟨v0.w.heap.size, 0, none⟩) 1 1, .int .i64 1, .int .i64 1]]) (HKl.out.below hb9 HKl.out.lt) rfl ?_, HBW.out.trans (hb9.mono HBW.out.size)⟩)
 exact AllGr.cons (mk_gr (HPE.out.below hb9 (by have := HZ0.out; omega) (by have := HZ0.out; omega)) rfl one_sl _ _ _) (AllGr.cons (mk_gr (HPN.out.below hb9 (by have := HZ0.out; omega) (by have := HZ0.out; omega)) rfl one_sl _ _ _) (AllGr.nil))) : P := h
set_option maxRecDepth 100000 in
theorem arm31_2 {P : Prop} (h : P := by
 have hk := HK.out
 clear HK
 subst hk
 obtain ⟨hin, s1, r1, s2, r2, s5, r5, s7, r7, s8, r8, s9, r9, s10, r10, s11, r11, hE⟩ := HRS.out
 obtain ⟨hn1, hn2, hn5, hn7, hn8, hn9, hn10, hn11, hxll, hxkn, hxnn, hxxn⟩ := HN.out
 have hhc : hasC ⟨2, l1, l2, .mk op nm (.mk xk xb xi xs xl xks) xns xaz, vr, l5, un, l7, l8, l9, l10, l11, de⟩ = ⟨2, [], [], .mk op nm (.mk xk xb xi xs xl xks) xns xaz, vr, [], false, [], [], [], [], [], false⟩ := by simp [hasC, bareC]
 have hcb : IsCl B w [.int .i64 2, .slice none 0 0, .slice none 0 0, .int .i64 op, .string nm, .int .i64 xk, .bool xb, .int .i64 xi, .string xs, .slice xla xl.length xlc, .slice xka xks.length xkc, .slice xna xns.length xnc, .slice xxa xaz.length xxc, .string vr, .slice none 0 0, .bool false, .slice none 0 0, .slice none 0 0, .slice none 0 0, .slice none 0 0, .slice none 0 0, .bool false] (hasC ⟨2, l1, l2, .mk op nm (.mk xk xb xi xs xl xks) xns xaz, vr, l5, un, l7, l8, l9, l10, l11, de⟩) := by rw [hhc]; exact ⟨none, 0, none, 0, _, none, 0, none, 0, none, 0, none, 0, none, 0, none, 0, rfl, hin, nil_sl, nil_row, nil_sl, nil_row, hE, nil_sl, nil_row, nil_sl, nil_row, nil_sl, nil_row, nil_sl, nil_row, nil_sl, nil_row, nil_sl, Cells.nil⟩
 clear hhc
 try simp only [hn1, hn2, hn5, hn7, hn8, hn9, hn10, hn11, hxll, hxkn, hxnn, hxxn] at hcb
 have HCB := Lib.hid hcb
 have HEX := HE0
 clear hcb hE s1 r1 s2 r2 s5 r5 s7 r7 s8 r8 s9 r9 s10 r10 s11 r11 hin hn1 hn2 hn5 hn7 hn8 hn9 hn10 hn11 hxll hxkn hxnn hxxn
 go_wp2_with fail
 have HDR : Hid (p6.w.heap.size < p7.w.heap.size) := Lib.hid (by have := HZ0.out; omega)
 replace HZ0 := Lib.hid (And.intro HZ0.out HDR.out)
 have y3 := cy_one p6.w.heap.size (e3 p7) (by have := HZ0.out; omega)
 have y4 := cy_one p6.w.heap.size (e4 p7) (by have := HZ0.out; omega)
 have y5 := cy_one p6.w.heap.size (e5 p7) (by have := HZ0.out; omega)
 have y6 := cy_one p6.w.heap.size (e6 p7) (by have := HZ0.out; omega)
 have y7 := cy_one p6.w.heap.size (e7 p7) (by have := HZ0.out; omega)
 have y8 := cy_one p6.w.heap.size (e8 p7) (by have := HZ0.out; omega)
 have y9 := cy_one p6.w.heap.size (e9 p7) (by have := HZ0.out; omega)
 have y10 := cy_one p6.w.heap.size (e10 p7) (by have := HZ0.out; omega)
 have y11 := cy_one p6.w.heap.size (e11 p7) (by have := HZ0.out; omega)
 have y12 := cy_one p6.w.heap.size (e12 p7) (by have := HZ0.out; omega)
 have y13 := cy_one p6.w.heap.size (e13 p7) (by have := HZ0.out; omega)
 clear e0 e1 e2 e3 e4 e5 e6 e7 e8 e9 e10 e11 e12 e13 e14 e15 e16 e17 e18 e19 e20 e21
 have HSS := Lib.hid (fun v => And.intro (y3 v) (And.intro (y4 v) (And.intro (y5 v) (And.intro (y6 v) (And.intro (y7 v) (And.intro (y8 v) (And.intro (y9 v) (And.intro (y10 v) (And.intro (y11 v) (And.intro (y12 v) (y13 v)))))))))))
 have HEI : Hid (∀ v : Ext p6.w.heap.size p7.w, IsX B v.w [.int .i64 op, .string nm, .int .i64 xk, .bool xb, .int .i64 xi, .string xs, .slice xla xll xlc, .slice xka xkn xkc, .slice xna xnn xnc, .slice xxa xxn xxc] (.mk op nm (.mk xk xb xi xs xl xks) xns xaz)) := Lib.hid (fun v => IsX.below (v.below.mono (by have := HZ0.out; omega)) (Nat.le_refl _) _ _ (IsX.below (HBE.out p7) (by have := HZ0.out; omega) _ _ HEX.out))
 refine wp_region_noPanic ?_
 refine wp_region_J (S := fun u : World => u.cell? ⟨w.heap.size, 3, none⟩ = some (.int .i64 op) ∧ u.cell? ⟨w.heap.size, 4, none⟩ = some (.string nm) ∧ u.cell? ⟨w.heap.size, 5, none⟩ = some (.int .i64 xk) ∧ u.cell? ⟨w.heap.size, 6, none⟩ = some (.bool xb) ∧ u.cell? ⟨w.heap.size, 7, none⟩ = some (.int .i64 xi) ∧ u.cell? ⟨w.heap.size, 8, none⟩ = some (.string xs) ∧ u.cell? ⟨w.heap.size, 9, none⟩ = some (.slice xla xll xlc) ∧ u.cell? ⟨w.heap.size, 10, none⟩ = some (.slice xka xkn xkc) ∧ u.cell? ⟨w.heap.size, 11, none⟩ = some (.slice xna xnn xnc) ∧ u.cell? ⟨w.heap.size, 12, none⟩ = some (.slice xxa xxn xxc) ∧ u.cell? ⟨w.heap.size, 13, none⟩ = some (.string vr)) (fun j => false) (by kernel_rfl) ?_
 obtain ⟨v0, HXv0, HH0, HSv0⟩ := mk_start (p6.w.heap.size) p7.w HKhas
 rw [HXv0.out]
 have hHeld := HSS.out v0
 replace HZ0 := Lib.hid (And.intro HZ0.out HSv0.out)
 refine Jt 0 ?_
 refine Jl 1 ?_
 refine Jt 2 ?_
 refine Jt 5 ?_
 refine Jl 6 ?_
 refine Jt 7 ?_
 refine Jt 11 ?_
 refine Jl 12 ?_
 refine Jt 13 ?_
 refine Jl 14 ?_
 refine wpAnyJ_ready (rs := [3, 8]) (by kernel_rfl) (by simp) ?_
 refine AllReadyJ.cons rfl (fun KK hKK => ?_) (AllReadyJ.cons rfl (fun KK hKK => ?_) AllReadyJ.nil)
 ·have z867105a := trivial
  exact Sv867105
 ·have z867105b := trivial
  exact Sv867105) : P := h
set_option maxHeartbeats 64000000 in
theorem groups_2 (HAL : AlikeSaid) (c : Clt) (cs : List Value) (B : Nat) (w : World) (hc : IsCl B w cs c) (hB : B ≤ w.heap.size) (hw : wtCl c ≤ 1048576) (hk : c.kind = 2) :
    Calls Tryz.prog 25 #[.agg cs.toArray] w fun e w' => ∃ a n cap, e = .returned (.tuple #[.slice a n cap, .bool (groupsB c)]) ∧ n = (groupsL c).length ∧ SlOk a n cap ∧ GRow B w' a (groupsL c) ∧ Below w.heap.size w w' := by
 have zk2 := trivial
 exact pre31
end Go.Proofs.YtndhpdclpgemfaaGreat

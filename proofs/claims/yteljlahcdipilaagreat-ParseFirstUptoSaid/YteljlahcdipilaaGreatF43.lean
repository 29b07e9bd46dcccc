/- Parts X31P, X31K0, X31K1 of this seat (pruned, scripts that are alike kept once as default arguments: q1, q2, ..). Conditions: each says its own. -/
import Derived.Test.YteljlahcdipilaaGreatF20
namespace Go.Proofs.YteljlahcdipilaaGreat
open Go.RowKit Go.Shelf
set_option linter.unusedSimpArgs false
set_option linter.unusedVariables false
set_option maxRecDepth 100000
set_option maxRecDepth 100000 in
theorem pre31 {P : Prop} (h : P := by
 obtain ⟨ln1, ln2, ln5, ln7, ln8, ln9, ln10, ln11⟩ := wtCl_lens hw
 clear hw
 obtain ⟨kd, l1, l2, ex, vr, l5, un, l7, l8, l9, l10, l11, de⟩ := c
 simp only at hk ln1 ln2 ln5 ln7 ln8 ln9 ln10 ln11
 have hcc := hc
 obtain ⟨a1, c1, a2, c2, xe, a5, c5, a7, c7, a8, c8, a9, c9, a10, c10, a11, c11, rfl, hin, s1, r1, s2, r2, hE, s5, r5, s7, r7, s8, r8, s9, r9, s10, r10, s11, r11⟩ := hc
 obtain ⟨op, nm, xv, xns, xaz⟩ := ex
 simp only at hE s1 r1 s2 r2 s5 r5 s7 r7 s8 r8 s9 r9 s10 r10 s11 r11 hin
 have hE0 := hE
 obtain ⟨xk, xb, xi, xs, xl, xks, xla, xlc, xka, xkc, xna, xnc, xxa, xxc, rfl, rfl, -⟩ := hE.cells
 simp only [List.cons_append, List.nil_append] at hcc ⊢
 obtain ⟨n1, hn1⟩ := nam l1.length
 obtain ⟨n2, hn2⟩ := nam l2.length
 obtain ⟨n5, hn5⟩ := nam l5.length
 obtain ⟨n7, hn7⟩ := nam l7.length
 obtain ⟨n8, hn8⟩ := nam l8.length
 obtain ⟨n9, hn9⟩ := nam l9.length
 obtain ⟨n10, hn10⟩ := nam l10.length
 obtain ⟨n11, hn11⟩ := nam l11.length
 obtain ⟨xll, hxll⟩ := nam xl.length
 obtain ⟨xkn, hxkn⟩ := nam xks.length
 obtain ⟨xnn, hxnn⟩ := nam xns.length
 obtain ⟨xxn, hxxn⟩ := nam xaz.length
 rw [hn1, hn2, hn5, hn7, hn8, hn9, hn10, hn11, hxll, hxkn, hxnn, hxxn] at hcc ⊢
 rw [hxll, hxkn, hxnn, hxxn] at hE0
 obtain ⟨W0, p0, hW0, hp0, hsz, hbe, hce⟩ := box_ext w [.int .i64 kd, .slice a1 n1 c1, .slice a2 n2 c2, .int .i64 op, .string nm, .int .i64 xk, .bool xb, .int .i64 xi, .string xs, .slice xla xll xlc, .slice xka xkn xkc, .slice xna xnn xnc, .slice xxa xxn xxc, .string vr, .slice a5 n5 c5, .bool un, .slice a7 n7 c7, .slice a8 n8 c8, .slice a9 n9 c9, .slice a10 n10 c10, .slice a11 n11 c11, .bool de] 71
 obtain ⟨e0, e1, e2, e3, e4, e5, e6, e7, e8, e9, e10, e11, e12, e13, e14, e15, e16, e17, e18, e19, e20, e21⟩ := cl22 hce
 have HSZ := Lib.hid hsz
 have HOFpt := of_step HSZ.out (fun u : Ext (w.heap.size + 1) W0 => of_pt l1 a1 c1 B u.w s1 (r1.below (hbe u) hB (fun _ _ h => h.below (hbe u) hB)) (Nat.le_trans hB (hbe u).size) ln1)
 rw [hn1] at HOFpt
 have HOFex := of_step HSZ.out (fun u : Ext (w.heap.size + 1) W0 => of_ex l2 a2 c2 B u.w s2 (r2.below (hbe u) hB (fun _ _ h => IsX.below (hbe u) hB _ _ h)) (Nat.le_trans hB (hbe u).size) ln2)
 rw [hn2] at HOFex
 have HOFit := of_step HSZ.out (fun u : Ext (w.heap.size + 1) W0 => of_it l5 a5 c5 B u.w s5 (r5.below (hbe u) hB (fun _ _ h => h.below (hbe u) hB)) (Nat.le_trans hB (hbe u).size) ln5)
 rw [hn5] at HOFit
 have HOFso := of_step HSZ.out (fun u : Ext (w.heap.size + 1) W0 => of_so l7 a7 c7 B u.w s7 (r7.below (hbe u) hB (fun _ _ h => h.below (hbe u) hB)) (Nat.le_trans hB (hbe u).size) ln7)
 rw [hn7] at HOFso
 have HOFex5 := of_step HSZ.out (fun u : Ext (w.heap.size + 1) W0 => of_ex5 l8 a8 c8 B u.w s8 (r8.below (hbe u) hB (fun _ _ h => IsX.below (hbe u) hB _ _ h)) (Nat.le_trans hB (hbe u).size) ln8)
 rw [hn8] at HOFex5
 have HOFex6 := of_step HSZ.out (fun u : Ext (w.heap.size + 1) W0 => of_ex6 l9 a9 c9 B u.w s9 (r9.below (hbe u) hB (fun _ _ h => IsX.below (hbe u) hB _ _ h)) (Nat.le_trans hB (hbe u).size) ln9)
 rw [hn9] at HOFex6
 have HOFnm := of_step HSZ.out (fun u : Ext (w.heap.size + 1) W0 => of_nm l11 a11 c11 B u.w s11 (r11.below (hbe u) hB) (Nat.le_trans hB (hbe u).size) ln11)
 rw [hn11] at HOFnm
 have HOFsi := of_step HSZ.out (fun u : Ext (w.heap.size + 1) W0 => of_si l10 kd w.heap.size a10 c10 B u.w s10 (r10.below (hbe u) hB (fun _ _ h => h.below (hbe u) hB)) (Nat.le_trans hB (hbe u).size) (e0 u) ln10)
 rw [hn10] at HOFsi
 have HRA : Hid (∀ u : Ext (w.heap.size + 1) W0, u.w.rangeAt w.heap.size 0 _) := Lib.hid (fun u j v hv => by rw [Nat.zero_add]; exact hce u j v hv)
 have HRS := Lib.hid (show _ ∧ _ ∧ _ ∧ _ ∧ _ ∧ _ ∧ _ ∧ _ ∧ _ ∧ _ ∧ _ ∧ _ ∧ _ ∧ _ ∧ _ ∧ _ ∧ _ ∧ _ from ⟨hin, s1, r1, s2, r2, s5, r5, s7, r7, s8, r8, s9, r9, s10, r10, s11, r11, hE⟩)
 obtain ⟨HBE, HB, HCC⟩ := hd3 hbe hB hcc
 have HN := Lib.hid (show _ ∧ _ ∧ _ ∧ _ ∧ _ ∧ _ ∧ _ ∧ _ ∧ _ ∧ _ ∧ _ ∧ _ from ⟨hn1, hn2, hn5, hn7, hn8, hn9, hn10, hn11, hxll, hxkn, hxnn, hxxn⟩)
 obtain ⟨HE0, HW0, HP0⟩ := hd3 hE0 hW0 hp0
 have HZ0 : Hid (B ≤ w.heap.size ∧ w.heap.size + 1 ≤ p0.w.heap.size) := Lib.hid ⟨hB, by have := (p0.below).size; omega⟩
 have HK := Lib.hid hk
 clear hbe hsz hB hcc hE hE0 hW0 hp0 hce s1 r1 s2 r2 s5 r5 s7 r7 s8 r8 s9 r9 s10 r10 s11 r11 hin ln1 ln2 ln5 ln7 ln8 ln9 ln10 ln11 hn1 hn2 hn5 hn7 hn8 hn9 hn10 hn11 hxll hxkn hxnn hxxn hk
 go_enter Tryz.func35, Tryz.ntmps35
 go_upto_region 1 with fail
 rw [HW0.out, HP0.out]
 go_wp2_with fail
 refine (HOFpt.out p0).mono ?_
 rintro e w2 ⟨papt, pcpt, q1, rfl, rfl, HLpt, HPpt, HBq1, HSq1⟩
 replace HZ0 := Lib.hid (And.intro HZ0.out HSq1.out)
 obtain ⟨p1, HXp1, HBp1, HKpt, HSp1⟩ := al_box q1 HSZ.out [.string ⟨#[]⟩, .slice papt n1 pcpt, .int .i64 1, .int .i64 1048576] 103
 replace HZ0 := Lib.hid (And.intro HZ0.out HSp1.out)
 go_upto_region 2 with fail
 rw [HXp1.out]
 go_wp2_with fail
 refine (HOFex.out p1).mono ?_
 rintro e w2 ⟨paex, pcex, q2, rfl, rfl, HLex, HPex, HBq2, HSq2⟩
 replace HZ0 := Lib.hid (And.intro HZ0.out HSq2.out)
 obtain ⟨p2, HXp2, HBp2, HKex, HSp2⟩ := al_box q2 HSZ.out [.string ⟨#[32, 87, 72, 69, 82, 69, 32]⟩, .slice paex n2 pcex, .int .i64 0, .int .i64 1] 103
 replace HZ0 := Lib.hid (And.intro HZ0.out HSp2.out)
 go_upto_region 3 with fail
 rw [HXp2.out]
 go_wp2_with fail
 refine (HOFit.out p2).mono ?_
 rintro e w2 ⟨pait, pcit, q3, rfl, rfl, HLit, HPit, HBq3, HSq3⟩
 replace HZ0 := Lib.hid (And.intro HZ0.out HSq3.out)
 obtain ⟨p3, HXp3, HBp3, HKit, HSp3⟩ := al_box q3 HSZ.out [.string ⟨#[]⟩, .slice pait n5 pcit, .int .i64 1, .int .i64 1048576] 103
 replace HZ0 := Lib.hid (And.intro HZ0.out HSp3.out)
 go_wp2_with fail
 rw [HXp3.out]
 have HSS4 := Lib.hid (fun u => And.intro (e16 u) (And.intro (e17 u) (e18 u)))
 refine wp_region_noPanic ?_
 refine wp_region_J (S := fun u : World => u.cell? ⟨w.heap.size, 16, none⟩ = some (.slice a7 n7 c7) ∧ u.cell? ⟨w.heap.size, 17, none⟩ = some (.slice a8 n8 c8) ∧ u.cell? ⟨w.heap.size, 18, none⟩ = some (.slice a9 n9 c9)) (fun j => false) (by kernel_rfl) ?_
 obtain ⟨x0, HXx0, HBx0, HSx0⟩ := mk_drew p3
 rw [HXx0.out]
 have hHeld := HSS4.out x0
 replace HZ0 := Lib.hid (And.intro HZ0.out HSx0.out)
 refine Jt 0 ?_
 refine Jl 1 ?_
 refine Jt 4 ?_
 refine Jl 5 ?_
 refine Jt 8 ?_
 refine Jl 9 ?_
 refine Jr 2 fun KK hKK => ?_
 go_simp
 go_at_call 62
 refine (HOFso.out x0).mono ?_
 rintro e w2 ⟨paso, pcso, x1, rfl, rfl, HLso, HPso, HBx1, HSx1⟩
 replace HZ0 := Lib.hid (And.intro HZ0.out HSx1.out)
 refine hKK _ _ (fun _ _ => HSS4.out x1) ?_
 clear hKK KK hHeld
 have hHeld := HSS4.out x1
 refine Jn ?_
 refine Jt 3 ?_
 refine Jr 6 fun KK hKK => ?_
 go_simp
 go_at_call 58
 refine (HOFex5.out x1).mono ?_
 rintro e w2 ⟨paex5, pcex5, x2, rfl, rfl, HLex5, HPex5, HBx2, HSx2⟩
 replace HZ0 := Lib.hid (And.intro HZ0.out HSx2.out)
 refine hKK _ _ (fun _ _ => HSS4.out x2) ?_
 clear hKK KK hHeld
 have hHeld := HSS4.out x2
 refine Jn ?_
 refine Jt 7 ?_
 refine Jr 10 fun KK hKK => ?_
 go_simp
 go_at_call 58
 refine (HOFex6.out x2).mono ?_
 rintro e w2 ⟨paex6, pcex6, x3, rfl, rfl, HLex6, HPex6, HBx3, HSx3⟩
 replace HZ0 := Lib.hid (And.intro HZ0.out HSx3.out)
 refine hKK _ _ (fun _ _ => HSS4.out x3) ?_
 clear hKK KK hHeld
 have hHeld := HSS4.out x3
 refine Jn ?_
 refine Jt 11 ?_
 refine Jr 12 fun KK hKK => ?_
 obtain ⟨p4, HXp4, HBp4, HKtail, HSp4⟩ := al_box x3 HSZ.out [.string ⟨#[32, 79, 82, 68, 69, 82, 32, 66, 89, 32]⟩, .slice paso n7 pcso, .int .i64 0, .int .i64 1048576, .string ⟨#[32, 83, 75, 73, 80, 32]⟩, .slice paex5 n8 pcex5, .int .i64 0, .int .i64 1, .string ⟨#[32, 76, 73, 77, 73, 84, 32]⟩, .slice paex6 n9 pcex6, .int .i64 0, .int .i64 1] 103
 replace HZ0 := Lib.hid (And.intro HZ0.out HSp4.out)
 go_simp
 rw [HXp4.out]
 refine hKK _ _ (fun _ _ => HSS4.out p4) ?_
 clear hKK KK hHeld
 have hHeld := HSS4.out p4
 refine Jn ?_
 refine Jt 13 ?_
 refine wpAnyJ_done (by kernel_rfl) ?_ _
 refine NoPanic.normal ?_
 go_wp2_with fail
 refine (HOFnm.out p4).mono ?_
 rintro e w2 ⟨panm, pcnm, q5, rfl, rfl, HLnm, HPnm, HBq5, HSq5⟩
 replace HZ0 := Lib.hid (And.intro HZ0.out HSq5.out)
 obtain ⟨p5, HXp5, HBp5, HKnm, HSp5⟩ := al_box q5 HSZ.out [.string ⟨#[68, 69, 76, 69, 84, 69, 32]⟩, .slice panm n11 pcnm, .int .i64 1, .int .i64 1048576] 103
 replace HZ0 := Lib.hid (And.intro HZ0.out HSp5.out)
 go_upto_region 6 with fail
 rw [HXp5.out]
 go_wp2_with fail
 refine (HOFsi.out p5).mono ?_
 rintro e w2 ⟨pasi, pcsi, q6, rfl, rfl, HLsi, HPsi, HBq6, HSq6⟩
 replace HZ0 := Lib.hid (And.intro HZ0.out HSq6.out)
 obtain ⟨p6, HXp6, HBp6, HKsi, HSp6⟩ := al_box q6 HSZ.out [.string ⟨#[]⟩, .slice pasi n10 pcsi, .int .i64 1, .int .i64 1048576] 103
 replace HZ0 := Lib.hid (And.intro HZ0.out HSp6.out)
 go_upto_region 7 with fail
 rw [HXp6.out]
 go_upto_if 48 with fail
 go_cut [10] (fun v wx => v = .string (if un = true then ⟨#[68, 73, 83, 84, 73, 78, 67, 84, 32]⟩ else ⟨#[]⟩) ∧ wx = p6.w)
 case first =>
  cases un with
  | false =>
   go_wp2_with fail
   go_meet
   exact ⟨rfl, rfl⟩
  | true =>
   go_wp2_with fail
   go_meet
   exact ⟨rfl, rfl⟩
 case rest =>
  obtain ⟨hv10, hwc⟩ := hcut
  subst hv10
  subst hwc
  obtain ⟨uw, huw⟩ : ∃ b : ByteArray, (if un = true then ⟨#[68, 73, 83, 84, 73, 78, 67, 84, 32]⟩ else ⟨#[]⟩) = b := ⟨_, rfl⟩
  rw [huw]
  have HUW := Lib.hid huw
  clear huw
  have hbu : Program.built Tryz.prog 71 [(0, Value.int .i64 kd)] = some #[.int .i64 kd, .slice none 0 0, .slice none 0 0, .int .i64 0, .string ⟨#[]⟩, .int .i64 0, .bool false, .int .i64 0, .string ⟨#[]⟩, .slice none 0 0, .slice none 0 0, .slice none 0 0, .slice none 0 0, .string ⟨#[]⟩, .slice none 0 0, .bool false, .slice none 0 0, .slice none 0 0, .slice none 0 0, .slice none 0 0, .slice none 0 0, .bool false] := by kernel_rfl
  obtain ⟨p7, HXp7, HBp7, HKhas, HSp7, HTp7⟩ := nw_box p6 HSZ.out [.int .i64 0, .slice none 0 0, .slice none 0 0, .int .i64 0, .string ⟨#[]⟩, .int .i64 0, .bool false, .int .i64 0, .string ⟨#[]⟩, .slice none 0 0, .slice none 0 0, .slice none 0 0, .slice none 0 0, .string ⟨#[]⟩, .slice none 0 0, .bool false, .slice none 0 0, .slice none 0 0, .slice none 0 0, .slice none 0 0, .slice none 0 0, .bool false] [.int .i64 kd, .slice none 0 0, .slice none 0 0, .int .i64 0, .string ⟨#[]⟩, .int .i64 0, .bool false, .int .i64 0, .string ⟨#[]⟩, .slice none 0 0, .slice none 0 0, .slice none 0 0, .slice none 0 0, .string ⟨#[]⟩, .slice none 0 0, .bool false, .slice none 0 0, .slice none 0 0, .slice none 0 0, .slice none 0 0, .slice none 0 0, .bool false] 71
  replace HZ0 := Lib.hid (And.intro HZ0.out HSp7.out)
  go_upto_region 11 with fail
  go_upto_region 12 with (refine wpList_store_mid rfl 71 _ _ rfl p6.w.heap.size 0 #[.int .i64 kd, .slice none 0 0, .slice none 0 0, .int .i64 0, .string ⟨#[]⟩, .int .i64 0, .bool false, .int .i64 0, .string ⟨#[]⟩, .slice none 0 0, .slice none 0 0, .slice none 0 0, .slice none 0 0, .string ⟨#[]⟩, .slice none 0 0, .bool false, .slice none 0 0, .slice none 0 0, .slice none 0 0, .slice none 0 0, .slice none 0 0, .bool false] rfl rfl HTp7.out (by kernel_rfl) (by simp [Value.oneCell']) ?_)
  rw [HXp7.out]
  have HGp6 := HBp7
  have HGq6 := Lib.hid (below_tr HBp6.out HGp6.out)
  have HGp5 := Lib.hid (below_tr HBq6.out HGq6.out)
  have HGq5 := Lib.hid (below_tr HBp5.out HGp5.out)
  have HGp4 := Lib.hid (below_tr HBq5.out HGq5.out)
  have HGx3 := Lib.hid (below_tr HBp4.out HGp4.out)
  have HGx2 := Lib.hid (below_tr HBx3.out HGx3.out)
  have HGx1 := Lib.hid (below_tr HBx2.out HGx2.out)
  have HGx0 := Lib.hid (below_tr HBx1.out HGx1.out)
  have HGp3 := Lib.hid (below_tr HBx0.out HGx0.out)
  have HGq3 := Lib.hid (below_tr HBp3.out HGp3.out)
  have HGp2 := Lib.hid (below_tr HBq3.out HGq3.out)
  have HGq2 := Lib.hid (below_tr HBp2.out HGp2.out)
  have HGp1 := Lib.hid (below_tr HBq2.out HGq2.out)
  have HGq1 := Lib.hid (below_tr HBp1.out HGp1.out)
  replace HPpt := Lib.hid (HPpt.out.below HGq1.out (by have := HZ0.out; omega) (by have := HZ0.out; omega))
  replace HPex := Lib.hid (HPex.out.below HGq2.out (by have := HZ0.out; omega) (by have := HZ0.out; omega))
  replace HPit := Lib.hid (HPit.out.below HGq3.out (by have := HZ0.out; omega) (by have := HZ0.out; omega))
  replace HPso := Lib.hid (HPso.out.below HGx1.out (by have := HZ0.out; omega) (by have := HZ0.out; omega))
  replace HPex5 := Lib.hid (HPex5.out.below HGx2.out (by have := HZ0.out; omega) (by have := HZ0.out; omega))
  replace HPex6 := Lib.hid (HPex6.out.below HGx3.out (by have := HZ0.out; omega) (by have := HZ0.out; omega))
  replace HPnm := Lib.hid (HPnm.out.below HGq5.out (by have := HZ0.out; omega) (by have := HZ0.out; omega))
  replace HPsi := Lib.hid (HPsi.out.below HGq6.out (by have := HZ0.out; omega) (by have := HZ0.out; omega))
  replace HKpt := Lib.hid (HKpt.out.below HGp1.out HKpt.out.lt)
  replace HKex := Lib.hid (HKex.out.below HGp2.out HKex.out.lt)
  replace HKit := Lib.hid (HKit.out.below HGp3.out HKit.out.lt)
  replace HKtail := Lib.hid (HKtail.out.below HGp4.out HKtail.out.lt)
  replace HKnm := Lib.hid (HKnm.out.below HGp5.out HKnm.out.lt)
  replace HKsi := Lib.hid (HKsi.out.below HGp6.out HKsi.out.lt)
  clear HGp6 HGq6 HGp5 HGq5 HGp4 HGx3 HGx2 HGx1 HGx0 HGp3 HGq3 HGp2 HGq2 HGp1 HGq1
  first
  | (guard_hyp zk1; exact arm31_1)
  | (guard_hyp zk2; exact arm31_2)
  | (guard_hyp zk3; exact arm31_3)
  | (guard_hyp zk4; exact arm31_4)
  | (guard_hyp zk5; exact arm31_5)
  | (guard_hyp zk6; exact arm31_6)
  | (guard_hyp zk7; exact arm31_7)
  | (guard_hyp zk8; exact arm31_8)
  | (guard_hyp zk9; exact arm31_9)
  | (guard_hyp zk0; exact arm31_0)) : P := h
set_option maxRecDepth 100000 in
theorem arm31_0 {P : Prop} (h : P := by
 have hk := HK.out
 have b1 : ((kd : Int) == 1) = false := by simp; omega
 have b2 : ((kd : Int) == 2) = false := by simp; omega
 have b3 : ((kd : Int) == 3) = false := by simp; omega
 have b4 : ((kd : Int) == 4) = false := by simp; omega
 have b5 : ((kd : Int) == 5) = false := by simp; omega
 have b6 : ((kd : Int) == 6) = false := by simp; omega
 have b7 : ((kd : Int) == 7) = false := by simp; omega
 have b8 : ((kd : Int) == 8) = false := by simp; omega
 have b9 : ((kd : Int) == 9) = false := by simp; omega
 obtain ⟨hin, s1, r1, s2, r2, s5, r5, s7, r7, s8, r8, s9, r9, s10, r10, s11, r11, hE⟩ := HRS.out
 obtain ⟨hn1, hn2, hn5, hn7, hn8, hn9, hn10, hn11, hxll, hxkn, hxnn, hxxn⟩ := HN.out
 have hhc : hasC ⟨kd, l1, l2, .mk op nm (.mk xk xb xi xs xl xks) xns xaz, vr, l5, un, l7, l8, l9, l10, l11, de⟩ = ⟨kd, [], [], emptyX, ⟨#[]⟩, [], false, [], [], [], [], [], false⟩ := by unfold hasC; simp only; rw [if_neg (by omega), if_neg (by omega), if_neg (by omega), if_neg (by omega), if_neg (by omega), if_neg (by omega), if_neg (by omega)]; rfl
 have hcb : IsCl B w [.int .i64 kd, .slice none 0 0, .slice none 0 0, .int .i64 0, .string ⟨#[]⟩, .int .i64 0, .bool false, .int .i64 0, .string ⟨#[]⟩, .slice none 0 0, .slice none 0 0, .slice none 0 0, .slice none 0 0, .string ⟨#[]⟩, .slice none 0 0, .bool false, .slice none 0 0, .slice none 0 0, .slice none 0 0, .slice none 0 0, .slice none 0 0, .bool false] (hasC ⟨kd, l1, l2, .mk op nm (.mk xk xb xi xs xl xks) xns xaz, vr, l5, un, l7, l8, l9, l10, l11, de⟩) := by rw [hhc]; exact ⟨none, 0, none, 0, zeroX, none, 0, none, 0, none, 0, none, 0, none, 0, none, 0, rfl, hin, nil_sl, nil_row, nil_sl, nil_row, zero_isX _ _, nil_sl, nil_row, nil_sl, nil_row, nil_sl, nil_row, nil_sl, nil_row, nil_sl, nil_row, nil_sl, Cells.nil⟩
 clear hhc
 try simp only [hn1, hn2, hn5, hn7, hn8, hn9, hn10, hn11, hxll, hxkn, hxnn, hxxn] at hcb
 have HCB := Lib.hid hcb
 clear hk
 clear hcb hE s1 r1 s2 r2 s5 r5 s7 r7 s8 r8 s9 r9 s10 r10 s11 r11 hin hn1 hn2 hn5 hn7 hn8 hn9 hn10 hn11 hxll hxkn hxnn hxxn
 have HBW : Hid (Below w.heap.size w p7.w) := Lib.hid (HBE.out p7)
 have HCA := Lib.hid (HCC.out.below HBW.out (by have := HZ0.out; omega))
 have HCD := Lib.hid (HCB.out.below HBW.out (by have := HZ0.out; omega))
 have HGO := Lib.hid (HAL _ _ _ _ B p7.w HCA.out HCD.out (by have := HZ0.out; omega))
 have HRG1 := Lib.hid (HRA.out p7)
 have HRG2 := Lib.hid (rg_of HCD.out (rangeAt_block HKhas.out))
 go_wp2_with (first | (refine wpList_load_mid rfl 71 _ rfl (w.heap.size) 0 rfl _ _ HRG1.out Tryz.underlying71 rfl (by kernel_rfl) ?_) | (refine wpList_load_mid rfl 71 _ rfl (p6.w.heap.size) 0 rfl _ _ HRG2.out Tryz.underlying71 rfl (by kernel_rfl) ?_))
 refine HGO.out.mono ?_
 rintro e w9 ⟨rfl, hb9⟩
 go_wp2_with fail
 go_ret2
 have hz9 := hb9.size
 obtain ⟨hn1, hn2, hn5, hn7, hn8, hn9, hn10, hn11, -⟩ := HN.out
 have hgb : groupsB ⟨kd, l1, l2, .mk op nm (.mk xk xb xi xs xl xks) xns xaz, vr, l5, un, l7, l8, l9, l10, l11, de⟩ = alikeB ⟨kd, l1, l2, .mk op nm (.mk xk xb xi xs xl xks) xns xaz, vr, l5, un, l7, l8, l9, l10, l11, de⟩ (hasC ⟨kd, l1, l2, .mk op nm (.mk xk xb xi xs xl xks) xns xaz, vr, l5, un, l7, l8, l9, l10, l11, de⟩) := by unfold groupsB; rw [if_neg (fun h => by have h1 := h.1; simp only at h1; have := HK.out; omega)]
 have hgl : groupsL ⟨kd, l1, l2, .mk op nm (.mk xk xb xi xs xl xks) xns xaz, vr, l5, un, l7, l8, l9, l10, l11, de⟩ = [] := by unfold groupsL; simp only; have := HK.out; rw [if_neg (by omega), if_neg (by omega), if_neg (by omega), if_neg (by omega), if_neg (by omega), if_neg (by omega), if_neg (by omega), if_neg (by omega), if_neg (by omega)]
 rw [hgb, hgl]
 exact ⟨none, 0, 0, rfl, rfl, nil_sl, GRow.nil, HBW.out.trans (hb9.mono HBW.out.size)⟩) : P := h
set_option maxHeartbeats 64000000 in
theorem groups_0 (HAL : AlikeSaid) (c : Clt) (cs : List Value) (B : Nat) (w : World) (hc : IsCl B w cs c) (hB : B ≤ w.heap.size) (hw : wtCl c ≤ 1048576) (hk : c.kind < 1 ∨ 9 < c.kind) :
    Calls Tryz.prog 35 #[.agg cs.toArray] w fun e w' => ∃ a n cap, e = .returned (.tuple #[.slice a n cap, .bool (groupsB c)]) ∧ n = (groupsL c).length ∧ SlOk a n cap ∧ GRow B w' a (groupsL c) ∧ Below w.heap.size w w' := by
 have zk0 := trivial
 exact pre31
set_option maxRecDepth 100000 in
theorem arm31_1 {P : Prop} (h : P := by
 have hk := HK.out
 clear HK
 subst hk
 obtain ⟨hin, s1, r1, s2, r2, s5, r5, s7, r7, s8, r8, s9, r9, s10, r10, s11, r11, hE⟩ := HRS.out
 obtain ⟨hn1, hn2, hn5, hn7, hn8, hn9, hn10, hn11, hxll, hxkn, hxnn, hxxn⟩ := HN.out
 have hhc : hasC ⟨1, l1, l2, .mk op nm (.mk xk xb xi xs xl xks) xns xaz, vr, l5, un, l7, l8, l9, l10, l11, de⟩ = ⟨1, l1, l2, emptyX, ⟨#[]⟩, [], false, [], [], [], [], [], false⟩ := by simp [hasC, bareC]
 have hcb : IsCl B w [.int .i64 1, .slice a1 l1.length c1, .slice a2 l2.length c2, .int .i64 0, .string ⟨#[]⟩, .int .i64 0, .bool false, .int .i64 0, .string ⟨#[]⟩, .slice none 0 0, .slice none 0 0, .slice none 0 0, .slice none 0 0, .string ⟨#[]⟩, .slice none 0 0, .bool false, .slice none 0 0, .slice none 0 0, .slice none 0 0, .slice none 0 0, .slice none 0 0, .bool false] (hasC ⟨1, l1, l2, .mk op nm (.mk xk xb xi xs xl xks) xns xaz, vr, l5, un, l7, l8, l9, l10, l11, de⟩) := by rw [hhc]; exact ⟨a1, c1, a2, c2, zeroX, none, 0, none, 0, none, 0, none, 0, none, 0, none, 0, rfl, hin, s1, r1, s2, r2, zero_isX _ _, nil_sl, nil_row, nil_sl, nil_row, nil_sl, nil_row, nil_sl, nil_row, nil_sl, nil_row, nil_sl, Cells.nil⟩
 clear hhc
 try simp only [hn1, hn2, hn5, hn7, hn8, hn9, hn10, hn11, hxll, hxkn, hxnn, hxxn] at hcb
 have HCB := Lib.hid hcb
 clear hcb hE s1 r1 s2 r2 s5 r5 s7 r7 s8 r8 s9 r9 s10 r10 s11 r11 hin hn1 hn2 hn5 hn7 hn8 hn9 hn10 hn11 hxll hxkn hxnn hxxn
 obtain ⟨r0, HXr0, HSr0, HQr0, HKpt', mr0, fr0⟩ := st_box p7 HKpt (by have := HZ0.out; omega) 0 (.string ⟨#[77, 65, 84, 67, 72, 32]⟩)
 replace HPpt := Lib.hid (HPpt.out.moved HXr0.out (by have := HZ0.out; omega) (by have := HZ0.out; omega))
 replace HPex := Lib.hid (HPex.out.moved HXr0.out (by have := HZ0.out; omega) (by have := HZ0.out; omega))
 replace HKex := Lib.hid (HKex.out.of_heap (HQr0.out _ (by have := HZ0.out; omega)))
 replace HKhas := Lib.hid (HKhas.out.of_heap (HQr0.out _ (by have := HZ0.out; omega)))
 replace HKpt : Hid (Block _ _ [.string ⟨#[77, 65, 84, 67, 72, 32]⟩, .slice papt n1 pcpt, .int .i64 1, .int .i64 1048576] 103) := HKpt'
 clear HKpt'
 replace HZ0 := Lib.hid (And.intro HZ0.out HSr0.out)
 go_wp2_with fail
 rw [HXr0.out]
 have HDR : Hid (p6.w.heap.size < r0.w.heap.size) := Lib.hid (by have := HZ0.out; omega)
 replace HZ0 := Lib.hid (And.intro HZ0.out HDR.out)
 have y1 := cy_one p6.w.heap.size (e1 r0) (by have := HZ0.out; omega)
 have y2 := cy_one p6.w.heap.size (e2 r0) (by have := HZ0.out; omega)
 obtain ⟨zpt0, zpt1, zpt2, zpt3⟩ := cz4 p6.w.heap.size HKpt.out (by have := HZ0.out; omega)
 obtain ⟨zex0, zex1, zex2, zex3⟩ := cz4 p6.w.heap.size HKex.out (by have := HZ0.out; omega)
 clear e0 e1 e2 e3 e4 e5 e6 e7 e8 e9 e10 e11 e12 e13 e14 e15 e16 e17 e18 e19 e20 e21
 have HSS := Lib.hid (fun v => And.intro (y1 v) (And.intro (y2 v) (And.intro (zpt0 v) (And.intro (zpt1 v) (And.intro (zpt2 v) (And.intro (zpt3 v) (And.intro (zex0 v) (And.intro (zex1 v) (And.intro (zex2 v) (zex3 v))))))))))
 refine wp_region_noPanic ?_
 refine wp_region_J (S := fun u : World => u.cell? ⟨w.heap.size, 1, none⟩ = some (.slice a1 n1 c1) ∧ u.cell? ⟨w.heap.size, 2, none⟩ = some (.slice a2 n2 c2) ∧ u.cell? ⟨q1.w.heap.size, 0, none⟩ = some (.string ⟨#[77, 65, 84, 67, 72, 32]⟩) ∧ u.cell? ⟨q1.w.heap.size, 1, none⟩ = some (.slice papt n1 pcpt) ∧ u.cell? ⟨q1.w.heap.size, 2, none⟩ = some (.int .i64 1) ∧ u.cell? ⟨q1.w.heap.size, 3, none⟩ = some (.int .i64 1048576) ∧ u.cell? ⟨q2.w.heap.size, 0, none⟩ = some (.string ⟨#[32, 87, 72, 69, 82, 69, 32]⟩) ∧ u.cell? ⟨q2.w.heap.size, 1, none⟩ = some (.slice paex n2 pcex) ∧ u.cell? ⟨q2.w.heap.size, 2, none⟩ = some (.int .i64 0) ∧ u.cell? ⟨q2.w.heap.size, 3, none⟩ = some (.int .i64 1)) (fun j => false) (by kernel_rfl) ?_
 obtain ⟨v0, HXv0, HH0, HSv0⟩ := mk_start (p6.w.heap.size) r0.w HKhas
 rw [HXv0.out]
 have hHeld := HSS.out v0
 replace HZ0 := Lib.hid (And.intro HZ0.out HSv0.out)
 refine Jl 0 ?_
 refine Jl 1 ?_
 refine Jt 3 ?_
 refine Jl 4 ?_
 refine Jt 5 ?_
 refine Jl 6 ?_
 refine Jr 2 fun KK hKK => ?_
 obtain ⟨v1, HXv1, HBv1, HKl, HSv1⟩ := al_box v0 (Nat.le_of_lt HDR.out) [.string ⟨#[77, 65, 84, 67, 72, 32]⟩, .slice papt n1 pcpt, .int .i64 1, .int .i64 1048576, .string ⟨#[32, 87, 72, 69, 82, 69, 32]⟩, .slice paex n2 pcex, .int .i64 0, .int .i64 1] 103
 have HH1 := Lib.hid (HH0.out.below HBv1.out HH0.out.lt)
 replace HZ0 := Lib.hid (And.intro HZ0.out HSv1.out)
 go_simp
 rw [HXv1.out]
 refine hKK _ _ (fun _ _ => HSS.out v1) ?_
 clear hKK KK hHeld
 have hHeld := HSS.out v1
 refine Jn ?_
 refine Jt 7 ?_
 refine Jt 8 ?_
 refine Jr 9 fun KK hKK => ?_
 obtain ⟨v2, HXv2, HSv2, HQv2, HH2, gv2, fv2⟩ := st_box v1 HH1 (Nat.le_refl _) 1 (.slice a1 n1 c1)
 replace HKl := Lib.hid (HKl.out.of_heap (HQv2.out _ (by have := HZ0.out; omega)))
 replace HZ0 := Lib.hid (And.intro HZ0.out HSv2.out)
 go_simp
 rw [HXv2.out]
 refine hKK _ _ (fun _ _ => HSS.out v2) ?_
 clear hKK KK hHeld gv2 fv2
 have hHeld := HSS.out v2
 refine Jn ?_
 refine Jt 10 ?_
 refine Jr 11 fun KK hKK => ?_
 obtain ⟨v3, HXv3, HSv3, HQv3, HH3, gv3, fv3⟩ := st_box v2 HH2 (Nat.le_refl _) 2 (.slice a2 n2 c2)
 replace HKl := Lib.hid (HKl.out.of_heap (HQv3.out _ (by have := HZ0.out; omega)))
 replace HZ0 := Lib.hid (And.intro HZ0.out HSv3.out)
 go_simp
 rw [HXv3.out]
 refine hKK _ _ (fun _ _ => HSS.out v3) ?_
 clear hKK KK hHeld gv3 fv3
 have hHeld := HSS.out v3
 refine Jn ?_
 refine wpAnyJ_done (by kernel_rfl) ?_ _
 refine NoPanic.normal ?_
 clear hHeld
 have HBW : Hid (Below w.heap.size w v3.w) := Lib.hid ((HBE.out r0).trans (v3.below.mono (by have := HZ0.out; omega)))
 have HCA := Lib.hid (HCC.out.below HBW.out (by have := HZ0.out; omega))
 have HCD := Lib.hid (HCB.out.below HBW.out (by have := HZ0.out; omega))
 have HGO := Lib.hid (HAL _ _ _ _ B v3.w HCA.out HCD.out (by have := HZ0.out; omega))
 have HRG1 := Lib.hid (rangeAt_ext v3 (HRA.out r0) (by have := HZ0.out; omega))
 have HRG2 := Lib.hid (rg_of HCD.out (rangeAt_block HH3.out))
 go_wp2_with (first | (refine wpList_load_mid rfl 71 _ rfl (w.heap.size) 0 rfl _ _ HRG1.out Tryz.underlying71 rfl (by kernel_rfl) ?_) | (refine wpList_load_mid rfl 71 _ rfl (p6.w.heap.size) 0 rfl _ _ HRG2.out Tryz.underlying71 rfl (by kernel_rfl) ?_))
 refine HGO.out.mono ?_
 rintro e w9 ⟨rfl, hb9⟩
 go_wp2_with fail
 go_ret2
 have hz9 := hb9.size
 obtain ⟨hn1, hn2, hn5, hn7, hn8, hn9, hn10, hn11, -⟩ := HN.out
 have hgb : groupsB ⟨1, l1, l2, .mk op nm (.mk xk xb xi xs xl xks) xns xaz, vr, l5, un, l7, l8, l9, l10, l11, de⟩ = alikeB ⟨1, l1, l2, .mk op nm (.mk xk xb xi xs xl xks) xns xaz, vr, l5, un, l7, l8, l9, l10, l11, de⟩ (hasC ⟨1, l1, l2, .mk op nm (.mk xk xb xi xs xl xks) xns xaz, vr, l5, un, l7, l8, l9, l10, l11, de⟩) := by simp [groupsB]
 have hgl : groupsL ⟨1, l1, l2, .mk op nm (.mk xk xb xi xs xl xks) xns xaz, vr, l5, un, l7, l8, l9, l10, l11, de⟩ = [pathsG ⟨1, l1, l2, .mk op nm (.mk xk xb xi xs xl xks) xns xaz, vr, l5, un, l7, l8, l9, l10, l11, de⟩ ⟨#[77, 65, 84, 67, 72, 32]⟩ 1048576, whereG ⟨1, l1, l2, .mk op nm (.mk xk xb xi xs xl xks) xns xaz, vr, l5, un, l7, l8, l9, l10, l11, de⟩] := by simp [groupsL]
 rw [hgb, hgl]
 refine ⟨some ⟨v0.w.heap.size, 0, none⟩, 2, 2, rfl, rfl, ⟨⟨Nat.le_refl _, by omega⟩, fun h => by cases h⟩, gr_row (css := [[.string ⟨#[77, 65, 84, 67, 72, 32]⟩, .slice papt n1 pcpt, .int .i64 1, .int .i64 1048576], [.string ⟨#[32, 87, 72, 69, 82, 69, 32]⟩, .slice paex n2 pcex, .int .i64 0, .int .i64 1]]) (HKl.out.below hb9 HKl.out.lt) rfl ?_, HBW.out.trans (hb9.mono HBW.out.size)⟩
 exact AllGr.cons (mk_gr ((HPpt.out.below v3.below (by have := HZ0.out; omega) (by have := HZ0.out; omega)).below hb9 (by have := HZ0.out; omega) (by have := HZ0.out; omega)) (by rw [List.length_map]; exact hn1) HLpt.out _ _ _) (AllGr.cons (mk_gr ((HPex.out.below v3.below (by have := HZ0.out; omega) (by have := HZ0.out; omega)).below hb9 (by have := HZ0.out; omega) (by have := HZ0.out; omega)) (by rw [List.length_map]; exact hn2) HLex.out _ _ _) (AllGr.nil))) : P := h
set_option maxHeartbeats 64000000 in
theorem groups_1 (HAL : AlikeSaid) (c : Clt) (cs : List Value) (B : Nat) (w : World) (hc : IsCl B w cs c) (hB : B ≤ w.heap.size) (hw : wtCl c ≤ 1048576) (hk : c.kind = 1) :
    Calls Tryz.prog 35 #[.agg cs.toArray] w fun e w' => ∃ a n cap, e = .returned (.tuple #[.slice a n cap, .bool (groupsB c)]) ∧ n = (groupsL c).length ∧ SlOk a n cap ∧ GRow B w' a (groupsL c) ∧ Below w.heap.size w w' := by
 have zk1 := trivial
 exact pre31
end Go.Proofs.YteljlahcdipilaaGreat

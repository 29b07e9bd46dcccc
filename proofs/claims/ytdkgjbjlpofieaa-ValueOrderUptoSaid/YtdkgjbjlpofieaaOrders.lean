/- Layer 3: the law ValueOrder returns true. Conditions: none. -/
import Derived.Test.YtdkgjbjlpofieaaOrdLaw
namespace Go.Proofs.Ytdkgjbjlpofieaa
open Go.RowKit
set_option linter.unusedSimpArgs false
set_option linter.unusedVariables false

set_option maxRecDepth 1000000 in
set_option maxHeartbeats 4000000 in
theorem orders_any (t1 t2 t3 : Vt) (cs1 cs2 cs3 : List Value) (B : Nat) (w : World) (hV1 : IsV B w cs1 t1) (hV2 : IsV B w cs2 t2) (hV3 : IsV B w cs3 t3) (hB : B ≤ w.heap.size) :
    Calls Try.prog 4 #[.agg cs1.toArray, .agg cs2.toArray, .agg cs3.toArray] w fun e w' => e = .returned (.bool true) ∧ Below w.heap.size w w' := by
  have HV1 := Lib.hid (fun w' (hb : Below w.heap.size w w') => IsV.below hb hB t1 cs1 hV1)
  have HV2 := Lib.hid (fun w' (hb : Below w.heap.size w w') => IsV.below hb hB t2 cs2 hV2)
  have HV3 := Lib.hid (fun w' (hb : Below w.heap.size w w') => IsV.below hb hB t3 cs3 hV3)
  have HLE := Lib.hid (fun w' (hb : Below w.heap.size w w') => Nat.le_trans hB hb.size)
  have hneg := ordV_neg t1 t2
  have hself := ordV_self t1
  have htr := ordV_tr t1 t2 t3
  have hu12 := ordV_unit t1 t2
  have hu23 := ordV_unit t2 t3
  have hu13 := ordV_unit t1 t3
  have heq := ordV_eq t1 t2
  have hsm := sameV_iff t1 t2
  have hse : t1 = t2 → ordV t1 t2 = 0 := fun h => by rw [h]; exact ordV_self t2
  have HTR : Hid (mayB t1 = true → mayB t2 = true → mayB t3 = true → TR (ordV t1 t2) (ordV t2 t3) (ordV t1 t3)) := Lib.hid (fun a b c => htr ⟨32, 0, a⟩ ⟨32, 0, b⟩ ⟨32, 0, c⟩)
  have HSM : Hid (mayB t1 = true → mayB t2 = true → (sameV t1 t2 = true ↔ ordV t1 t2 = 0)) := Lib.hid (fun a b => ⟨fun h => hse (hsm.1 h), fun h => hsm.2 (heq ⟨32, 0, a⟩ ⟨32, 0, b⟩ h)⟩)
  clear htr heq hsm hse
  have hv1 := hV1
  obtain ⟨k1, b1, i1, s1, l1, ks1, rfl⟩ : ∃ k b i s l ks, t1 = .mk k b i s l ks := by cases t1; exact ⟨_, _, _, _, _, _, rfl⟩
  unfold IsV at hv1
  obtain ⟨la1, lc1, ka1, kc1, rfl, -⟩ := hv1
  have hv2 := hV2
  obtain ⟨k2, b2, i2, s2, l2, ks2, rfl⟩ : ∃ k b i s l ks, t2 = .mk k b i s l ks := by cases t2; exact ⟨_, _, _, _, _, _, rfl⟩
  unfold IsV at hv2
  obtain ⟨la2, lc2, ka2, kc2, rfl, -⟩ := hv2
  have hv3 := hV3
  obtain ⟨k3, b3, i3, s3, l3, ks3, rfl⟩ : ∃ k b i s l ks, t3 = .mk k b i s l ks := by cases t3; exact ⟨_, _, _, _, _, _, rfl⟩
  unfold IsV at hv3
  obtain ⟨la3, lc3, ka3, kc3, rfl, -⟩ := hv3
  obtain ⟨W0, hW0⟩ : ∃ W0, ((w.alloc (.cells #[.int .i64 k1, .bool b1, .int .i64 i1, .string s1, .slice la1 l1.length lc1, .slice ka1 ks1.length kc1] 26)).alloc (.cells #[.int .i64 k2, .bool b2, .int .i64 i2, .string s2, .slice la2 l2.length lc2, .slice ka2 ks2.length kc2] 26)).alloc (.cells #[.int .i64 k3, .bool b3, .int .i64 i3, .string s3, .slice la3 l3.length lc3, .slice ka3 ks3.length kc3] 26) = W0 := ⟨_, rfl⟩
  have hbx1 : Block W0 (w.heap.size) [.int .i64 k1, .bool b1, .int .i64 i1, .string s1, .slice la1 l1.length lc1, .slice ka1 ks1.length kc1] 26 := by
    rw [← hW0]
    have hh := Block.new w [.int .i64 k1, .bool b1, .int .i64 i1, .string s1, .slice la1 l1.length lc1, .slice ka1 ks1.length kc1] 26
    have hh := hh.alloc (.cells #[.int .i64 k2, .bool b2, .int .i64 i2, .string s2, .slice la2 l2.length lc2, .slice ka2 ks2.length kc2] 26)
    have hh := hh.alloc (.cells #[.int .i64 k3, .bool b3, .int .i64 i3, .string s3, .slice la3 l3.length lc3, .slice ka3 ks3.length kc3] 26)
    simpa using hh
  have hbx2 : Block W0 (w.heap.size + 1) [.int .i64 k2, .bool b2, .int .i64 i2, .string s2, .slice la2 l2.length lc2, .slice ka2 ks2.length kc2] 26 := by
    rw [← hW0]
    have hh := Block.new (w.alloc (.cells #[.int .i64 k1, .bool b1, .int .i64 i1, .string s1, .slice la1 l1.length lc1, .slice ka1 ks1.length kc1] 26)) [.int .i64 k2, .bool b2, .int .i64 i2, .string s2, .slice la2 l2.length lc2, .slice ka2 ks2.length kc2] 26
    have hh := hh.alloc (.cells #[.int .i64 k3, .bool b3, .int .i64 i3, .string s3, .slice la3 l3.length lc3, .slice ka3 ks3.length kc3] 26)
    simpa using hh
  have hbx3 : Block W0 (w.heap.size + 1 + 1) [.int .i64 k3, .bool b3, .int .i64 i3, .string s3, .slice la3 l3.length lc3, .slice ka3 ks3.length kc3] 26 := by
    rw [← hW0]
    have hh := Block.new ((w.alloc (.cells #[.int .i64 k1, .bool b1, .int .i64 i1, .string s1, .slice la1 l1.length lc1, .slice ka1 ks1.length kc1] 26)).alloc (.cells #[.int .i64 k2, .bool b2, .int .i64 i2, .string s2, .slice la2 l2.length lc2, .slice ka2 ks2.length kc2] 26)) [.int .i64 k3, .bool b3, .int .i64 i3, .string s3, .slice la3 l3.length lc3, .slice ka3 ks3.length kc3] 26
    simpa using hh
  have hb0 : Below w.heap.size w W0 := by
    rw [← hW0]
    exact (((Below.refl w.heap.size w).alloc (by simp) _).alloc (by simp) _).alloc (by simp; omega) _
  have hsz : w.heap.size + 1 + 1 + 1 ≤ W0.heap.size := by rw [← hW0]; simp
  have hlt1 : w.heap.size < w.heap.size + 1 + 1 + 1 := by omega
  have hlt2 : w.heap.size + 1 < w.heap.size + 1 + 1 + 1 := by omega
  have hlt3 : w.heap.size + 1 + 1 < w.heap.size + 1 + 1 + 1 := by omega
  have hbe : ∀ u : Ext (w.heap.size + 1 + 1 + 1) W0, Below w.heap.size w u.w := fun u => hb0.trans (u.below.mono (by omega))
  have M1 := Lib.hid (fun u => ext_call u hsz (May_any (.mk k1 b1 i1 s1 l1 ks1) _ B u.w (HV1.out u.w (hbe u)) (HLE.out u.w (hbe u))))
  have M2 := Lib.hid (fun u => ext_call u hsz (May_any (.mk k2 b2 i2 s2 l2 ks2) _ B u.w (HV2.out u.w (hbe u)) (HLE.out u.w (hbe u))))
  have M3 := Lib.hid (fun u => ext_call u hsz (May_any (.mk k3 b3 i3 s3 l3 ks3) _ B u.w (HV3.out u.w (hbe u)) (HLE.out u.w (hbe u))))
  have O12 := Lib.hid (fun u (h1 : mayB (.mk k1 b1 i1 s1 l1 ks1) = true) (h2 : mayB (.mk k2 b2 i2 s2 l2 ks2) = true) => ext_call u hsz (order_any (.mk k1 b1 i1 s1 l1 ks1) (.mk k2 b2 i2 s2 l2 ks2) _ _ B u.w 32 32 0 0 (HV1.out u.w (hbe u)) (HV2.out u.w (hbe u)) (HLE.out u.w (hbe u)) h1 h2))
  have O23 := Lib.hid (fun u (h2 : mayB (.mk k2 b2 i2 s2 l2 ks2) = true) (h3 : mayB (.mk k3 b3 i3 s3 l3 ks3) = true) => ext_call u hsz (order_any (.mk k2 b2 i2 s2 l2 ks2) (.mk k3 b3 i3 s3 l3 ks3) _ _ B u.w 32 32 0 0 (HV2.out u.w (hbe u)) (HV3.out u.w (hbe u)) (HLE.out u.w (hbe u)) h2 h3))
  have O13 := Lib.hid (fun u (h1 : mayB (.mk k1 b1 i1 s1 l1 ks1) = true) (h3 : mayB (.mk k3 b3 i3 s3 l3 ks3) = true) => ext_call u hsz (order_any (.mk k1 b1 i1 s1 l1 ks1) (.mk k3 b3 i3 s3 l3 ks3) _ _ B u.w 32 32 0 0 (HV1.out u.w (hbe u)) (HV3.out u.w (hbe u)) (HLE.out u.w (hbe u)) h1 h3))
  have O21 := Lib.hid (fun u (h2 : mayB (.mk k2 b2 i2 s2 l2 ks2) = true) (h1 : mayB (.mk k1 b1 i1 s1 l1 ks1) = true) => ext_call u hsz (order_any (.mk k2 b2 i2 s2 l2 ks2) (.mk k1 b1 i1 s1 l1 ks1) _ _ B u.w 32 32 0 0 (HV2.out u.w (hbe u)) (HV1.out u.w (hbe u)) (HLE.out u.w (hbe u)) h2 h1))
  have O11 := Lib.hid (fun u (h1 : mayB (.mk k1 b1 i1 s1 l1 ks1) = true) => ext_call u hsz (order_any (.mk k1 b1 i1 s1 l1 ks1) (.mk k1 b1 i1 s1 l1 ks1) _ _ B u.w 32 32 0 0 (HV1.out u.w (hbe u)) (HV1.out u.w (hbe u)) (HLE.out u.w (hbe u)) h1 h1))
  have S12 := Lib.hid (fun u => ext_call u hsz (same_any (.mk k1 b1 i1 s1 l1 ks1) (.mk k2 b2 i2 s2 l2 ks2) _ _ B u.w (HV1.out u.w (hbe u)) (HV2.out u.w (hbe u)) (HLE.out u.w (hbe u))))
  have CW := Lib.hid (fun u : Ext (w.heap.size + 1 + 1 + 1) W0 => ext_call u hsz (works_any u.w))
  have e10 : ∀ u : Ext (w.heap.size + 1 + 1 + 1) W0, u.w.cell? ⟨w.heap.size, 0, none⟩ = some (.int .i64 k1) := fun u => u.cell hlt1 (hbx1.cell rfl)
  have e11 : ∀ u : Ext (w.heap.size + 1 + 1 + 1) W0, u.w.cell? ⟨w.heap.size, 1, none⟩ = some (.bool b1) := fun u => u.cell hlt1 (hbx1.cell rfl)
  have e12 : ∀ u : Ext (w.heap.size + 1 + 1 + 1) W0, u.w.cell? ⟨w.heap.size, 2, none⟩ = some (.int .i64 i1) := fun u => u.cell hlt1 (hbx1.cell rfl)
  have e13 : ∀ u : Ext (w.heap.size + 1 + 1 + 1) W0, u.w.cell? ⟨w.heap.size, 3, none⟩ = some (.string s1) := fun u => u.cell hlt1 (hbx1.cell rfl)
  have e14 : ∀ u : Ext (w.heap.size + 1 + 1 + 1) W0, u.w.cell? ⟨w.heap.size, 4, none⟩ = some (.slice la1 l1.length lc1) := fun u => u.cell hlt1 (hbx1.cell rfl)
  have e15 : ∀ u : Ext (w.heap.size + 1 + 1 + 1) W0, u.w.cell? ⟨w.heap.size, 5, none⟩ = some (.slice ka1 ks1.length kc1) := fun u => u.cell hlt1 (hbx1.cell rfl)
  have e20 : ∀ u : Ext (w.heap.size + 1 + 1 + 1) W0, u.w.cell? ⟨w.heap.size + 1, 0, none⟩ = some (.int .i64 k2) := fun u => u.cell hlt2 (hbx2.cell rfl)
  have e21 : ∀ u : Ext (w.heap.size + 1 + 1 + 1) W0, u.w.cell? ⟨w.heap.size + 1, 1, none⟩ = some (.bool b2) := fun u => u.cell hlt2 (hbx2.cell rfl)
  have e22 : ∀ u : Ext (w.heap.size + 1 + 1 + 1) W0, u.w.cell? ⟨w.heap.size + 1, 2, none⟩ = some (.int .i64 i2) := fun u => u.cell hlt2 (hbx2.cell rfl)
  have e23 : ∀ u : Ext (w.heap.size + 1 + 1 + 1) W0, u.w.cell? ⟨w.heap.size + 1, 3, none⟩ = some (.string s2) := fun u => u.cell hlt2 (hbx2.cell rfl)
  have e24 : ∀ u : Ext (w.heap.size + 1 + 1 + 1) W0, u.w.cell? ⟨w.heap.size + 1, 4, none⟩ = some (.slice la2 l2.length lc2) := fun u => u.cell hlt2 (hbx2.cell rfl)
  have e25 : ∀ u : Ext (w.heap.size + 1 + 1 + 1) W0, u.w.cell? ⟨w.heap.size + 1, 5, none⟩ = some (.slice ka2 ks2.length kc2) := fun u => u.cell hlt2 (hbx2.cell rfl)
  have e30 : ∀ u : Ext (w.heap.size + 1 + 1 + 1) W0, u.w.cell? ⟨w.heap.size + 1 + 1, 0, none⟩ = some (.int .i64 k3) := fun u => u.cell hlt3 (hbx3.cell rfl)
  have e31 : ∀ u : Ext (w.heap.size + 1 + 1 + 1) W0, u.w.cell? ⟨w.heap.size + 1 + 1, 1, none⟩ = some (.bool b3) := fun u => u.cell hlt3 (hbx3.cell rfl)
  have e32 : ∀ u : Ext (w.heap.size + 1 + 1 + 1) W0, u.w.cell? ⟨w.heap.size + 1 + 1, 2, none⟩ = some (.int .i64 i3) := fun u => u.cell hlt3 (hbx3.cell rfl)
  have e33 : ∀ u : Ext (w.heap.size + 1 + 1 + 1) W0, u.w.cell? ⟨w.heap.size + 1 + 1, 3, none⟩ = some (.string s3) := fun u => u.cell hlt3 (hbx3.cell rfl)
  have e34 : ∀ u : Ext (w.heap.size + 1 + 1 + 1) W0, u.w.cell? ⟨w.heap.size + 1 + 1, 4, none⟩ = some (.slice la3 l3.length lc3) := fun u => u.cell hlt3 (hbx3.cell rfl)
  have e35 : ∀ u : Ext (w.heap.size + 1 + 1 + 1) W0, u.w.cell? ⟨w.heap.size + 1 + 1, 5, none⟩ = some (.slice ka3 ks3.length kc3) := fun u => u.cell hlt3 (hbx3.cell rfl)
  have HBE := Lib.hid hbe
  have HW0 := Lib.hid hW0
  obtain ⟨u0, hu0⟩ := Ext.start (w.heap.size + 1 + 1 + 1) W0
  have HU0 := Lib.hid hu0
  clear hbx1 hbx2 hbx3 hb0 hsz hbe hW0 hu0
  clear hV1 hV2 hV3 HV1 HV2 HV3 HLE
  obtain ⟨m1, hm1⟩ : ∃ m, mayB (Vt.mk k1 b1 i1 s1 l1 ks1) = m := ⟨_, rfl⟩
  obtain ⟨m2, hm2⟩ : ∃ m, mayB (Vt.mk k2 b2 i2 s2 l2 ks2) = m := ⟨_, rfl⟩
  obtain ⟨m3, hm3⟩ : ∃ m, mayB (Vt.mk k3 b3 i3 s3 l3 ks3) = m := ⟨_, rfl⟩
  rw [hm1] at M1 HTR HSM O12 O13 O21 O11
  rw [hm2] at M2 HTR HSM O12 O23 O21
  rw [hm3] at M3 HTR O23 O13
  clear hm1 hm2 hm3
  generalize ordV (Vt.mk k1 b1 i1 s1 l1 ks1) (Vt.mk k2 b2 i2 s2 l2 ks2) = x at *
  generalize ordV (Vt.mk k2 b2 i2 s2 l2 ks2) (Vt.mk k3 b3 i3 s3 l3 ks3) = y at *
  generalize ordV (Vt.mk k1 b1 i1 s1 l1 ks1) (Vt.mk k3 b3 i3 s3 l3 ks3) = z at *
  generalize ordV (Vt.mk k2 b2 i2 s2 l2 ks2) (Vt.mk k1 b1 i1 s1 l1 ks1) = xr at *
  generalize ordV (Vt.mk k1 b1 i1 s1 l1 ks1) (Vt.mk k1 b1 i1 s1 l1 ks1) = xs at *
  generalize sameV (Vt.mk k1 b1 i1 s1 l1 ks1) (Vt.mk k2 b2 i2 s2 l2 ks2) = sm at *
  show Calls Try.prog 4 #[.agg #[.int .i64 k1, .bool b1, .int .i64 i1, .string s1, .slice la1 l1.length lc1, .slice ka1 ks1.length kc1], .agg #[.int .i64 k2, .bool b2, .int .i64 i2, .string s2, .slice la2 l2.length lc2, .slice ka2 ks2.length kc2], .agg #[.int .i64 k3, .bool b3, .int .i64 i3, .string s3, .slice la3 l3.length lc3, .slice ka3 ks3.length kc3]] w _
  cases m1 with
  | false =>
    go_enter Try.func4, Try.ntmps4
    go_wp2_with fail
    rw [HW0.out, HU0.out]
    refine (M1.out u0).mono ?_
    rintro e w' ⟨rfl, u1, rfl⟩
    go_wp2_with fail
    refine (CW.out u1).mono ?_
    rintro e w' ⟨rfl, u2, rfl⟩
    go_wp2_with fail
    go_ret
    exact ⟨by rfl, HBE.out u2⟩
  | true =>
    cases m2 with
    | false =>
      go_enter Try.func4, Try.ntmps4
      go_wp2_with fail
      rw [HW0.out, HU0.out]
      refine (M1.out u0).mono ?_
      rintro e w' ⟨rfl, u1, rfl⟩
      go_wp2_with fail
      refine (M2.out u1).mono ?_
      rintro e w' ⟨rfl, u2, rfl⟩
      go_wp2_with fail
      refine (CW.out u2).mono ?_
      rintro e w' ⟨rfl, u3, rfl⟩
      go_wp2_with fail
      go_ret
      exact ⟨by rfl, HBE.out u3⟩
    | true =>
      cases m3 with
      | false =>
        go_enter Try.func4, Try.ntmps4
        go_wp2_with fail
        rw [HW0.out, HU0.out]
        refine (M1.out u0).mono ?_
        rintro e w' ⟨rfl, u1, rfl⟩
        go_wp2_with fail
        refine (M2.out u1).mono ?_
        rintro e w' ⟨rfl, u2, rfl⟩
        go_wp2_with fail
        refine (M3.out u2).mono ?_
        rintro e w' ⟨rfl, u3, rfl⟩
        go_wp2_with fail
        refine (CW.out u3).mono ?_
        rintro e w' ⟨rfl, u4, rfl⟩
        go_wp2_with fail
        go_ret
        exact ⟨by rfl, HBE.out u4⟩
      | true =>
        have htr := HTR.out rfl rfl rfl
        have hsm := HSM.out rfl rfl
        have P12 := Lib.hid (fun u => O12.out u rfl rfl)
        have P23 := Lib.hid (fun u => O23.out u rfl rfl)
        have P13 := Lib.hid (fun u => O13.out u rfl rfl)
        have P21 := Lib.hid (fun u => O21.out u rfl rfl)
        have P11 := Lib.hid (fun u => O11.out u rfl)
        unfold TR at htr
        have hcase : (x = 1) ∨ (x = 0 ∧ y = 1) ∨ (x = 0 ∧ y = 0 ∧ z = 0) ∨ (x = 0 ∧ y = -1 ∧ z = -1) ∨ (x = -1 ∧ y = 1) ∨ (x = -1 ∧ y = 0 ∧ z = -1) ∨ (x = -1 ∧ y = -1 ∧ z = -1) := by omega
        have hx0 : sm = decide (x = 0) := by
          rw [Bool.eq_iff_iff, decide_eq_true_iff]; exact hsm
        subst hself
        clear htr hsm HTR HSM hu12 hu23 hu13
        have hbit : ∀ (x' y' z' : Int), x = x' → y = y' → z = z' → True := fun _ _ _ _ _ _ => trivial
        clear hbit
        rcases hcase with rfl | ⟨rfl, rfl⟩ | ⟨rfl, rfl, rfl⟩ | ⟨rfl, rfl, rfl⟩ | ⟨rfl, rfl⟩ | ⟨rfl, rfl, rfl⟩ | ⟨rfl, rfl, rfl⟩
        all_goals
          have hneg2 := Lib.hid hneg
          clear hneg
          first
            | obtain rfl : xr = -1 := hneg2.out
            | obtain rfl : xr = 0 := hneg2.out
            | obtain rfl : xr = 1 := hneg2.out
          first
            | obtain rfl : sm = true := hx0
            | obtain rfl : sm = false := hx0
          clear hneg2
          go_enter Try.func4, Try.ntmps4
          go_wp2_with fail
          rw [HW0.out, HU0.out]
          refine (M1.out u0).mono ?_
          rintro e w' ⟨rfl, u1, rfl⟩
          go_wp2_with fail
          refine (M2.out u1).mono ?_
          rintro e w' ⟨rfl, u2, rfl⟩
          go_wp2_with fail
          refine (M3.out u2).mono ?_
          rintro e w' ⟨rfl, u3, rfl⟩
          go_wp2_with fail
          refine wp_region_at u3 (by kernel_rfl) (by kernel_rfl) ?_
          repeat (go_big_quiet_step (first | (with_reducible exact P12.out _) | (with_reducible exact P23.out _) | (with_reducible exact P13.out _)))
          refine wpQuiet_nil ?_
          rintro w2 ⟨u4, rfl⟩
          go_wp2_with fail
          refine (P21.out u4).mono ?_
          rintro e w' ⟨rfl, u5, rfl⟩
          go_wp2_with fail
          refine (S12.out u5).mono ?_
          rintro e w' ⟨rfl, u6, rfl⟩
          go_wp2_with fail
          refine (P11.out u6).mono ?_
          rintro e w' ⟨rfl, u7, rfl⟩
          go_wp2_with fail
          refine (CW.out u7).mono ?_
          rintro e w' ⟨rfl, u8, rfl⟩
          go_wp2_with fail
          go_ret
          exact ⟨by rfl, HBE.out u8⟩
end Go.Proofs.Ytdkgjbjlpofieaa

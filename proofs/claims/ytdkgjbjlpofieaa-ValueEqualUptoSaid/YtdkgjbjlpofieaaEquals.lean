/- Layer 3: the law ValueEqual returns true. Conditions: none. -/
import Derived.Test.YtdkgjbjlpofieaaEqLaw
namespace Go.Proofs.Ytdkgjbjlpofieaa
open Go.RowKit
set_option linter.unusedSimpArgs false
set_option linter.unusedVariables false

set_option maxRecDepth 1000000 in
set_option maxHeartbeats 4000000 in
theorem equals_any (t1 t2 : Vt) (cs1 cs2 : List Value) (B : Nat) (w : World) (hV1 : IsV B w cs1 t1) (hV2 : IsV B w cs2 t2) (hB : B ≤ w.heap.size) :
    Calls Try.prog 7 #[.agg cs1.toArray, .agg cs2.toArray] w fun e w' => e = .returned (.bool true) ∧ Below w.heap.size w w' := by
  have HV1 := Lib.hid (fun w' (hb : Below w.heap.size w w') => IsV.below hb hB t1 cs1 hV1)
  have HV2 := Lib.hid (fun w' (hb : Below w.heap.size w w') => IsV.below hb hB t2 cs2 hV2)
  have HLE := Lib.hid (fun w' (hb : Below w.heap.size w w') => Nat.le_trans hB hb.size)
  have hsy := eqV_symm t1 t2
  have hself := eqV_self t1
  have hneg := ordV_neg t1 t2
  have hun := ordV_unit t1 t2
  have HFA : Hid (mayB t1 = true → mayB t2 = true → (eqV t1 t2 = 1 → sameV t1 t2 = true) ∧ ((lessV t1 t2 = 2 ∧ lessV t2 t1 = 2 ∧ (eqV t1 t2 = 0 ∨ eqV t1 t2 = 1 ∨ eqV t1 t2 = 2)) ∨ (lessV t1 t2 = ofB (decide (ordV t1 t2 < 0)) ∧ lessV t2 t1 = ofB (decide (ordV t2 t1 < 0)) ∧ eqV t1 t2 = ofB (decide (ordV t1 t2 = 0))))) := Lib.hid (fun h1 h2 => by
    have m1 : MayE t1 := ⟨32, 0, h1⟩
    have m2 : MayE t2 := ⟨32, 0, h2⟩
    refine ⟨fun h => (sameV_iff _ _).2 (eqV_same _ _ m1 m2 h), ?_⟩
    have h3 := eqV_three t1 t2
    obtain ⟨k1, b1, i1, s1, l1, ks1⟩ := t1
    obtain ⟨k2, b2, i2, s2, l2, ks2⟩ := t2
    by_cases hk : k1 ≠ k2 ∨ k1 < 1 ∨ 3 < k1
    · refine .inl ⟨?_, ?_, h3⟩
      · exact if_pos hk
      · exact if_pos (show k2 ≠ k1 ∨ k2 < 1 ∨ 3 < k2 by omega)
    · have h4 : k1 = k2 := by omega
      subst h4
      refine .inr ⟨?_, ?_, eqV_known m1 m2 (by omega) (by omega)⟩
      · exact if_neg hk
      · exact if_neg (show ¬ (k1 ≠ k1 ∨ k1 < 1 ∨ 3 < k1) by omega))
  have hv1 := hV1
  obtain ⟨k1, b1, i1, s1, l1, ks1, rfl⟩ : ∃ k b i s l ks, t1 = .mk k b i s l ks := by cases t1; exact ⟨_, _, _, _, _, _, rfl⟩
  unfold IsV at hv1
  obtain ⟨la1, lc1, ka1, kc1, rfl, -⟩ := hv1
  have hv2 := hV2
  obtain ⟨k2, b2, i2, s2, l2, ks2, rfl⟩ : ∃ k b i s l ks, t2 = .mk k b i s l ks := by cases t2; exact ⟨_, _, _, _, _, _, rfl⟩
  unfold IsV at hv2
  obtain ⟨la2, lc2, ka2, kc2, rfl, -⟩ := hv2
  obtain ⟨W0, hW0⟩ : ∃ W0, (w.alloc (.cells #[.int .i64 k1, .bool b1, .int .i64 i1, .string s1, .slice la1 l1.length lc1, .slice ka1 ks1.length kc1] 26)).alloc (.cells #[.int .i64 k2, .bool b2, .int .i64 i2, .string s2, .slice la2 l2.length lc2, .slice ka2 ks2.length kc2] 26) = W0 := ⟨_, rfl⟩
  have hbx1 : Block W0 (w.heap.size) [.int .i64 k1, .bool b1, .int .i64 i1, .string s1, .slice la1 l1.length lc1, .slice ka1 ks1.length kc1] 26 := by
    rw [← hW0]
    have hh := Block.new w [.int .i64 k1, .bool b1, .int .i64 i1, .string s1, .slice la1 l1.length lc1, .slice ka1 ks1.length kc1] 26
    have hh := hh.alloc (.cells #[.int .i64 k2, .bool b2, .int .i64 i2, .string s2, .slice la2 l2.length lc2, .slice ka2 ks2.length kc2] 26)
    simpa using hh
  have hbx2 : Block W0 (w.heap.size + 1) [.int .i64 k2, .bool b2, .int .i64 i2, .string s2, .slice la2 l2.length lc2, .slice ka2 ks2.length kc2] 26 := by
    rw [← hW0]
    have hh := Block.new (w.alloc (.cells #[.int .i64 k1, .bool b1, .int .i64 i1, .string s1, .slice la1 l1.length lc1, .slice ka1 ks1.length kc1] 26)) [.int .i64 k2, .bool b2, .int .i64 i2, .string s2, .slice la2 l2.length lc2, .slice ka2 ks2.length kc2] 26
    simpa using hh
  have hb0 : Below w.heap.size w W0 := by
    rw [← hW0]
    exact ((Below.refl w.heap.size w).alloc (by simp) _).alloc (by simp) _
  have hsz : w.heap.size + 1 + 1 ≤ W0.heap.size := by rw [← hW0]; simp
  have hlt1 : w.heap.size < w.heap.size + 1 + 1 := by omega
  have hlt2 : w.heap.size + 1 < w.heap.size + 1 + 1 := by omega
  have hbe : ∀ u : Ext (w.heap.size + 1 + 1) W0, Below w.heap.size w u.w := fun u => hb0.trans (u.below.mono (by omega))
  have M1 := Lib.hid (fun u => ext_call u hsz (May_any (.mk k1 b1 i1 s1 l1 ks1) _ B u.w (HV1.out u.w (hbe u)) (HLE.out u.w (hbe u))))
  have M2 := Lib.hid (fun u => ext_call u hsz (May_any (.mk k2 b2 i2 s2 l2 ks2) _ B u.w (HV2.out u.w (hbe u)) (HLE.out u.w (hbe u))))
  have E12 := Lib.hid (fun u => ext_call u hsz (equal_any (.mk k1 b1 i1 s1 l1 ks1) (.mk k2 b2 i2 s2 l2 ks2) _ _ B u.w (HV1.out u.w (hbe u)) (HV2.out u.w (hbe u)) (HLE.out u.w (hbe u))))
  have E21 := Lib.hid (fun u => ext_call u hsz (equal_any (.mk k2 b2 i2 s2 l2 ks2) (.mk k1 b1 i1 s1 l1 ks1) _ _ B u.w (HV2.out u.w (hbe u)) (HV1.out u.w (hbe u)) (HLE.out u.w (hbe u))))
  have E11 := Lib.hid (fun u => ext_call u hsz (equal_any (.mk k1 b1 i1 s1 l1 ks1) (.mk k1 b1 i1 s1 l1 ks1) _ _ B u.w (HV1.out u.w (hbe u)) (HV1.out u.w (hbe u)) (HLE.out u.w (hbe u))))
  have S12 := Lib.hid (fun u => ext_call u hsz (same_any (.mk k1 b1 i1 s1 l1 ks1) (.mk k2 b2 i2 s2 l2 ks2) _ _ B u.w (HV1.out u.w (hbe u)) (HV2.out u.w (hbe u)) (HLE.out u.w (hbe u))))
  have L12 := Lib.hid (fun u (h1 : mayB (.mk k1 b1 i1 s1 l1 ks1) = true) (h2 : mayB (.mk k2 b2 i2 s2 l2 ks2) = true) => ext_call u hsz (less_any2 (.mk k1 b1 i1 s1 l1 ks1) (.mk k2 b2 i2 s2 l2 ks2) _ _ B u.w (HV1.out u.w (hbe u)) (HV2.out u.w (hbe u)) (HLE.out u.w (hbe u)) h1 h2))
  have L21 := Lib.hid (fun u (h1 : mayB (.mk k1 b1 i1 s1 l1 ks1) = true) (h2 : mayB (.mk k2 b2 i2 s2 l2 ks2) = true) => ext_call u hsz (less_any2 (.mk k2 b2 i2 s2 l2 ks2) (.mk k1 b1 i1 s1 l1 ks1) _ _ B u.w (HV2.out u.w (hbe u)) (HV1.out u.w (hbe u)) (HLE.out u.w (hbe u)) h2 h1))
  have O12 := Lib.hid (fun u (h1 : mayB (.mk k1 b1 i1 s1 l1 ks1) = true) (h2 : mayB (.mk k2 b2 i2 s2 l2 ks2) = true) => ext_call u hsz (order_any (.mk k1 b1 i1 s1 l1 ks1) (.mk k2 b2 i2 s2 l2 ks2) _ _ B u.w 32 32 0 0 (HV1.out u.w (hbe u)) (HV2.out u.w (hbe u)) (HLE.out u.w (hbe u)) h1 h2))
  have CW := Lib.hid (fun u : Ext (w.heap.size + 1 + 1) W0 => ext_call u hsz (works_any u.w))
  have e10 : ∀ u : Ext (w.heap.size + 1 + 1) W0, u.w.cell? ⟨w.heap.size, 0, none⟩ = some (.int .i64 k1) := fun u => u.cell hlt1 (hbx1.cell rfl)
  have e11 : ∀ u : Ext (w.heap.size + 1 + 1) W0, u.w.cell? ⟨w.heap.size, 1, none⟩ = some (.bool b1) := fun u => u.cell hlt1 (hbx1.cell rfl)
  have e12 : ∀ u : Ext (w.heap.size + 1 + 1) W0, u.w.cell? ⟨w.heap.size, 2, none⟩ = some (.int .i64 i1) := fun u => u.cell hlt1 (hbx1.cell rfl)
  have e13 : ∀ u : Ext (w.heap.size + 1 + 1) W0, u.w.cell? ⟨w.heap.size, 3, none⟩ = some (.string s1) := fun u => u.cell hlt1 (hbx1.cell rfl)
  have e14 : ∀ u : Ext (w.heap.size + 1 + 1) W0, u.w.cell? ⟨w.heap.size, 4, none⟩ = some (.slice la1 l1.length lc1) := fun u => u.cell hlt1 (hbx1.cell rfl)
  have e15 : ∀ u : Ext (w.heap.size + 1 + 1) W0, u.w.cell? ⟨w.heap.size, 5, none⟩ = some (.slice ka1 ks1.length kc1) := fun u => u.cell hlt1 (hbx1.cell rfl)
  have e20 : ∀ u : Ext (w.heap.size + 1 + 1) W0, u.w.cell? ⟨w.heap.size + 1, 0, none⟩ = some (.int .i64 k2) := fun u => u.cell hlt2 (hbx2.cell rfl)
  have e21 : ∀ u : Ext (w.heap.size + 1 + 1) W0, u.w.cell? ⟨w.heap.size + 1, 1, none⟩ = some (.bool b2) := fun u => u.cell hlt2 (hbx2.cell rfl)
  have e22 : ∀ u : Ext (w.heap.size + 1 + 1) W0, u.w.cell? ⟨w.heap.size + 1, 2, none⟩ = some (.int .i64 i2) := fun u => u.cell hlt2 (hbx2.cell rfl)
  have e23 : ∀ u : Ext (w.heap.size + 1 + 1) W0, u.w.cell? ⟨w.heap.size + 1, 3, none⟩ = some (.string s2) := fun u => u.cell hlt2 (hbx2.cell rfl)
  have e24 : ∀ u : Ext (w.heap.size + 1 + 1) W0, u.w.cell? ⟨w.heap.size + 1, 4, none⟩ = some (.slice la2 l2.length lc2) := fun u => u.cell hlt2 (hbx2.cell rfl)
  have e25 : ∀ u : Ext (w.heap.size + 1 + 1) W0, u.w.cell? ⟨w.heap.size + 1, 5, none⟩ = some (.slice ka2 ks2.length kc2) := fun u => u.cell hlt2 (hbx2.cell rfl)
  have HBE := Lib.hid hbe
  have HW0 := Lib.hid hW0
  obtain ⟨u0, hu0⟩ := Ext.start (w.heap.size + 1 + 1) W0
  have HU0 := Lib.hid hu0
  clear hbx1 hbx2 hb0 hsz hbe hW0 hu0
  clear hV1 hV2 HV1 HV2 HLE
  obtain ⟨m1, hm1⟩ : ∃ m, mayB (Vt.mk k1 b1 i1 s1 l1 ks1) = m := ⟨_, rfl⟩
  obtain ⟨m2, hm2⟩ : ∃ m, mayB (Vt.mk k2 b2 i2 s2 l2 ks2) = m := ⟨_, rfl⟩
  rw [hm1] at M1 HFA L12 L21 O12
  rw [hm2] at M2 HFA L12 L21 O12
  clear hm1 hm2
  generalize eqV (Vt.mk k1 b1 i1 s1 l1 ks1) (Vt.mk k2 b2 i2 s2 l2 ks2) = e12 at *
  generalize eqV (Vt.mk k2 b2 i2 s2 l2 ks2) (Vt.mk k1 b1 i1 s1 l1 ks1) = e21 at *
  generalize eqV (Vt.mk k1 b1 i1 s1 l1 ks1) (Vt.mk k1 b1 i1 s1 l1 ks1) = e11 at *
  generalize lessV (Vt.mk k1 b1 i1 s1 l1 ks1) (Vt.mk k2 b2 i2 s2 l2 ks2) = l12 at *
  generalize lessV (Vt.mk k2 b2 i2 s2 l2 ks2) (Vt.mk k1 b1 i1 s1 l1 ks1) = l21 at *
  generalize ordV (Vt.mk k1 b1 i1 s1 l1 ks1) (Vt.mk k2 b2 i2 s2 l2 ks2) = x at *
  generalize ordV (Vt.mk k2 b2 i2 s2 l2 ks2) (Vt.mk k1 b1 i1 s1 l1 ks1) = xr at *
  generalize sameV (Vt.mk k1 b1 i1 s1 l1 ks1) (Vt.mk k2 b2 i2 s2 l2 ks2) = sm at *
  show Calls Try.prog 7 #[.agg #[.int .i64 k1, .bool b1, .int .i64 i1, .string s1, .slice la1 l1.length lc1, .slice ka1 ks1.length kc1], .agg #[.int .i64 k2, .bool b2, .int .i64 i2, .string s2, .slice la2 l2.length lc2, .slice ka2 ks2.length kc2]] w _
  cases m1 with
  | false =>
    go_enter Try.func7, Try.ntmps7
    go_wp2_with fail
    rw [HW0.out, HU0.out]
    refine (M1.out u0).mono ?_
    rintro e w' ⟨rfl, u1, rfl⟩
    go_wp2_with fail
    refine (CW.out u1).mono ?_
    rintro e w' ⟨rfl, u2, rfl⟩
    go_wp2_with fail
    go_ret
    exact ⟨by rfl, HBE.out u2⟩
  | true =>
    cases m2 with
    | false =>
      go_enter Try.func7, Try.ntmps7
      go_wp2_with fail
      rw [HW0.out, HU0.out]
      refine (M1.out u0).mono ?_
      rintro e w' ⟨rfl, u1, rfl⟩
      go_wp2_with fail
      refine (M2.out u1).mono ?_
      rintro e w' ⟨rfl, u2, rfl⟩
      go_wp2_with fail
      refine (CW.out u2).mono ?_
      rintro e w' ⟨rfl, u3, rfl⟩
      go_wp2_with fail
      go_ret
      exact ⟨by rfl, HBE.out u3⟩
    | true =>
      obtain ⟨hsame, hcase⟩ := HFA.out rfl rfl
      have Q12 := Lib.hid (fun u => L12.out u rfl rfl)
      have Q21 := Lib.hid (fun u => L21.out u rfl rfl)
      have P12 := Lib.hid (fun u => O12.out u rfl rfl)
      have s11 : (e11 == 0) = false := by simpa using hself
      have hc6 : (l12 = 2 ∧ l21 = 2 ∧ e12 = 0) ∨ (l12 = 2 ∧ l21 = 2 ∧ e12 = 1 ∧ sm = true) ∨ (l12 = 2 ∧ l21 = 2 ∧ e12 = 2) ∨ (x = -1 ∧ l12 = 1 ∧ l21 = 0 ∧ e12 = 0) ∨ (x = 0 ∧ l12 = 0 ∧ l21 = 0 ∧ e12 = 1 ∧ sm = true) ∨ (x = 1 ∧ l12 = 0 ∧ l21 = 1 ∧ e12 = 0) := by
        rcases hcase with ⟨h1, h2, h3⟩ | ⟨h1, h2, h3⟩
        · rcases h3 with h3 | h3 | h3
          · exact .inl ⟨h1, h2, h3⟩
          · exact .inr (.inl ⟨h1, h2, h3, hsame h3⟩)
          · exact .inr (.inr (.inl ⟨h1, h2, h3⟩))
        · rw [hneg] at h2
          rcases hun with rfl | rfl | rfl
          · exact .inr (.inr (.inr (.inl ⟨rfl, h1, h2, h3⟩)))
          · exact .inr (.inr (.inr (.inr (.inl ⟨rfl, h1, h2, h3, hsame h3⟩))))
          · exact .inr (.inr (.inr (.inr (.inr ⟨rfl, h1, h2, h3⟩))))
      have s12 := Lib.hid hsy
      clear hsame hcase hself hsy hneg hun HFA
      rcases hc6 with ⟨rfl, rfl, rfl⟩ | ⟨rfl, rfl, rfl, rfl⟩ | ⟨rfl, rfl, rfl⟩ | ⟨rfl, rfl, rfl, rfl⟩ | ⟨rfl, rfl, rfl, rfl, rfl⟩ | ⟨rfl, rfl, rfl, rfl⟩
      all_goals
        first
          | obtain rfl : e21 = 0 := s12.out.symm
          | obtain rfl : e21 = 1 := s12.out.symm
          | obtain rfl : e21 = 2 := s12.out.symm
        clear s12
        have HIS := Lib.hid (fun (u : Ext (w.heap.size + 1 + 1) W0) (a : Int) => ext_still u (is_any a u.w))
        go_enter Try.func7, Try.ntmps7
        go_wp2_with fail
        rw [HW0.out, HU0.out]
        refine (M1.out u0).mono ?_
        rintro e w' ⟨rfl, u1, rfl⟩
        go_wp2_with fail
        refine (M2.out u1).mono ?_
        rintro e w' ⟨rfl, u2, rfl⟩
        go_wp2_with fail
        refine wp_region_at u2 (by kernel_rfl) (by kernel_rfl) ?_
        repeat (go_big_quiet_step (first | (with_reducible exact E12.out _) | (with_reducible exact E21.out _) | (with_reducible exact E11.out _) | (with_reducible exact S12.out _)))
        refine wpQuiet_nil ?_
        rintro w2 ⟨u3, rfl⟩
        go_wp2_with fail
        refine wp_region_at u3 (by kernel_rfl) (by kernel_rfl) ?_
        repeat (go_big_quiet_step (first | (with_reducible exact Q12.out _) | (with_reducible exact Q21.out _)))
        refine wpQuiet_nil ?_
        rintro w2 ⟨u4, rfl⟩
        go_wp2_with fail
        first
          | (refine (CW.out u4).mono ?_
             rintro e w' ⟨rfl, u5, rfl⟩
             go_wp2_with fail
             go_ret
             exact ⟨by rfl, HBE.out u5⟩)
          | (refine (HIS.out u4 _).mono ?_
             rintro e w' ⟨rfl, u5, rfl⟩
             go_wp2_with fail
             refine (HIS.out u5 _).mono ?_
             rintro e w' ⟨rfl, u6, rfl⟩
             go_wp2_with fail
             refine (E12.out u6).mono ?_
             rintro e w' ⟨rfl, u7, rfl⟩
             go_wp2_with fail
             refine (HIS.out u7 _).mono ?_
             rintro e w' ⟨rfl, u8, rfl⟩
             go_wp2_with fail
             refine wp_region_at u8 (by kernel_rfl) (by kernel_rfl) ?_
             repeat (go_big_quiet_step (first | (with_reducible exact HIS.out _ _) | (with_reducible exact P12.out _) | (with_reducible exact CW.out _)))
             refine wpQuiet_nil ?_
             rintro w2 ⟨u9, rfl⟩
             go_wp2_with fail
             go_ret
             exact ⟨by rfl, HBE.out u9⟩)
end Go.Proofs.Ytdkgjbjlpofieaa

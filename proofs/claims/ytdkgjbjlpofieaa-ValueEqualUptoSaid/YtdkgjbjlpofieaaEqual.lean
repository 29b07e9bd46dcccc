/- Layer 3: the contracts of logic.And, Of, Is and of value.Equal and value.Less. Conditions: none (Less: values that may be). -/
import Derived.Test.YtdkgjbjlpofieaaOrdLaw
namespace Go.Proofs.Ytdkgjbjlpofieaa
open Go.RowKit
set_option linter.unusedSimpArgs false
set_option linter.unusedVariables false

def tKnown (a : Int) : Int := if a = 0 ∨ a = 1 then a else 2
theorem tKnown_cases (a : Int) : (a = 0 ∧ tKnown a = 0) ∨ (a = 1 ∧ tKnown a = 1) ∨ (a ≠ 0 ∧ a ≠ 1 ∧ tKnown a = 2) := by
  unfold tKnown; by_cases h0 : a = 0
  · simp [h0]
  · by_cases h1 : a = 1 <;> simp [h0, h1]
def tAnd (a b : Int) : Int := if a = 0 ∨ b = 0 then 0 else if a = 1 ∧ b = 1 then 1 else 2
theorem known_any (a : Int) (w : World) : Calls Try.prog 62 #[.int .i64 a] w fun e w' => e = .returned (.int .i64 (tKnown a)) ∧ w = w' := by
  rcases tKnown_cases a with ⟨rfl, h⟩ | ⟨rfl, h⟩ | ⟨h0, h1, h⟩
  · rw [h]; clear h
    go_enter Try.func62, Try.ntmps62
    go_wp2
    go_ret
    exact ⟨rfl, rfl⟩
  · rw [h]; clear h
    go_enter Try.func62, Try.ntmps62
    go_wp2
    go_ret
    exact ⟨rfl, rfl⟩
  · rw [h]; clear h
    have h0' : (a == 0) = false := by simpa using h0
    have h1' : (a == 1) = false := by simpa using h1
    clear h0 h1
    go_enter Try.func62, Try.ntmps62
    go_wp2
    go_ret
    exact ⟨rfl, rfl⟩
theorem known_v (a v : Int) (h : tKnown a = v) (w : World) : Calls Try.prog 62 #[.int .i64 a] w fun e w' => e = .returned (.int .i64 v) ∧ w' = w :=
  (known_any a w).mono fun _ _ ⟨he, hw⟩ => ⟨by rw [he, h], hw.symm⟩
set_option maxHeartbeats 400000 in
theorem and_any (a b : Int) (w : World) : Calls Try.prog 46 #[.int .i64 a, .int .i64 b] w fun e w' => e = .returned (.int .i64 (tAnd a b)) ∧ Below w.heap.size w w' := by
  rcases tKnown_cases a with ⟨rfl, h⟩ | ⟨rfl, h⟩ | ⟨h0, h1, h⟩ <;> rcases tKnown_cases b with ⟨rfl, k⟩ | ⟨rfl, k⟩ | ⟨k0, k1, k⟩
  all_goals
    have H := Lib.hid h; clear h
    have K := Lib.hid k; clear k
    go_enter Try.func46, Try.ntmps46
    go_wp2_with fail
    go_quiet (first | (go_at_call 62; with_reducible exact Calls.quiet_of_same (known_v _ _ H.out _)) | (go_at_call 62; with_reducible exact Calls.quiet_of_same (known_v _ _ K.out _)))
    go_wp2
    go_ret
    refine ⟨?_, below_drewN ((Below.refl _ _).alloc (Nat.le_refl _) _) _⟩
    first | rfl | (simp [tAnd, *])
def ofB (b : Bool) : Int := if b then 1 else 0
theorem of_any (b : Bool) (w : World) : Calls Try.prog 47 #[.bool b] w fun e w' => e = .returned (.int .i64 (ofB b)) ∧ w = w' := by
  cases b
  all_goals
    go_enter Try.func47, Try.ntmps47
    go_wp2_with fail
    go_ret
    exact ⟨by rfl, rfl⟩
theorem is_any (a : Int) (w : World) : Calls Try.prog 27 #[.int .i64 a] w fun e w' => e = .returned (.bool (a == 1)) ∧ w = w' := by
  go_enter Try.func27, Try.ntmps27
  go_wp2_with fail
  go_ret
  exact ⟨by rfl, rfl⟩
mutual
/-- What value.Equal gives. -/
def eqV : Vt → Vt → Int
  | .mk k b i s l ks, .mk k' b' i' s' l' ks' => if k = 0 ∨ k' = 0 then 2 else if ¬ (k = k' ∧ l.length = l'.length ∧ ks = ks') then 0 else if k = 4 ∨ k = 5 then eqVs 1 l l' else ofB (sameV (.mk k b i s l ks) (.mk k' b' i' s' l' ks'))
def eqVs : Int → List Vt → List Vt → Int
  | acc, [], _ => acc
  | acc, t :: ts, us => match us with
    | [] => acc
    | u :: us => eqVs (tAnd acc (eqV t u)) ts us
end
theorem eqVs_at {l l' : List Vt} {j : Nat} {t u : Vt} (acc : Int) (h : l[j]? = some t) (h' : l'[j]? = some u) : eqVs acc (l.drop j) (l'.drop j) = eqVs (tAnd acc (eqV t u)) (l.drop (j + 1)) (l'.drop (j + 1)) := by
  obtain ⟨h1, h2⟩ := List.getElem?_eq_some_iff.1 h
  obtain ⟨h3, h4⟩ := List.getElem?_eq_some_iff.1 h'
  rw [List.drop_eq_getElem_cons h1, h2, List.drop_eq_getElem_cons h3, h4, eqVs]
theorem eqVs_end {l l' : List Vt} {j : Nat} (acc : Int) (h : l.length ≤ j) : eqVs acc (l.drop j) (l'.drop j) = acc := by
  rw [List.drop_of_length_le h, eqVs]
def EqSaid (a : Vt) : Prop := ∀ (b : Vt) (cs ds : List Value) (B : Nat) (w : World), IsV B w cs a → IsV B w ds b → B ≤ w.heap.size →
    Calls Try.prog 25 #[.agg cs.toArray, .agg ds.toArray] w fun e w' => e = .returned (.int .i64 (eqV a b)) ∧ Below w.heap.size w w'
set_option maxRecDepth 1000000 in
set_option maxHeartbeats 4000000 in
theorem equal_any (a : Vt) : EqSaid a := by
  refine a.down (p := EqSaid) fun k1 b1 i1 s1 l1 ks1 ih c cs ds B w hV1 hV2 hB => ?_
  obtain ⟨k2, b2, i2, s2, l2, ks2⟩ := c
  have IH := Lib.hid ih
  have HVa := Lib.hid (fun w' (hb : Below w.heap.size w w') => IsV.below hb hB _ cs hV1)
  have HVb := Lib.hid (fun w' (hb : Below w.heap.size w w') => IsV.below hb hB _ ds hV2)
  have HLE := Lib.hid (fun w' (hb : Below w.heap.size w w') => Nat.le_trans hB hb.size)
  unfold IsV at hV1 hV2
  obtain ⟨la1, lc1, ka1, kc1, rfl, -, -, ⟨hlc1, hlm1⟩, ⟨hkc1, hkm1⟩, -, -, hK1, hL1⟩ := hV1
  obtain ⟨la2, lc2, ka2, kc2, rfl, -, -, ⟨hlc2, hlm2⟩, ⟨hkc2, hkm2⟩, -, -, hK2, hL2⟩ := hV2
  have HL1 := Lib.hid hL1
  have HL2 := Lib.hid hL2
  have HK1 := Lib.hid hK1
  have HK2 := Lib.hid hK2
  clear ih hL1 hL2 hK1 hK2
  obtain ⟨W0, hW0⟩ : ∃ W0, (w.alloc (.cells #[.int .i64 k1, .bool b1, .int .i64 i1, .string s1, .slice la1 l1.length lc1, .slice ka1 ks1.length kc1] 26)).alloc (.cells #[.int .i64 k2, .bool b2, .int .i64 i2, .string s2, .slice la2 l2.length lc2, .slice ka2 ks2.length kc2] 26) = W0 := ⟨_, rfl⟩
  have hbx1 : Block W0 (w.heap.size) [.int .i64 k1, .bool b1, .int .i64 i1, .string s1, .slice la1 l1.length lc1, .slice ka1 ks1.length kc1] 26 := by
    rw [← hW0]
    have hh := Block.new w [.int .i64 k1, .bool b1, .int .i64 i1, .string s1, .slice la1 l1.length lc1, .slice ka1 ks1.length kc1] 26
    have hh := hh.alloc (.cells #[.int .i64 k2, .bool b2, .int .i64 i2, .string s2, .slice la2 l2.length lc2, .slice ka2 ks2.length kc2] 26)
    simpa using hh
  have hbx2 : Block W0 (w.heap.size + 1) [.int .i64 k2, .bool b2, .int .i64 i2, .string s2, .slice la2 l2.length lc2, .slice ka2 ks2.length kc2] 26 := by
    rw [← hW0]
    have hh := Block.new (w.alloc (.cells #[.int .i64 k1, .bool b1, .int .i64 i1, .string s1, .slice la1 l1.length lc1, .slice ka1 ks1.length kc1] 26)) [.int .i64 k2, .bool b2, .int .i64 i2, .string s2, .slice la2 l2.length lc2, .slice ka2 ks2.length kc2] 26
    simpa using hh
  have hb0 : Below w.heap.size w W0 := by
    rw [← hW0]
    exact ((Below.refl w.heap.size w).alloc (by simp) _).alloc (by simp) _
  have hsz : w.heap.size + 1 + 1 ≤ W0.heap.size := by rw [← hW0]; simp
  have hlt1 : w.heap.size < w.heap.size + 1 + 1 := by omega
  have hlt2 : w.heap.size + 1 < w.heap.size + 1 + 1 := by omega
  have hbe : ∀ u : Ext (w.heap.size + 1 + 1) W0, Below w.heap.size w u.w := fun u => hb0.trans (u.below.mono (by omega))
  have CN := Lib.hid (fun u => ext_call u hsz (pnames_any ks1 ks2 ka1 ka2 kc1 kc2 B u.w (HK1.out.below (hbe u) hB) (HK2.out.below (hbe u) hB) (HLE.out u.w (hbe u)) (by omega) (by omega)))
  have CS := Lib.hid (fun u => ext_call u hsz (psame_any _ _ _ _ B u.w (HVa.out u.w (hbe u)) (HVb.out u.w (hbe u)) (HLE.out u.w (hbe u))))
  have e10 : ∀ u : Ext (w.heap.size + 1 + 1) W0, u.w.cell? ⟨w.heap.size, 0, none⟩ = some (.int .i64 k1) := fun u => u.cell hlt1 (hbx1.cell rfl)
  have e11 : ∀ u : Ext (w.heap.size + 1 + 1) W0, u.w.cell? ⟨w.heap.size, 1, none⟩ = some (.bool b1) := fun u => u.cell hlt1 (hbx1.cell rfl)
  have e12 : ∀ u : Ext (w.heap.size + 1 + 1) W0, u.w.cell? ⟨w.heap.size, 2, none⟩ = some (.int .i64 i1) := fun u => u.cell hlt1 (hbx1.cell rfl)
  have e13 : ∀ u : Ext (w.heap.size + 1 + 1) W0, u.w.cell? ⟨w.heap.size, 3, none⟩ = some (.string s1) := fun u => u.cell hlt1 (hbx1.cell rfl)
  have e14 : ∀ u : Ext (w.heap.size + 1 + 1) W0, u.w.cell? ⟨w.heap.size, 4, none⟩ = some (.slice la1 l1.length lc1) := fun u => u.cell hlt1 (hbx1.cell rfl)
  have e15 : ∀ u : Ext (w.heap.size + 1 + 1) W0, u.w.cell? ⟨w.heap.size, 5, none⟩ = some (.slice ka1 ks1.length kc1) := fun u => u.cell hlt1 (hbx1.cell rfl)
  have e20 : ∀ u : Ext (w.heap.size + 1 + 1) W0, u.w.cell? ⟨w.heap.size + 1, 0, none⟩ = some (.int .i64 k2) := fun u => u.cell hlt2 (hbx2.cell rfl)
  have e21 : ∀ u : Ext (w.heap.size + 1 + 1) W0, u.w.cell? ⟨w.heap.size + 1, 1, none⟩ = some (.bool b2) := fun u => u.cell hlt2 (hbx2.cell rfl)
  have e22 : ∀ u : Ext (w.heap.size + 1 + 1) W0, u.w.cell? ⟨w.heap.size + 1, 2, none⟩ = some (.int .i64 i2) := fun u => u.cell hlt2 (hbx2.cell rfl)
  have e23 : ∀ u : Ext (w.heap.size + 1 + 1) W0, u.w.cell? ⟨w.heap.size + 1, 3, none⟩ = some (.string s2) := fun u => u.cell hlt2 (hbx2.cell rfl)
  have e24 : ∀ u : Ext (w.heap.size + 1 + 1) W0, u.w.cell? ⟨w.heap.size + 1, 4, none⟩ = some (.slice la2 l2.length lc2) := fun u => u.cell hlt2 (hbx2.cell rfl)
  have e25 : ∀ u : Ext (w.heap.size + 1 + 1) W0, u.w.cell? ⟨w.heap.size + 1, 5, none⟩ = some (.slice ka2 ks2.length kc2) := fun u => u.cell hlt2 (hbx2.cell rfl)
  have HBE := Lib.hid hbe
  have HW0 := Lib.hid hW0
  obtain ⟨u0, hu0⟩ := Ext.start (w.heap.size + 1 + 1) W0
  have HU0 := Lib.hid hu0
  clear hbx1 hbx2 hb0 hsz hbe hW0 hu0
  obtain ⟨R, hR⟩ : ∃ R, eqV (.mk k1 b1 i1 s1 l1 ks1) (.mk k2 b2 i2 s2 l2 ks2) = R := ⟨_, rfl⟩
  obtain ⟨sm, hsm⟩ : ∃ sm, sameV (.mk k1 b1 i1 s1 l1 ks1) (.mk k2 b2 i2 s2 l2 ks2) = sm := ⟨_, rfl⟩
  obtain ⟨nm, hnm⟩ : ∃ nm, decide (ks1 = ks2) = nm := ⟨_, rfl⟩
  have HR : Hid (R = if k1 = 0 ∨ k2 = 0 then 2 else if ¬ (k1 = k2 ∧ l1.length = l2.length ∧ ks1 = ks2) then 0 else if k1 = 4 ∨ k1 = 5 then eqVs 1 l1 l2 else ofB sm) := Lib.hid (by rw [← hR, ← hsm]; unfold eqV; rfl)
  have HNM := Lib.hid hnm
  rw [hR]
  rw [hsm] at CS
  rw [hnm] at CN
  clear hR hsm hnm HVa HVb
  show Calls Try.prog 25 #[.agg #[.int .i64 k1, .bool b1, .int .i64 i1, .string s1, .slice la1 l1.length lc1, .slice ka1 ks1.length kc1], .agg #[.int .i64 k2, .bool b2, .int .i64 i2, .string s2, .slice la2 l2.length lc2, .slice ka2 ks2.length kc2]] w _
  by_cases z1 : k1 = 0
  · have HRV : Hid (R = 2) := Lib.hid (by rw [HR.out, if_pos (.inl z1)])
    have d1 : (k1 == 0) = true := by simpa using z1
    clear z1
    go_enter Try.func25, Try.ntmps25
    go_wp2_with fail
    rw [HW0.out, HU0.out]
    go_ret
    exact ⟨by rw [HRV.out]; rfl, HBE.out u0⟩
  have d1 : (k1 == 0) = false := by simpa using z1
  by_cases z2 : k2 = 0
  · have HRV : Hid (R = 2) := Lib.hid (by rw [HR.out, if_pos (.inr z2)])
    have d2 : (k2 == 0) = true := by simpa using z2
    clear z1 z2
    go_enter Try.func25, Try.ntmps25
    go_wp2_with fail
    rw [HW0.out, HU0.out]
    go_wp2_with fail
    go_ret
    exact ⟨by rw [HRV.out]; rfl, HBE.out u0⟩
  have d2 : (k2 == 0) = false := by simpa using z2
  have HR2 : Hid (R = if ¬ (k1 = k2 ∧ l1.length = l2.length ∧ ks1 = ks2) then 0 else if k1 = 4 ∨ k1 = 5 then eqVs 1 l1 l2 else ofB sm) := Lib.hid (by rw [HR.out, if_neg (by omega)])
  clear z1 z2 HR
  by_cases z3 : k1 = k2
  rotate_left
  · have HRV : Hid (R = 0) := Lib.hid (by rw [HR2.out, if_pos (fun h => z3 h.1)])
    have d3 : (k1 == k2) = false := by simpa using z3
    have d4 : (k1 != k2) = true := by simpa using z3
    clear z3
    go_enter Try.func25, Try.ntmps25
    go_wp2_with fail
    rw [HW0.out, HU0.out]
    go_wp2_with fail
    go_ret
    exact ⟨by rw [HRV.out]; rfl, HBE.out u0⟩
  subst z3
  have d3 : (k1 != k1) = false := by simp
  by_cases z4 : l1.length = l2.length
  rotate_left
  · have HRV : Hid (R = 0) := Lib.hid (by rw [HR2.out, if_pos (fun h => z4 h.2.1)])
    have z5 : ¬ (l1.length : Int) = l2.length := by omega
    have d4 : ((l1.length : Int) == l2.length) = false := by simp; omega
    have d5 : ((l1.length : Int) != l2.length) = true := by simp; omega
    clear z4
    go_enter Try.func25, Try.ntmps25
    go_wp2_with fail
    rw [HW0.out, HU0.out]
    go_wp2_with fail
    go_ret
    exact ⟨by rw [HRV.out]; rfl, HBE.out u0⟩
  have HLN := Lib.hid z4
  have d4 : ((l1.length : Int) == l2.length) = true := by simp; omega
  have d5 : ((l1.length : Int) != l2.length) = false := by simp; omega
  clear z4
  cases nm with
  | false =>
    have HRV : Hid (R = 0) := Lib.hid (by rw [HR2.out, if_pos (fun h => by have := of_decide_eq_false HNM.out; exact this h.2.2)])
    go_enter Try.func25, Try.ntmps25
    go_wp2_with fail
    rw [HW0.out, HU0.out]
    go_wp2_with fail
    refine (CN.out u0).mono ?_
    rintro e w' ⟨rfl, u1, rfl⟩
    go_wp2_with fail
    go_ret
    exact ⟨by rw [HRV.out]; rfl, HBE.out u1⟩
  | true =>
    have HR3 : Hid (R = if k1 = 4 ∨ k1 = 5 then eqVs 1 l1 l2 else ofB sm) := Lib.hid (by rw [HR2.out, if_neg (fun h => h ⟨rfl, HLN.out, of_decide_eq_true HNM.out⟩)])
    clear HR2
    by_cases z6 : k1 = 4 ∨ k1 = 5
    rotate_left
    · have HRV : Hid (R = ofB sm) := Lib.hid (by rw [HR3.out, if_neg z6])
      have d6 : (k1 == 4) = false := by simp; omega
      have d7 : (k1 == 5) = false := by simp; omega
      clear z6
      go_enter Try.func25, Try.ntmps25
      go_wp2_with fail
      rw [HW0.out, HU0.out]
      go_wp2_with fail
      refine (CN.out u0).mono ?_
      rintro e w' ⟨rfl, u1, rfl⟩
      go_wp2_with fail
      refine (CS.out u1).mono ?_
      rintro e w' ⟨rfl, u2, rfl⟩
      have HOF := Lib.hid (of_any sm u2.w)
      go_wp2_with fail
      refine HOF.out.mono ?_
      rintro e w' ⟨rfl, rfl⟩
      go_wp2_with fail
      go_ret
      exact ⟨by rw [HRV.out]; rfl, HBE.out u2⟩
    · have HRV : Hid (R = eqVs 1 l1 l2) := Lib.hid (by rw [HR3.out, if_pos z6])
      have HZ6 := Lib.hid z6
      have hk45 : k1 = 4 ∨ k1 = 5 := z6
      clear z6 HR3
      rcases hk45 with rfl | rfl
      all_goals
        go_enter Try.func25, Try.ntmps25
        go_wp2_with fail
        rw [HW0.out, HU0.out]
        go_wp2_with fail
        refine (CN.out u0).mono ?_
        rintro e w' ⟨rfl, u1, rfl⟩
        go_wp2_with fail
        go_loopw [5, 52] (fun tv iv wr => ∃ (j : Nat) (acc : Int) (u : Ext (w.heap.size + 1 + 1) W0), iv = .int .i64 j ∧ tv = .int .i64 acc ∧ j ≤ l1.length ∧ wr = u.w ∧ Hid (eqVs acc (l1.drop j) (l2.drop j) = R)) (fun _ iv _ => l1.length - (intOf iv).toNat)
        case atStart => exact ⟨0, 1, u1, rfl, rfl, Nat.zero_le _, rfl, Lib.hid (by rw [HRV.out]; rfl)⟩
        case round =>
          obtain ⟨j, acc, u, rfl, rfl, hj, rfl, HACC⟩ := hrel
          by_cases hlt : j < l1.length
          · have hlt' : (j : Int) < l1.length := by omega
            have hlt2 : (j : Int) < l2.length := by have := HLN.out; omega
            have hj0 : (0 : Int) ≤ (j : Int) := by omega
            obtain ⟨t, ht⟩ := get_some hlt
            obtain ⟨t', ht'⟩ := get_some (show j < l2.length by have := HLN.out; omega)
            have HBU := Lib.hid (HBE.out u)
            obtain ⟨eb, eo, k3, b3, i3, s3, l3, ks3, la3, lc3, ka3, kc3, rfl, rfl, heb, ⟨g0, g1, g2, g3, g4, g5⟩, hV3⟩ := (HL1.out.below HBU.out hB).at ht
            obtain ⟨fb, fo, k4, b4, i4, s4, l4, ks4, la4, lc4, ka4, kc4, rfl, rfl, hfb, ⟨f0, f1, f2, f3, f4, f5⟩, hV4⟩ := (HL2.out.below HBU.out hB).at ht'
            obtain ⟨W1, hW1⟩ : ∃ W1, u.w.alloc (.cells #[.int .i64 k3, .bool b3, .int .i64 i3, .string s3, .slice la3 l3.length lc3, .slice ka3 ks3.length kc3] 26) = W1 := ⟨_, rfl⟩
            have hsz1 : u.w.heap.size + 1 ≤ W1.heap.size := by rw [← hW1]; simp
            have hu1 : Below u.w.heap.size u.w W1 := by rw [← hW1]; exact (Below.refl _ _).alloc (Nat.le_refl _) _
            have hbz := HBU.out.size
            have huz := u.below.size
            have hW0z : w.heap.size + 1 + 1 ≤ W0.heap.size := by rw [← HW0.out]; simp
            have hbx : Block W1 u.w.heap.size [.int .i64 k3, .bool b3, .int .i64 i3, .string s3, .slice la3 l3.length lc3, .slice ka3 ks3.length kc3] 26 := by rw [← hW1]; exact Block.new _ _ _
            have hbv : ∀ v : Ext (u.w.heap.size + 1) W1, Below u.w.heap.size u.w v.w := fun v => hu1.trans (v.below.mono (by omega))
            have x3 : ∀ (q : Nat) c, [.int .i64 k3, .bool b3, .int .i64 i3, .string s3, .slice la3 l3.length lc3, .slice ka3 ks3.length kc3][q]? = some c → ∀ v : Ext (u.w.heap.size + 1) W1, v.w.cell? ⟨u.w.heap.size, q, none⟩ = some c := fun q c h v => v.cell (by show u.w.heap.size < _; omega) (hbx.cell h)
            have y0 := x3 0 _ rfl
            have y1 := x3 1 _ rfl
            have y2 := x3 2 _ rfl
            have y3 := x3 3 _ rfl
            have y4 := x3 4 _ rfl
            have y5 := x3 5 _ rfl
            have o4 : ∀ v : Ext (u.w.heap.size + 1) W1, v.w.cell? ⟨w.heap.size + 1, 4, none⟩ = some (.slice (some ⟨fb, fo, none⟩) l2.length lc2) := fun v => ((hbv v).cell (p := ⟨w.heap.size + 1, 4, none⟩) (by show w.heap.size + 1 < _; omega)).trans (e24 u)
            have of' : ∀ (o : Nat) c, u.w.cell? ⟨fb, o, none⟩ = some c → ∀ v : Ext (u.w.heap.size + 1) W1, v.w.cell? ⟨fb, o, none⟩ = some c := fun o c h v => ((hbv v).cell (p := ⟨fb, o, none⟩) (by show fb < _; omega)).trans h
            have p0 := of' _ _ f0
            have p1 := of' _ _ f1
            have p2 := of' _ _ f2
            have p3 := of' _ _ f3
            have p4 := of' _ _ f4
            have p5 := of' _ _ f5
            obtain ⟨X, hX⟩ : ∃ X, eqV (.mk k3 b3 i3 s3 l3 ks3) (.mk k4 b4 i4 s4 l4 ks4) = X := ⟨_, rfl⟩
            have HEQ := Lib.hid (fun v : Ext (u.w.heap.size + 1) W1 => ext_call v hsz1 (IH.out j _ ht _ _ _ B v.w (IsV.below (hbv v) (by omega) _ _ hV3) (IsV.below (hbv v) (by omega) _ _ hV4) (by have := (hbv v).size; omega)))
            have HAN := Lib.hid (fun v : Ext (u.w.heap.size + 1) W1 => ext_call v hsz1 (and_any acc X v.w))
            have HAT := Lib.hid (eqVs_at acc ht ht')
            rw [hX] at HEQ HAT
            obtain ⟨Y, hY⟩ : ∃ Y, tAnd acc X = Y := ⟨_, rfl⟩
            rw [hY] at HAN HAT
            have HBV := Lib.hid hbv
            have HW1 := Lib.hid hW1
            have HEX : Hid (∀ v : Ext (u.w.heap.size + 1) W1, ∃ u' : Ext (w.heap.size + 1 + 1) W0, v.w = u'.w) := Lib.hid (fun v => ⟨⟨v.w, u.below.trans ((hbv v).mono (by omega))⟩, rfl⟩)
            obtain ⟨v0, hv0⟩ := Ext.start (u.w.heap.size + 1) W1
            have HV0 := Lib.hid hv0
            clear hv0 hX hY hW1 hbv x3 of' hbx hu1 hV3 hV4 ht ht' hsz1
            go_wp2_with fail
            rw [HW1.out, HV0.out]
            refine wp_region_at v0 (by kernel_rfl) (by kernel_rfl) ?_
            repeat (go_big_quiet_step (first | (with_reducible exact HEQ.out _) | (with_reducible exact HAN.out _)))
            refine wpQuiet_nil ?_
            rintro w2 ⟨v1, rfl⟩
            obtain ⟨u2, hu2⟩ := HEX.out v1
            rw [hu2]
            clear hu2 y0 y1 y2 y3 y4 y5 o4 p0 p1 p2 p3 p4 p5 g0 g1 g2 g3 g4 g5 f0 f1 f2 f3 f4 f5
            go_wp2_with fail
            go_roundw
            case rel => exact ⟨j + 1, Y, u2, by go_num, rfl, by omega, rfl, Lib.hid (by rw [← HAT.out]; exact HACC.out)⟩
            case measure => simp [intOf]; omega
          · have hlt' : ¬ (j : Int) < l1.length := by omega
            have HF : Hid (acc = R) := Lib.hid (by have := HACC.out; rwa [eqVs_end acc (by omega)] at this)
            go_wp2_with fail
            go_ret
            exact ⟨by rw [← HF.out]; rfl, HBE.out u⟩
end Go.Proofs.Ytdkgjbjlpofieaa

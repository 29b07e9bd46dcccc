/- Layer 3: the law ValueEqual returns true. Conditions: none. -/
import Derived.Test.YtdkgjbjlpofieaaEqual
namespace Go.Proofs.Ytdkgjbjlpofieaa
open Go.RowKit
set_option linter.unusedSimpArgs false
set_option linter.unusedVariables false

theorem ext_still {P : Program} {B : Nat} {w : World} {f : FuncId} {args : Array Value} {v : Value} (u : Ext B w) (h : Calls P f args u.w fun e w' => e = .returned v ∧ u.w = w') : Calls P f args u.w fun e w'' => e = .returned v ∧ ∃ u' : Ext B w, w'' = u'.w :=
  h.mono fun _ _ ⟨he, hw⟩ => ⟨he, u, hw.symm⟩
/-- What value.Less gives. -/
def lessV : Vt → Vt → Int
  | .mk k b i s l ks, .mk k' b' i' s' l' ks' => if k ≠ k' ∨ k < 1 ∨ 3 < k then 2 else ofB (decide (ordV (.mk k b i s l ks) (.mk k' b' i' s' l' ks') < 0))
theorem sameV_symm (a b : Vt) : sameV a b = sameV b a := by
  rw [Bool.eq_iff_iff, sameV_iff, sameV_iff]
  exact ⟨fun h => h.symm, fun h => h.symm⟩
theorem eqVs_symm : ∀ (l l' : List Vt) (acc : Int), (∀ (j : Nat) t, l[j]? = some t → ∀ u, eqV t u = eqV u t) → eqVs acc l l' = eqVs acc l' l := by
  intro l
  induction l with
  | nil => intro l' acc _; cases l' <;> simp [eqVs]
  | cons t ts ih =>
    intro l' acc h
    cases l' with
    | nil => simp [eqVs]
    | cons u us =>
      simp only [eqVs]
      rw [h 0 t rfl u]
      exact ih us _ (fun j v hv => h (j + 1) v (by simpa using hv))
theorem eqV_symm (a : Vt) : ∀ b, eqV a b = eqV b a := by
  refine a.down (p := fun a => ∀ b, eqV a b = eqV b a) fun k b i s l ks ih c => ?_
  obtain ⟨k', b', i', s', l', ks'⟩ := c
  unfold eqV
  rw [sameV_symm (.mk k b i s l ks), eqVs_symm l l' 1 ih]
  by_cases h : k = 0 ∨ k' = 0
  · rw [if_pos h, if_pos (show k' = 0 ∨ k = 0 by omega)]
  · rw [if_neg h, if_neg (show ¬ (k' = 0 ∨ k = 0) by omega)]
    by_cases h2 : k = k' ∧ l.length = l'.length ∧ ks = ks'
    · rw [if_neg (show ¬ ¬ (k = k' ∧ l.length = l'.length ∧ ks = ks') from fun h => h h2), if_neg (show ¬ ¬ (k' = k ∧ l'.length = l.length ∧ ks' = ks) from fun h => h ⟨h2.1.symm, h2.2.1.symm, h2.2.2.symm⟩), h2.1]
    · rw [if_pos h2, if_pos (show ¬ (k' = k ∧ l'.length = l.length ∧ ks' = ks) from fun h => h2 ⟨h.1.symm, h.2.1.symm, h.2.2.symm⟩)]
theorem eqV_self (a : Vt) : eqV a a ≠ 0 := by
  refine a.down (p := fun a => eqV a a ≠ 0) fun k b i s l ks ih => ?_
  unfold eqV
  by_cases h : k = 0 ∨ k = 0
  · rw [if_pos h]; omega
  · rw [if_neg h, if_neg (fun h => h ⟨rfl, rfl, rfl⟩)]
    split
    · have key : ∀ (l : List Vt) (acc : Int), acc ≠ 0 → (∀ (j : Nat) t, l[j]? = some t → eqV t t ≠ 0) → eqVs acc l l ≠ 0 := by
        intro l
        induction l with
        | nil => intro acc h _; simpa [eqVs] using h
        | cons t ts ih2 =>
          intro acc h h2
          simp only [eqVs]
          refine ih2 _ ?_ (fun j v hv => h2 (j + 1) v (by simpa using hv))
          have h3 := h2 0 t rfl
          unfold tAnd
          (repeat' split) <;> omega
      exact key l 1 (by omega) ih
    · rw [(sameV_iff _ _).2 rfl]; unfold ofB; simp
theorem eqVs_one : ∀ (l l' : List Vt) (acc : Int), l.length = l'.length → eqVs acc l l' = 1 → (∀ (j : Nat) t, l[j]? = some t → ∀ (j' : Nat) u, l'[j']? = some u → eqV t u = 1 → t = u) → acc = 1 ∧ l = l' := by
  intro l
  induction l with
  | nil =>
    intro l' acc hl h _
    have : l' = [] := List.eq_nil_of_length_eq_zero (by simpa using hl.symm)
    subst this
    exact ⟨by simpa [eqVs] using h, rfl⟩
  | cons t ts ih =>
    intro l' acc hl h he
    cases l' with
    | nil => simp at hl
    | cons u us =>
      simp only [eqVs] at h
      obtain ⟨h1, h2⟩ := ih us _ (by simpa using hl) h (fun j v hv j' v' hv' => he (j + 1) v (by simpa using hv) (j' + 1) v' (by simpa using hv'))
      have h3 : acc = 1 ∧ eqV t u = 1 := by
        unfold tAnd at h1
        (repeat' split at h1) <;> omega
      exact ⟨h3.1, by rw [he 0 t rfl 0 u rfl h3.2, h2]⟩
theorem MayE.flat {k : Int} {b : Bool} {i : Int} {s : ByteArray} {l : List Vt} {ks : List ByteArray} (h : MayE (.mk k b i s l ks)) : (k = 4 ∨ k = 5 → b = false ∧ i = 0 ∧ s.size = 0) ∧ (k ≠ 4 → k ≠ 5 → l = []) := by
  obtain ⟨d, p, h⟩ := h
  obtain ⟨k', b', i', s', l', ks', he, hh, hj⟩ := mayV_parts h
  cases he
  have h1 := of_decide_eq_true hh
  have h2 : unusedV k b i s l.length ks.length = true := h1.2.2.2.2.1
  have h3 := of_decide_eq_true h2
  refine ⟨fun hk => ⟨?_, by omega, by omega⟩, fun h4 h5 => List.eq_nil_of_length_eq_zero (by omega)⟩
  rcases h3.1 with h | h
  · omega
  · exact h
theorem ba_empty {s t : ByteArray} (h : s.size = 0) (h' : t.size = 0) : s = t := by
  have e : ∀ s : ByteArray, s.size = 0 → s = ⟨#[]⟩ := fun s h => by
    cases s with
    | mk a => simp [ByteArray.size] at h; rw [h]
  rw [e s h, e t h']
/-- Values that are equal are the same. -/
theorem eqV_same (a : Vt) : ∀ b, MayE a → MayE b → eqV a b = 1 → a = b := by
  refine a.down (p := fun a => ∀ b, MayE a → MayE b → eqV a b = 1 → a = b) fun k b i s l ks ih c ha hc h => ?_
  obtain ⟨k', b', i', s', l', ks'⟩ := c
  unfold eqV at h
  by_cases h0 : k = 0 ∨ k' = 0
  · rw [if_pos h0] at h; omega
  · rw [if_neg h0] at h
    by_cases h2 : k = k' ∧ l.length = l'.length ∧ ks = ks'
    · rw [if_neg (fun h => h h2)] at h
      obtain ⟨rfl, hl, rfl⟩ := h2
      by_cases h4 : k = 4 ∨ k = 5
      · rw [if_pos h4] at h
        obtain ⟨_, rfl⟩ := eqVs_one l l' 1 hl h (fun j t ht j' u hu h => ih j t ht u (ha.parts.2.2.2 j t ht) (hc.parts.2.2.2 j' u hu) h)
        obtain ⟨rfl, rfl, hs⟩ := ha.flat.1 h4
        obtain ⟨rfl, rfl, hs'⟩ := hc.flat.1 h4
        rw [ba_empty hs hs']
      · rw [if_neg h4] at h
        refine (sameV_iff _ _).1 ?_
        unfold ofB at h
        split at h
        · assumption
        · omega
    · rw [if_pos h2] at h; omega
theorem eqVs_three : ∀ (l l' : List Vt) (acc : Int), (acc = 0 ∨ acc = 1 ∨ acc = 2) → (eqVs acc l l' = 0 ∨ eqVs acc l l' = 1 ∨ eqVs acc l l' = 2) := by
  intro l
  induction l with
  | nil => intro l' acc h; simpa [eqVs] using h
  | cons t ts ih =>
    intro l' acc h
    cases l' with
    | nil => simpa [eqVs] using h
    | cons u us =>
      simp only [eqVs]
      exact ih us _ (by unfold tAnd; (repeat' split) <;> omega)
theorem eqV_three (a b : Vt) : eqV a b = 0 ∨ eqV a b = 1 ∨ eqV a b = 2 := by
  obtain ⟨k, b1, i, s, l, ks⟩ := a
  obtain ⟨k', b', i', s', l', ks'⟩ := b
  unfold eqV
  have h1 := eqVs_three l l' 1 (by omega)
  have h2 : ∀ b : Bool, ofB b = 0 ∨ ofB b = 1 ∨ ofB b = 2 := fun b => by cases b <;> simp [ofB]
  have h3 := h2 (sameV (.mk k b1 i s l ks) (.mk k' b' i' s' l' ks'))
  (repeat' split) <;> first | exact h1 | exact h3 | omega
/-- Where less is known, what equal is, is known too. -/
theorem eqV_known {k : Int} {b : Bool} {i : Int} {s : ByteArray} {l : List Vt} {ks : List ByteArray} {b' : Bool} {i' : Int} {s' : ByteArray} {l' : List Vt} {ks' : List ByteArray} (ha : MayE (.mk k b i s l ks)) (hc : MayE (.mk k b' i' s' l' ks')) (h1 : 1 ≤ k) (h3 : k ≤ 3) :
    eqV (.mk k b i s l ks) (.mk k b' i' s' l' ks') = ofB (decide (ordV (.mk k b i s l ks) (.mk k b' i' s' l' ks') = 0)) := by
  have e1 := ha.flat.2 (by omega) (by omega)
  have e2 := hc.flat.2 (by omega) (by omega)
  have e3 := ha.parts.2.2.1 (by omega)
  have e4 := hc.parts.2.2.1 (by omega)
  have hsm : sameV (.mk k b i s l ks) (.mk k b' i' s' l' ks') = decide (ordV (.mk k b i s l ks) (.mk k b' i' s' l' ks') = 0) := by
    rw [Bool.eq_iff_iff, sameV_iff, decide_eq_true_iff]
    exact ⟨fun h => by rw [h]; exact ordV_self _, fun h => ordV_eq _ _ ha hc h⟩
  rw [← hsm]
  conv => lhs; unfold eqV
  rw [if_neg (by omega), if_neg (fun h => h ⟨rfl, by rw [e1, e2], by rw [e3, e4]⟩), if_neg (by omega)]
set_option maxRecDepth 1000000 in
set_option maxHeartbeats 4000000 in
theorem less_any2 (t1 t2 : Vt) (cs1 cs2 : List Value) (B : Nat) (w : World) (hV1 : IsV B w cs1 t1) (hV2 : IsV B w cs2 t2) (hB : B ≤ w.heap.size) (hm1 : mayB t1 = true) (hm2 : mayB t2 = true) :
    Calls Try.prog 26 #[.agg cs1.toArray, .agg cs2.toArray] w fun e w' => e = .returned (.int .i64 (lessV t1 t2)) ∧ Below w.heap.size w w' := by
  have HV1 := Lib.hid (fun w' (hb : Below w.heap.size w w') => IsV.below hb hB t1 cs1 hV1)
  have HV2 := Lib.hid (fun w' (hb : Below w.heap.size w w') => IsV.below hb hB t2 cs2 hV2)
  have HLE := Lib.hid (fun w' (hb : Below w.heap.size w w') => Nat.le_trans hB hb.size)
  have hv1 := hV1
  obtain ⟨k1, b1, i1, s1, l1, ks1, rfl⟩ : ∃ k b i s l ks, t1 = .mk k b i s l ks := by cases t1; exact ⟨_, _, _, _, _, _, rfl⟩
  unfold IsV at hv1
  obtain ⟨la1, lc1, ka1, kc1, rfl, -⟩ := hv1
  have hv2 := hV2
  obtain ⟨k2, b2, i2, s2, l2, ks2, rfl⟩ : ∃ k b i s l ks, t2 = .mk k b i s l ks := by cases t2; exact ⟨_, _, _, _, _, _, rfl⟩
  unfold IsV at hv2
  obtain ⟨la2, lc2, ka2, kc2, rfl, -⟩ := hv2
  obtain ⟨W0, hW0⟩ : ∃ W0, (w.alloc (.cells #[.int .i64 k1, .bool b1, .int .i64 i1, .string s1, .slice la1 l1.length lc1, .slice ka1 ks1.length kc1] 26)).alloc (.cells #[.int .i64 k2, .bool b2, .int .i64 i2, .string s2, .slice la2 l2.length lc2, .slice ka2 ks2.length kc2] 26) = W0 := ⟨_, rfl⟩
  have hbx1 : Block W0 (w.heap.size) [.int .i64 k1, .bool b1, .int .i64 i1, .string s1, .slice la1 l1.length lc1, .slice ka1 ks1.length kc1] 26 := by
    rw [← hW0]
    have hh := Block.new w [.int .i64 k1, .bool b1, .int .i64 i1, .string s1, .slice la1 l1.length lc1, .slice ka1 ks1.length kc1] 26
    have hh := hh.alloc (.cells #[.int .i64 k2, .bool b2, .int .i64 i2, .string s2, .slice la2 l2.length lc2, .slice ka2 ks2.length kc2] 26)
    simpa using hh
  have hbx2 : Block W0 (w.heap.size + 1) [.int .i64 k2, .bool b2, .int .i64 i2, .string s2, .slice la2 l2.length lc2, .slice ka2 ks2.length kc2] 26 := by
    rw [← hW0]
    have hh := Block.new (w.alloc (.cells #[.int .i64 k1, .bool b1, .int .i64 i1, .string s1, .slice la1 l1.length lc1, .slice ka1 ks1.length kc1] 26)) [.int .i64 k2, .bool b2, .int .i64 i2, .string s2, .slice la2 l2.length lc2, .slice ka2 ks2.length kc2] 26
    simpa using hh
  have hb0 : Below w.heap.size w W0 := by
    rw [← hW0]
    exact ((Below.refl w.heap.size w).alloc (by simp) _).alloc (by simp) _
  have hsz : w.heap.size + 1 + 1 ≤ W0.heap.size := by rw [← hW0]; simp
  have hlt1 : w.heap.size < w.heap.size + 1 + 1 := by omega
  have hlt2 : w.heap.size + 1 < w.heap.size + 1 + 1 := by omega
  have hbe : ∀ u : Ext (w.heap.size + 1 + 1) W0, Below w.heap.size w u.w := fun u => hb0.trans (u.below.mono (by omega))
  have CO := Lib.hid (fun u => ext_call u hsz (order_any _ _ _ _ B u.w 32 32 0 0 (HV1.out u.w (hbe u)) (HV2.out u.w (hbe u)) (HLE.out u.w (hbe u)) hm1 hm2))
  have e10 : ∀ u : Ext (w.heap.size + 1 + 1) W0, u.w.cell? ⟨w.heap.size, 0, none⟩ = some (.int .i64 k1) := fun u => u.cell hlt1 (hbx1.cell rfl)
  have e11 : ∀ u : Ext (w.heap.size + 1 + 1) W0, u.w.cell? ⟨w.heap.size, 1, none⟩ = some (.bool b1) := fun u => u.cell hlt1 (hbx1.cell rfl)
  have e12 : ∀ u : Ext (w.heap.size + 1 + 1) W0, u.w.cell? ⟨w.heap.size, 2, none⟩ = some (.int .i64 i1) := fun u => u.cell hlt1 (hbx1.cell rfl)
  have e13 : ∀ u : Ext (w.heap.size + 1 + 1) W0, u.w.cell? ⟨w.heap.size, 3, none⟩ = some (.string s1) := fun u => u.cell hlt1 (hbx1.cell rfl)
  have e14 : ∀ u : Ext (w.heap.size + 1 + 1) W0, u.w.cell? ⟨w.heap.size, 4, none⟩ = some (.slice la1 l1.length lc1) := fun u => u.cell hlt1 (hbx1.cell rfl)
  have e15 : ∀ u : Ext (w.heap.size + 1 + 1) W0, u.w.cell? ⟨w.heap.size, 5, none⟩ = some (.slice ka1 ks1.length kc1) := fun u => u.cell hlt1 (hbx1.cell rfl)
  have e20 : ∀ u : Ext (w.heap.size + 1 + 1) W0, u.w.cell? ⟨w.heap.size + 1, 0, none⟩ = some (.int .i64 k2) := fun u => u.cell hlt2 (hbx2.cell rfl)
  have e21 : ∀ u : Ext (w.heap.size + 1 + 1) W0, u.w.cell? ⟨w.heap.size + 1, 1, none⟩ = some (.bool b2) := fun u => u.cell hlt2 (hbx2.cell rfl)
  have e22 : ∀ u : Ext (w.heap.size + 1 + 1) W0, u.w.cell? ⟨w.heap.size + 1, 2, none⟩ = some (.int .i64 i2) := fun u => u.cell hlt2 (hbx2.cell rfl)
  have e23 : ∀ u : Ext (w.heap.size + 1 + 1) W0, u.w.cell? ⟨w.heap.size + 1, 3, none⟩ = some (.string s2) := fun u => u.cell hlt2 (hbx2.cell rfl)
  have e24 : ∀ u : Ext (w.heap.size + 1 + 1) W0, u.w.cell? ⟨w.heap.size + 1, 4, none⟩ = some (.slice la2 l2.length lc2) := fun u => u.cell hlt2 (hbx2.cell rfl)
  have e25 : ∀ u : Ext (w.heap.size + 1 + 1) W0, u.w.cell? ⟨w.heap.size + 1, 5, none⟩ = some (.slice ka2 ks2.length kc2) := fun u => u.cell hlt2 (hbx2.cell rfl)
  have HBE := Lib.hid hbe
  have HW0 := Lib.hid hW0
  obtain ⟨u0, hu0⟩ := Ext.start (w.heap.size + 1 + 1) W0
  have HU0 := Lib.hid hu0
  clear hbx1 hbx2 hb0 hsz hbe hW0 hu0
  show Calls Try.prog 26 #[.agg #[.int .i64 k1, .bool b1, .int .i64 i1, .string s1, .slice la1 l1.length lc1, .slice ka1 ks1.length kc1], .agg #[.int .i64 k2, .bool b2, .int .i64 i2, .string s2, .slice la2 l2.length lc2, .slice ka2 ks2.length kc2]] w _
  clear hV1 hV2 HV1 HV2 HLE hm1 hm2
  have HLV : Hid (lessV (.mk k1 b1 i1 s1 l1 ks1) (.mk k2 b2 i2 s2 l2 ks2) = if k1 ≠ k2 ∨ k1 < 1 ∨ 3 < k1 then 2 else ofB (decide (ordV (.mk k1 b1 i1 s1 l1 ks1) (.mk k2 b2 i2 s2 l2 ks2) < 0))) := Lib.hid rfl
  rw [HLV.out]
  clear HLV
  generalize ordV (.mk k1 b1 i1 s1 l1 ks1) (.mk k2 b2 i2 s2 l2 ks2) = x at *
  by_cases z1 : k1 = k2
  rotate_left
  · have d1 : (k1 == k2) = false := by simpa using z1
    have d2 : (k1 != k2) = true := by simpa using z1
    rw [if_pos (.inl z1)]
    clear z1
    go_enter Try.func26, Try.ntmps26
    go_wp2_with fail
    rw [HW0.out, HU0.out]
    go_wp2_with fail
    go_ret
    exact ⟨by rfl, HBE.out u0⟩
  subst z1
  have d1 : (k1 != k1) = false := by simp
  by_cases z2 : k1 < 1
  · rw [if_pos (.inr (.inl z2))]
    go_enter Try.func26, Try.ntmps26
    go_wp2_with fail
    rw [HW0.out, HU0.out]
    go_wp2_with fail
    go_ret
    exact ⟨by rfl, HBE.out u0⟩
  by_cases z3 : 3 < k1
  · rw [if_pos (.inr (.inr z3))]
    go_enter Try.func26, Try.ntmps26
    go_wp2_with fail
    rw [HW0.out, HU0.out]
    go_wp2_with fail
    go_ret
    exact ⟨by rfl, HBE.out u0⟩
  rw [if_neg (by omega)]
  go_enter Try.func26, Try.ntmps26
  go_wp2_with fail
  rw [HW0.out, HU0.out]
  go_wp2_with fail
  refine (CO.out u0).mono ?_
  rintro e w' ⟨rfl, u1, rfl⟩
  have H0 := Lib.hid (of_any (decide (x < 0)) u1.w)
  go_wp2_with fail
  refine H0.out.mono ?_
  rintro e w' ⟨rfl, rfl⟩
  go_wp2_with fail
  go_ret
  exact ⟨by rfl, HBE.out u1⟩
end Go.Proofs.Ytdkgjbjlpofieaa

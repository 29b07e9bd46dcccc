/- Layer 3: the law ValueCopies returns true. Conditions: the value weighs no more than 2^20. -/
import Derived.Test.YtdkgjbjlpofieaaSpoil
namespace Go.Proofs.Ytdkgjbjlpofieaa
open Go.RowKit
set_option linter.unusedSimpArgs false
set_option linter.unusedVariables false

set_option maxRecDepth 1000000 in
set_option maxHeartbeats 4000000 in
theorem copies_any (t : Vt) (cs : List Value) (B : Nat) (w : World) (hV : IsV B w cs t) (hB : B ≤ w.heap.size) (hwt : wtV t ≤ 1048576) :
    Calls Try.prog 5 #[.agg cs.toArray] w fun e w' => e = .returned (.bool true) ∧ Below w.heap.size w w' := by
  have hsm : sameV t t = true := (sameV_iff t t).2 rfl
  obtain ⟨k, b, i, s, l, ks⟩ := t
  have hv := hV
  unfold IsV at hv
  obtain ⟨la, lc, ka, kc, rfl, -⟩ := hv
  obtain ⟨T, hT⟩ : ∃ T, Vt.mk k b i s l ks = T := ⟨_, rfl⟩
  have HT := Lib.hid hT
  rw [hT] at hV hwt hsm
  clear hT
  obtain ⟨W0, hW0⟩ : ∃ W0, w.alloc (.cells #[.int .i64 k, .bool b, .int .i64 i, .string s, .slice la l.length lc, .slice ka ks.length kc] 26) = W0 := ⟨_, rfl⟩
  have hX : Block W0 w.heap.size [.int .i64 k, .bool b, .int .i64 i, .string s, .slice la l.length lc, .slice ka ks.length kc] 26 := by rw [← hW0]; exact Block.new _ _ _
  have hB0 : Below w.heap.size w W0 := by rw [← hW0]; exact (Below.refl _ _).alloc (Nat.le_refl _) _
  have hz0 : W0.heap.size = w.heap.size + 1 := by rw [← hW0]; simp
  have HV : ∀ u, Below w.heap.size w u → IsV B u [.int .i64 k, .bool b, .int .i64 i, .string s, .slice la l.length lc, .slice ka ks.length kc] T := fun u hb => IsV.below hb hB T _ hV
  have HVV := Lib.hid HV
  have HW0 := Lib.hid hW0
  have HX := Lib.hid hX
  have HB0 := Lib.hid hB0
  have HZ0 := Lib.hid hz0
  have HSM := Lib.hid hsm
  have HWT := Lib.hid hwt
  have HM := Lib.hid (May_any T _ B W0 (HV W0 hB0) (Nat.le_trans hB hB0.size))
  have x0 := hX.cell (i := 0) rfl
  have x1 := hX.cell (i := 1) rfl
  have x2 := hX.cell (i := 2) rfl
  have x3 := hX.cell (i := 3) rfl
  have x4 := hX.cell (i := 4) rfl
  have x5 := hX.cell (i := 5) rfl
  rw [← hW0] at x0 x1 x2 x3 x4 x5
  clear hX hB0 hz0 HV hV hW0 hsm hwt
  obtain ⟨mb, hmb⟩ : ∃ mb, mayB T = mb := ⟨_, rfl⟩
  rw [hmb] at HM
  clear hmb
  show Calls Try.prog 5 #[.agg #[.int .i64 k, .bool b, .int .i64 i, .string s, .slice la l.length lc, .slice ka ks.length kc]] w _
  cases mb with
  | false =>
    go_enter Try.func5, Try.ntmps5
    go_wp2_with fail
    rw [HW0.out]
    refine HM.out.mono ?_
    rintro e w1 ⟨rfl, hb1⟩
    have HB1 := Lib.hid (below_step HB0.out rfl (hb1))
    have HWK := Lib.hid (works_any w1)
    clear hb1
    go_wp2_with fail
    refine HWK.out.mono ?_
    rintro e w2 ⟨rfl, hb2⟩
    have HB2 := Lib.hid (below_step HB1.out rfl hb2)
    clear hb2
    go_wp2_with fail
    go_ret
    exact ⟨by rfl, HB2.out⟩
  | true =>
  go_enter Try.func5, Try.ntmps5
  go_wp2_with fail
  rw [HW0.out]
  refine HM.out.mono ?_
  rintro e w1 ⟨rfl, hb1⟩
  clear x0 x1 x2 x3 x4 x5
  have HX1 := Lib.hid (HX.out.below hb1 HX.out.lt)
  have HB1 := Lib.hid (below_step HB0.out rfl hb1)
  have HZ1 : Hid (w.heap.size + 1 ≤ w1.heap.size) := Lib.hid (by have := hb1.size; have := HZ0.out; omega)
  have HRC := Lib.hid (rcopy_any T _ B w1 (HVV.out w1 HB1.out) (Nat.le_trans hB HB1.out.size) HWT.out)
  clear hb1
  have x0 := HX1.out.cell (i := 0) rfl
  have x1 := HX1.out.cell (i := 1) rfl
  have x2 := HX1.out.cell (i := 2) rfl
  have x3 := HX1.out.cell (i := 3) rfl
  have x4 := HX1.out.cell (i := 4) rfl
  have x5 := HX1.out.cell (i := 5) rfl
  go_wp2_with fail
  refine HRC.out.mono ?_
  rintro e w2 ⟨cs2, bs2, rfl, hb2, ho2, hn2, hr2⟩
  clear x0 x1 x2 x3 x4 x5
  have hV2 := IsO.isV (B := w2.heap.size) _ _ _ ho2 (fun q hq => (hr2 q hq).2)
  rw [← HT.out] at ho2
  unfold IsO at ho2
  obtain ⟨la2, lc2, ka2, kc2, b12, b22, rfl, -, -, -, -⟩ := ho2
  obtain ⟨W3, hW3⟩ : ∃ W3, w2.alloc (.cells #[.int .i64 k, .bool b, .int .i64 i, .string s, .slice la2 l.length lc2, .slice ka2 ks.length kc2] 26) = W3 := ⟨_, rfl⟩
  have hl3 : Below w2.heap.size w2 W3 := by rw [← hW3]; exact (Below.refl _ _).alloc (Nat.le_refl _) _
  have hz3 : W3.heap.size = w2.heap.size + 1 := by rw [← hW3]; simp
  have hX3 : Block W3 w2.heap.size [.int .i64 k, .bool b, .int .i64 i, .string s, .slice la2 l.length lc2, .slice ka2 ks.length kc2] 26 := by rw [← hW3]; exact Block.new _ _ _
  have hV3 : IsV W3.heap.size W3 [.int .i64 k, .bool b, .int .i64 i, .string s, .slice la2 l.length lc2, .slice ka2 ks.length kc2] T := IsV.mono (by omega) _ _ (IsV.below hl3 (Nat.le_refl _) _ _ hV2)
  have HX2 := Lib.hid ((HX1.out.below hb2 HX1.out.lt).below hl3 (by have := HX1.out.lt; have := hb2.size; omega))
  have HB3 := Lib.hid ((below_step HB1.out rfl hb2).trans (hl3.mono (by have := HB1.out.size; have := hb2.size; omega)))
  have HZ3 : Hid (w.heap.size + 1 ≤ w2.heap.size ∧ W3.heap.size = w2.heap.size + 1) := Lib.hid ⟨by have := HZ1.out; have := hb2.size; omega, hz3⟩
  have HX3 := Lib.hid hX3
  have HV3 := Lib.hid hV3
  have HW3 := Lib.hid hW3
  have HPC := Lib.hid (copy_any T _ W3.heap.size W3 hV3 (Nat.le_refl _) HWT.out)
  have y0 := hX3.cell (i := 0) rfl
  have y1 := hX3.cell (i := 1) rfl
  have y2 := hX3.cell (i := 2) rfl
  have y3 := hX3.cell (i := 3) rfl
  have y4 := hX3.cell (i := 4) rfl
  have y5 := hX3.cell (i := 5) rfl
  rw [← hW3] at y0 y1 y2 y3 y4 y5
  clear hb2 hn2 hr2 hV2 hl3 hz3 hX3 hV3 hW3
  go_wp2_with fail
  rw [HW3.out]
  refine HPC.out.mono ?_
  rintro e w4 ⟨cs4, bs4, rfl, hb4, ho4, hn4, hr4⟩
  clear y0 y1 y2 y3 y4 y5
  have hV4 := IsO.isV (B := w4.heap.size) _ _ _ ho4 (fun q hq => (hr4 q hq).2)
  have ho := ho4
  rw [← HT.out] at ho
  unfold IsO at ho
  obtain ⟨la4, lc4, ka4, kc4, b14, b24, rfl, -, -, -, -⟩ := ho
  obtain ⟨W5, hW5⟩ : ∃ W5, w4.alloc (.cells #[.int .i64 k, .bool b, .int .i64 i, .string s, .slice la4 l.length lc4, .slice ka4 ks.length kc4] 26) = W5 := ⟨_, rfl⟩
  have hl5 : Below w4.heap.size w4 W5 := by rw [← hW5]; exact (Below.refl _ _).alloc (Nat.le_refl _) _
  have hz5 : W5.heap.size = w4.heap.size + 1 := by rw [← hW5]; simp
  have hb35 : Below W3.heap.size W3 W5 := hb4.trans (hl5.mono hb4.size)
  have hX5 : Block W5 w4.heap.size [.int .i64 k, .bool b, .int .i64 i, .string s, .slice la4 l.length lc4, .slice ka4 ks.length kc4] 26 := by rw [← hW5]; exact Block.new _ _ _
  have hX25 := HX2.out.below hb35 HX2.out.lt
  have HX35 := Lib.hid (HX3.out.below hb35 HX3.out.lt)
  have HV35 := Lib.hid (IsV.below hb35 (Nat.le_refl _) _ _ HV3.out)
  have HB5 := Lib.hid (HB3.out.trans (hb35.mono HB3.out.size))
  have HSA := Lib.hid (same_any T T _ _ W5.heap.size W5 (IsV.mono hl5.size _ _ (IsV.below hl5 (Nat.le_refl _) _ _ hV4)) (IsV.mono (by have := HB5.out.size; omega) _ _ (HVV.out W5 HB5.out)) (Nat.le_refl _))
  rw [HSM.out] at HSA
  have HO5 := Lib.hid (IsO.same _ _ _ ho4 (w' := W5) fun q hq => hl5.block q (hr4 q hq).2)
  have HR4 := Lib.hid (show _ ∧ (∀ q ∈ bs4, W3.heap.size ≤ q ∧ q < W5.heap.size) from ⟨hn4, fun q hq => by have := hr4 q hq; omega⟩)
  have HZ5 : Hid (W3.heap.size ≤ w4.heap.size ∧ W5.heap.size = w4.heap.size + 1 ∧ w4.heap.size ∉ bs4) := Lib.hid ⟨hb4.size, hz5, fun h => by have := (hr4 _ h).2; omega⟩
  have HX5 := Lib.hid hX5
  have HX25 := Lib.hid hX25
  have HW5 := Lib.hid hW5
  have y0 := hX5.cell (i := 0) rfl
  have y1 := hX5.cell (i := 1) rfl
  have y2 := hX5.cell (i := 2) rfl
  have y3 := hX5.cell (i := 3) rfl
  have y4 := hX5.cell (i := 4) rfl
  have y5 := hX5.cell (i := 5) rfl
  have x0 := hX25.cell (i := 0) rfl
  have x1 := hX25.cell (i := 1) rfl
  have x2 := hX25.cell (i := 2) rfl
  have x3 := hX25.cell (i := 3) rfl
  have x4 := hX25.cell (i := 4) rfl
  have x5 := hX25.cell (i := 5) rfl
  rw [← hW5] at y0 y1 y2 y3 y4 y5 x0 x1 x2 x3 x4 x5
  clear hb4 ho4 hn4 hr4 hV4 hl5 hz5 hb35 hX5 hX25 hW5
  go_wp2_with fail
  rw [HW5.out]
  refine HSA.out.mono ?_
  rintro e w6 ⟨rfl, hb6⟩
  clear y0 y1 y2 y3 y4 y5 x0 x1 x2 x3 x4 x5
  have HX6 := Lib.hid (HX5.out.below hb6 HX5.out.lt)
  have HX26 := Lib.hid (HX25.out.below hb6 HX25.out.lt)
  have HX36 := Lib.hid (HX35.out.below hb6 HX35.out.lt)
  have HV36 := Lib.hid (IsV.below hb6 (by have := HZ5.out; omega) _ _ HV35.out)
  have HB6 := Lib.hid (HB5.out.trans (hb6.mono HB5.out.size))
  have HSP := Lib.hid (spoil_any T _ bs4 w6 (IsO.same _ _ _ HO5.out fun q hq => hb6.block q (HR4.out.2 q hq).2) HR4.out.1 (fun q hq => by have := (HR4.out.2 q hq).2; have := hb6.size; omega))
  have HZ6 : Hid (W5.heap.size ≤ w6.heap.size) := Lib.hid hb6.size
  clear hb6
  have y0 := HX6.out.cell (i := 0) rfl
  have y1 := HX6.out.cell (i := 1) rfl
  have y2 := HX6.out.cell (i := 2) rfl
  have y3 := HX6.out.cell (i := 3) rfl
  have y4 := HX6.out.cell (i := 4) rfl
  have y5 := HX6.out.cell (i := 5) rfl
  go_wp2_with fail
  refine HSP.out.mono ?_
  rintro e w7 ⟨rfl, hk7⟩
  clear y0 y1 y2 y3 y4 y5
  have hb7 : Below W3.heap.size w6 w7 := hk7.below (fun q hq => (HR4.out.2 q hq).1) (by have := HZ5.out; have := HZ6.out; omega)
  have HX27 := Lib.hid (HX26.out.below hb7 (by have := HX2.out.lt; omega))
  have HX37 := Lib.hid (HX36.out.below hb7 (by have := HX3.out.lt; omega))
  have HV37 := Lib.hid (IsV.below hb7 (Nat.le_refl _) _ _ HV36.out)
  have HB7 := Lib.hid (HB6.out.trans (hb7.mono HB3.out.size))
  have hz7 : W3.heap.size ≤ w7.heap.size := by have := hk7.size; have := HZ5.out; have := HZ6.out; omega
  have HSA2 := Lib.hid (same_any T T _ _ w7.heap.size w7 (IsV.mono hz7 _ _ HV37.out) (IsV.mono (by have := HB7.out.size; omega) _ _ (HVV.out w7 HB7.out)) (Nat.le_refl _))
  rw [HSM.out] at HSA2
  clear hk7 hb7 hz7
  have y0 := HX37.out.cell (i := 0) rfl
  have y1 := HX37.out.cell (i := 1) rfl
  have y2 := HX37.out.cell (i := 2) rfl
  have y3 := HX37.out.cell (i := 3) rfl
  have y4 := HX37.out.cell (i := 4) rfl
  have y5 := HX37.out.cell (i := 5) rfl
  have x0 := HX27.out.cell (i := 0) rfl
  have x1 := HX27.out.cell (i := 1) rfl
  have x2 := HX27.out.cell (i := 2) rfl
  have x3 := HX27.out.cell (i := 3) rfl
  have x4 := HX27.out.cell (i := 4) rfl
  have x5 := HX27.out.cell (i := 5) rfl
  go_wp2_with fail
  refine HSA2.out.mono ?_
  rintro e w8 ⟨rfl, hb8⟩
  have HB8 := Lib.hid (HB7.out.trans (hb8.mono HB7.out.size))
  have HWK := Lib.hid (works_any w8)
  clear y0 y1 y2 y3 y4 y5 x0 x1 x2 x3 x4 x5
  clear hb8
  go_wp2_with fail
  refine HWK.out.mono ?_
  rintro e w9 ⟨rfl, hb9⟩
  have HB9 := Lib.hid (HB8.out.trans (hb9.mono HB8.out.size))
  clear hb9
  go_wp2_with fail
  go_ret
  exact ⟨by rfl, HB9.out⟩
end Go.Proofs.Ytdkgjbjlpofieaa

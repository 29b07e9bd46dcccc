/- Parts X23 of this seat (pruned, scripts that are alike kept once as default arguments: q1, q2, ..). Conditions: each says its own. -/
import Derived.Test.YtndhpdclpgemfaaGreatW5
namespace Go.Proofs.YtndhpdclpgemfaaGreat
open Go.RowKit Go.Shelf
set_option linter.unusedSimpArgs false
set_option linter.unusedVariables false
set_option maxRecDepth 100000
set_option maxRecDepth 100000 in
theorem Sg660070 {P : Prop} (h : P := by
 cases bt with
 | false =>
  go_enter Tryz.func194, Tryz.ntmps194
  go_wp2_with fail
  (try rw [HW0.out, HU0.out])
  refine (HWB.out 60 (by omega) _ _ HB0.out (by have := HLL.out; have := HLT.out; have := HKs.out; have := HIL.out true; have := HIL.out false; have h9 : vr.data.toList.length = vr.size := (by simp); (try simp only [List.length_append, List.length_cons, List.length_nil]); omega)).mono ?_
  rintro e w2 ⟨rfl, v1, rfl, hbd⟩
  have HF1 := Lib.hid hbd
  clear hbd
  go_wp2_with fail
  (try rw [HW0.out, HU0.out])
  refine (HWB.out 45 (by omega) _ _ HF1.out (by have := HLL.out; have := HLT.out; have := HKs.out; have := HIL.out true; have := HIL.out false; have h9 : vr.data.toList.length = vr.size := (by simp); (try simp only [List.length_append, List.length_cons, List.length_nil]); omega)).mono ?_
  rintro e w2 ⟨rfl, v2, rfl, hbd⟩
  have HF2 := Lib.hid hbd
  clear hbd
  go_wp2_with fail
  (try rw [HW0.out, HU0.out])
  refine (HWS.out _ _ _ HF2.out (by rw [HS.out]; have := HLL.out; have := HLT.out; have := HKs.out; have := HIL.out true; have := HIL.out false; have h9 : vr.data.toList.length = vr.size := (by simp); (try simp only [List.length_append, List.length_cons, List.length_nil]); omega)).mono ?_
  rintro e w2 ⟨rfl, v3, rfl, hbd⟩
  have HF3 := Lib.hid hbd
  rw [HSL.out] at HF3
  clear hbd
  go_wp2_with fail
  refine (HKEY.out _ _ HF3.out).mono ?_
  rintro e w2 ⟨rfl, v4, rfl, hbd⟩
  have HF4 := Lib.hid hbd
  clear hbd
  go_wp2_with fail
  refine (HWS.out _ _ _ HF4.out (by rw [HKSZ.out]; have := HLL.out; have := HLT.out; have := HKs.out; have := HIL.out true; have := HIL.out false; have h9 : vr.data.toList.length = vr.size := (by simp); (try simp only [List.length_append, List.length_cons, List.length_nil]); omega)).mono ?_
  rintro e w2 ⟨rfl, v5, rfl, hbd⟩
  have HF5 := Lib.hid hbd
  rw [HKL.out] at HF5
  clear hbd
  go_wp2_with fail
  refine (HIN.out true _ _ HF5.out (by have := HLL.out; have := HLT.out; have := HKs.out; have := HIL.out true; have := HIL.out false; have h9 : vr.data.toList.length = vr.size := (by simp); (try simp only [List.length_append, List.length_cons, List.length_nil]); omega)).mono ?_
  rintro e w2 ⟨rfl, v6, rfl, hbd⟩
  have HF6 := Lib.hid hbd
  clear hbd
  go_wp2_with fail
  (try rw [HW0.out, HU0.out])
  refine (HWB.out 93 (by omega) _ _ HF6.out (by have := HLL.out; have := HLT.out; have := HKs.out; have := HIL.out true; have := HIL.out false; have h9 : vr.data.toList.length = vr.size := (by simp); (try simp only [List.length_append, List.length_cons, List.length_nil]); omega)).mono ?_
  rintro e w2 ⟨rfl, v7, rfl, hbd⟩
  have HF7 := Lib.hid hbd
  clear hbd
  go_wp2_with fail
  (try rw [HW0.out, HU0.out])
  refine (HWB.out 45 (by omega) _ _ HF7.out (by have := HLL.out; have := HLT.out; have := HKs.out; have := HIL.out true; have := HIL.out false; have h9 : vr.data.toList.length = vr.size := (by simp); (try simp only [List.length_append, List.length_cons, List.length_nil]); omega)).mono ?_
  rintro e w2 ⟨rfl, v8, rfl, hbd⟩
  have HF8 := Lib.hid hbd
  clear hbd
  go_wp2_with fail
  first | go_end0 | ((try simp only [Exit.inBlock, Exit.then]); refine bodyPost_ret (results_none rfl _ _ _) rfl ?_)
  exact ⟨rfl, HWR.out v8 _ (by have h := HF8.out; rw [← HX.out]; simpa [HD.out] using h)⟩
 | true =>
  first
  |(
   guard_hyp z660070a
   by_cases hk : nk = 0
   ·have HNK : Hid (nk = 0) := Lib.hid hk
    have k1 : decide ((0 : Int) < (nk : Int)) = false := by simp; omega
    have k2 : decide (0 < nk) = false := by simp; omega
    clear hk
    go_enter Tryz.func194, Tryz.ntmps194
    go_wp2_with fail
    (try rw [HW0.out, HU0.out])
    refine (HWB.out 60 (by omega) _ _ HB0.out (by have := HLL.out; have := HLT.out; have := HKs.out; have := HIL.out true; have := HIL.out false; have h9 : vr.data.toList.length = vr.size := (by simp); (try simp only [List.length_append, List.length_cons, List.length_nil]); omega)).mono ?_
    rintro e w2 ⟨rfl, v1, rfl, hbd⟩
    have HF1 := Lib.hid hbd
    clear hbd
    go_wp2_with fail
    (try rw [HW0.out, HU0.out])
    refine (HWB.out 45 (by omega) _ _ HF1.out (by have := HLL.out; have := HLT.out; have := HKs.out; have := HIL.out true; have := HIL.out false; have h9 : vr.data.toList.length = vr.size := (by simp); (try simp only [List.length_append, List.length_cons, List.length_nil]); omega)).mono ?_
    rintro e w2 ⟨rfl, v2, rfl, hbd⟩
    have HF2 := Lib.hid hbd
    clear hbd
    go_wp2_with fail
    (try rw [HW0.out, HU0.out])
    refine (HWB.out 45 (by omega) _ _ HF2.out (by have := HLL.out; have := HLT.out; have := HKs.out; have := HIL.out true; have := HIL.out false; have h9 : vr.data.toList.length = vr.size := (by simp); (try simp only [List.length_append, List.length_cons, List.length_nil]); omega)).mono ?_
    rintro e w2 ⟨rfl, v3, rfl, hbd⟩
    have HF3 := Lib.hid hbd
    clear hbd
    go_wp2_with fail
    first | go_end0 | ((try simp only [Exit.inBlock, Exit.then]); refine bodyPost_ret (results_none rfl _ _ _) rfl ?_)
    exact ⟨rfl, HWR.out v3 _ (by have h := HF3.out; rw [← HX.out]; simpa [HD.out, HNK.out] using h)⟩
   ·have HNK : Hid (¬ nk = 0) := Lib.hid hk
    have k1 : decide ((0 : Int) < (nk : Int)) = true := by simp; omega
    have k2 : decide (0 < nk) = true := by simp; omega
    clear hk
    go_enter Tryz.func194, Tryz.ntmps194
    go_wp2_with fail
    (try rw [HW0.out, HU0.out])
    refine (HWB.out 60 (by omega) _ _ HB0.out (by have := HLL.out; have := HLT.out; have := HKs.out; have := HIL.out true; have := HIL.out false; have h9 : vr.data.toList.length = vr.size := (by simp); (try simp only [List.length_append, List.length_cons, List.length_nil]); omega)).mono ?_
    rintro e w2 ⟨rfl, v1, rfl, hbd⟩
    have HF1 := Lib.hid hbd
    clear hbd
    go_wp2_with fail
    (try rw [HW0.out, HU0.out])
    refine (HWB.out 45 (by omega) _ _ HF1.out (by have := HLL.out; have := HLT.out; have := HKs.out; have := HIL.out true; have := HIL.out false; have h9 : vr.data.toList.length = vr.size := (by simp); (try simp only [List.length_append, List.length_cons, List.length_nil]); omega)).mono ?_
    rintro e w2 ⟨rfl, v2, rfl, hbd⟩
    have HF2 := Lib.hid hbd
    clear hbd
    go_wp2_with fail
    (try rw [HW0.out, HU0.out])
    refine (HWS.out _ _ _ HF2.out (by rw [HS.out]; have := HLL.out; have := HLT.out; have := HKs.out; have := HIL.out true; have := HIL.out false; have h9 : vr.data.toList.length = vr.size := (by simp); (try simp only [List.length_append, List.length_cons, List.length_nil]); omega)).mono ?_
    rintro e w2 ⟨rfl, v3, rfl, hbd⟩
    have HF3 := Lib.hid hbd
    rw [HSL.out] at HF3
    clear hbd
    go_wp2_with fail
    refine (HIN.out false _ _ HF3.out (by have := HLL.out; have := HLT.out; have := HKs.out; have := HIL.out true; have := HIL.out false; have h9 : vr.data.toList.length = vr.size := (by simp); (try simp only [List.length_append, List.length_cons, List.length_nil]); omega)).mono ?_
    rintro e w2 ⟨rfl, v4, rfl, hbd⟩
    have HF4 := Lib.hid hbd
    clear hbd
    go_wp2_with fail
    (try rw [HW0.out, HU0.out])
    refine (HWB.out 93 (by omega) _ _ HF4.out (by have := HLL.out; have := HLT.out; have := HKs.out; have := HIL.out true; have := HIL.out false; have h9 : vr.data.toList.length = vr.size := (by simp); (try simp only [List.length_append, List.length_cons, List.length_nil]); omega)).mono ?_
    rintro e w2 ⟨rfl, v5, rfl, hbd⟩
    have HF5 := Lib.hid hbd
    clear hbd
    go_wp2_with fail
    (try rw [HW0.out, HU0.out])
    refine (HWB.out 45 (by omega) _ _ HF5.out (by have := HLL.out; have := HLT.out; have := HKs.out; have := HIL.out true; have := HIL.out false; have h9 : vr.data.toList.length = vr.size := (by simp); (try simp only [List.length_append, List.length_cons, List.length_nil]); omega)).mono ?_
    rintro e w2 ⟨rfl, v6, rfl, hbd⟩
    have HF6 := Lib.hid hbd
    clear hbd
    go_wp2_with fail
    first | go_end0 | ((try simp only [Exit.inBlock, Exit.then]); refine bodyPost_ret (results_none rfl _ _ _) rfl ?_)
    exact ⟨rfl, HWR.out v6 _ (by have h := HF6.out; rw [← HX.out]; simpa [HD.out, HNK.out] using h)⟩)
  |(
   go_enter Tryz.func194, Tryz.ntmps194
   go_wp2_with fail
   (try rw [HW0.out, HU0.out])
   refine (HWB.out 60 (by omega) _ _ HB0.out (by have := HLL.out; have := HLT.out; have := HKs.out; have := HIL.out true; have := HIL.out false; have h9 : vr.data.toList.length = vr.size := (by simp); (try simp only [List.length_append, List.length_cons, List.length_nil]); omega)).mono ?_
   rintro e w2 ⟨rfl, v1, rfl, hbd⟩
   have HF1 := Lib.hid hbd
   clear hbd
   go_wp2_with fail
   (try rw [HW0.out, HU0.out])
   refine (HWB.out 45 (by omega) _ _ HF1.out (by have := HLL.out; have := HLT.out; have := HKs.out; have := HIL.out true; have := HIL.out false; have h9 : vr.data.toList.length = vr.size := (by simp); (try simp only [List.length_append, List.length_cons, List.length_nil]); omega)).mono ?_
   rintro e w2 ⟨rfl, v2, rfl, hbd⟩
   have HF2 := Lib.hid hbd
   clear hbd
   go_wp2_with fail
   (try rw [HW0.out, HU0.out])
   refine (HWS.out _ _ _ HF2.out (by rw [HS.out]; have := HLL.out; have := HLT.out; have := HKs.out; have := HIL.out true; have := HIL.out false; have h9 : vr.data.toList.length = vr.size := (by simp); (try simp only [List.length_append, List.length_cons, List.length_nil]); omega)).mono ?_
   rintro e w2 ⟨rfl, v3, rfl, hbd⟩
   have HF3 := Lib.hid hbd
   rw [HSL.out] at HF3
   clear hbd
   go_wp2_with fail
   refine (HIN.out true _ _ HF3.out (by have := HLL.out; have := HLT.out; have := HKs.out; have := HIL.out true; have := HIL.out false; have h9 : vr.data.toList.length = vr.size := (by simp); (try simp only [List.length_append, List.length_cons, List.length_nil]); omega)).mono ?_
   rintro e w2 ⟨rfl, v4, rfl, hbd⟩
   have HF4 := Lib.hid hbd
   clear hbd
   go_wp2_with fail
   (try rw [HW0.out, HU0.out])
   refine (HWB.out 93 (by omega) _ _ HF4.out (by have := HLL.out; have := HLT.out; have := HKs.out; have := HIL.out true; have := HIL.out false; have h9 : vr.data.toList.length = vr.size := (by simp); (try simp only [List.length_append, List.length_cons, List.length_nil]); omega)).mono ?_
   rintro e w2 ⟨rfl, v5, rfl, hbd⟩
   have HF5 := Lib.hid hbd
   clear hbd
   go_wp2_with fail
   (try rw [HW0.out, HU0.out])
   refine (HWB.out 45 (by omega) _ _ HF5.out (by have := HLL.out; have := HLT.out; have := HKs.out; have := HIL.out true; have := HIL.out false; have h9 : vr.data.toList.length = vr.size := (by simp); (try simp only [List.length_append, List.length_cons, List.length_nil]); omega)).mono ?_
   rintro e w2 ⟨rfl, v6, rfl, hbd⟩
   have HF6 := Lib.hid hbd
   clear hbd
   go_wp2_with fail
   first | go_end0 | ((try simp only [Exit.inBlock, Exit.then]); refine bodyPost_ret (results_none rfl _ _ _) rfl ?_)
   exact ⟨rfl, HWR.out v6 _ (by have h := HF6.out; rw [← HX.out]; simpa [HD.out] using h)⟩)) : P := h
theorem Sg974675 {P : Prop} (h : P := by
 first
 |(
  guard_hyp z974675b
  have d1 : (dir == 1) = false := by simpa using hd1
  have d0 : (dir == 0) = false := by simpa using hd0
  have HD : Hid (¬ dir = 1 ∧ ¬ dir = 0) := Lib.hid ⟨hd1, hd0⟩
  clear hd1 hd0)
 |(
  have HD : Hid (dir = 0) := Lib.hid hd0
  subst hd0)
 cases bv with
 | false =>
  exact Sg335052
 | true =>
  have z335052a := trivial
  exact Sg335052) : P := h
set_option maxRecDepth 100000 in
theorem Sg335052 {P : Prop} (h : P := by
 cases bt with
 | false =>
  go_enter Tryz.func194, Tryz.ntmps194
  go_wp2_with fail
  (try rw [HW0.out, HU0.out])
  refine (HWB.out 45 (by omega) _ _ HB0.out (by have := HLL.out; have := HLT.out; have := HKs.out; have := HIL.out true; have := HIL.out false; have h9 : vr.data.toList.length = vr.size := (by simp); (try simp only [List.length_append, List.length_cons, List.length_nil]); omega)).mono ?_
  rintro e w2 ⟨rfl, v1, rfl, hbd⟩
  have HF1 := Lib.hid hbd
  clear hbd
  go_wp2_with fail
  (try rw [HW0.out, HU0.out])
  refine (HWS.out _ _ _ HF1.out (by rw [HS.out]; have := HLL.out; have := HLT.out; have := HKs.out; have := HIL.out true; have := HIL.out false; have h9 : vr.data.toList.length = vr.size := (by simp); (try simp only [List.length_append, List.length_cons, List.length_nil]); omega)).mono ?_
  rintro e w2 ⟨rfl, v2, rfl, hbd⟩
  have HF2 := Lib.hid hbd
  rw [HSL.out] at HF2
  clear hbd
  go_wp2_with fail
  refine (HKEY.out _ _ HF2.out).mono ?_
  rintro e w2 ⟨rfl, v3, rfl, hbd⟩
  have HF3 := Lib.hid hbd
  clear hbd
  go_wp2_with fail
  refine (HWS.out _ _ _ HF3.out (by rw [HKSZ.out]; have := HLL.out; have := HLT.out; have := HKs.out; have := HIL.out true; have := HIL.out false; have h9 : vr.data.toList.length = vr.size := (by simp); (try simp only [List.length_append, List.length_cons, List.length_nil]); omega)).mono ?_
  rintro e w2 ⟨rfl, v4, rfl, hbd⟩
  have HF4 := Lib.hid hbd
  rw [HKL.out] at HF4
  clear hbd
  go_wp2_with fail
  refine (HIN.out true _ _ HF4.out (by have := HLL.out; have := HLT.out; have := HKs.out; have := HIL.out true; have := HIL.out false; have h9 : vr.data.toList.length = vr.size := (by simp); (try simp only [List.length_append, List.length_cons, List.length_nil]); omega)).mono ?_
  rintro e w2 ⟨rfl, v5, rfl, hbd⟩
  have HF5 := Lib.hid hbd
  clear hbd
  go_wp2_with fail
  (try rw [HW0.out, HU0.out])
  refine (HWB.out 93 (by omega) _ _ HF5.out (by have := HLL.out; have := HLT.out; have := HKs.out; have := HIL.out true; have := HIL.out false; have h9 : vr.data.toList.length = vr.size := (by simp); (try simp only [List.length_append, List.length_cons, List.length_nil]); omega)).mono ?_
  rintro e w2 ⟨rfl, v6, rfl, hbd⟩
  have HF6 := Lib.hid hbd
  clear hbd
  go_wp2_with fail
  (try rw [HW0.out, HU0.out])
  refine (HWB.out 45 (by omega) _ _ HF6.out (by have := HLL.out; have := HLT.out; have := HKs.out; have := HIL.out true; have := HIL.out false; have h9 : vr.data.toList.length = vr.size := (by simp); (try simp only [List.length_append, List.length_cons, List.length_nil]); omega)).mono ?_
  rintro e w2 ⟨rfl, v7, rfl, hbd⟩
  have HF7 := Lib.hid hbd
  clear hbd
  go_wp2_with fail
  first
  |(
   guard_hyp z974675a
   (try rw [HW0.out, HU0.out])
   refine (HWB.out 62 (by omega) _ _ HF7.out (by have := HLL.out; have := HLT.out; have := HKs.out; have := HIL.out true; have := HIL.out false; have h9 : vr.data.toList.length = vr.size := (by simp); (try simp only [List.length_append, List.length_cons, List.length_nil]); omega)).mono ?_
   rintro e w2 ⟨rfl, v8, rfl, hbd⟩
   have HF8 := Lib.hid hbd
   clear hbd
   go_wp2_with fail)
  | skip
  first | go_end0 | ((try simp only [Exit.inBlock, Exit.then]); refine bodyPost_ret (results_none rfl _ _ _) rfl ?_)
  first
  | (guard_hyp z974675a; exact ⟨rfl, HWR.out v8 _ (by have h := HF8.out; rw [← HX.out]; simpa [HD.out] using h)⟩)
  | (exact ⟨rfl, HWR.out v7 _ (by have h := HF7.out; rw [← HX.out]; simpa [HD.out] using h)⟩)
 | true =>
  first
  |(
   guard_hyp z335052a
   by_cases hk : nk = 0
   ·have HNK : Hid (nk = 0) := Lib.hid hk
    have k1 : decide ((0 : Int) < (nk : Int)) = false := by simp; omega
    have k2 : decide (0 < nk) = false := by simp; omega
    clear hk
    go_enter Tryz.func194, Tryz.ntmps194
    go_wp2_with fail
    (try rw [HW0.out, HU0.out])
    refine (HWB.out 45 (by omega) _ _ HB0.out (by have := HLL.out; have := HLT.out; have := HKs.out; have := HIL.out true; have := HIL.out false; have h9 : vr.data.toList.length = vr.size := (by simp); (try simp only [List.length_append, List.length_cons, List.length_nil]); omega)).mono ?_
    rintro e w2 ⟨rfl, v1, rfl, hbd⟩
    have HF1 := Lib.hid hbd
    clear hbd
    go_wp2_with fail
    (try rw [HW0.out, HU0.out])
    refine (HWB.out 45 (by omega) _ _ HF1.out (by have := HLL.out; have := HLT.out; have := HKs.out; have := HIL.out true; have := HIL.out false; have h9 : vr.data.toList.length = vr.size := (by simp); (try simp only [List.length_append, List.length_cons, List.length_nil]); omega)).mono ?_
    rintro e w2 ⟨rfl, v2, rfl, hbd⟩
    have HF2 := Lib.hid hbd
    clear hbd
    go_wp2_with fail
    first
    |(
     guard_hyp z974675a
     (try rw [HW0.out, HU0.out])
     refine (HWB.out 62 (by omega) _ _ HF2.out (by have := HLL.out; have := HLT.out; have := HKs.out; have := HIL.out true; have := HIL.out false; have h9 : vr.data.toList.length = vr.size := (by simp); (try simp only [List.length_append, List.length_cons, List.length_nil]); omega)).mono ?_
     rintro e w2 ⟨rfl, v3, rfl, hbd⟩
     have HF3 := Lib.hid hbd
     clear hbd
     go_wp2_with fail)
    | skip
    first | go_end0 | ((try simp only [Exit.inBlock, Exit.then]); refine bodyPost_ret (results_none rfl _ _ _) rfl ?_)
    first
    | (guard_hyp z974675a; exact ⟨rfl, HWR.out v3 _ (by have h := HF3.out; rw [← HX.out]; simpa [HD.out, HNK.out] using h)⟩)
    | (exact ⟨rfl, HWR.out v2 _ (by have h := HF2.out; rw [← HX.out]; simpa [HD.out, HNK.out] using h)⟩)
   ·have HNK : Hid (¬ nk = 0) := Lib.hid hk
    have k1 : decide ((0 : Int) < (nk : Int)) = true := by simp; omega
    have k2 : decide (0 < nk) = true := by simp; omega
    clear hk
    go_enter Tryz.func194, Tryz.ntmps194
    go_wp2_with fail
    (try rw [HW0.out, HU0.out])
    refine (HWB.out 45 (by omega) _ _ HB0.out (by have := HLL.out; have := HLT.out; have := HKs.out; have := HIL.out true; have := HIL.out false; have h9 : vr.data.toList.length = vr.size := (by simp); (try simp only [List.length_append, List.length_cons, List.length_nil]); omega)).mono ?_
    rintro e w2 ⟨rfl, v1, rfl, hbd⟩
    have HF1 := Lib.hid hbd
    clear hbd
    go_wp2_with fail
    (try rw [HW0.out, HU0.out])
    refine (HWS.out _ _ _ HF1.out (by rw [HS.out]; have := HLL.out; have := HLT.out; have := HKs.out; have := HIL.out true; have := HIL.out false; have h9 : vr.data.toList.length = vr.size := (by simp); (try simp only [List.length_append, List.length_cons, List.length_nil]); omega)).mono ?_
    rintro e w2 ⟨rfl, v2, rfl, hbd⟩
    have HF2 := Lib.hid hbd
    rw [HSL.out] at HF2
    clear hbd
    go_wp2_with fail
    refine (HIN.out false _ _ HF2.out (by have := HLL.out; have := HLT.out; have := HKs.out; have := HIL.out true; have := HIL.out false; have h9 : vr.data.toList.length = vr.size := (by simp); (try simp only [List.length_append, List.length_cons, List.length_nil]); omega)).mono ?_
    rintro e w2 ⟨rfl, v3, rfl, hbd⟩
    have HF3 := Lib.hid hbd
    clear hbd
    go_wp2_with fail
    (try rw [HW0.out, HU0.out])
    refine (HWB.out 93 (by omega) _ _ HF3.out (by have := HLL.out; have := HLT.out; have := HKs.out; have := HIL.out true; have := HIL.out false; have h9 : vr.data.toList.length = vr.size := (by simp); (try simp only [List.length_append, List.length_cons, List.length_nil]); omega)).mono ?_
    rintro e w2 ⟨rfl, v4, rfl, hbd⟩
    have HF4 := Lib.hid hbd
    clear hbd
    go_wp2_with fail
    (try rw [HW0.out, HU0.out])
    refine (HWB.out 45 (by omega) _ _ HF4.out (by have := HLL.out; have := HLT.out; have := HKs.out; have := HIL.out true; have := HIL.out false; have h9 : vr.data.toList.length = vr.size := (by simp); (try simp only [List.length_append, List.length_cons, List.length_nil]); omega)).mono ?_
    rintro e w2 ⟨rfl, v5, rfl, hbd⟩
    have HF5 := Lib.hid hbd
    clear hbd
    go_wp2_with fail
    first
    |(
     guard_hyp z974675a
     (try rw [HW0.out, HU0.out])
     refine (HWB.out 62 (by omega) _ _ HF5.out (by have := HLL.out; have := HLT.out; have := HKs.out; have := HIL.out true; have := HIL.out false; have h9 : vr.data.toList.length = vr.size := (by simp); (try simp only [List.length_append, List.length_cons, List.length_nil]); omega)).mono ?_
     rintro e w2 ⟨rfl, v6, rfl, hbd⟩
     have HF6 := Lib.hid hbd
     clear hbd
     go_wp2_with fail)
    | skip
    first | go_end0 | ((try simp only [Exit.inBlock, Exit.then]); refine bodyPost_ret (results_none rfl _ _ _) rfl ?_)
    first
    | (guard_hyp z974675a; exact ⟨rfl, HWR.out v6 _ (by have h := HF6.out; rw [← HX.out]; simpa [HD.out, HNK.out] using h)⟩)
    | (exact ⟨rfl, HWR.out v5 _ (by have h := HF5.out; rw [← HX.out]; simpa [HD.out, HNK.out] using h)⟩))
  |(
   go_enter Tryz.func194, Tryz.ntmps194
   go_wp2_with fail
   (try rw [HW0.out, HU0.out])
   refine (HWB.out 45 (by omega) _ _ HB0.out (by have := HLL.out; have := HLT.out; have := HKs.out; have := HIL.out true; have := HIL.out false; have h9 : vr.data.toList.length = vr.size := (by simp); (try simp only [List.length_append, List.length_cons, List.length_nil]); omega)).mono ?_
   rintro e w2 ⟨rfl, v1, rfl, hbd⟩
   have HF1 := Lib.hid hbd
   clear hbd
   go_wp2_with fail
   (try rw [HW0.out, HU0.out])
   refine (HWS.out _ _ _ HF1.out (by rw [HS.out]; have := HLL.out; have := HLT.out; have := HKs.out; have := HIL.out true; have := HIL.out false; have h9 : vr.data.toList.length = vr.size := (by simp); (try simp only [List.length_append, List.length_cons, List.length_nil]); omega)).mono ?_
   rintro e w2 ⟨rfl, v2, rfl, hbd⟩
   have HF2 := Lib.hid hbd
   rw [HSL.out] at HF2
   clear hbd
   go_wp2_with fail
   refine (HIN.out true _ _ HF2.out (by have := HLL.out; have := HLT.out; have := HKs.out; have := HIL.out true; have := HIL.out false; have h9 : vr.data.toList.length = vr.size := (by simp); (try simp only [List.length_append, List.length_cons, List.length_nil]); omega)).mono ?_
   rintro e w2 ⟨rfl, v3, rfl, hbd⟩
   have HF3 := Lib.hid hbd
   clear hbd
   go_wp2_with fail
   (try rw [HW0.out, HU0.out])
   refine (HWB.out 93 (by omega) _ _ HF3.out (by have := HLL.out; have := HLT.out; have := HKs.out; have := HIL.out true; have := HIL.out false; have h9 : vr.data.toList.length = vr.size := (by simp); (try simp only [List.length_append, List.length_cons, List.length_nil]); omega)).mono ?_
   rintro e w2 ⟨rfl, v4, rfl, hbd⟩
   have HF4 := Lib.hid hbd
   clear hbd
   go_wp2_with fail
   (try rw [HW0.out, HU0.out])
   refine (HWB.out 45 (by omega) _ _ HF4.out (by have := HLL.out; have := HLT.out; have := HKs.out; have := HIL.out true; have := HIL.out false; have h9 : vr.data.toList.length = vr.size := (by simp); (try simp only [List.length_append, List.length_cons, List.length_nil]); omega)).mono ?_
   rintro e w2 ⟨rfl, v5, rfl, hbd⟩
   have HF5 := Lib.hid hbd
   clear hbd
   go_wp2_with fail
   first
   |(
    guard_hyp z974675a
    (try rw [HW0.out, HU0.out])
    refine (HWB.out 62 (by omega) _ _ HF5.out (by have := HLL.out; have := HLT.out; have := HKs.out; have := HIL.out true; have := HIL.out false; have h9 : vr.data.toList.length = vr.size := (by simp); (try simp only [List.length_append, List.length_cons, List.length_nil]); omega)).mono ?_
    rintro e w2 ⟨rfl, v6, rfl, hbd⟩
    have HF6 := Lib.hid hbd
    clear hbd
    go_wp2_with fail)
   | skip
   first | go_end0 | ((try simp only [Exit.inBlock, Exit.then]); refine bodyPost_ret (results_none rfl _ _ _) rfl ?_)
   first
   | (guard_hyp z974675a; exact ⟨rfl, HWR.out v6 _ (by have h := HF6.out; rw [← HX.out]; simpa [HD.out] using h)⟩)
   | (exact ⟨rfl, HWR.out v5 _ (by have h := HF5.out; rw [← HX.out]; simpa [HD.out] using h)⟩))) : P := h
set_option maxHeartbeats 32000000 in
theorem edgePut_any (o : Ept) (cs : List Value) (Bm B b : Nat) (l : List UInt8) (w : World) (hX : IsEp Bm w cs o) (hBm : Bm ≤ B) (h0 : 0 < B) (hB : B ≤ w.heap.size) (hbld : Bld B b l w) (hML : ML w) (hM : edgeM o = true) (hw : wtEp o ≤ 4194304) (hl : l.length + 64 * wtEp o ≤ 70368744177664) :
    Calls Tryz.prog 194 #[.agg cs.toArray, .pointer (some ⟨b, 0, none⟩)] w fun e w' => e = .returned (.tuple #[]) ∧ Wrote B b (l ++ edgeX o) w w' := by
 obtain ⟨vr, ty, dir, ks, vs⟩ := o
 obtain ⟨ka, kc, va, vc, rfl, hdir, hKA, hKS, hVA, hVS⟩ := hX
 simp only at hKA hKS hVA hVS hdir
 have hPM : propsM ks vs = true := by unfold edgeM at hM; simp only [Bool.and_eq_true] at hM; exact hM.2.2.2.2
 have hwk : wtS ks ≤ 4194304 := by simp only [wtEp] at hw; omega
 have hwv : wtXs vs ≤ 4194304 := by simp only [wtEp] at hw; omega
 have hvs : vr.size ≤ 4194304 := by simp only [wtEp] at hw; omega
 have hts : ty.size ≤ 4194304 := by simp only [wtEp] at hw; omega
 have hl2 : l.length + 64 * (1 + vr.size + ty.size + wtS ks + wtXs vs) ≤ 70368744177664 := by simp only [wtEp] at hl; exact hl
 simp only
 obtain ⟨nk, hnk⟩ := nam ks.length
 have hkl := hKA.1
 rw [hnk] at hkl ⊢
 obtain ⟨W0, u0, hW0, hu0, hsz, hbd0, hbe, hwr, hce⟩ := box_kp w hB hbld [.string vr, .string ty, .int .i64 dir, .slice ka nk kc, .slice va vs.length vc] 215 (by decide)
 obtain ⟨e0, e1, e2, e3, e4⟩ := ge5 hce
 obtain ⟨x0, x1, x2, x3, x4⟩ := gx5 hce u0
 rw [← hu0, ← hW0] at x0 x1 x2 x3 x4
 have HWB := Lib.hid (fun (x : Nat) (hx0 : x < 256) (v : Kp B b W0) (Lc : List UInt8) (hbl : Bld B b Lc v.w) (hx : Lc.length + 1 ≤ 140737488355328) => kp_write v (bld_byte B b Lc x v.w hbl hx (Nat.le_trans hB (hbe v).size) hx0))
 have HWS := Lib.hid (fun (x : ByteArray) (v : Kp B b W0) (Lc : List UInt8) (hbl : Bld B b Lc v.w) (hx : Lc.length + x.size ≤ 140737488355328) => kp_write v (bld_string B b Lc x v.w hbl hx (Nat.le_trans hB (hbe v).size)))
 have HKEY := Lib.hid (fun (v : Kp B b W0) (Lc : List UInt8) (hbl : Bld B b Lc v.w) => kp_grow v hsz hbl (skeyT_any ty v.w (by omega) (hML.kp (hbe v) h0)))
 have HIN := Lib.hid (fun (a : Bool) (u : Kp B b W0) (Lc : List UInt8) (hbl : Bld B b Lc u.w) (hLc : Lc.length + 20 + 6 * wtS ks + 64 * wtXs vs ≤ 70368744177664) => kp_write u (inner_any a ks vs ka va kc vc Bm B b Lc u.w hKA hVA (hKS.below (hbe u) hBm) (hVS.below (hbe u) hBm (fun _ _ h => IsX.below (hbe u) hBm _ _ h)) hBm h0 (Nat.le_trans hB (hbe u).size) hbl (hML.kp (hbe u) h0) hPM hwk hwv hLc))
 obtain ⟨bv, hbv⟩ := nam ((vr.toList == []))
 have hbv' := emp_eq hbv
 obtain ⟨bt, hbt⟩ := nam ((ty.toList == []))
 have hbt' := emp_eq hbt
 have hS : (⟨#[91]⟩ ++ vr : ByteArray).size = 1 + vr.size := by simp; rfl
 have hSL : (⟨#[91]⟩ ++ vr : ByteArray).data.toList = [91] ++ vr.data.toList := by rw [ba_app]
 have HS := Lib.hid hS
 have HSL := Lib.hid hSL
 clear hSL
 obtain ⟨K, hK⟩ := nam (keyT ty)
 have hKs : K.size ≤ 4 * ty.size + 2 := by have h1 := keyTL_len ty; unfold keyTL at h1; rw [hK] at h1; simpa using h1
 have hKSZ : (⟨#[58]⟩ ++ K : ByteArray).size = 1 + K.size := by simp; rfl
 have hKL : (⟨#[58]⟩ ++ K : ByteArray).data.toList = labX ty := by rw [ba_app]; unfold labX keyTL; rw [hK]
 obtain ⟨HKL, HKSZ, HKs⟩ := hd3 hKL hKSZ hKs
 rw [hK] at HKEY
 have hKm : K.size ≤ 140737488355327 := by omega
 obtain ⟨X, hXX⟩ : ∃ X, edgeX ⟨vr, ty, dir, ks, vs⟩ = X := ⟨_, rfl⟩
 rw [hXX]
 unfold edgeX edgeIn at hXX
 simp only at hXX
 rw [hbv, hbt, hnk] at hXX
 have HX := Lib.hid hXX
 have HIL := Lib.hid (fun a => innerX_len a ks vs)
 have HLT := Lib.hid (labX_len ty)
 have HLL := Lib.hid hl2
 rw [hnk] at HIN
 obtain ⟨HU0, HW0, HWR, HB0⟩ := hd4 hu0 hW0 hwr hbd0
 clear hl hl2 hu0 hW0 hwr hbe hce hsz hbd0 hBm h0 hbld hML hB hKS hVS hKA hVA hM hPM hwk hwv hw hXX hbv hbt hK hKL hKs hdir
 generalize vs.length = nv at *
 skip
 have hbu : Program.built Tryz.prog 206 [(0, Value.slice ka nk kc), (1, Value.slice va nv vc)] = some #[.slice ka nk kc, .slice va nv vc] := by kernel_rfl
 by_cases hd1 : dir = 1
 ·have HD : Hid (dir = 1) := Lib.hid hd1
  subst hd1
  cases bv with
  | false =>
   exact Sg660070
  | true =>
   have z660070a := trivial
   exact Sg660070
 ·by_cases hd0 : dir = 0
  ·have z974675a := trivial
   exact Sg974675
  ·have z974675b := trivial
   exact Sg974675
end Go.Proofs.YtndhpdclpgemfaaGreat

/- The law's own small example. Conditions: none. -/
import Derived.Test.YtaonfacbmolklaaHeld
namespace Go.Proofs.Ytaonfacbmolklaa
open Go.RowKit
set_option linter.unusedSimpArgs false
set_option linter.unusedVariables false

def xS : ByteArray := ⟨#[120]⟩
def yS : ByteArray := ⟨#[121]⟩
def wk0 : Bk := ⟨[], 0⟩
def wk1 : Bk := (openB wk0 1 0).2
def wk2 : Bk := (openB wk1 2 0).2
def wk3 : Bk := (readB wk2 1 [xS]).2
def wk4 : Bk := (readB wk3 2 [yS]).2
def wk5 : Bk := (touchB wk4 1 [yS]).2
def wk6 : Bk := (touchB wk5 2 [xS]).2
def wk7 : Bk := (closeB wk6 1 1).2
def wk8 : Bk := (closeB wk7 2 2).2
theorem wk_says : (openB wk0 1 0).1 = 0 ∧ (openB wk1 2 0).1 = 0 ∧ (readB wk2 1 [xS]).1 = 0 ∧ (readB wk3 2 [yS]).1 = 0 ∧ (touchB wk4 1 [yS]).1 = 0 ∧ (touchB wk5 2 [xS]).1 = 0 ∧ flagsB wk6.es 1 = (true, true) ∧ (closeB wk6 1 1).1 = 0 ∧ (closeB wk7 2 2).1 = 7 ∧ wk8.es.length = 0 ∧ wk8.last = 1 :=
  ⟨by kernel_rfl, by kernel_rfl, by kernel_rfl, by kernel_rfl, by kernel_rfl, by kernel_rfl, by kernel_rfl, by kernel_rfl, by kernel_rfl, by kernel_rfl, by kernel_rfl⟩
theorem wk_ok : OkBk 1 wk1 ∧ OkBk 2 wk2 ∧ OkBk 3 wk3 ∧ OkBk 4 wk4 ∧ OkBk 5 wk5 ∧ OkBk 6 wk6 ∧ OkBk 6 wk7 := by
  have h1 : OkBk 1 wk1 := okBk_new.open_ 1 0
  have h2 : OkBk 2 wk2 := h1.open_ 2 0
  have h3 : OkBk 3 wk3 := h2.read 1 [xS] (by simp)
  have h4 : OkBk 4 wk4 := h3.read 2 [yS] (by simp)
  have h5 : OkBk 5 wk5 := h4.touch 1 [yS] (by simp)
  have h6 : OkBk 6 wk6 := h5.touch 2 [xS] (by simp)
  exact ⟨h1, h2, h3, h4, h5, h6, h6.close 1 1⟩
set_option maxRecDepth 100000 in
set_option maxHeartbeats 4000000 in
theorem works_any (w : World) :
    Calls Try.prog 22 #[] w fun e w' => e = .returned (.bool true) ∧ Below w.heap.size w w' := by
  obtain ⟨q1, q2, q3, q4, q5, q6, q7, q8, q9, q10, q11⟩ := wk_says
  obtain ⟨o1, o2, o3, o4, o5, o6, o7⟩ := wk_ok
  have HN := Lib.hid (held_new w w (Below.refl _ _))
  have H1 := Lib.hid (fun u (h : Held w w.heap.size wk0 u) => by have h := held_open 1 0 h okBk_new (by omega); rw [q1] at h; exact (show Calls _ _ _ _ (fun e w' => e = _ ∧ Held w w.heap.size wk1 w') from h))
  have H2 := Lib.hid (fun u (h : Held w w.heap.size wk1 u) => by have h := held_open 2 0 h o1 (by omega); rw [q2] at h; exact (show Calls _ _ _ _ (fun e w' => e = _ ∧ Held w w.heap.size wk2 w') from h))
  have H3 := Lib.hid (fun u (h : Held w w.heap.size wk2 u) => by have h := held_read_new 1 (l := [xS]) h o2 (by omega) (by simp); rw [q3] at h; exact (show Calls _ _ _ _ (fun e w' => e = _ ∧ Held w w.heap.size wk3 w') from h))
  have H4 := Lib.hid (fun u (h : Held w w.heap.size wk3 u) => by have h := held_read_new 2 (l := [yS]) h o3 (by omega) (by simp); rw [q4] at h; exact (show Calls _ _ _ _ (fun e w' => e = _ ∧ Held w w.heap.size wk4 w') from h))
  have H5 := Lib.hid (fun u (h : Held w w.heap.size wk4 u) => by have h := held_touch_new 1 (l := [yS]) h o4 (by omega) (by simp); rw [q5] at h; exact (show Calls _ _ _ _ (fun e w' => e = _ ∧ Held w w.heap.size wk5 w') from h))
  have H6 := Lib.hid (fun u (h : Held w w.heap.size wk5 u) => by have h := held_touch_new 2 (l := [xS]) h o5 (by omega) (by simp); rw [q6] at h; exact (show Calls _ _ _ _ (fun e w' => e = _ ∧ Held w w.heap.size wk6 w') from h))
  have H7 := Lib.hid (fun u (h : Held w w.heap.size wk6 u) => by have h := held_flags 1 h o6 (by omega); rw [q7] at h; exact h)
  have H8 := Lib.hid (fun u (h : Held w w.heap.size wk6 u) => by have h := held_close 1 1 h o6 (by omega); rw [q8] at h; exact (show Calls _ _ _ _ (fun e w' => e = _ ∧ Held w w.heap.size wk7 w') from h))
  have H9 := Lib.hid (fun u (h : Held w w.heap.size wk7 u) => by have h := held_close 2 2 h o7 (by omega); rw [q9] at h; exact (show Calls _ _ _ _ (fun e w' => e = _ ∧ Held w w.heap.size wk8 w') from h))
  have H10 := Lib.hid (fun u (h : Held w w.heap.size wk8 u) => by have h := held_size h; rw [q10] at h; exact h)
  have H11 := Lib.hid (fun u (h : Held w w.heap.size wk8 u) => by have h := held_last h; rw [q11] at h; exact h)
  clear q1 q2 q3 q4 q5 q6 q7 q8 q9 q10 q11 o1 o2 o3 o4 o5 o6 o7
  go_enter Try.func22, Try.ntmps22
  go_wp2_with fail
  refine HN.out.mono ?_
  rintro e u0 ⟨rfl, -, -, h0⟩
  have K0 := Lib.hid h0
  clear h0
  go_wp2_with fail
  refine (H1.out _ K0.out).mono ?_
  rintro e u1 ⟨rfl, h1⟩
  have K1 := Lib.hid h1
  clear h1
  go_wp2_with fail
  refine (H2.out _ K1.out).mono ?_
  rintro e u2 ⟨rfl, h2⟩
  have K2 := Lib.hid h2
  clear h2
  go_wp2_with fail
  refine (H3.out _ K2.out).mono ?_
  rintro e u3 ⟨rfl, h3⟩
  have K3 := Lib.hid h3
  clear h3
  go_wp2_with fail
  refine (H4.out _ K3.out).mono ?_
  rintro e u4 ⟨rfl, h4⟩
  have K4 := Lib.hid h4
  clear h4
  go_wp2_with fail
  refine (H5.out _ K4.out).mono ?_
  rintro e u5 ⟨rfl, h5⟩
  have K5 := Lib.hid h5
  clear h5
  go_wp2_with fail
  refine (H6.out _ K5.out).mono ?_
  rintro e u6 ⟨rfl, h6⟩
  have K6 := Lib.hid h6
  clear h6
  go_wp2_with fail
  refine (H7.out _ K6.out).mono ?_
  rintro e u7 ⟨rfl, h7⟩
  have K7 : Hid (Held w w.heap.size wk6 u7) := Lib.hid (K6.out.below h7)
  clear h7
  go_wp2_with fail
  refine (H8.out _ K7.out).mono ?_
  rintro e u8 ⟨rfl, h8⟩
  have K8 := Lib.hid h8
  clear h8
  go_wp2_with fail
  refine (H9.out _ K8.out).mono ?_
  rintro e u9 ⟨rfl, h9⟩
  have K9 := Lib.hid h9
  clear h9
  go_wp2_with fail
  refine (H10.out _ K9.out).mono ?_
  rintro e u10 ⟨rfl, rfl⟩
  go_wp2_with fail
  refine (H11.out _ K9.out).mono ?_
  rintro e u11 ⟨rfl, rfl⟩
  go_wp2_with fail
  go_ret
  exact ⟨by rfl, K9.out.2⟩
end Go.Proofs.Ytaonfacbmolklaa

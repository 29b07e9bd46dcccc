/- Layer 3: the law ValueChecks returns true. Conditions: the value weighs no more than 2^20. -/
import Derived.Test.YtdkgjbjlpofieaaLawT
namespace Go.Proofs.Ytdkgjbjlpofieaa
open Go.RowKit
set_option linter.unusedSimpArgs false
set_option linter.unusedVariables false

set_option maxRecDepth 1000000 in
set_option maxHeartbeats 4000000 in
theorem checks_any (t : Vt) (cs : List Value) (B : Nat) (w : World) (hV : IsV B w cs t) (hB : B ≤ w.heap.size) (hw : wtV t ≤ 1048576) :
    Calls Try.prog 6 #[.agg cs.toArray] w fun e w' => e = .returned (.bool true) ∧ Below w.heap.size w w' := by
  have hpw := partsV_le t
  have HV := Lib.hid (fun w' (hb : Below w.heap.size w w') => IsV.below hb hB t cs hV)
  have H1 := Lib.hid (fun w' (hb : Below w.heap.size w w') => May_any t cs B w' (HV.out w' hb) (Nat.le_trans hB hb.size))
  have H2 := Lib.hid (fun w' (hb : Below w.heap.size w w') => check_any t cs B w' (HV.out w' hb) (Nat.le_trans hB hb.size))
  have H3 := Lib.hid (fun w' (hb : Below w.heap.size w w') => rcheck_any t cs B w' (HV.out w' hb) (Nat.le_trans hB hb.size))
  have H4 := Lib.hid (fun w' (hb : Below w.heap.size w w') => parts_any t cs B w' (HV.out w' hb) (Nat.le_trans hB hb.size) (by omega))
  have H5 := Lib.hid (fun w' (hb : Below w.heap.size w w') => rparts_any t cs B w' (HV.out w' hb) (Nat.le_trans hB hb.size) (by omega))
  have H6 := Lib.hid (fun w' (hb : Below w.heap.size w w') => plain_any t cs B w' (HV.out w' hb) (Nat.le_trans hB hb.size))
  have H7 := Lib.hid (fun w' (hb : Below w.heap.size w w') (hm : mayB t = true) => rplain_any t cs B w' 32 0 (HV.out w' hb) (Nat.le_trans hB hb.size) hm)
  generalize partsV t = pn at *
  generalize plainV t = pb at *
  obtain ⟨mb, hmb⟩ : ∃ mb, mayB t = mb := ⟨_, rfl⟩
  rw [hmb] at H1 H2 H3 H7
  clear hmb hpw
  obtain ⟨k, b, i, s, l, ks⟩ := t
  unfold IsV at hV
  obtain ⟨la, lc, ka, kc, rfl, -⟩ := hV
  obtain ⟨W0, hW0⟩ : ∃ W0, w.alloc (.cells #[.int .i64 k, .bool b, .int .i64 i, .string s, .slice la l.length lc, .slice ka ks.length kc] 26) = W0 := ⟨_, rfl⟩
  have hbx : Block W0 w.heap.size [.int .i64 k, .bool b, .int .i64 i, .string s, .slice la l.length lc, .slice ka ks.length kc] 26 := by rw [← hW0]; exact Block.new _ _ _
  have hb0 : Below w.heap.size w W0 := by rw [← hW0]; exact (Below.refl _ _).alloc (Nat.le_refl _) _
  have hsz : w.heap.size + 1 ≤ W0.heap.size := by rw [← hW0]; simp
  have hlt : w.heap.size < w.heap.size + 1 := by omega
  have hbe : ∀ u : Ext (w.heap.size + 1) W0, Below w.heap.size w u.w := fun u => hb0.trans (u.below.mono (by omega))
  have C1 := Lib.hid (fun u => ext_call u hsz (H1.out u.w (hbe u)))
  have C2 := Lib.hid (fun u => ext_call u hsz (H2.out u.w (hbe u)))
  have C3 := Lib.hid (fun u => ext_call u hsz (H3.out u.w (hbe u)))
  have C4 := Lib.hid (fun u => ext_call u hsz (H4.out u.w (hbe u)))
  have C5 := Lib.hid (fun u => ext_call u hsz (H5.out u.w (hbe u)))
  have C6 := Lib.hid (fun u => ext_call u hsz (H6.out u.w (hbe u)))
  have C7 := Lib.hid (fun u h => ext_call u hsz (H7.out u.w (hbe u) h))
  have C9 := Lib.hid (fun u : Ext (w.heap.size + 1) W0 => ext_call u hsz (works_any u.w))
  have e0 : ∀ u : Ext (w.heap.size + 1) W0, u.w.cell? ⟨w.heap.size, 0, none⟩ = some (.int .i64 k) := fun u => u.cell hlt (hbx.cell rfl)
  have e1 : ∀ u : Ext (w.heap.size + 1) W0, u.w.cell? ⟨w.heap.size, 1, none⟩ = some (.bool b) := fun u => u.cell hlt (hbx.cell rfl)
  have e2 : ∀ u : Ext (w.heap.size + 1) W0, u.w.cell? ⟨w.heap.size, 2, none⟩ = some (.int .i64 i) := fun u => u.cell hlt (hbx.cell rfl)
  have e3 : ∀ u : Ext (w.heap.size + 1) W0, u.w.cell? ⟨w.heap.size, 3, none⟩ = some (.string s) := fun u => u.cell hlt (hbx.cell rfl)
  have e4 : ∀ u : Ext (w.heap.size + 1) W0, u.w.cell? ⟨w.heap.size, 4, none⟩ = some (.slice la l.length lc) := fun u => u.cell hlt (hbx.cell rfl)
  have e5 : ∀ u : Ext (w.heap.size + 1) W0, u.w.cell? ⟨w.heap.size, 5, none⟩ = some (.slice ka ks.length kc) := fun u => u.cell hlt (hbx.cell rfl)
  have HBE := Lib.hid hbe
  have HW0 := Lib.hid hW0
  obtain ⟨u0, hu0⟩ := Ext.start (w.heap.size + 1) W0
  clear hbx hb0 hsz hbe hW0 H1 H2 H3 H4 H5 H6 H7 HV
  show Calls Try.prog 6 #[.agg #[.int .i64 k, .bool b, .int .i64 i, .string s, .slice la l.length lc, .slice ka ks.length kc]] w _
  have HU0 := Lib.hid hu0
  clear hu0
  cases mb with
  | false =>
    go_enter Try.func6, Try.ntmps6
    go_wp2_with fail
    rw [HW0.out, HU0.out]
    refine wp_region_at u0 (by kernel_rfl) (by kernel_rfl) ?_
    repeat (go_big_quiet_step (first | (with_reducible exact C2.out _) | (with_reducible exact C3.out _)))
    refine wpQuiet_nil ?_
    rintro w2 ⟨u, rfl⟩
    go_wp2_with fail
    refine wp_region_at u (by kernel_rfl) (by kernel_rfl) ?_
    repeat (go_big_quiet_step (first | (with_reducible exact C1.out _)))
    refine wpQuiet_nil ?_
    rintro w2 ⟨u2, rfl⟩
    go_wp2_with fail
    go_ret
    exact ⟨by rfl, HBE.out u2⟩
  | true =>
    have C8 := Lib.hid (fun u => C7.out u rfl)
    go_enter Try.func6, Try.ntmps6
    go_wp2_with fail
    rw [HW0.out, HU0.out]
    refine wp_region_at u0 (by kernel_rfl) (by kernel_rfl) ?_
    repeat (go_big_quiet_step (first | (with_reducible exact C2.out _) | (with_reducible exact C3.out _)))
    refine wpQuiet_nil ?_
    rintro w2 ⟨u, rfl⟩
    go_wp2_with fail
    refine wp_region_at u (by kernel_rfl) (by kernel_rfl) ?_
    repeat (go_big_quiet_step (first | (with_reducible exact C1.out _) | (with_reducible exact C4.out _) | (with_reducible exact C5.out _) | (with_reducible exact C6.out _) | (with_reducible exact C8.out _) | (with_reducible exact C9.out _)))
    refine wpQuiet_nil ?_
    rintro w2 ⟨u2, rfl⟩
    go_wp2_with fail
    go_ret
    exact ⟨by rfl, HBE.out u2⟩
end Go.Proofs.Ytdkgjbjlpofieaa

/- Layer 5: the law ShowTexts returns true. Conditions: the value weighs no more than 2^20. -/
import Derived.Test.YtangldmjgidgcaaS25
namespace Go.Proofs.Ytangldmjgidgcaa
open Go.RowKit Go.Shelf
set_option linter.unusedSimpArgs false
set_option linter.unusedVariables false

set_option maxRecDepth 1000000 in
set_option maxHeartbeats 4000000 in
theorem showTexts_any (t : Vt) (cs : List Value) (B : Nat) (w : World) (hV : IsV B w cs t) (hB : B ≤ w.heap.size) (hw : wtV t ≤ 1048576) :
    Calls Try.prog 4 #[.agg cs.toArray] w fun e w' => e = .returned (.bool true) ∧ Below w.heap.size w w' := by
  have HV := Lib.hid (fun w' (hb : Below w.heap.size w w') => IsV.below hb hB t cs hV)
  have HM := Lib.hid (fun w' (hb : Below w.heap.size w w') => May_any t cs B w' (HV.out w' hb) (Nat.le_trans hB hb.size))
  have HS := Lib.hid (fun w' (hb : Below w.heap.size w w') (hm : MayE t) => show_any t cs B w' (HV.out w' hb) (Nat.le_trans hB hb.size) hm hw)
  have HR := Lib.hid (fun w' (hb : Below w.heap.size w w') (hm : MayE t) => rshow_any t cs B w' (HV.out w' hb) (Nat.le_trans hB hb.size) hm hw)
  have hME : mayB t = true → MayE t := fun h => ⟨32, 0, h⟩
  have HME := Lib.hid hME
  clear hME
  generalize strOf (showV t) = X at *
  obtain ⟨mb, hmb⟩ : ∃ mb, mayB t = mb := ⟨_, rfl⟩
  rw [hmb] at HM HME
  clear hmb
  obtain ⟨k, b, i, s, l, ks⟩ := t
  unfold IsV at hV
  obtain ⟨la, lc, ka, kc, rfl, -⟩ := hV
  have hbx := Block.new w [.int .i64 k, .bool b, .int .i64 i, .string s, .slice la l.length lc, .slice ka ks.length kc] 31
  have hb0 : Below w.heap.size w (w.alloc (.cells #[.int .i64 k, .bool b, .int .i64 i, .string s, .slice la l.length lc, .slice ka ks.length kc] 31)) := (Below.refl _ _).alloc (Nat.le_refl _) _
  have hbe : ∀ u : Ext (w.heap.size + 1) (w.alloc (.cells #[.int .i64 k, .bool b, .int .i64 i, .string s, .slice la l.length lc, .slice ka ks.length kc] 31)), Below w.heap.size w u.w := fun u => hb0.trans (u.below.mono (by omega))
  have hsz : w.heap.size + 1 ≤ (w.alloc (.cells #[.int .i64 k, .bool b, .int .i64 i, .string s, .slice la l.length lc, .slice ka ks.length kc] 31)).heap.size := by simp
  have HCM := Lib.hid (fun u => ext_call u hsz (HM.out u.w (hbe u)))
  have HCS := Lib.hid (fun u h => ext_call u hsz (HS.out u.w (hbe u) h))
  have HCR := Lib.hid (fun u h => ext_call u hsz (HR.out u.w (hbe u) h))
  have HCW := Lib.hid (fun u : Ext (w.heap.size + 1) (w.alloc (.cells #[.int .i64 k, .bool b, .int .i64 i, .string s, .slice la l.length lc, .slice ka ks.length kc] 31)) => ext_call u hsz (works_any u.w))
  have hlt : w.heap.size < w.heap.size + 1 := by omega
  have e0 : ∀ u : Ext (w.heap.size + 1) (w.alloc (.cells #[.int .i64 k, .bool b, .int .i64 i, .string s, .slice la l.length lc, .slice ka ks.length kc] 31)), u.w.cell? ⟨w.heap.size, 0, none⟩ = some (.int .i64 k) := fun u => u.cell hlt (hbx.cell rfl)
  have e1 : ∀ u : Ext (w.heap.size + 1) (w.alloc (.cells #[.int .i64 k, .bool b, .int .i64 i, .string s, .slice la l.length lc, .slice ka ks.length kc] 31)), u.w.cell? ⟨w.heap.size, 1, none⟩ = some (.bool b) := fun u => u.cell hlt (hbx.cell rfl)
  have e2 : ∀ u : Ext (w.heap.size + 1) (w.alloc (.cells #[.int .i64 k, .bool b, .int .i64 i, .string s, .slice la l.length lc, .slice ka ks.length kc] 31)), u.w.cell? ⟨w.heap.size, 2, none⟩ = some (.int .i64 i) := fun u => u.cell hlt (hbx.cell rfl)
  have e3 : ∀ u : Ext (w.heap.size + 1) (w.alloc (.cells #[.int .i64 k, .bool b, .int .i64 i, .string s, .slice la l.length lc, .slice ka ks.length kc] 31)), u.w.cell? ⟨w.heap.size, 3, none⟩ = some (.string s) := fun u => u.cell hlt (hbx.cell rfl)
  have e4 : ∀ u : Ext (w.heap.size + 1) (w.alloc (.cells #[.int .i64 k, .bool b, .int .i64 i, .string s, .slice la l.length lc, .slice ka ks.length kc] 31)), u.w.cell? ⟨w.heap.size, 4, none⟩ = some (.slice la l.length lc) := fun u => u.cell hlt (hbx.cell rfl)
  have e5 : ∀ u : Ext (w.heap.size + 1) (w.alloc (.cells #[.int .i64 k, .bool b, .int .i64 i, .string s, .slice la l.length lc, .slice ka ks.length kc] 31)), u.w.cell? ⟨w.heap.size, 5, none⟩ = some (.slice ka ks.length kc) := fun u => u.cell hlt (hbx.cell rfl)
  have HB0 := Lib.hid hb0
  clear hbx hb0 hbe hsz
  show Calls Try.prog 4 #[.agg #[.int .i64 k, .bool b, .int .i64 i, .string s, .slice la l.length lc, .slice ka ks.length kc]] w _
  cases mb with
  | false =>
    go_enter Try.func4, Try.ntmps4
    go_wp2_with fail
    refine wp_region_ext (w.heap.size + 1) (by kernel_rfl) (by kernel_rfl) ?_
    repeat (go_big_quiet_step (exact HCM.out _))
    refine wpQuiet_nil ?_
    intro w2 hw'
    obtain ⟨u, hu⟩ := hw'
    have hb2 := u.below
    rw [← hu] at hb2
    clear hu e0 e1 e2 e3 e4 e5
    go_wp2_with fail
    go_ret
    exact ⟨rfl, HB0.out.trans (hb2.mono (by omega))⟩
  | true =>
    have hm := HME.out rfl
    go_enter Try.func4, Try.ntmps4
    go_wp2_with fail
    refine wp_region_ext (w.heap.size + 1) (by kernel_rfl) (by kernel_rfl) ?_
    repeat (go_big_quiet_step (first | exact HCM.out _ | exact HCS.out _ hm | exact HCR.out _ hm | exact HCW.out _))
    refine wpQuiet_nil ?_
    intro w2 hw'
    obtain ⟨u, hu⟩ := hw'
    have hb2 := u.below
    rw [← hu] at hb2
    clear hu e0 e1 e2 e3 e4 e5
    go_wp2_with fail
    go_ret
    exact ⟨rfl, HB0.out.trans (hb2.mono (by omega))⟩
end Go.Proofs.Ytangldmjgidgcaa

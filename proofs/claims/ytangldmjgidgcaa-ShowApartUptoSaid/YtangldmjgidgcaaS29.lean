/- Layer 5: the law ShowApart returns true. Written by genS29.py. Conditions: each value weighs no more than 2^20. -/
import Derived.Test.YtangldmjgidgcaaS26
import Derived.Test.YtangldmjgidgcaaS28
import Derived.Test.YtangldmjgidgcaaSame
namespace Go.Proofs.Ytangldmjgidgcaa
open Go.RowKit Go.Shelf
set_option linter.unusedSimpArgs false
set_option linter.unusedVariables false

theorem strOf_inj {x y : List UInt8} (h : strOf x = strOf y) : x = y := by
  have := congrArg (fun s : ByteArray => s.data.toList) h
  simpa [strOf] using this
set_option maxRecDepth 1000000 in
set_option maxHeartbeats 4000000 in
theorem showApart_any (t u : Vt) (cs ds : List Value) (B : Nat) (w : World) (hV : IsV B w cs t) (hU : IsV B w ds u) (hB : B ≤ w.heap.size) (hwt : wtV t ≤ 1048576) (hwu : wtV u ≤ 1048576) :
    Calls Try.prog 7 #[.agg cs.toArray, .agg ds.toArray] w fun e w' => e = .returned (.bool true) ∧ Below w.heap.size w w' := by
  have HV := Lib.hid (fun w' (hb : Below w.heap.size w w') => IsV.below hb hB t cs hV)
  have HU := Lib.hid (fun w' (hb : Below w.heap.size w w') => IsV.below hb hB u ds hU)
  have HM1 := Lib.hid (fun w' (hb : Below w.heap.size w w') => May_any t cs B w' (HV.out w' hb) (Nat.le_trans hB hb.size))
  have HM2 := Lib.hid (fun w' (hb : Below w.heap.size w w') => May_any u ds B w' (HU.out w' hb) (Nat.le_trans hB hb.size))
  have HS1 := Lib.hid (fun w' (hb : Below w.heap.size w w') (hm : MayE t) => show_any t cs B w' (HV.out w' hb) (Nat.le_trans hB hb.size) hm hwt)
  have HS2 := Lib.hid (fun w' (hb : Below w.heap.size w w') (hm : MayE u) => show_any u ds B w' (HU.out w' hb) (Nat.le_trans hB hb.size) hm hwu)
  have HSA := Lib.hid (fun w' (hb : Below w.heap.size w w') => same_any t u cs ds B w' (HV.out w' hb) (HU.out w' hb) (Nat.le_trans hB hb.size))
  have HME : Hid (mayB t = true → MayE t) := Lib.hid (fun h => ⟨32, 0, h⟩)
  have HMF : Hid (mayB u = true → MayE u) := Lib.hid (fun h => ⟨32, 0, h⟩)
  have HEQ : Hid (MayE t → MayE u → ((strOf (showV t)).toList == (strOf (showV u)).toList) = sameV t u) := Lib.hid (fun h1 h2 => by
    rw [ba_beq, Bool.eq_iff_iff, decide_eq_true_eq, sameV_iff]
    rw [← show_eq h1 h2 ⟨_, _, _, hV⟩ ⟨_, _, _, hU⟩]
    exact ⟨strOf_inj, fun h => by rw [h]⟩)
  generalize strOf (showV t) = X at *
  generalize strOf (showV u) = Y at *
  obtain ⟨eb, heb⟩ : ∃ eb, sameV t u = eb := ⟨_, rfl⟩
  rw [heb] at HSA HEQ
  clear heb
  obtain ⟨ma, hma⟩ : ∃ ma, mayB t = ma := ⟨_, rfl⟩
  obtain ⟨mb, hmb⟩ : ∃ mb, mayB u = mb := ⟨_, rfl⟩
  rw [hma] at HM1 HME
  rw [hmb] at HM2 HMF
  clear hma hmb hwt hwu
  obtain ⟨k, b, i, s, l, ks⟩ := t
  obtain ⟨k', b', i', s', l', ks'⟩ := u
  unfold IsV at hV hU
  obtain ⟨la, lc, ka, kc, rfl, -⟩ := hV
  obtain ⟨la', lc', ka', kc', rfl, -⟩ := hU
  show Calls Try.prog 7 #[.agg #[.int .i64 k, .bool b, .int .i64 i, .string s, .slice la l.length lc, .slice ka ks.length kc], .agg #[.int .i64 k', .bool b', .int .i64 i', .string s', .slice la' l'.length lc', .slice ka' ks'.length kc']] w _
  have hb1 := (Below.refl w.heap.size w).alloc (Nat.le_refl _) (.cells #[.int .i64 k, .bool b, .int .i64 i, .string s, .slice la l.length lc, .slice ka ks.length kc] 31)
  have hb0 := hb1.alloc (by simp) (.cells #[.int .i64 k', .bool b', .int .i64 i', .string s', .slice la' l'.length lc', .slice ka' ks'.length kc'] 31)
  have HB0 := Lib.hid hb0
  clear hb1 hb0
  cases ma with
  | false =>
    go_enter Try.func7, Try.ntmps7
    go_wp2_with fail
    refine (HM1.out _ HB0.out).mono ?_
    rintro e w3 ⟨rfl, hb3⟩
    have HB3 := Lib.hid (below_step HB0.out rfl hb3)
    clear hb3
    go_wp2_with fail
    refine (works_any _).mono ?_
    rintro e w9 ⟨rfl, hb9⟩
    go_wp2_with fail
    go_ret
    exact ⟨rfl, below_step HB3.out rfl hb9⟩
  | true =>
    go_enter Try.func7, Try.ntmps7
    go_wp2_with fail
    refine (HM1.out _ HB0.out).mono ?_
    rintro e w3 ⟨rfl, hb3⟩
    have hBX := ((Block.new w [.int .i64 k, .bool b, .int .i64 i, .string s, .slice la l.length lc, .slice ka ks.length kc] 31).alloc (.cells #[.int .i64 k', .bool b', .int .i64 i', .string s', .slice la' l'.length lc', .slice ka' ks'.length kc'] 31)).below hb3 (by simp; omega)
    have hBY := (Block.new (w.alloc (.cells #[.int .i64 k, .bool b, .int .i64 i, .string s, .slice la l.length lc, .slice ka ks.length kc] 31)) [.int .i64 k', .bool b', .int .i64 i', .string s', .slice la' l'.length lc', .slice ka' ks'.length kc'] 31).below hb3 (by simp)
    have hBY : Block w3 (w.heap.size + 1) [.int .i64 k', .bool b', .int .i64 i', .string s', .slice la' l'.length lc', .slice ka' ks'.length kc'] 31 := by simpa using hBY
    have HB3 := Lib.hid (below_step HB0.out rfl hb3)
    have y0 := hBY.cell (i := 0) rfl
    have y1 := hBY.cell (i := 1) rfl
    have y2 := hBY.cell (i := 2) rfl
    have y3 := hBY.cell (i := 3) rfl
    have y4 := hBY.cell (i := 4) rfl
    have y5 := hBY.cell (i := 5) rfl
    have HBX := Lib.hid hBX
    have HBY := Lib.hid hBY
    clear hb3 hBX hBY
    cases mb with
    | false =>
      go_wp2_with fail
      refine (HM2.out _ HB3.out).mono ?_
      rintro e w4 ⟨rfl, hb4⟩
      have HB4 := Lib.hid (below_step HB3.out rfl hb4)
      clear hb4
      go_wp2_with fail
      refine (works_any _).mono ?_
      rintro e w9 ⟨rfl, hb9⟩
      go_wp2_with fail
      go_ret
      exact ⟨rfl, below_step HB4.out rfl hb9⟩
    | true =>
      go_wp2_with fail
      refine (HM2.out _ HB3.out).mono ?_
      rintro e w4 ⟨rfl, hb4⟩
      have hBX := HBX.out.below hb4 HBX.out.lt
      have hBY := HBY.out.below hb4 HBY.out.lt
      have HB4 := Lib.hid (below_step HB3.out rfl hb4)
      clear hb4 y0 y1 y2 y3 y4 y5 HBX HBY
      have hsz := HB4.out.size
      have hme := HME.out (by simp)
      have hmf := HMF.out (by simp)
      have hbe : ∀ v : Ext w4.heap.size w4, Below w.heap.size w v.w := fun v => HB4.out.trans (v.below.mono hsz)
      have C1 := Lib.hid (fun v => ext_call v (Nat.le_refl _) (HS1.out v.w (hbe v) hme))
      have C2 := Lib.hid (fun v => ext_call v (Nat.le_refl _) (HS2.out v.w (hbe v) hmf))
      have C3 := Lib.hid (fun v => ext_call v (Nat.le_refl _) (HSA.out v.w (hbe v)))
      have C4 := Lib.hid (fun v : Ext w4.heap.size w4 => ext_call v (Nat.le_refl _) (works_any v.w))
      have heq := HEQ.out hme hmf
      have x0 : ∀ v : Ext w4.heap.size w4, v.w.cell? ⟨w.heap.size, 0, none⟩ = _ := fun v => v.cell hBX.lt (hBX.cell (i := 0) rfl)
      have x1 : ∀ v : Ext w4.heap.size w4, v.w.cell? ⟨w.heap.size, 1, none⟩ = _ := fun v => v.cell hBX.lt (hBX.cell (i := 1) rfl)
      have x2 : ∀ v : Ext w4.heap.size w4, v.w.cell? ⟨w.heap.size, 2, none⟩ = _ := fun v => v.cell hBX.lt (hBX.cell (i := 2) rfl)
      have x3 : ∀ v : Ext w4.heap.size w4, v.w.cell? ⟨w.heap.size, 3, none⟩ = _ := fun v => v.cell hBX.lt (hBX.cell (i := 3) rfl)
      have x4 : ∀ v : Ext w4.heap.size w4, v.w.cell? ⟨w.heap.size, 4, none⟩ = _ := fun v => v.cell hBX.lt (hBX.cell (i := 4) rfl)
      have x5 : ∀ v : Ext w4.heap.size w4, v.w.cell? ⟨w.heap.size, 5, none⟩ = _ := fun v => v.cell hBX.lt (hBX.cell (i := 5) rfl)
      have y0 : ∀ v : Ext w4.heap.size w4, v.w.cell? ⟨w.heap.size + 1, 0, none⟩ = _ := fun v => v.cell hBY.lt (hBY.cell (i := 0) rfl)
      have y1 : ∀ v : Ext w4.heap.size w4, v.w.cell? ⟨w.heap.size + 1, 1, none⟩ = _ := fun v => v.cell hBY.lt (hBY.cell (i := 1) rfl)
      have y2 : ∀ v : Ext w4.heap.size w4, v.w.cell? ⟨w.heap.size + 1, 2, none⟩ = _ := fun v => v.cell hBY.lt (hBY.cell (i := 2) rfl)
      have y3 : ∀ v : Ext w4.heap.size w4, v.w.cell? ⟨w.heap.size + 1, 3, none⟩ = _ := fun v => v.cell hBY.lt (hBY.cell (i := 3) rfl)
      have y4 : ∀ v : Ext w4.heap.size w4, v.w.cell? ⟨w.heap.size + 1, 4, none⟩ = _ := fun v => v.cell hBY.lt (hBY.cell (i := 4) rfl)
      have y5 : ∀ v : Ext w4.heap.size w4, v.w.cell? ⟨w.heap.size + 1, 5, none⟩ = _ := fun v => v.cell hBY.lt (hBY.cell (i := 5) rfl)
      clear hBX hBY hbe hme hmf
      cases eb
      all_goals
        go_wp2_with fail
        refine wp_region_ext w4.heap.size (by kernel_rfl) (by kernel_rfl) ?_
        repeat (go_big_quiet_step (first | (with_reducible exact C1.out _) | (with_reducible exact C2.out _) | (with_reducible exact C3.out _) | (with_reducible exact C4.out _)))
        refine wpQuiet_nil ?_
        intro w5 hw'
        obtain ⟨v, hv⟩ := hw'
        have hb5 := v.below
        rw [← hv] at hb5
        clear hv x0 x1 x2 x3 x4 x5 y0 y1 y2 y3 y4 y5
        go_wp2_with fail
        go_ret
        exact ⟨rfl, HB4.out.trans (hb5.mono hsz)⟩
end Go.Proofs.Ytangldmjgidgcaa

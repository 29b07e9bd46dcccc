/- Layer 9: the law's do: an act on both networks. Conditions: the networks are there and small. -/
import Derived.Test.YteopfknoemifgaaQ6
import Derived.Deep.RegionHeld
namespace Go.Proofs.Yteopfknoemifgaa
open Go.RowKit
set_option linter.unusedSimpArgs false
set_option linter.unusedVariables false

theorem takenN_len {N : List (Option Line)} (h : Fits N) (c k : Int) : (takenN N c k).length ≤ 70000000000000 := by
  unfold takenN
  split
  · cases hl : lineAt N c with
    | none => simp
    | some p =>
      have := h.sm _ _ (lineAt_some (i := p.1) (x := p.2) hl).1
      simp only [List.length_take]; omega
  · simp
theorem Cells.of_eq {B : Nat} {w u : World} {a : Option Addr} {vs : List Value} (hu : u.heap = w.heap) (h : Cells B w a vs) : Cells B u a vs := by
  rcases h with h | ⟨b, off, h1, h2, h3⟩
  · exact .inl h
  · exact .inr ⟨b, off, h1, h2, fun i v hi => (World.cell?_of_block (a := ⟨b, off + i, none⟩) (by rw [hu])).trans (h3 i v hi)⟩
set_option maxRecDepth 100000 in
set_option maxHeartbeats 16000000 in
theorem do_any {W w : World} {xb rb : Nat} {N : List (Option Line)} (kind c n : Int) (ba : Option Addr) (bcap : Nat) (bl : List UInt8) (h : Duo W xb rb N N (fun _ => False) w) (hf : Fits N) (hcw : (Lit.int .i64 c).wf = true) (hnw : n ≤ 9223372036854775807)
    (hbl : bl.length ≤ 1048576) (hbc : ∀ u : World, Below W.heap.size W u → Cells W.heap.size u ba (bys bl)) (hbn : ba = none → bcap = 0) :
    Calls Try.prog 17 #[.pointer (some ⟨xb, 0, none⟩), .pointer (some ⟨rb, 0, none⟩), .agg #[.int .i64 kind, .int .i64 c, .int .i64 n, .slice ba bl.length bcap]] w fun e w' => e = .returned (.bool true) ∧ Duo W xb rb (actN N ⟨kind, c, n, ⟨ba, bcap, bl⟩⟩) (actN N ⟨kind, c, n, ⟨ba, bcap, bl⟩⟩) (fun _ => False) w' := by
  obtain ⟨Q, hQ⟩ : ∃ Q : Ending → World → Prop, (fun e w' => e = .returned (.bool true) ∧ Duo W xb rb (actN N ⟨kind, c, n, ⟨ba, bcap, bl⟩⟩) (actN N ⟨kind, c, n, ⟨ba, bcap, bl⟩⟩) (fun _ => False) w') = Q := ⟨_, rfl⟩
  rw [hQ]
  have HQ := Lib.hid hQ
  have HF := Lib.hid hf
  have HCW := Lib.hid hcw
  have HBC := Lib.hid hbc
  have HBN := Lib.hid hbn
  have hWz := h.is.size
  obtain ⟨i0, hi0, hz0, hz1, hz2⟩ := info_parts Try.infoB
  obtain ⟨ob, hob⟩ : ∃ ob, w.heap.size = ob := ⟨_, rfl⟩
  obtain ⟨w1, hw1⟩ : ∃ w1, w.alloc (.cells #[.int .i64 kind, .int .i64 c, .int .i64 n, .slice ba bl.length bcap] 48) = w1 := ⟨_, rfl⟩
  have HW1 := Lib.hid hw1
  have HOB := Lib.hid hob
  have hD1 : Duo W xb rb N N (fun k => k = ob) w1 := by
    rw [← hw1]
    exact h.below ((Below.refl _ _).alloc (Nat.le_refl _) _) (fun k hk => .inr (by subst hk; rw [← hob]; simp))
  have hB1 : Block w1 ob [.int .i64 kind, .int .i64 c, .int .i64 n, .slice ba bl.length bcap] 48 := by rw [← hw1, ← hob]; exact Block.new w _ _
  have hWob : W.heap.size ≤ ob := by omega
  have hz1w : w1.heap.size = ob + 1 := by rw [← hw1, ← hob]; simp
  have HZ1 := Lib.hid hz1w
  have HD1 := Lib.hid hD1
  have HB1 := Lib.hid hB1
  obtain ⟨bn, hbln⟩ : ∃ m, bl.length = m := ⟨_, rfl⟩
  have HBL := Lib.hid hbln
  rw [hbln] at HB1 HW1 hB1 hbl ⊢
  have y0 := hB1.cell (i := 0) rfl
  have y1 := hB1.cell (i := 1) rfl
  have y2 := hB1.cell (i := 2) rfl
  have y3 := hB1.cell (i := 3) rfl
  clear hQ hf hcw hbc hbn h hw1 hob hD1 hB1 hbln hWz hz1w
  by_cases hk0 : kind = 0
  · subst hk0
    have HA : Hid (actN N ⟨0, c, n, ⟨ba, bcap, bl⟩⟩ = openedN N) := Lib.hid rfl
    have H1 := Lib.hid (duo_open HD1.out HF.out)
    have H2 := Lib.hid (fun u (hu : Duo W xb rb (openedN N) N (fun k => k = ob) u) => duo_ropen hu HF.out)
    generalize (openE N).1 = e1 at *
    generalize (openE N).2 = e2 at *
    have t1 : (e1 == e1) = true := by simp
    have t2 : (e2 == e2) = true := by simp
    go_enter Try.func17, Try.ntmps17
    go_wp2_with fail
    rw [HW1.out, HOB.out]
    clear HW1
    refine H1.out.mono ?_; rintro e w2 ⟨rfl, hd2, hs2⟩
    have HD2 := Lib.hid hd2
    clear hd2 hs2 y0 y1 y2 y3
    go_wp2_with fail
    refine (H2.out _ HD2.out).mono ?_; rintro e w3 ⟨rfl, hd3, hs3⟩
    have HD3 := Lib.hid hd3
    clear hd3 hs3
    go_wp2_with fail
    rw [← HQ.out, HA.out]
    exact ⟨by rfl, HD3.out.fewer (fun k hk => hk.elim)⟩
  have q0 : (kind == 0) = false := beq_eq_false_iff_ne.2 hk0
  by_cases hk1 : kind = 1
  · subst hk1
    have HA : Hid (actN N ⟨1, c, n, ⟨ba, bcap, bl⟩⟩ = sendN N c bl) := Lib.hid rfl
    have hown : (w1.alloc (.cells #[] 5)).ownsRow (ob + 1) 5 1 (.slice (some ⟨ob + 1, 0, none⟩) 0 0) 0 [] := by
      have := World.ownsRow_made (e := 5) (size := 1) w1 #[] 0 (Nat.le_refl _) (Nat.zero_le _) (by simp)
      rw [HZ1.out] at this
      exact this
    have HC1 : Hid (Cells W.heap.size (w1.alloc (.cells #[] 5)) ba (bys bl)) := Lib.hid (HBC.out _ (HD1.out.is.alloc HD1.out.is.size _))
    have hw1z : ob < w1.heap.size := HB1.out.lt
    go_enter Try.func17, Try.ntmps17
    go_wp2_with (at_builtin; rw [HW1.out, HOB.out]; refine wpList_append_rows rfl _ _ 30 rfl (ob + 1) 5 i0 _ 1 1 Try.underlying30 hi0 hz0 hz1 hz2 rfl (by decide) _ 0 [] rfl hown ba bn bcap W.heap.size (bys bl) rfl HBN.out (by rw [bys_length, HBL.out, Nat.mul_one]) HC1.out (bys_one bl) (by unfold maxLen; omega) (by omega) (by have := HZ1.out; simp; omega) ?_)
    intro oa ocp w2 g1 g2 g3
    have hbl2 : Below w1.heap.size w1 w2 := ((Below.refl _ _).alloc (Nat.le_refl _) _).grown g2 (by simp) (fun k hk => by have := HZ1.out; simp [Value.ownBlock] at hk; omega)
    have hib : IsBytes w2 w1.heap.size oa ocp bl := by
      unfold IsBytes
      rw [HBL.out, HZ1.out]
      exact g1
    have HIB := Lib.hid hib
    have HD2 : Hid (Duo W xb rb N N (fun k => k = ob ∨ BlkOf oa k) w2) := Lib.hid (HD1.out.below hbl2 (fun k hk => hk.imp_right (by rintro ⟨y, hy, rfl⟩; exact hib.lt y hy)))
    have HB2 := Lib.hid (HB1.out.below hbl2 HB1.out.lt)
    have HCO : Hid (Cells w2.heap.size w2 oa (bys bl)) := Lib.hid hib.cells
    have HCZ : Hid (oa = none → ocp = 0) := Lib.hid hib.capz
    have HWO : Hid (∀ k, BlkOf oa k → W.heap.size ≤ k ∧ k ≠ ob) := Lib.hid (by
      rintro k ⟨y, hy, rfl⟩
      have h1 := (hib.lt y hy).1
      have h2 := HD1.out.is.size
      exact ⟨by omega, by omega⟩)
    have HOI : Hid (OwnI w2 W.heap.size oa ocp bn) := Lib.hid (by have h1 := OwnI.of_bytes (hib.mono HD1.out.is.size); rw [HBL.out] at h1; exact h1)
    have HBL3 : Hid (bl.length ≤ 1048576) := Lib.hid (by rw [HBL.out]; exact hbl)
    have HX1 := Lib.hid (duo_send HD2.out HF.out c HCW.out oa bn ocp _ bl HBL.out.symm HBL3.out HCO.out HCZ.out)
    have HX2 := Lib.hid (fun u (hu : Duo W xb rb (sendN N c bl) N (fun k => k = ob ∨ BlkOf oa k) u) (hcu : Cells W.heap.size u ba (bys bl)) => duo_rsend hu HF.out c ba bn bcap _ bl HBL.out.symm HBL3.out hcu HBN.out)
    generalize liveE N c = e1 at *
    have t1 : (e1 == e1) = true := by simp
    have y1 := HB2.out.cell (i := 1) rfl
    have y3 := HB2.out.cell (i := 3) rfl
    clear g1 g2 g3 hbl2 hib y0 y2
    go_wp2_with fail
    refine HX1.out.mono ?_; rintro e w3 ⟨rfl, hd3, hs3⟩
    have HD3 := Lib.hid hd3
    have HB3 := Lib.hid (HB2.out.of_heap (hs3 ob (.inl rfl)))
    have HOI3 : Hid (OwnI w3 W.heap.size oa ocp bn) := Lib.hid (HOI.out.same fun k hk => hs3 k (.inr hk))
    clear hd3 hs3 y1 y3
    go_wp2_with fail
    go_loopw [13] (fun iv wr => ∃ j : Nat, iv = .int .i64 j ∧ j ≤ bn ∧ Hid (OwnI wr W.heap.size oa ocp bn) ∧ Hid (Duo W xb rb (sendN N c bl) N (fun k => k = ob ∨ BlkOf oa k) wr) ∧ Hid (Block wr ob [.int .i64 1, .int .i64 c, .int .i64 n, .slice ba bn bcap] 48)) (fun iv _ => bn - (intOf iv).toNat)
    case atStart => exact ⟨0, rfl, Nat.zero_le _, HOI3, HD3, HB3⟩
    case round =>
      obtain ⟨j, rfl, hj, HO, HD, HB⟩ := hrel
      have hj0 : (0 : Int) ≤ (j : Int) := by omega
      by_cases hlt : j < bn
      · have hlt' : (j : Int) < bn := by omega
        obtain ⟨g, z, rfl, hg, hcell, hfr, hset⟩ := HO.out.cell hlt
        have HSET := Lib.hid hset
        have HWG := Lib.hid (HWO.out g ⟨_, rfl, rfl⟩)
        clear hset
        go_wp2_with fail
        go_roundw
        case rel => exact ⟨j + 1, by go_num, by omega, Lib.hid (HSET.out _), Lib.hid (HD.out.write (p := ⟨g, j, none⟩) (.inr ⟨_, rfl, rfl⟩) HWG.out.1 _), Lib.hid (HB.out.of_heap (Below.heap_setCell _ _ _ _ (fun e => HWG.out.2 e.symm)))⟩
        case measure => simp [intOf]; omega
      · have hlt' : ¬ (j : Int) < bn := by omega
        have y1 := HB.out.cell (i := 1) rfl
        have y3 := HB.out.cell (i := 3) rfl
        have HCU : Hid (Cells W.heap.size wr ba (bys bl)) := Lib.hid (HBC.out _ HD.out.is)
        go_wp2_with fail
        refine (HX2.out _ HD.out HCU.out).mono ?_; rintro e w5 ⟨rfl, hd5, hs5⟩
        have HD5 := Lib.hid hd5
        clear hd5 hs5
        go_wp2_with fail
        rw [← HQ.out, HA.out]
        exact ⟨by rfl, HD5.out.fewer (fun k hk => hk.elim)⟩
  have q1 : (kind == 1) = false := beq_eq_false_iff_ne.2 hk1
  by_cases hk2 : kind = 2
  · subst hk2
    have HA : Hid (actN N ⟨2, c, n, ⟨ba, bcap, bl⟩⟩ = takeN N c n) := Lib.hid rfl
    have HX1 := Lib.hid (duo_take HD1.out HF.out c n HCW.out hnw)
    have HX2 := Lib.hid (fun u K (hu : Duo W xb rb (takeN N c n) N K u) => duo_rtake hu HF.out c n hnw)
    obtain ⟨tl, htl⟩ : ∃ tl, takenN N c n = tl := ⟨_, rfl⟩
    obtain ⟨e1, he1⟩ : ∃ e, takeE N c n = e := ⟨_, rfl⟩
    obtain ⟨m, hm⟩ : ∃ m, tl.length = m := ⟨_, rfl⟩
    rw [htl, he1] at HX1 HX2
    rw [hm] at HX1 HX2
    have HM := Lib.hid hm
    have t1 : (e1 == e1) = true := by simp
    have t2 := strOf_beq tl
    have hm63 : m ≤ 70000000000000 := by rw [← hm, ← htl]; exact takenN_len HF.out c n
    clear htl he1 hm
    go_enter Try.func17, Try.ntmps17
    go_wp2_with fail
    rw [HW1.out, HOB.out]
    clear HW1
    refine HX1.out.mono ?_; rintro e w2 ⟨oa, ocp, rfl, hib, hd2, hs2⟩
    have HIB := Lib.hid hib
    have HWO : Hid (∀ k, BlkOf oa k → W.heap.size ≤ k ∧ k ≠ ob) := Lib.hid (by
      rintro k ⟨y, hy, rfl⟩
      have h1 := (hib.lt y hy).1
      have h2 := HD1.out.is.size
      have h3 := HB1.out.lt
      exact ⟨by omega, by omega⟩)
    have HD2 := Lib.hid hd2
    have HB2 := Lib.hid (HB1.out.of_heap (hs2 ob rfl))
    have y1 := HB2.out.cell (i := 1) rfl
    have y2 := HB2.out.cell (i := 2) rfl
    clear hib hd2 hs2 y0 y3
    go_wp2_with fail
    refine (HX2.out _ _ HD2.out).mono ?_; rintro e w3 ⟨ra, rcp, rfl, hrc, hd3, hs3⟩
    have HIB3 : Hid (IsBytes w3 W.heap.size oa ocp tl) := Lib.hid ((HIB.out.mono HD1.out.is.size).of_heap fun y hy => hs3 _ (.inr ⟨y, hy, rfl⟩))
    have HD3 := Lib.hid hd3
    have hv1 := fun u (hu : u.heap = w3.heap) => conv_cells u oa ocp _ tl (show Cells w3.heap.size u oa (bys tl) from (Cells.of_eq hu HIB3.out.cells))
    have hv2 := fun u (hu : u.heap = w3.heap) => conv_cells u ra rcp _ tl (show Cells w3.heap.size u ra (bys tl) from (Cells.of_eq hu hrc))
    rw [HM.out] at hv1 hv2
    have v1 := hv1 w3 rfl
    have v2 := hv2 w3 rfl
    have HOI3 : Hid (OwnI w3 W.heap.size oa ocp m) := Lib.hid (by have h1 := OwnI.of_bytes HIB3.out; rw [HM.out] at h1; exact h1)
    clear hd3 hs3 hrc y1 y2 hv1 hv2
    go_wp2_with fail
    go_loopw [19] (fun iv wr => ∃ j : Nat, iv = .int .i64 j ∧ j ≤ m ∧ Hid (OwnI wr W.heap.size oa ocp m) ∧ Hid (Duo W xb rb (takeN N c n) (takeN N c n) (fun k => k = ob ∨ BlkOf oa k) wr)) (fun iv _ => m - (intOf iv).toNat)
    case atStart => exact ⟨0, rfl, Nat.zero_le _, HOI3, HD3⟩
    case round =>
      obtain ⟨j, rfl, hj, HO, HD⟩ := hrel
      have hj0 : (0 : Int) ≤ (j : Int) := by omega
      by_cases hlt : j < m
      · have hlt' : (j : Int) < m := by omega
        obtain ⟨g, z, rfl, hg, hcell, hfr, hset⟩ := HO.out.cell hlt
        have HSET := Lib.hid hset
        have HWG := Lib.hid (HWO.out g ⟨_, rfl, rfl⟩)
        clear hset
        go_wp2_with fail
        go_roundw
        case rel => exact ⟨j + 1, by go_num, by omega, Lib.hid (HSET.out _), Lib.hid (HD.out.write (p := ⟨g, j, none⟩) (.inr ⟨_, rfl, rfl⟩) HWG.out.1 _)⟩
        case measure => simp [intOf]; omega
      · have hlt' : ¬ (j : Int) < m := by omega
        go_wp2_with fail
        rw [← HQ.out, HA.out]
        exact ⟨by rfl, HD.out.fewer (fun k hk => hk.elim)⟩
  have q2 : (kind == 2) = false := beq_eq_false_iff_ne.2 hk2
  by_cases hk3 : kind = 3
  · subst hk3
    have HA : Hid (actN N ⟨3, c, n, ⟨ba, bcap, bl⟩⟩ = answerN N c bl) := Lib.hid rfl
    have hown : (w1.alloc (.cells #[] 5)).ownsRow (ob + 1) 5 1 (.slice (some ⟨ob + 1, 0, none⟩) 0 0) 0 [] := by
      have := World.ownsRow_made (e := 5) (size := 1) w1 #[] 0 (Nat.le_refl _) (Nat.zero_le _) (by simp)
      rw [HZ1.out] at this
      exact this
    have HC1 : Hid (Cells W.heap.size (w1.alloc (.cells #[] 5)) ba (bys bl)) := Lib.hid (HBC.out _ (HD1.out.is.alloc HD1.out.is.size _))
    have hw1z : ob < w1.heap.size := HB1.out.lt
    go_enter Try.func17, Try.ntmps17
    go_wp2_with (at_builtin; rw [HW1.out, HOB.out]; refine wpList_append_rows rfl _ _ 30 rfl (ob + 1) 5 i0 _ 1 1 Try.underlying30 hi0 hz0 hz1 hz2 rfl (by decide) _ 0 [] rfl hown ba bn bcap W.heap.size (bys bl) rfl HBN.out (by rw [bys_length, HBL.out, Nat.mul_one]) HC1.out (bys_one bl) (by unfold maxLen; omega) (by omega) (by have := HZ1.out; simp; omega) ?_)
    intro oa ocp w2 g1 g2 g3
    have hbl2 : Below w1.heap.size w1 w2 := ((Below.refl _ _).alloc (Nat.le_refl _) _).grown g2 (by simp) (fun k hk => by have := HZ1.out; simp [Value.ownBlock] at hk; omega)
    have hib : IsBytes w2 w1.heap.size oa ocp bl := by
      unfold IsBytes
      rw [HBL.out, HZ1.out]
      exact g1
    have HIB := Lib.hid hib
    have HD2 : Hid (Duo W xb rb N N (fun k => k = ob ∨ BlkOf oa k) w2) := Lib.hid (HD1.out.below hbl2 (fun k hk => hk.imp_right (by rintro ⟨y, hy, rfl⟩; exact hib.lt y hy)))
    have HB2 := Lib.hid (HB1.out.below hbl2 HB1.out.lt)
    have HCO : Hid (Cells w2.heap.size w2 oa (bys bl)) := Lib.hid hib.cells
    have HCZ : Hid (oa = none → ocp = 0) := Lib.hid hib.capz
    have HWO : Hid (∀ k, BlkOf oa k → W.heap.size ≤ k ∧ k ≠ ob) := Lib.hid (by
      rintro k ⟨y, hy, rfl⟩
      have h1 := (hib.lt y hy).1
      have h2 := HD1.out.is.size
      exact ⟨by omega, by omega⟩)
    have HOI : Hid (OwnI w2 W.heap.size oa ocp bn) := Lib.hid (by have h1 := OwnI.of_bytes (hib.mono HD1.out.is.size); rw [HBL.out] at h1; exact h1)
    have HBL3 : Hid (bl.length ≤ 1048576) := Lib.hid (by rw [HBL.out]; exact hbl)
    have HX1 := Lib.hid (duo_answer HD2.out HF.out c HCW.out oa bn ocp _ bl HBL.out.symm HBL3.out HCO.out HCZ.out)
    have HX2 := Lib.hid (fun u (hu : Duo W xb rb (answerN N c bl) N (fun k => k = ob ∨ BlkOf oa k) u) (hcu : Cells W.heap.size u ba (bys bl)) => duo_ranswer hu HF.out c ba bn bcap _ bl HBL.out.symm HBL3.out hcu HBN.out)
    generalize liveE N c = e1 at *
    have t1 : (e1 == e1) = true := by simp
    have y1 := HB2.out.cell (i := 1) rfl
    have y3 := HB2.out.cell (i := 3) rfl
    clear g1 g2 g3 hbl2 hib y0 y2
    go_wp2_with fail
    refine HX1.out.mono ?_; rintro e w3 ⟨rfl, hd3, hs3⟩
    have HD3 := Lib.hid hd3
    have HB3 := Lib.hid (HB2.out.of_heap (hs3 ob (.inl rfl)))
    have HOI3 : Hid (OwnI w3 W.heap.size oa ocp bn) := Lib.hid (HOI.out.same fun k hk => hs3 k (.inr hk))
    clear hd3 hs3 y1 y3
    go_wp2_with fail
    go_loopw [22] (fun iv wr => ∃ j : Nat, iv = .int .i64 j ∧ j ≤ bn ∧ Hid (OwnI wr W.heap.size oa ocp bn) ∧ Hid (Duo W xb rb (answerN N c bl) N (fun k => k = ob ∨ BlkOf oa k) wr) ∧ Hid (Block wr ob [.int .i64 3, .int .i64 c, .int .i64 n, .slice ba bn bcap] 48)) (fun iv _ => bn - (intOf iv).toNat)
    case atStart => exact ⟨0, rfl, Nat.zero_le _, HOI3, HD3, HB3⟩
    case round =>
      obtain ⟨j, rfl, hj, HO, HD, HB⟩ := hrel
      have hj0 : (0 : Int) ≤ (j : Int) := by omega
      by_cases hlt : j < bn
      · have hlt' : (j : Int) < bn := by omega
        obtain ⟨g, z, rfl, hg, hcell, hfr, hset⟩ := HO.out.cell hlt
        have HSET := Lib.hid hset
        have HWG := Lib.hid (HWO.out g ⟨_, rfl, rfl⟩)
        clear hset
        go_wp2_with fail
        go_roundw
        case rel => exact ⟨j + 1, by go_num, by omega, Lib.hid (HSET.out _), Lib.hid (HD.out.write (p := ⟨g, j, none⟩) (.inr ⟨_, rfl, rfl⟩) HWG.out.1 _), Lib.hid (HB.out.of_heap (Below.heap_setCell _ _ _ _ (fun e => HWG.out.2 e.symm)))⟩
        case measure => simp [intOf]; omega
      · have hlt' : ¬ (j : Int) < bn := by omega
        have y1 := HB.out.cell (i := 1) rfl
        have y3 := HB.out.cell (i := 3) rfl
        have HCU : Hid (Cells W.heap.size wr ba (bys bl)) := Lib.hid (HBC.out _ HD.out.is)
        go_wp2_with fail
        refine (HX2.out _ HD.out HCU.out).mono ?_; rintro e w5 ⟨rfl, hd5, hs5⟩
        have HD5 := Lib.hid hd5
        clear hd5 hs5
        go_wp2_with fail
        rw [← HQ.out, HA.out]
        exact ⟨by rfl, HD5.out.fewer (fun k hk => hk.elim)⟩
  have q3 : (kind == 3) = false := beq_eq_false_iff_ne.2 hk3
  by_cases hk4 : kind = 4
  · subst hk4
    have HA : Hid (actN N ⟨4, c, n, ⟨ba, bcap, bl⟩⟩ = cutN N c n) := Lib.hid rfl
    have HX1 := Lib.hid (fun u (hu : Duo W xb rb N N (fun k => k = ob) u) => duo_cut hu HF.out c n HCW.out hnw)
    have HX2 := Lib.hid (fun u (hu : Duo W xb rb (cutN N c n) N (fun k => k = ob) u) => duo_rcut hu HF.out c n hnw)
    generalize cutE N c n = e1 at *
    have t1 : (e1 == e1) = true := by simp
    go_enter Try.func17, Try.ntmps17
    go_wp2_with fail
    rw [HW1.out, HOB.out]
    clear HW1
    clear y0 y3
    apply wp_mid0 (R := fun w3 => Duo W xb rb (cutN N c n) (cutN N c n) (fun k => k = ob) w3)
    case h =>
      go_region_held (fun w' => w'.cell? ⟨ob, 1, none⟩ = some (.int .i64 c) ∧ w'.cell? ⟨ob, 2, none⟩ = some (.int .i64 n)) (first | exact ⟨bk4.cell (i := 1) rfl, bk4.cell (i := 2) rfl⟩ | exact ⟨bk3.cell (i := 1) rfl, bk3.cell (i := 2) rfl⟩ | exact ⟨y1, y2⟩) (first | (go_at_call 13; refine (HX1.out _ (by first | exact HD1.out | exact HD1.out.drew)).mono ?_; rintro e w3 ⟨rfl, ht3, hs3⟩; have bk3 : Block w3 ob [.int .i64 4, .int .i64 c, .int .i64 n, .slice ba bn bcap] 48 := HB1.out.of_heap (hs3 ob rfl)) | (go_at_call 30; refine (HX2.out _ (by assumption)).mono ?_; rintro e w4 ⟨rfl, ht4, hs4⟩; have bk4 : Block w4 ob [.int .i64 4, .int .i64 c, .int .i64 n, .slice ba bn bcap] 48 := bk3.of_heap (hs4 ob rfl)))
      all_goals exact ⟨ht4, rfl⟩
    intro w3 ht3
    have HD5 := Lib.hid ht3
    clear ht3
    go_wp2_with fail
    rw [← HQ.out, HA.out]
    exact ⟨by rfl, HD5.out.fewer (fun k hk => hk.elim)⟩
  have q4 : (kind == 4) = false := beq_eq_false_iff_ne.2 hk4
  by_cases hk5 : kind = 5
  · subst hk5
    have HA : Hid (actN N ⟨5, c, n, ⟨ba, bcap, bl⟩⟩ = dropN N c) := Lib.hid rfl
    have HX1 := Lib.hid (fun u (hu : Duo W xb rb N N (fun k => k = ob) u) => duo_drop hu HF.out c HCW.out)
    have HX2 := Lib.hid (fun u (hu : Duo W xb rb (dropN N c) N (fun k => k = ob) u) => duo_rdrop hu HF.out c)
    generalize dropE N c = e1 at *
    have t1 : (e1 == e1) = true := by simp
    go_enter Try.func17, Try.ntmps17
    go_wp2_with fail
    rw [HW1.out, HOB.out]
    clear HW1
    clear y0 y3
    apply wp_mid0 (R := fun w3 => Duo W xb rb (dropN N c) (dropN N c) (fun k => k = ob) w3)
    case h =>
      go_region_held (fun w' => w'.cell? ⟨ob, 1, none⟩ = some (.int .i64 c) ∧ w'.cell? ⟨ob, 2, none⟩ = some (.int .i64 n)) (first | exact ⟨bk4.cell (i := 1) rfl, bk4.cell (i := 2) rfl⟩ | exact ⟨bk3.cell (i := 1) rfl, bk3.cell (i := 2) rfl⟩ | exact ⟨y1, y2⟩) (first | (go_at_call 16; refine (HX1.out _ (by first | exact HD1.out | exact HD1.out.drew)).mono ?_; rintro e w3 ⟨rfl, ht3, hs3⟩; have bk3 : Block w3 ob [.int .i64 5, .int .i64 c, .int .i64 n, .slice ba bn bcap] 48 := HB1.out.of_heap (hs3 ob rfl)) | (go_at_call 31; refine (HX2.out _ (by assumption)).mono ?_; rintro e w4 ⟨rfl, ht4, hs4⟩; have bk4 : Block w4 ob [.int .i64 5, .int .i64 c, .int .i64 n, .slice ba bn bcap] 48 := bk3.of_heap (hs4 ob rfl)))
      all_goals exact ⟨ht4, rfl⟩
    intro w3 ht3
    have HD5 := Lib.hid ht3
    clear ht3
    go_wp2_with fail
    rw [← HQ.out, HA.out]
    exact ⟨by rfl, HD5.out.fewer (fun k hk => hk.elim)⟩
  have q5 : (kind == 5) = false := beq_eq_false_iff_ne.2 hk5
  have HA : Hid (actN N ⟨kind, c, n, ⟨ba, bcap, bl⟩⟩ = N) := Lib.hid (by unfold actN; simp only; rw [if_neg hk0, if_neg hk1, if_neg hk2, if_neg hk3, if_neg hk4, if_neg hk5])
  clear hk0 hk1 hk2 hk3 hk4 hk5
  go_enter Try.func17, Try.ntmps17
  go_wp2_with fail
  rw [HW1.out, HOB.out]
  clear HW1
  rw [← HQ.out, HA.out]
  exact ⟨by rfl, HD1.out.fewer (fun k hk => hk.elim)⟩
end Go.Proofs.Yteopfknoemifgaa

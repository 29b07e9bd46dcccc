/- BookDoes. Conditions: the acts' rows are small. -/
import Derived.Test.YtaonfacbmolklaaTwo
import Derived.Deep.RegionHeld
namespace Go.Proofs.Ytaonfacbmolklaa
open Go.RowKit
set_option linter.unusedSimpArgs false
set_option linter.unusedVariables false

set_option maxRecDepth 100000 in
set_option maxHeartbeats 32000000 in
theorem bookDoes_any (a0 : Option Addr) (cap0 : Nat) (os : List Op) (W : World) (hrow : Cells W.heap.size W a0 (os.flatMap Op.cells)) (hok : ∀ o ∈ os, o.ok W) (hsm : (os.map fun o => o.l.length + 1).sum ≤ 1048576) :
    Calls Try.prog 3 #[.slice a0 os.length cap0] W fun e w' => e = .returned (.bool true) ∧ Below W.heap.size W w' := by
  have HROW := Lib.hid hrow
  have HOK := Lib.hid hok
  have hlen : ∀ o ∈ os, o.l.length ≤ 1048576 := fun o ho => by
    obtain ⟨i, hi⟩ := List.mem_iff_getElem?.1 ho
    have := sum_get (fun o : Op => o.l.length + 1) hi
    have h2 : o.l.length + 1 ≤ (os.map fun o => o.l.length + 1).sum := this
    omega
  have HLN := Lib.hid hlen
  have hnl : os.length ≤ 1048576 := by
    have h1 : os.length ≤ (os.map fun o => o.l.length + 1).sum := by
      clear hrow HROW hok HOK hsm hlen HLN
      induction os with
      | nil => simp
      | cons o os ih => simp only [List.map_cons, List.sum_cons, List.length_cons]; omega
    omega
  have HN := Lib.hid (new_any W W.heap.size (Nat.le_refl _))
  have HW := Lib.hid (fun u => works_any u)
  obtain ⟨n, hl⟩ : ∃ n, os.length = n := ⟨_, rfl⟩
  rw [hl] at hnl ⊢
  have HL := Lib.hid hl
  clear hrow hok hsm hlen hl
  go_enter Try.func3, Try.ntmps3
  go_wp2_with fail
  refine HN.out.mono ?_
  rintro e u0 ⟨rfl, hb0, hz0, hba⟩
  have K0 := Lib.hid (two_start hb0 hz0 hba)
  clear hb0 hz0 hba
  obtain ⟨Pr, hPr⟩ : ∃ P, u0.heap.size = P := ⟨_, rfl⟩
  obtain ⟨Pb, hPb⟩ : ∃ P, W.heap.size = P := ⟨_, rfl⟩
  have HPB := Lib.hid hPb
  have HPR := Lib.hid hPr
  have K1 : Hid (TwoL W Pb Pr ⟨[], 0⟩ ⟨[], 0⟩ (fun _ => False) (u0.alloc (.cells #[.slice none 0 0, .int .i64 0] 28))) := Lib.hid (by rw [← hPb, ← hPr]; exact K0.out)
  rw [hPb]
  clear K0 hPr hPb
  go_wp2_with fail
  obtain ⟨u1, hu1⟩ : ∃ u, u0.alloc (.cells #[.slice none 0 0, .int .i64 0] 28) = u := ⟨_, rfl⟩
  rw [hu1] at K1
  rw [hu1]
  rw [HPR.out]
  clear hu1 HPR
  go_loopw [5] (fun jv wr => ∃ (j : Nat) (b : Bk), jv = .int .i64 j ∧ j ≤ n ∧ j ≤ 120 ∧ Hid (OkBk j b) ∧ Hid (TwoL W Pb Pr b b (fun _ => False) wr)) (fun jv _ => n - (intOf jv).toNat)
  case atStart => exact ⟨0, ⟨[], 0⟩, rfl, Nat.zero_le _, Nat.zero_le _, Lib.hid okBk_new, K1⟩
  case round =>
    obtain ⟨j, b, rfl, hj, hj1, HO, HT⟩ := hrel
    have hj0 : (0 : Int) ≤ (j : Int) := by omega
    by_cases hlt : j < n
    · have hlt' : (j : Int) < n := by omega
      by_cases hlh : j < 120
      · have hlh' : (j : Int) < 120 := by omega
        obtain ⟨o, ho⟩ : ∃ o, os[j]? = some o := get_some (by have := HL.out; omega)
        obtain ⟨bo, off, rfl, hb, hc⟩ := Cells.elem (size := 4) HROW.out (fun _ _ => rfl) (by omega) ho
        have hbo := HOK.out o (List.mem_of_getElem? ho)
        have hll := HLN.out o (List.mem_of_getElem? ho)
        have z0 : wr.cell? ⟨bo, off + j * 4, none⟩ = some (.int .i64 o.kind) := by rw [HT.out.2.cell hb, show off + j * 4 = off + (j * 4 + 0) from by omega]; exact hc 0 _ rfl
        have z1 : wr.cell? ⟨bo, off + j * 4 + 1, none⟩ = some (.int .i64 o.who) := by rw [HT.out.2.cell hb, show off + j * 4 + 1 = off + (j * 4 + 1) from by omega]; exact hc 1 _ rfl
        have z2 : wr.cell? ⟨bo, off + j * 4 + 2, none⟩ = some (.int .i64 o.at_) := by rw [HT.out.2.cell hb, show off + j * 4 + 2 = off + (j * 4 + 2) from by omega]; exact hc 2 _ rfl
        have z3 : wr.cell? ⟨bo, off + j * 4 + 3, none⟩ = some (.slice o.a o.l.length o.c) := by rw [HT.out.2.cell hb, show off + j * 4 + 3 = off + (j * 4 + 3) from by omega]; exact hc 3 _ rfl
        obtain ⟨ok, who, at_, oa, oc, ol⟩ := o
        simp only at z0 z1 z2 z3 hll
        have hrw : StrRow W.heap.size W oa ol := hbo.row
        have HT1 := Lib.hid (HT.out.own [.int .i64 ok, .int .i64 who, .int .i64 at_, .slice oa ol.length oc])
        obtain ⟨ob, hob⟩ : ∃ ob, wr.heap.size = ob := ⟨_, rfl⟩
        rw [hob] at HT1
        have HOB := Lib.hid hob
        have HRW := Lib.hid hrw
        have HLL := Lib.hid hll
        -- what stands behind each act
        have HEND : Hid (∀ (b' : Bk), OkBk (j + 1) b' → (∀ u, TwoO W Pb Pr b' b' ob [.int .i64 ok, .int .i64 who, .int .i64 at_, .slice oa ol.length oc] u → Calls Try.prog 18 #[.pointer (some ⟨Pb, 0, none⟩), .int .i64 who] u fun e w' => e = .returned (.tuple #[.bool (flagsB b'.es who).1, .bool (flagsB b'.es who).2]) ∧ TwoO W Pb Pr b' b' ob [.int .i64 ok, .int .i64 who, .int .i64 at_, .slice oa ol.length oc] w')
          ∧ (∀ u, TwoO W Pb Pr b' b' ob [.int .i64 ok, .int .i64 who, .int .i64 at_, .slice oa ol.length oc] u → Calls Try.prog 19 #[.pointer (some ⟨Pr, 0, none⟩), .int .i64 who] u fun e w' => e = .returned (.tuple #[.bool (flagsB b'.es who).1, .bool (flagsB b'.es who).2]) ∧ TwoO W Pb Pr b' b' ob [.int .i64 ok, .int .i64 who, .int .i64 at_, .slice oa ol.length oc] w')) := Lib.hid (fun b' hb' => ⟨fun u h => two_flags who h hb' (by omega), fun u h => two_rflags who h hb' (by omega)⟩)
        clear ho hb hc hbo hll hrw hob
        obtain ⟨w1, hw1⟩ : ∃ w1, wr.alloc (.cells #[.int .i64 ok, .int .i64 who, .int .i64 at_, .slice oa ol.length oc] 31) = w1 := ⟨_, rfl⟩
        have HT2 : Hid (TwoO W Pb Pr b b ob [.int .i64 ok, .int .i64 who, .int .i64 at_, .slice oa ol.length oc] w1) := Lib.hid (by rw [← hw1]; exact HT1.out)
        have HW1 := Lib.hid hw1
        clear hw1 HT1
        by_cases hk0 : ok = 0
        · have H1 := Lib.hid (fun u (h : TwoO W Pb Pr b b ob [.int .i64 ok, .int .i64 who, .int .i64 at_, .slice oa ol.length oc] u) => two_open who at_ h HO.out (by omega))
          have H2 := Lib.hid (fun u (h : TwoO W Pb Pr (openB b who at_).2 b ob [.int .i64 ok, .int .i64 who, .int .i64 at_, .slice oa ol.length oc] u) => two_ropen who at_ h HO.out (by omega))
          have HOB2 : Hid (OkBk (j + 1) (openB b who at_).2) := Lib.hid (HO.out.open_ who at_)
          generalize (openB b who at_).2 = b' at *
          generalize (openB b who at_).1 = vv at *
          have hvv : (vv == vv) = true := by simp
          subst hk0
          as_aux_lemma =>
            go_wp2_with fail
            rw [HW1.out, HOB.out]
            have y1 := HT2.out.2.1.cell (i := 1) rfl
            have y2 := HT2.out.2.1.cell (i := 2) rfl
            have y3 := HT2.out.2.1.cell (i := 3) rfl
            clear z0 z1 z2 z3
            apply wp_mid0 (R := fun w3 => TwoO W Pb Pr b' b' ob [.int .i64 0, .int .i64 who, .int .i64 at_, .slice oa ol.length oc] w3)
            case h =>
              go_region_held (fun w' => w'.cell? ⟨ob, 1, none⟩ = some (.int .i64 who) ∧ w'.cell? ⟨ob, 2, none⟩ = some (.int .i64 at_) ∧ w'.cell? ⟨ob, 3, none⟩ = some (.slice oa ol.length oc)) (first | exact ⟨ht4.2.1.cell (i := 1) rfl, ht4.2.1.cell (i := 2) rfl, ht4.2.1.cell (i := 3) rfl⟩ | exact ⟨ht3.2.1.cell (i := 1) rfl, ht3.2.1.cell (i := 2) rfl, ht3.2.1.cell (i := 3) rfl⟩ | exact ⟨y1, y2, y3⟩) (first | (go_at_call 8; refine (H1.out _ (by first | exact HT2.out | exact HT2.out.drew)).mono ?_; rintro e w3 ⟨rfl, ht3⟩) | (go_at_call 9; refine (H2.out _ (by assumption)).mono ?_; rintro e w4 ⟨rfl, ht4⟩))
              all_goals exact ⟨ht4, rfl⟩
            intro w3 ht3
            have HT3 := Lib.hid ht3
            clear ht3 y1 y2 y3 H1 H2 HT2
            have HFa := Lib.hid ((HEND.out b' HOB2.out).1)
            have HFb := Lib.hid ((HEND.out b' HOB2.out).2)
            generalize (flagsB b'.es who).1 = f1 at *
            generalize (flagsB b'.es who).2 = f2 at *
            clear HEND
            have y1 := (HT3.out).2.1.cell (i := 1) rfl
            go_wp2_with fail
            refine (HFa.out _ HT3.out).mono ?_
            rintro e u5 ⟨rfl, ht5⟩
            have y1 := ht5.2.1.cell (i := 1) rfl
            have HT5 := Lib.hid ht5
            clear ht5
            go_wp2_with fail
            refine (HFb.out _ HT5.out).mono ?_
            rintro e u6 ⟨rfl, ht6⟩
            have HT6 := Lib.hid ht6
            obtain ⟨v0, hv0⟩ := Ext.start u6.heap.size u6
            have HV := Lib.hid hv0
            have HS := Lib.hid (fun u : Ext u6.heap.size u6 => ext_still u (two_size (ht6.below u.below)))
            have HLs := Lib.hid (fun u : Ext u6.heap.size u6 => ext_still u (two_last (ht6.below u.below)))
            obtain ⟨ra, rc, hPl, k0, k1⟩ := two_cells ht6
            have c0 : ∀ u : Ext u6.heap.size u6, u.w.cell? ⟨Pr, 0, none⟩ = some (.slice ra b'.es.length rc) := fun u => u.cell hPl k0
            have c1 : ∀ u : Ext u6.heap.size u6, u.w.cell? ⟨Pr, 1, none⟩ = some (.int .i64 b'.last) := fun u => u.cell hPl k1
            have HT7 := Lib.hid (fun u : Ext u6.heap.size u6 => (ht6.below u.below).off)
            clear ht6 hv0 k0 k1
            generalize b'.es.length = bl at *
            generalize b'.last = bt at *
            have hf1 : (f1 != f1) = false := by simp
            have hf2 : (f2 != f2) = false := by simp
            have hf3 : ((bl : Int) != (bl : Int)) = false := by simp
            have hf4 : (bt != bt) = false := by simp
            go_wp2_with fail
            rw [HV.out]
            refine wp_region_at v0 (by kernel_rfl) (by kernel_rfl) ?_
            repeat (go_big_quiet_step ((with_reducible first | exact HS.out _ | exact HLs.out _)))
            refine wpQuiet_nil ?_
            rintro w2 ⟨u7, rfl⟩
            go_wp2_with fail
            go_roundw
            case rel => exact ⟨j + 1, b', by go_num, by omega, by omega, Lib.hid (HOB2.out), Lib.hid (HT7.out u7)⟩
            case measure => simp [intOf]; omega
        by_cases hk1 : ok = 1
        · have H1 := Lib.hid (fun u (h : TwoO W Pb Pr b b ob [.int .i64 ok, .int .i64 who, .int .i64 at_, .slice oa ol.length oc] u) => two_read who oc h HO.out (by omega) HRW.out HLL.out)
          have H2 := Lib.hid (fun u (h : TwoO W Pb Pr (readB b who ol).2 b ob [.int .i64 ok, .int .i64 who, .int .i64 at_, .slice oa ol.length oc] u) => two_rread who oc h HO.out (by omega) HRW.out HLL.out)
          have HOB2 : Hid (OkBk (j + 1) (readB b who ol).2) := Lib.hid (HO.out.read who ol HLL.out)
          generalize (readB b who ol).2 = b' at *
          generalize (readB b who ol).1 = vv at *
          have hvv : (vv == vv) = true := by simp
          subst hk1
          as_aux_lemma =>
            go_wp2_with fail
            rw [HW1.out, HOB.out]
            have y1 := HT2.out.2.1.cell (i := 1) rfl
            have y2 := HT2.out.2.1.cell (i := 2) rfl
            have y3 := HT2.out.2.1.cell (i := 3) rfl
            clear z0 z1 z2 z3
            apply wp_mid0 (R := fun w3 => TwoO W Pb Pr b' b' ob [.int .i64 1, .int .i64 who, .int .i64 at_, .slice oa ol.length oc] w3)
            case h =>
              go_region_held (fun w' => w'.cell? ⟨ob, 1, none⟩ = some (.int .i64 who) ∧ w'.cell? ⟨ob, 2, none⟩ = some (.int .i64 at_) ∧ w'.cell? ⟨ob, 3, none⟩ = some (.slice oa ol.length oc)) (first | exact ⟨ht4.2.1.cell (i := 1) rfl, ht4.2.1.cell (i := 2) rfl, ht4.2.1.cell (i := 3) rfl⟩ | exact ⟨ht3.2.1.cell (i := 1) rfl, ht3.2.1.cell (i := 2) rfl, ht3.2.1.cell (i := 3) rfl⟩ | exact ⟨y1, y2, y3⟩) (first | (go_at_call 10; refine (H1.out _ (by first | exact HT2.out | exact HT2.out.drew)).mono ?_; rintro e w3 ⟨rfl, ht3⟩) | (go_at_call 11; refine (H2.out _ (by assumption)).mono ?_; rintro e w4 ⟨rfl, ht4⟩))
              all_goals exact ⟨ht4, rfl⟩
            intro w3 ht3
            have HT3 := Lib.hid ht3
            clear ht3 y1 y2 y3 H1 H2 HT2
            have HFa := Lib.hid ((HEND.out b' HOB2.out).1)
            have HFb := Lib.hid ((HEND.out b' HOB2.out).2)
            generalize (flagsB b'.es who).1 = f1 at *
            generalize (flagsB b'.es who).2 = f2 at *
            clear HEND
            have y1 := (HT3.out).2.1.cell (i := 1) rfl
            go_wp2_with fail
            refine (HFa.out _ HT3.out).mono ?_
            rintro e u5 ⟨rfl, ht5⟩
            have y1 := ht5.2.1.cell (i := 1) rfl
            have HT5 := Lib.hid ht5
            clear ht5
            go_wp2_with fail
            refine (HFb.out _ HT5.out).mono ?_
            rintro e u6 ⟨rfl, ht6⟩
            have HT6 := Lib.hid ht6
            obtain ⟨v0, hv0⟩ := Ext.start u6.heap.size u6
            have HV := Lib.hid hv0
            have HS := Lib.hid (fun u : Ext u6.heap.size u6 => ext_still u (two_size (ht6.below u.below)))
            have HLs := Lib.hid (fun u : Ext u6.heap.size u6 => ext_still u (two_last (ht6.below u.below)))
            obtain ⟨ra, rc, hPl, k0, k1⟩ := two_cells ht6
            have c0 : ∀ u : Ext u6.heap.size u6, u.w.cell? ⟨Pr, 0, none⟩ = some (.slice ra b'.es.length rc) := fun u => u.cell hPl k0
            have c1 : ∀ u : Ext u6.heap.size u6, u.w.cell? ⟨Pr, 1, none⟩ = some (.int .i64 b'.last) := fun u => u.cell hPl k1
            have HT7 := Lib.hid (fun u : Ext u6.heap.size u6 => (ht6.below u.below).off)
            clear ht6 hv0 k0 k1
            generalize b'.es.length = bl at *
            generalize b'.last = bt at *
            have hf1 : (f1 != f1) = false := by simp
            have hf2 : (f2 != f2) = false := by simp
            have hf3 : ((bl : Int) != (bl : Int)) = false := by simp
            have hf4 : (bt != bt) = false := by simp
            go_wp2_with fail
            rw [HV.out]
            refine wp_region_at v0 (by kernel_rfl) (by kernel_rfl) ?_
            repeat (go_big_quiet_step ((with_reducible first | exact HS.out _ | exact HLs.out _)))
            refine wpQuiet_nil ?_
            rintro w2 ⟨u7, rfl⟩
            go_wp2_with fail
            go_roundw
            case rel => exact ⟨j + 1, b', by go_num, by omega, by omega, Lib.hid (HOB2.out), Lib.hid (HT7.out u7)⟩
            case measure => simp [intOf]; omega
        by_cases hk2 : ok = 2
        · have H1 := Lib.hid (fun u (h : TwoO W Pb Pr b b ob [.int .i64 ok, .int .i64 who, .int .i64 at_, .slice oa ol.length oc] u) => two_touch who oc h HO.out (by omega) HRW.out HLL.out)
          have H2 := Lib.hid (fun u (h : TwoO W Pb Pr (touchB b who ol).2 b ob [.int .i64 ok, .int .i64 who, .int .i64 at_, .slice oa ol.length oc] u) => two_rtouch who oc h HO.out (by omega) HRW.out HLL.out)
          have HOB2 : Hid (OkBk (j + 1) (touchB b who ol).2) := Lib.hid (HO.out.touch who ol HLL.out)
          generalize (touchB b who ol).2 = b' at *
          generalize (touchB b who ol).1 = vv at *
          have hvv : (vv == vv) = true := by simp
          subst hk2
          as_aux_lemma =>
            go_wp2_with fail
            rw [HW1.out, HOB.out]
            have y1 := HT2.out.2.1.cell (i := 1) rfl
            have y2 := HT2.out.2.1.cell (i := 2) rfl
            have y3 := HT2.out.2.1.cell (i := 3) rfl
            clear z0 z1 z2 z3
            apply wp_mid0 (R := fun w3 => TwoO W Pb Pr b' b' ob [.int .i64 2, .int .i64 who, .int .i64 at_, .slice oa ol.length oc] w3)
            case h =>
              go_region_held (fun w' => w'.cell? ⟨ob, 1, none⟩ = some (.int .i64 who) ∧ w'.cell? ⟨ob, 2, none⟩ = some (.int .i64 at_) ∧ w'.cell? ⟨ob, 3, none⟩ = some (.slice oa ol.length oc)) (first | exact ⟨ht4.2.1.cell (i := 1) rfl, ht4.2.1.cell (i := 2) rfl, ht4.2.1.cell (i := 3) rfl⟩ | exact ⟨ht3.2.1.cell (i := 1) rfl, ht3.2.1.cell (i := 2) rfl, ht3.2.1.cell (i := 3) rfl⟩ | exact ⟨y1, y2, y3⟩) (first | (go_at_call 12; refine (H1.out _ (by first | exact HT2.out | exact HT2.out.drew)).mono ?_; rintro e w3 ⟨rfl, ht3⟩) | (go_at_call 13; refine (H2.out _ (by assumption)).mono ?_; rintro e w4 ⟨rfl, ht4⟩))
              all_goals exact ⟨ht4, rfl⟩
            intro w3 ht3
            have HT3 := Lib.hid ht3
            clear ht3 y1 y2 y3 H1 H2 HT2
            have HFa := Lib.hid ((HEND.out b' HOB2.out).1)
            have HFb := Lib.hid ((HEND.out b' HOB2.out).2)
            generalize (flagsB b'.es who).1 = f1 at *
            generalize (flagsB b'.es who).2 = f2 at *
            clear HEND
            have y1 := (HT3.out).2.1.cell (i := 1) rfl
            go_wp2_with fail
            refine (HFa.out _ HT3.out).mono ?_
            rintro e u5 ⟨rfl, ht5⟩
            have y1 := ht5.2.1.cell (i := 1) rfl
            have HT5 := Lib.hid ht5
            clear ht5
            go_wp2_with fail
            refine (HFb.out _ HT5.out).mono ?_
            rintro e u6 ⟨rfl, ht6⟩
            have HT6 := Lib.hid ht6
            obtain ⟨v0, hv0⟩ := Ext.start u6.heap.size u6
            have HV := Lib.hid hv0
            have HS := Lib.hid (fun u : Ext u6.heap.size u6 => ext_still u (two_size (ht6.below u.below)))
            have HLs := Lib.hid (fun u : Ext u6.heap.size u6 => ext_still u (two_last (ht6.below u.below)))
            obtain ⟨ra, rc, hPl, k0, k1⟩ := two_cells ht6
            have c0 : ∀ u : Ext u6.heap.size u6, u.w.cell? ⟨Pr, 0, none⟩ = some (.slice ra b'.es.length rc) := fun u => u.cell hPl k0
            have c1 : ∀ u : Ext u6.heap.size u6, u.w.cell? ⟨Pr, 1, none⟩ = some (.int .i64 b'.last) := fun u => u.cell hPl k1
            have HT7 := Lib.hid (fun u : Ext u6.heap.size u6 => (ht6.below u.below).off)
            clear ht6 hv0 k0 k1
            generalize b'.es.length = bl at *
            generalize b'.last = bt at *
            have hf1 : (f1 != f1) = false := by simp
            have hf2 : (f2 != f2) = false := by simp
            have hf3 : ((bl : Int) != (bl : Int)) = false := by simp
            have hf4 : (bt != bt) = false := by simp
            go_wp2_with fail
            rw [HV.out]
            refine wp_region_at v0 (by kernel_rfl) (by kernel_rfl) ?_
            repeat (go_big_quiet_step ((with_reducible first | exact HS.out _ | exact HLs.out _)))
            refine wpQuiet_nil ?_
            rintro w2 ⟨u7, rfl⟩
            go_wp2_with fail
            go_roundw
            case rel => exact ⟨j + 1, b', by go_num, by omega, by omega, Lib.hid (HOB2.out), Lib.hid (HT7.out u7)⟩
            case measure => simp [intOf]; omega
        by_cases hk3 : ok = 3
        · have H1 := Lib.hid (fun u (h : TwoO W Pb Pr b b ob [.int .i64 ok, .int .i64 who, .int .i64 at_, .slice oa ol.length oc] u) => two_close who at_ h HO.out (by omega))
          have H2 := Lib.hid (fun u (h : TwoO W Pb Pr (closeB b who at_).2 b ob [.int .i64 ok, .int .i64 who, .int .i64 at_, .slice oa ol.length oc] u) => two_rclose who at_ h HO.out (by omega))
          have HOB2 : Hid (OkBk (j + 1) (closeB b who at_).2) := Lib.hid ((HO.out.close who at_).mono (by omega))
          generalize (closeB b who at_).2 = b' at *
          generalize (closeB b who at_).1 = vv at *
          have hvv : (vv == vv) = true := by simp
          subst hk3
          as_aux_lemma =>
            go_wp2_with fail
            rw [HW1.out, HOB.out]
            have y1 := HT2.out.2.1.cell (i := 1) rfl
            have y2 := HT2.out.2.1.cell (i := 2) rfl
            have y3 := HT2.out.2.1.cell (i := 3) rfl
            clear z0 z1 z2 z3
            apply wp_mid0 (R := fun w3 => TwoO W Pb Pr b' b' ob [.int .i64 3, .int .i64 who, .int .i64 at_, .slice oa ol.length oc] w3)
            case h =>
              go_region_held (fun w' => w'.cell? ⟨ob, 1, none⟩ = some (.int .i64 who) ∧ w'.cell? ⟨ob, 2, none⟩ = some (.int .i64 at_) ∧ w'.cell? ⟨ob, 3, none⟩ = some (.slice oa ol.length oc)) (first | exact ⟨ht4.2.1.cell (i := 1) rfl, ht4.2.1.cell (i := 2) rfl, ht4.2.1.cell (i := 3) rfl⟩ | exact ⟨ht3.2.1.cell (i := 1) rfl, ht3.2.1.cell (i := 2) rfl, ht3.2.1.cell (i := 3) rfl⟩ | exact ⟨y1, y2, y3⟩) (first | (go_at_call 14; refine (H1.out _ (by first | exact HT2.out | exact HT2.out.drew)).mono ?_; rintro e w3 ⟨rfl, ht3⟩) | (go_at_call 15; refine (H2.out _ (by assumption)).mono ?_; rintro e w4 ⟨rfl, ht4⟩))
              all_goals exact ⟨ht4, rfl⟩
            intro w3 ht3
            have HT3 := Lib.hid ht3
            clear ht3 y1 y2 y3 H1 H2 HT2
            have HFa := Lib.hid ((HEND.out b' HOB2.out).1)
            have HFb := Lib.hid ((HEND.out b' HOB2.out).2)
            generalize (flagsB b'.es who).1 = f1 at *
            generalize (flagsB b'.es who).2 = f2 at *
            clear HEND
            have y1 := (HT3.out).2.1.cell (i := 1) rfl
            go_wp2_with fail
            refine (HFa.out _ HT3.out).mono ?_
            rintro e u5 ⟨rfl, ht5⟩
            have y1 := ht5.2.1.cell (i := 1) rfl
            have HT5 := Lib.hid ht5
            clear ht5
            go_wp2_with fail
            refine (HFb.out _ HT5.out).mono ?_
            rintro e u6 ⟨rfl, ht6⟩
            have HT6 := Lib.hid ht6
            obtain ⟨v0, hv0⟩ := Ext.start u6.heap.size u6
            have HV := Lib.hid hv0
            have HS := Lib.hid (fun u : Ext u6.heap.size u6 => ext_still u (two_size (ht6.below u.below)))
            have HLs := Lib.hid (fun u : Ext u6.heap.size u6 => ext_still u (two_last (ht6.below u.below)))
            obtain ⟨ra, rc, hPl, k0, k1⟩ := two_cells ht6
            have c0 : ∀ u : Ext u6.heap.size u6, u.w.cell? ⟨Pr, 0, none⟩ = some (.slice ra b'.es.length rc) := fun u => u.cell hPl k0
            have c1 : ∀ u : Ext u6.heap.size u6, u.w.cell? ⟨Pr, 1, none⟩ = some (.int .i64 b'.last) := fun u => u.cell hPl k1
            have HT7 := Lib.hid (fun u : Ext u6.heap.size u6 => (ht6.below u.below).off)
            clear ht6 hv0 k0 k1
            generalize b'.es.length = bl at *
            generalize b'.last = bt at *
            have hf1 : (f1 != f1) = false := by simp
            have hf2 : (f2 != f2) = false := by simp
            have hf3 : ((bl : Int) != (bl : Int)) = false := by simp
            have hf4 : (bt != bt) = false := by simp
            go_wp2_with fail
            rw [HV.out]
            refine wp_region_at v0 (by kernel_rfl) (by kernel_rfl) ?_
            repeat (go_big_quiet_step ((with_reducible first | exact HS.out _ | exact HLs.out _)))
            refine wpQuiet_nil ?_
            rintro w2 ⟨u7, rfl⟩
            go_wp2_with fail
            go_roundw
            case rel => exact ⟨j + 1, b', by go_num, by omega, by omega, Lib.hid (HOB2.out), Lib.hid (HT7.out u7)⟩
            case measure => simp [intOf]; omega
        by_cases hk4 : ok = 4
        · have H1 := Lib.hid (fun u (h : TwoO W Pb Pr b b ob [.int .i64 ok, .int .i64 who, .int .i64 at_, .slice oa ol.length oc] u) => two_drop who h HO.out (by omega))
          have H2 := Lib.hid (fun u (h : TwoO W Pb Pr (dropB b who).2 b ob [.int .i64 ok, .int .i64 who, .int .i64 at_, .slice oa ol.length oc] u) => two_rdrop who h HO.out (by omega))
          have HOB2 : Hid (OkBk (j + 1) (dropB b who).2) := Lib.hid ((HO.out.drop who).mono (by omega))
          generalize (dropB b who).2 = b' at *
          generalize (dropB b who).1 = vv at *
          have hvv : (vv == vv) = true := by simp
          subst hk4
          as_aux_lemma =>
            go_wp2_with fail
            rw [HW1.out, HOB.out]
            have y1 := HT2.out.2.1.cell (i := 1) rfl
            have y2 := HT2.out.2.1.cell (i := 2) rfl
            have y3 := HT2.out.2.1.cell (i := 3) rfl
            clear z0 z1 z2 z3
            apply wp_mid0 (R := fun w3 => TwoO W Pb Pr b' b' ob [.int .i64 4, .int .i64 who, .int .i64 at_, .slice oa ol.length oc] w3)
            case h =>
              go_region_held (fun w' => w'.cell? ⟨ob, 1, none⟩ = some (.int .i64 who) ∧ w'.cell? ⟨ob, 2, none⟩ = some (.int .i64 at_) ∧ w'.cell? ⟨ob, 3, none⟩ = some (.slice oa ol.length oc)) (first | exact ⟨ht4.2.1.cell (i := 1) rfl, ht4.2.1.cell (i := 2) rfl, ht4.2.1.cell (i := 3) rfl⟩ | exact ⟨ht3.2.1.cell (i := 1) rfl, ht3.2.1.cell (i := 2) rfl, ht3.2.1.cell (i := 3) rfl⟩ | exact ⟨y1, y2, y3⟩) (first | (go_at_call 16; refine (H1.out _ (by first | exact HT2.out | exact HT2.out.drew)).mono ?_; rintro e w3 ⟨rfl, ht3⟩) | (go_at_call 17; refine (H2.out _ (by assumption)).mono ?_; rintro e w4 ⟨rfl, ht4⟩))
              all_goals exact ⟨ht4, rfl⟩
            intro w3 ht3
            have HT3 := Lib.hid ht3
            clear ht3 y1 y2 y3 H1 H2 HT2
            have HFa := Lib.hid ((HEND.out b' HOB2.out).1)
            have HFb := Lib.hid ((HEND.out b' HOB2.out).2)
            generalize (flagsB b'.es who).1 = f1 at *
            generalize (flagsB b'.es who).2 = f2 at *
            clear HEND
            have y1 := (HT3.out).2.1.cell (i := 1) rfl
            go_wp2_with fail
            refine (HFa.out _ HT3.out).mono ?_
            rintro e u5 ⟨rfl, ht5⟩
            have y1 := ht5.2.1.cell (i := 1) rfl
            have HT5 := Lib.hid ht5
            clear ht5
            go_wp2_with fail
            refine (HFb.out _ HT5.out).mono ?_
            rintro e u6 ⟨rfl, ht6⟩
            have HT6 := Lib.hid ht6
            obtain ⟨v0, hv0⟩ := Ext.start u6.heap.size u6
            have HV := Lib.hid hv0
            have HS := Lib.hid (fun u : Ext u6.heap.size u6 => ext_still u (two_size (ht6.below u.below)))
            have HLs := Lib.hid (fun u : Ext u6.heap.size u6 => ext_still u (two_last (ht6.below u.below)))
            obtain ⟨ra, rc, hPl, k0, k1⟩ := two_cells ht6
            have c0 : ∀ u : Ext u6.heap.size u6, u.w.cell? ⟨Pr, 0, none⟩ = some (.slice ra b'.es.length rc) := fun u => u.cell hPl k0
            have c1 : ∀ u : Ext u6.heap.size u6, u.w.cell? ⟨Pr, 1, none⟩ = some (.int .i64 b'.last) := fun u => u.cell hPl k1
            have HT7 := Lib.hid (fun u : Ext u6.heap.size u6 => (ht6.below u.below).off)
            clear ht6 hv0 k0 k1
            generalize b'.es.length = bl at *
            generalize b'.last = bt at *
            have hf1 : (f1 != f1) = false := by simp
            have hf2 : (f2 != f2) = false := by simp
            have hf3 : ((bl : Int) != (bl : Int)) = false := by simp
            have hf4 : (bt != bt) = false := by simp
            go_wp2_with fail
            rw [HV.out]
            refine wp_region_at v0 (by kernel_rfl) (by kernel_rfl) ?_
            repeat (go_big_quiet_step ((with_reducible first | exact HS.out _ | exact HLs.out _)))
            refine wpQuiet_nil ?_
            rintro w2 ⟨u7, rfl⟩
            go_wp2_with fail
            go_roundw
            case rel => exact ⟨j + 1, b', by go_num, by omega, by omega, Lib.hid (HOB2.out), Lib.hid (HT7.out u7)⟩
            case measure => simp [intOf]; omega
        have hq0 : (ok == 0) = false := by simpa using hk0
        have hq1 : (ok == 1) = false := by simpa using hk1
        have hq2 : (ok == 2) = false := by simpa using hk2
        have hq3 : (ok == 3) = false := by simpa using hk3
        have hq4 : (ok == 4) = false := by simpa using hk4
        as_aux_lemma =>
          have HOB2 : Hid (OkBk (j + 1) b) := Lib.hid (HO.out.mono (by omega))
          clear hk0 hk1 hk2 hk3 hk4
          have HT3 := HT2
          go_wp2_with fail
          rw [HW1.out, HOB.out]
          clear z0 z1 z2 z3 HT2
          have HFa := Lib.hid ((HEND.out b HOB2.out).1)
          have HFb := Lib.hid ((HEND.out b HOB2.out).2)
          generalize (flagsB b.es who).1 = f1 at *
          generalize (flagsB b.es who).2 = f2 at *
          clear HEND
          have y1 := (HT3.out).2.1.cell (i := 1) rfl
          go_wp2_with fail
          refine (HFa.out _ HT3.out).mono ?_
          rintro e u5 ⟨rfl, ht5⟩
          have y1 := ht5.2.1.cell (i := 1) rfl
          have HT5 := Lib.hid ht5
          clear ht5
          go_wp2_with fail
          refine (HFb.out _ HT5.out).mono ?_
          rintro e u6 ⟨rfl, ht6⟩
          have HT6 := Lib.hid ht6
          obtain ⟨v0, hv0⟩ := Ext.start u6.heap.size u6
          have HV := Lib.hid hv0
          have HS := Lib.hid (fun u : Ext u6.heap.size u6 => ext_still u (two_size (ht6.below u.below)))
          have HLs := Lib.hid (fun u : Ext u6.heap.size u6 => ext_still u (two_last (ht6.below u.below)))
          obtain ⟨ra, rc, hPl, k0, k1⟩ := two_cells ht6
          have c0 : ∀ u : Ext u6.heap.size u6, u.w.cell? ⟨Pr, 0, none⟩ = some (.slice ra b.es.length rc) := fun u => u.cell hPl k0
          have c1 : ∀ u : Ext u6.heap.size u6, u.w.cell? ⟨Pr, 1, none⟩ = some (.int .i64 b.last) := fun u => u.cell hPl k1
          have HT7 := Lib.hid (fun u : Ext u6.heap.size u6 => (ht6.below u.below).off)
          clear ht6 hv0 k0 k1
          generalize b.es.length = bl at *
          generalize b.last = bt at *
          have hf1 : (f1 != f1) = false := by simp
          have hf2 : (f2 != f2) = false := by simp
          have hf3 : ((bl : Int) != (bl : Int)) = false := by simp
          have hf4 : (bt != bt) = false := by simp
          go_wp2_with fail
          rw [HV.out]
          refine wp_region_at v0 (by kernel_rfl) (by kernel_rfl) ?_
          repeat (go_big_quiet_step ((with_reducible first | exact HS.out _ | exact HLs.out _)))
          refine wpQuiet_nil ?_
          rintro w2 ⟨u7, rfl⟩
          go_wp2_with fail
          go_roundw
          case rel => exact ⟨j + 1, b, by go_num, by omega, by omega, Lib.hid (HOB2.out), Lib.hid (HT7.out u7)⟩
          case measure => simp [intOf]; omega
      · have hlh' : ¬ (j : Int) < 120 := by omega
        go_wp2_with fail
        refine (HW.out _).mono ?_
        rintro e u9 ⟨rfl, h9⟩
        have H9 := Lib.hid (HT.out.2.trans (h9.mono HT.out.2.size))
        clear h9
        go_wp2_with fail
        go_ret
        exact ⟨by rfl, H9.out⟩
    · have hlt' : ¬ (j : Int) < n := by omega
      go_wp2_with fail
      refine (HW.out _).mono ?_
      rintro e u9 ⟨rfl, h9⟩
      have H9 := Lib.hid (HT.out.2.trans (h9.mono HT.out.2.size))
      clear h9
      go_wp2_with fail
      go_ret
      exact ⟨by rfl, H9.out⟩
end Go.Proofs.Ytaonfacbmolklaa

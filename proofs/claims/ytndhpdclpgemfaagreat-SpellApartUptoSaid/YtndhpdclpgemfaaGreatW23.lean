/- Parts X41 of this seat (pruned, scripts that are alike kept once as default arguments: q1, q2, ..). Conditions: each says its own. -/
import Derived.Deep.CutBlock
import Derived.Test.YtndhpdclpgemfaaGreatW18
import Derived.Test.YtndhpdclpgemfaaGreatW22
namespace Go.Proofs.YtndhpdclpgemfaaGreat
open Go.RowKit Go.Shelf
set_option linter.unusedSimpArgs false
set_option linter.unusedVariables false
set_option maxRecDepth 100000
theorem wtCl_lens4 {c : Clt} (h : wtCl c ≤ 4194304) : c.paths.length ≤ 4194304 ∧ c.whr.length ≤ 4194304 ∧ c.items.length ≤ 4194304 ∧ c.order.length ≤ 4194304 ∧ c.skip.length ≤ 4194304 ∧ c.limit.length ≤ 4194304 ∧ c.sets.length ≤ 4194304 ∧ c.vars.length ≤ 4194304 := Sg224653
def SomeBool (e : Ending) : Prop := ∃ b, e = .returned (.bool b)
theorem Sg105119 {P : Prop} (h : P := by
 go_wp2_with fail
 first
 | (guard_hyp z105119a; go_loopw [3, 10] (fun nv iv wr => ∃ (N : Int) (k : Nat) (v : Ext p1.w.heap.size p1.w), nv = .int .i64 N ∧ iv = .int .i64 k ∧ k ≤ n7 ∧ wr = v.w) (fun _ iv _ => n7 - (intOf iv).toNat))
 | (go_loopw [3, 9] (fun nv iv wr => ∃ (N : Int) (k : Nat) (v : Ext p1.w.heap.size p1.w), nv = .int .i64 N ∧ iv = .int .i64 k ∧ k ≤ n5 ∧ wr = v.w) (fun _ iv _ => n5 - (intOf iv).toNat))
 case atStart => exact ⟨_, 0, _, rfl, rfl, Nat.zero_le _, rfl⟩
 case round =>
  obtain ⟨N, k, v, rfl, rfl, hk, rfl⟩ := hrel
  first
  | (guard_hyp z105119a; by_cases hlt : k < n7)
  | (by_cases hlt : k < n5)
  ·first
   | (guard_hyp z105119a; have hlt' : (k : Int) < n7 := by omega)
   | (have hlt' : (k : Int) < n5 := by omega)
   have hk0 : (0 : Int) ≤ (k : Int) := by omega
   have hwk : IntKind.i64.wrap ((k : Int) + 1) = (k : Int) + 1 := IntWalk.i64_in _ (by omega)
   by_cases hmo : N < 3000
   ·have hmo' : decide (N < 3000) = true := decide_eq_true hmo
    first
    |(
     guard_hyp z105119a
     obtain ⟨it, hit⟩ := get_some (l := l7) (j := k) (by have := HNN.out.2.2.1; omega)
     have hwn := Nat.le_trans (sum_get wtSo hit) (HWW.out.2.2.1)
     obtain ⟨nb, no, ncs, rfl, hnb, -, hnc, hni⟩ := HR7.out k it hit)
    |(
     obtain ⟨it, hit⟩ := get_some (l := l5) (j := k) (by have := HNN.out.2.1; omega)
     have hwn := Nat.le_trans (sum_get wtIt hit) (HWW.out.2.1)
     obtain ⟨nb, no, ncs, rfl, hnb, -, hnc, hni⟩ := HR5.out k it hit)
    have hni1 := hni ⟨p1.w, Below.refl _ _⟩
    obtain ⟨e9, fl9⟩ := it
    obtain ⟨xe9, rfl, hx9⟩ := hni1
    simp only at hwn hx9 hnc
    obtain ⟨op9, nm9, v9, ns9, az9⟩ := e9
    obtain ⟨k9, b9, i9, s9, l9, ks9, la9, lc9, ka9, kc9, na9, nc9, xa9, xc9, -, rfl, -⟩ := hx9.cells
    simp only [List.cons_append, List.nil_append] at hnc
    first
    | (guard_hyp z105119a; have hwv := fun v : Ext p1.w.heap.size p1.w => weigh_any _ _ B v.w 3000 (IsX.below v.below HBP.out _ _ (show IsX B p1.w _ _ from hx9)) (Nat.le_trans HBP.out v.below.size) (by unfold wtSo at hwn; simp only at hwn; omega))
    | (have hwv := fun v : Ext p1.w.heap.size p1.w => weigh_any _ _ B v.w 3000 (IsX.below v.below HBP.out _ _ (show IsX B p1.w _ _ from hx9)) (Nat.le_trans HBP.out v.below.size) (by unfold wtIt at hwn; simp only at hwn; omega))
    have d0 : ∀ v : Ext p1.w.heap.size p1.w, v.w.cell? ⟨nb, no + k * 11, none⟩ = some _ := fun v => hnc v 0 _ rfl
    have d1 : ∀ v : Ext p1.w.heap.size p1.w, v.w.cell? ⟨nb, no + k * 11 + 1, none⟩ = some _ := fun v => hnc v 1 _ rfl
    have d2 : ∀ v : Ext p1.w.heap.size p1.w, v.w.cell? ⟨nb, no + k * 11 + 2, none⟩ = some _ := fun v => hnc v 2 _ rfl
    have d3 : ∀ v : Ext p1.w.heap.size p1.w, v.w.cell? ⟨nb, no + k * 11 + 3, none⟩ = some _ := fun v => hnc v 3 _ rfl
    have d4 : ∀ v : Ext p1.w.heap.size p1.w, v.w.cell? ⟨nb, no + k * 11 + 4, none⟩ = some _ := fun v => hnc v 4 _ rfl
    have d5 : ∀ v : Ext p1.w.heap.size p1.w, v.w.cell? ⟨nb, no + k * 11 + 5, none⟩ = some _ := fun v => hnc v 5 _ rfl
    have d6 : ∀ v : Ext p1.w.heap.size p1.w, v.w.cell? ⟨nb, no + k * 11 + 6, none⟩ = some _ := fun v => hnc v 6 _ rfl
    have d7 : ∀ v : Ext p1.w.heap.size p1.w, v.w.cell? ⟨nb, no + k * 11 + 7, none⟩ = some _ := fun v => hnc v 7 _ rfl
    have d8 : ∀ v : Ext p1.w.heap.size p1.w, v.w.cell? ⟨nb, no + k * 11 + 8, none⟩ = some _ := fun v => hnc v 8 _ rfl
    have d9 : ∀ v : Ext p1.w.heap.size p1.w, v.w.cell? ⟨nb, no + k * 11 + 9, none⟩ = some _ := fun v => hnc v 9 _ rfl
    have HWV := Lib.hid hwv
    clear hit hwn hnb hnc hni hwv hx9
    generalize l9.length = y1 at *
    generalize ks9.length = y2 at *
    generalize ns9.length = y3 at *
    generalize az9.length = y4 at *
    go_wp2_with fail
    refine (HWV.out v).mono ?_
    rintro e w3 ⟨⟨q3, rfl⟩, hb3⟩
    obtain ⟨v3, hv3⟩ := ext_next v (Nat.le_refl _) hb3
    subst hv3
    clear hb3
    go_wp2_with fail
    go_roundw
    case rel => exact ⟨_, k + 1, _, rfl, by go_num, by omega, rfl⟩
    case measure => simp [intOf]; omega
   ·have hmo' : decide (N < 3000) = false := decide_eq_false hmo
    go_wp2_with fail
    go_meet
    exact ⟨_, _, rfl, rfl⟩
  ·first
   | (guard_hyp z105119a; have hlt' : ¬ (k : Int) < n7 := by omega)
   | (have hlt' : ¬ (k : Int) < n5 := by omega)
   go_wp2_with fail
   go_meet
   exact ⟨_, _, rfl, rfl⟩) : P := h
theorem Sg918268 {P : Prop} (h : P := by
 first
 | (guard_hyp z918268a; have hmo' : decide (N < 3000) = false := decide_eq_false hmo)
 | (have hlt' : ¬ (k : Int) < n10 := by omega)
 obtain ⟨px, hpx⟩ := ext_next p1 HSZ.out v.below
 have HPX := Lib.hid hpx
 clear hpx
 go_wp2_with fail
 go_roundw
 case rel => exact ⟨_, j + 1, px, rfl, by go_num, by omega, HPX.out⟩
 case measure => simp [intOf]; omega) : P := h
set_option maxHeartbeats 64000000 in
theorem stmtLarge_any (s : Smt) (cs : List Value) (B : Nat) (w : World) (hX : IsSm B w cs s) (hB : B ≤ w.heap.size) (hw : wtSm s ≤ 4194304) :
    Calls Tryz.prog 8 #[.agg cs.toArray] w fun e w' => SomeBool e ∧ Below w.heap.size w w' := by
 obtain ⟨l⟩ := s
 obtain ⟨a, cc, rfl, hsl, hR⟩ := hX
 simp only at hsl hR ⊢
 obtain ⟨n, hn⟩ := nam l.length
 rw [hn] at hsl ⊢
 have HW : Hid (∀ c ∈ l, wtCl c ≤ 4194304) := Lib.hid (fun c hc => by have := sum_mem (f := wtCl) hc; unfold wtSm at hw; simp only at hw; omega)
 have hsc : n ≤ 4194304 := by have := len_sum (f := wtCl) (fun x => by unfold wtCl; omega) l; unfold wtSm at hw; simp only at hw; omega
 obtain ⟨W0, p0, hW0, hp0, hsz, hbe, hce⟩ := box_ext w [.slice a n cc] 24
 have e0 := fun u => hce u 0 _ rfl
 have HAT : Hid (∀ (j : Nat) c, l[j]? = some c → ∃ bb off cs, a = some ⟨bb, off, none⟩ ∧ bb < B ∧ cs.length = 22 ∧ (∀ (u : Ext (w.heap.size + 1) W0) (q : Nat) v, cs[q]? = some v → u.w.cell? ⟨bb, off + j * 22 + q, none⟩ = some v) ∧ ∀ u : Ext (w.heap.size + 1) W0, IsCl B u.w cs c) := Lib.hid (fun j c hc => hR.at_gen (R := fun v => IsCl B v) (f := fun u : Ext (w.heap.size + 1) W0 => u.w) hB hbe (fun u cs x h => h.below (hbe u) hB) hc)
 obtain ⟨HN, HBE, HSZ, HW0, HP0, HB⟩ := hd6 hn hbe hsz hW0 hp0 hB
 clear hR hn hbe hsz hW0 hp0 hce hB hw hsl
 go_enter Tryz.func8, Tryz.ntmps8
 go_upto_region 1 with fail
 rw [HW0.out, HP0.out]
 go_wp2_with fail
 go_loopw [3, 4] (fun nv iv wr => ∃ (N : Int) (j : Nat) (u : Ext (w.heap.size + 1) W0), nv = .int .i64 N ∧ iv = .int .i64 j ∧ j ≤ n ∧ wr = u.w) (fun _ iv _ => n - (intOf iv).toNat)
 case atStart => exact ⟨0, 0, p0, rfl, rfl, Nat.zero_le _, rfl⟩
 case round =>
  obtain ⟨N, j, pu, rfl, rfl, hj, rfl⟩ := hrel
  by_cases hlt : j < n
  ·have hlt' : (j : Int) < n := by omega
   have hk0 : (0 : Int) ≤ (j : Int) := by omega
   have hwk : IntKind.i64.wrap ((j : Int) + 1) = (j : Int) + 1 := IntWalk.i64_in _ (by omega)
   by_cases hmo : N < 3000
   ·have hmo' : decide (N < 3000) = true := decide_eq_true hmo
    obtain ⟨c, hc⟩ := get_some (l := l) (j := j) (by have := HN.out; omega)
    have hwc := HW.out c (List.mem_of_getElem? hc)
    obtain ⟨bb, off, cs, rfl, hbb, hcl, hcell, hic⟩ := HAT.out j c hc
    have HRG : Hid (pu.w.rangeAt bb (off + j * 22) cs) := Lib.hid (fun q v hv => hcell pu q v hv)
    have hone := (cl_one (hic pu)).2.1
    obtain ⟨p1, hbx, hbb1, hbk, hlt1, hth⟩ := mk_box' pu HSZ.out [.int .i64 0, .slice none 0 0, .slice none 0 0, .int .i64 0, .string ⟨#[]⟩, .int .i64 0, .bool false, .int .i64 0, .string ⟨#[]⟩, .slice none 0 0, .slice none 0 0, .slice none 0 0, .slice none 0 0, .string ⟨#[]⟩, .slice none 0 0, .bool false, .slice none 0 0, .slice none 0 0, .slice none 0 0, .slice none 0 0, .slice none 0 0, .bool false] cs 42 hcl
    have HX1 := Lib.hid (show World.setCells _ _ 0 (cs.toArray).toList = p1.w from hbx)
    have HT1 : Hid (World.there _ pu.w.heap.size 0 cs.toArray.size) := Lib.hid hth
    have HONE := Lib.hid hone
    have HS1 := Lib.hid hlt1
    have HP1 := Lib.hid p1.below
    have HBP : Hid (B ≤ p1.w.heap.size) := Lib.hid (by have := HB.out; have := (HBE.out p1).size; omega)
    have HCL := Lib.hid (show (Tryz.prog.info? 42).map (·.size) = some cs.length from by rw [hcl]; kernel_rfl)
    have HCL2 := Lib.hid (show (Tryz.prog.info? 42).map (·.size) = some cs.toArray.size from by rw [List.size_toArray, hcl]; kernel_rfl)
    have hcl1 := hic p1
    clear hcell hic hone hbx hbb1 hlt1 hth hcl hbb hc
    go_upto_region 6 with (first | (refine wpList_load_mid rfl 42 _ rfl bb (off + j * 22) rfl cs _ HRG.out Tryz.underlying42 rfl HCL.out ?_) | (refine wpList_store_mid rfl 42 _ _ rfl pu.w.heap.size 0 cs.toArray rfl rfl HT1.out HCL2.out HONE.out ?_))
    rw [HX1.out]
    clear HRG HT1 HONE HCL HCL2 HX1
    obtain ⟨ln1, ln2, ln5, ln7, ln8, ln9, ln10, ln11⟩ := wtCl_lens4 hwc
    have hwe : wtX c.e ≤ 4194304 ∧ wtXs c.whr ≤ 4194304 ∧ wtXs c.skip ≤ 4194304 ∧ wtXs c.limit ≤ 4194304 ∧ (c.paths.map wtPt).sum ≤ 4194304 ∧ (c.items.map wtIt).sum ≤ 4194304 ∧ (c.order.map wtSo).sum ≤ 4194304 ∧ (c.sets.map wtSi).sum ≤ 4194304 := by unfold wtCl at hwc; omega
    obtain ⟨kd, l1, l2, ex, vr, l5, un, l7, l8, l9, l10, l11, de⟩ := c
    simp only at ln1 ln2 ln5 ln7 ln8 ln9 ln10 ln11 hwe
    obtain ⟨we, w2, w8, w9, w1, w5, w7, w10⟩ := hwe
    obtain ⟨a1, c1, a2, c2, xe, a5, c5, a7, c7, a8, c8, a9, c9, a10, c10, a11, c11, rfl, hin, s1, r1, s2, r2, hE, s5, r5, s7, r7, s8, r8, s9, r9, s10, r10, s11, r11⟩ := hcl1
    obtain ⟨op, nm, xv, xns, xaz⟩ := ex
    simp only at hE r1 r2 r5 r7 r8 r9 r10 hbk
    have hE0 := hE
    obtain ⟨xk, xb, xi, xs, xl, xks, xla, xlc, xka, xkc, xna, xnc, xxa, xxc, -, rfl, -⟩ := hE.cells
    simp only [List.cons_append, List.nil_append] at hbk
    obtain ⟨n1, hn1⟩ := nam l1.length
    obtain ⟨n2, hn2⟩ := nam l2.length
    obtain ⟨n5, hn5⟩ := nam l5.length
    obtain ⟨n7, hn7⟩ := nam l7.length
    obtain ⟨n8, hn8⟩ := nam l8.length
    obtain ⟨n9, hn9⟩ := nam l9.length
    obtain ⟨n10, hn10⟩ := nam l10.length
    obtain ⟨n11, hn11⟩ := nam l11.length
    obtain ⟨xll, hxll⟩ := nam xl.length
    obtain ⟨xkn, hxkn⟩ := nam xks.length
    obtain ⟨xnn, hxnn⟩ := nam xns.length
    obtain ⟨xxn, hxxn⟩ := nam xaz.length
    rw [hn1, hn2, hn5, hn7, hn8, hn9, hn10, hn11, hxll, hxkn, hxnn, hxxn] at hbk
    rw [hxll, hxkn, hxnn, hxxn] at hE0
    have g0 : ∀ v : Ext p1.w.heap.size p1.w, v.w.cell? ⟨pu.w.heap.size, 0, none⟩ = some (.int .i64 kd) := fun v => (hbk.below v.below hbk.lt).cell (i := 0) rfl
    have g1 : ∀ v : Ext p1.w.heap.size p1.w, v.w.cell? ⟨pu.w.heap.size, 1, none⟩ = some (.slice a1 n1 c1) := fun v => (hbk.below v.below hbk.lt).cell (i := 1) rfl
    have g2 : ∀ v : Ext p1.w.heap.size p1.w, v.w.cell? ⟨pu.w.heap.size, 2, none⟩ = some (.slice a2 n2 c2) := fun v => (hbk.below v.below hbk.lt).cell (i := 2) rfl
    have g3 : ∀ v : Ext p1.w.heap.size p1.w, v.w.cell? ⟨pu.w.heap.size, 3, none⟩ = some (.int .i64 op) := fun v => (hbk.below v.below hbk.lt).cell (i := 3) rfl
    have g4 : ∀ v : Ext p1.w.heap.size p1.w, v.w.cell? ⟨pu.w.heap.size, 4, none⟩ = some (.string nm) := fun v => (hbk.below v.below hbk.lt).cell (i := 4) rfl
    have g5 : ∀ v : Ext p1.w.heap.size p1.w, v.w.cell? ⟨pu.w.heap.size, 5, none⟩ = some (.int .i64 xk) := fun v => (hbk.below v.below hbk.lt).cell (i := 5) rfl
    have g6 : ∀ v : Ext p1.w.heap.size p1.w, v.w.cell? ⟨pu.w.heap.size, 6, none⟩ = some (.bool xb) := fun v => (hbk.below v.below hbk.lt).cell (i := 6) rfl
    have g7 : ∀ v : Ext p1.w.heap.size p1.w, v.w.cell? ⟨pu.w.heap.size, 7, none⟩ = some (.int .i64 xi) := fun v => (hbk.below v.below hbk.lt).cell (i := 7) rfl
    have g8 : ∀ v : Ext p1.w.heap.size p1.w, v.w.cell? ⟨pu.w.heap.size, 8, none⟩ = some (.string xs) := fun v => (hbk.below v.below hbk.lt).cell (i := 8) rfl
    have g9 : ∀ v : Ext p1.w.heap.size p1.w, v.w.cell? ⟨pu.w.heap.size, 9, none⟩ = some (.slice xla xll xlc) := fun v => (hbk.below v.below hbk.lt).cell (i := 9) rfl
    have g10 : ∀ v : Ext p1.w.heap.size p1.w, v.w.cell? ⟨pu.w.heap.size, 10, none⟩ = some (.slice xka xkn xkc) := fun v => (hbk.below v.below hbk.lt).cell (i := 10) rfl
    have g11 : ∀ v : Ext p1.w.heap.size p1.w, v.w.cell? ⟨pu.w.heap.size, 11, none⟩ = some (.slice xna xnn xnc) := fun v => (hbk.below v.below hbk.lt).cell (i := 11) rfl
    have g12 : ∀ v : Ext p1.w.heap.size p1.w, v.w.cell? ⟨pu.w.heap.size, 12, none⟩ = some (.slice xxa xxn xxc) := fun v => (hbk.below v.below hbk.lt).cell (i := 12) rfl
    have g13 : ∀ v : Ext p1.w.heap.size p1.w, v.w.cell? ⟨pu.w.heap.size, 13, none⟩ = some (.string vr) := fun v => (hbk.below v.below hbk.lt).cell (i := 13) rfl
    have g14 : ∀ v : Ext p1.w.heap.size p1.w, v.w.cell? ⟨pu.w.heap.size, 14, none⟩ = some (.slice a5 n5 c5) := fun v => (hbk.below v.below hbk.lt).cell (i := 14) rfl
    have g15 : ∀ v : Ext p1.w.heap.size p1.w, v.w.cell? ⟨pu.w.heap.size, 15, none⟩ = some (.bool un) := fun v => (hbk.below v.below hbk.lt).cell (i := 15) rfl
    have g16 : ∀ v : Ext p1.w.heap.size p1.w, v.w.cell? ⟨pu.w.heap.size, 16, none⟩ = some (.slice a7 n7 c7) := fun v => (hbk.below v.below hbk.lt).cell (i := 16) rfl
    have g17 : ∀ v : Ext p1.w.heap.size p1.w, v.w.cell? ⟨pu.w.heap.size, 17, none⟩ = some (.slice a8 n8 c8) := fun v => (hbk.below v.below hbk.lt).cell (i := 17) rfl
    have g18 : ∀ v : Ext p1.w.heap.size p1.w, v.w.cell? ⟨pu.w.heap.size, 18, none⟩ = some (.slice a9 n9 c9) := fun v => (hbk.below v.below hbk.lt).cell (i := 18) rfl
    have g19 : ∀ v : Ext p1.w.heap.size p1.w, v.w.cell? ⟨pu.w.heap.size, 19, none⟩ = some (.slice a10 n10 c10) := fun v => (hbk.below v.below hbk.lt).cell (i := 19) rfl
    have g20 : ∀ v : Ext p1.w.heap.size p1.w, v.w.cell? ⟨pu.w.heap.size, 20, none⟩ = some (.slice a11 n11 c11) := fun v => (hbk.below v.below hbk.lt).cell (i := 20) rfl
    have g21 : ∀ v : Ext p1.w.heap.size p1.w, v.w.cell? ⟨pu.w.heap.size, 21, none⟩ = some (.bool de) := fun v => (hbk.below v.below hbk.lt).cell (i := 21) rfl
    have HWE := Lib.hid (fun v : Ext p1.w.heap.size p1.w => weigh_any _ _ B v.w 3000 (IsX.below v.below HBP.out _ _ hE0) (Nat.le_trans HBP.out v.below.size) (by omega))
    have hwa2 := fun v : Ext p1.w.heap.size p1.w => weighAll_any l2 a2 c2 B v.w 3000 (r2.below v.below HBP.out (fun _ _ h => IsX.below v.below HBP.out _ _ h)) (Nat.le_trans HBP.out v.below.size) (by omega)
    simp only [hn2] at hwa2
    have HWA2 := Lib.hid hwa2
    clear hwa2
    have hwa8 := fun v : Ext p1.w.heap.size p1.w => weighAll_any l8 a8 c8 B v.w 3000 (r8.below v.below HBP.out (fun _ _ h => IsX.below v.below HBP.out _ _ h)) (Nat.le_trans HBP.out v.below.size) (by omega)
    simp only [hn8] at hwa8
    have HWA8 := Lib.hid hwa8
    clear hwa8
    have hwa9 := fun v : Ext p1.w.heap.size p1.w => weighAll_any l9 a9 c9 B v.w 3000 (r9.below v.below HBP.out (fun _ _ h => IsX.below v.below HBP.out _ _ h)) (Nat.le_trans HBP.out v.below.size) (by omega)
    simp only [hn9] at hwa9
    have HWA9 := Lib.hid hwa9
    clear hwa9
    have HR1 : Hid (∀ (k : Nat) x, l1[k]? = some x → ∃ b off cs, a1 = some ⟨b, off, none⟩ ∧ b < B ∧ cs.length = 2 ∧ (∀ (v : Ext p1.w.heap.size p1.w) (q : Nat) y, cs[q]? = some y → v.w.cell? ⟨b, off + k * 2 + q, none⟩ = some y) ∧ ∀ v : Ext p1.w.heap.size p1.w, IsPt B v.w cs x) := Lib.hid (fun k x hx => r1.at_gen (R := fun v => IsPt B v) (f := fun v : Ext p1.w.heap.size p1.w => v.w) HBP.out (fun v => v.below) (fun v cs x h => h.below v.below HBP.out) hx)
    have HR5 : Hid (∀ (k : Nat) x, l5[k]? = some x → ∃ b off cs, a5 = some ⟨b, off, none⟩ ∧ b < B ∧ cs.length = 11 ∧ (∀ (v : Ext p1.w.heap.size p1.w) (q : Nat) y, cs[q]? = some y → v.w.cell? ⟨b, off + k * 11 + q, none⟩ = some y) ∧ ∀ v : Ext p1.w.heap.size p1.w, IsIt B v.w cs x) := Lib.hid (fun k x hx => r5.at_gen (R := fun v => IsIt B v) (f := fun v : Ext p1.w.heap.size p1.w => v.w) HBP.out (fun v => v.below) (fun v cs x h => h.below v.below HBP.out) hx)
    have HR7 : Hid (∀ (k : Nat) x, l7[k]? = some x → ∃ b off cs, a7 = some ⟨b, off, none⟩ ∧ b < B ∧ cs.length = 11 ∧ (∀ (v : Ext p1.w.heap.size p1.w) (q : Nat) y, cs[q]? = some y → v.w.cell? ⟨b, off + k * 11 + q, none⟩ = some y) ∧ ∀ v : Ext p1.w.heap.size p1.w, IsSo B v.w cs x) := Lib.hid (fun k x hx => r7.at_gen (R := fun v => IsSo B v) (f := fun v : Ext p1.w.heap.size p1.w => v.w) HBP.out (fun v => v.below) (fun v cs x h => h.below v.below HBP.out) hx)
    have HR10 : Hid (∀ (k : Nat) x, l10[k]? = some x → ∃ b off cs, a10 = some ⟨b, off, none⟩ ∧ b < B ∧ cs.length = 13 ∧ (∀ (v : Ext p1.w.heap.size p1.w) (q : Nat) y, cs[q]? = some y → v.w.cell? ⟨b, off + k * 13 + q, none⟩ = some y) ∧ ∀ v : Ext p1.w.heap.size p1.w, IsSi B v.w cs x) := Lib.hid (fun k x hx => r10.at_gen (R := fun v => IsSi B v) (f := fun v : Ext p1.w.heap.size p1.w => v.w) HBP.out (fun v => v.below) (fun v cs x h => h.below v.below HBP.out) hx)
    have HNN := Lib.hid (show _ ∧ _ ∧ _ ∧ _ from ⟨hn1, hn5, hn7, hn10⟩)
    have HWW := Lib.hid (show _ ∧ _ ∧ _ ∧ _ from ⟨w1, w5, w7, w10⟩)
    have lim : n1 ≤ 4194304 ∧ n5 ≤ 4194304 ∧ n7 ≤ 4194304 ∧ n10 ≤ 4194304 := by rw [← hn1, ← hn5, ← hn7, ← hn10]; exact ⟨ln1, ln5, ln7, ln10⟩
    obtain ⟨lm1, lm5, lm7, lm10⟩ := lim
    obtain ⟨v0, hv0⟩ := Ext.start p1.w.heap.size p1.w
    clear hE hE0 hin s1 r1 s2 r2 s5 r5 s7 r7 s8 r8 s9 r9 s10 r10 s11 r11 ln1 ln2 ln5 ln7 ln8 ln9 ln10 ln11 hn1 hn2 hn5 hn7 hn8 hn9 hn10 hn11 hxll hxkn hxnn hxxn we w2 w8 w9 w1 w5 w7 w10 hbk hwc
    have HSS : Hid (∀ v : Ext p1.w.heap.size p1.w, (fun u : World => u.cell? ⟨pu.w.heap.size, 2, none⟩ = some (.slice a2 n2 c2) ∧ u.cell? ⟨pu.w.heap.size, 3, none⟩ = some (.int .i64 op) ∧ u.cell? ⟨pu.w.heap.size, 4, none⟩ = some (.string nm) ∧ u.cell? ⟨pu.w.heap.size, 5, none⟩ = some (.int .i64 xk) ∧ u.cell? ⟨pu.w.heap.size, 6, none⟩ = some (.bool xb) ∧ u.cell? ⟨pu.w.heap.size, 7, none⟩ = some (.int .i64 xi) ∧ u.cell? ⟨pu.w.heap.size, 8, none⟩ = some (.string xs) ∧ u.cell? ⟨pu.w.heap.size, 9, none⟩ = some (.slice xla xll xlc) ∧ u.cell? ⟨pu.w.heap.size, 10, none⟩ = some (.slice xka xkn xkc) ∧ u.cell? ⟨pu.w.heap.size, 11, none⟩ = some (.slice xna xnn xnc) ∧ u.cell? ⟨pu.w.heap.size, 12, none⟩ = some (.slice xxa xxn xxc) ∧ u.cell? ⟨pu.w.heap.size, 17, none⟩ = some (.slice a8 n8 c8) ∧ u.cell? ⟨pu.w.heap.size, 18, none⟩ = some (.slice a9 n9 c9) ∧ u.cell? ⟨pu.w.heap.size, 20, none⟩ = some (.slice a11 n11 c11)) v.w) := Lib.hid (fun v => ⟨g2 v, g3 v, g4 v, g5 v, g6 v, g7 v, g8 v, g9 v, g10 v, g11 v, g12 v, g17 v, g18 v, g20 v⟩)
    rw [hv0]
    clear hv0
    refine wp_region_noPanic ?_
    refine wp_region_J (S := fun u : World => u.cell? ⟨pu.w.heap.size, 2, none⟩ = some (.slice a2 n2 c2) ∧ u.cell? ⟨pu.w.heap.size, 3, none⟩ = some (.int .i64 op) ∧ u.cell? ⟨pu.w.heap.size, 4, none⟩ = some (.string nm) ∧ u.cell? ⟨pu.w.heap.size, 5, none⟩ = some (.int .i64 xk) ∧ u.cell? ⟨pu.w.heap.size, 6, none⟩ = some (.bool xb) ∧ u.cell? ⟨pu.w.heap.size, 7, none⟩ = some (.int .i64 xi) ∧ u.cell? ⟨pu.w.heap.size, 8, none⟩ = some (.string xs) ∧ u.cell? ⟨pu.w.heap.size, 9, none⟩ = some (.slice xla xll xlc) ∧ u.cell? ⟨pu.w.heap.size, 10, none⟩ = some (.slice xka xkn xkc) ∧ u.cell? ⟨pu.w.heap.size, 11, none⟩ = some (.slice xna xnn xnc) ∧ u.cell? ⟨pu.w.heap.size, 12, none⟩ = some (.slice xxa xxn xxc) ∧ u.cell? ⟨pu.w.heap.size, 17, none⟩ = some (.slice a8 n8 c8) ∧ u.cell? ⟨pu.w.heap.size, 18, none⟩ = some (.slice a9 n9 c9) ∧ u.cell? ⟨pu.w.heap.size, 20, none⟩ = some (.slice a11 n11 c11)) (fun j => false) (by kernel_rfl) ?_
    obtain ⟨x0, hx0⟩ : ∃ v : Ext p1.w.heap.size p1.w, v0.w.drew = v.w := ⟨⟨_, v0.below.drew⟩, rfl⟩
    rw [hx0]
    clear hx0
    have hHeld := HSS.out x0
    refine Jt 0 ?_
    refine Jt 1 ?_
    refine Jt 2 ?_
    refine Jl 3 ?_
    refine Jt 6 ?_
    refine Jl 7 ?_
    refine Jt 10 ?_
    refine Jl 11 ?_
    refine Jt 14 ?_
    refine Jl 15 ?_
    refine Jt 18 ?_
    refine Jl 19 ?_
    refine Jt 20 ?_
    refine Jr 4 fun KK hKK => ?_
    go_simp
    go_at_call 22
    refine (HWE.out x0).mono ?_
    rintro e w3 ⟨⟨q1, rfl⟩, hb3⟩
    obtain ⟨x1, hx1⟩ := ext_next x0 (Nat.le_refl _) hb3
    subst hx1
    clear hb3
    refine hKK _ _ (fun _ _ => HSS.out x1) ?_
    clear hKK KK hHeld
    have hHeld := HSS.out x1
    refine Jn ?_
    refine Jt 5 ?_
    refine Jr 8 fun KK hKK => ?_
    go_simp
    go_at_call 23
    refine (HWA2.out x1).mono ?_
    rintro e w3 ⟨⟨q2, rfl⟩, hb3⟩
    obtain ⟨x2, hx2⟩ := ext_next x1 (Nat.le_refl _) hb3
    subst hx2
    clear hb3
    refine hKK _ _ (fun _ _ => HSS.out x2) ?_
    clear hKK KK hHeld
    have hHeld := HSS.out x2
    refine Jn ?_
    refine Jt 9 ?_
    refine Jr 12 fun KK hKK => ?_
    go_simp
    go_at_call 23
    refine (HWA8.out x2).mono ?_
    rintro e w3 ⟨⟨q3, rfl⟩, hb3⟩
    obtain ⟨x3, hx3⟩ := ext_next x2 (Nat.le_refl _) hb3
    subst hx3
    clear hb3
    refine hKK _ _ (fun _ _ => HSS.out x3) ?_
    clear hKK KK hHeld
    have hHeld := HSS.out x3
    refine Jn ?_
    refine Jt 13 ?_
    refine Jr 16 fun KK hKK => ?_
    go_simp
    go_at_call 23
    refine (HWA9.out x3).mono ?_
    rintro e w3 ⟨⟨q4, rfl⟩, hb3⟩
    obtain ⟨x4, hx4⟩ := ext_next x3 (Nat.le_refl _) hb3
    subst hx4
    clear hb3
    refine hKK _ _ (fun _ _ => HSS.out x4) ?_
    clear hKK KK hHeld
    have hHeld := HSS.out x4
    refine Jn ?_
    refine Jt 17 ?_
    refine Jt 21 ?_
    refine Jt 22 ?_
    refine wpAnyJ_done (by kernel_rfl) ?_ _
    refine NoPanic.normal ?_
    clear hHeld HSS HWE HWA2 HWA8 HWA9
    go_upto_block 2 with fail
    go_cut [3] (fun nv wx => ∃ (N : Int) (v : Ext p1.w.heap.size p1.w), nv = .int .i64 N ∧ wx = v.w)
    case first =>
     go_wp2_with fail
     go_loopw [3, 6] (fun nv iv wr => ∃ (N : Int) (k : Nat) (v : Ext p1.w.heap.size p1.w), nv = .int .i64 N ∧ iv = .int .i64 k ∧ k ≤ n1 ∧ wr = v.w) (fun _ iv _ => n1 - (intOf iv).toNat)
     case atStart => exact ⟨_, 0, _, rfl, rfl, Nat.zero_le _, rfl⟩
     case round =>
      obtain ⟨N, k, v, rfl, rfl, hk, rfl⟩ := hrel
      by_cases hlt : k < n1
      ·have hlt' : (k : Int) < n1 := by omega
       have hk0 : (0 : Int) ≤ (k : Int) := by omega
       have hwk : IntKind.i64.wrap ((k : Int) + 1) = (k : Int) + 1 := IntWalk.i64_in _ (by omega)
       by_cases hmo : N < 3000
       ·have hmo' : decide (N < 3000) = true := decide_eq_true hmo
        obtain ⟨pt, hpt⟩ := get_some (l := l1) (j := k) (by have := HNN.out.1; omega)
        have hwp := Nat.le_trans (sum_get wtPt hpt) HWW.out.1
        obtain ⟨pb, po, pcs, rfl, hpb, -, hpc, hpi⟩ := HR1.out k pt hpt
        have hpi1 := hpi ⟨p1.w, Below.refl _ _⟩
        obtain ⟨pns, pes⟩ := pt
        obtain ⟨pna, pnc, pea, pec, rfl, psn, prn, pse, pre⟩ := hpi1
        simp only at hwp psn prn pse pre hpc
        obtain ⟨pnn, hpnn⟩ := nam pns.length
        obtain ⟨pen, hpen⟩ := nam pes.length
        rw [hpnn, hpen] at hpc
        have hpl : pnn ≤ 4194304 ∧ pen ≤ 4194304 := by have h1 := len_sum (f := wtNp) (fun x => by unfold wtNp; omega) pns; have h2 := len_sum (f := wtEp) (fun x => by unfold wtEp; omega) pes; unfold wtPt at hwp; simp only at hwp; omega
        obtain ⟨hpl1, hpl2⟩ := hpl
        have z0 : ∀ v : Ext p1.w.heap.size p1.w, v.w.cell? ⟨pb, po + k * 2, none⟩ = some (.slice pna pnn pnc) := fun v => hpc v 0 _ rfl
        have z1 : ∀ v : Ext p1.w.heap.size p1.w, v.w.cell? ⟨pb, po + k * 2 + 1, none⟩ = some (.slice pea pen pec) := fun v => hpc v 1 _ rfl
        have HNA : Hid (∀ (q : Nat) x, pns[q]? = some x → ∃ b off cs, pna = some ⟨b, off, none⟩ ∧ b < B ∧ cs.length = 4 ∧ (∀ (v : Ext p1.w.heap.size p1.w) (r : Nat) y, cs[r]? = some y → v.w.cell? ⟨b, off + q * 4 + r, none⟩ = some y) ∧ ∀ v : Ext p1.w.heap.size p1.w, IsNp B v.w cs x) := Lib.hid (fun q x hx => (show RowR (IsNp B p1.w) 4 B p1.w pna pns from prn).at_gen (R := fun v => IsNp B v) (f := fun v : Ext p1.w.heap.size p1.w => v.w) HBP.out (fun v => v.below) (fun v cs x h => h.below v.below HBP.out) hx)
        have HEA : Hid (∀ (q : Nat) x, pes[q]? = some x → ∃ b off cs, pea = some ⟨b, off, none⟩ ∧ b < B ∧ cs.length = 5 ∧ (∀ (v : Ext p1.w.heap.size p1.w) (r : Nat) y, cs[r]? = some y → v.w.cell? ⟨b, off + q * 5 + r, none⟩ = some y) ∧ ∀ v : Ext p1.w.heap.size p1.w, IsEp B v.w cs x) := Lib.hid (fun q x hx => (show RowR (IsEp B p1.w) 5 B p1.w pea pes from pre).at_gen (R := fun v => IsEp B v) (f := fun v : Ext p1.w.heap.size p1.w => v.w) HBP.out (fun v => v.below) (fun v cs x h => h.below v.below HBP.out) hx)
        have HPL := Lib.hid (show _ ∧ _ from ⟨hpnn, hpen⟩)
        have HPW : Hid ((pns.map wtNp).sum ≤ 4194304 ∧ (pes.map wtEp).sum ≤ 4194304) := Lib.hid (by unfold wtPt at hwp; simp only at hwp; omega)
        clear hpt hwp hpb hpc hpi psn prn pse pre hpnn hpen
        go_upto_block 4 with fail
        go_cut [3] (fun nv wx => ∃ (N : Int) (v : Ext p1.w.heap.size p1.w), nv = .int .i64 N ∧ wx = v.w)
        case first =>
         go_wp2_with fail
         go_loopw [3, 7] (fun nv iv wr => ∃ (N : Int) (m : Nat) (v : Ext p1.w.heap.size p1.w), nv = .int .i64 N ∧ iv = .int .i64 m ∧ m ≤ pnn ∧ wr = v.w) (fun _ iv _ => pnn - (intOf iv).toNat)
         case atStart => exact ⟨_, 0, _, rfl, rfl, Nat.zero_le _, rfl⟩
         case round =>
          obtain ⟨N, m, v, rfl, rfl, hk, rfl⟩ := hrel
          by_cases hlt : m < pnn
          ·have hlt' : (m : Int) < pnn := by omega
           have hk0 : (0 : Int) ≤ (m : Int) := by omega
           have hwk : IntKind.i64.wrap ((m : Int) + 1) = (m : Int) + 1 := IntWalk.i64_in _ (by omega)
           by_cases hmo : N < 3000
           ·have hmo' : decide (N < 3000) = true := decide_eq_true hmo
            obtain ⟨nd, hnd⟩ := get_some (l := pns) (j := m) (by have := HPL.out.1; omega)
            have hwn := Nat.le_trans (sum_get wtNp hnd) HPW.out.1
            obtain ⟨nb, no, ncs, rfl, hnb, -, hnc, hni⟩ := HNA.out m nd hnd
            have hni1 := hni ⟨p1.w, Below.refl _ _⟩
            obtain ⟨nvr, nls, nks, nvs⟩ := nd
            obtain ⟨nla, nlc, nka, nkc, nva, nvc, rfl, -, -, -, -, nsv, nrv⟩ := hni1
            simp only at hwn nsv nrv hnc
            obtain ⟨y1, hy1⟩ := nam nls.length
            obtain ⟨y2, hy2⟩ := nam nks.length
            obtain ⟨y3, hy3⟩ := nam nvs.length
            rw [hy1, hy2, hy3] at hnc
            have hwv := fun v : Ext p1.w.heap.size p1.w => weighAll_any nvs nva nvc B v.w 3000 ((show RowR (IsX B p1.w) 10 B p1.w nva nvs from nrv).below v.below HBP.out (fun _ _ h => IsX.below v.below HBP.out _ _ h)) (Nat.le_trans HBP.out v.below.size) (by unfold wtNp at hwn; simp only at hwn; omega)
            simp only [hy3] at hwv
            have HWV := Lib.hid hwv
            have y1c : ∀ v : Ext p1.w.heap.size p1.w, v.w.cell? ⟨nb, no + m * 4 + 1, none⟩ = some (.slice nla y1 nlc) := fun v => hnc v 1 _ rfl
            have y3c : ∀ v : Ext p1.w.heap.size p1.w, v.w.cell? ⟨nb, no + m * 4 + 3, none⟩ = some (.slice nva y3 nvc) := fun v => hnc v 3 _ rfl
            clear hnd hwn hnb hnc hni nsv nrv hwv hy1 hy2 hy3
            go_wp2_with fail
            have HSS : Hid (∀ v : Ext p1.w.heap.size p1.w, (fun u : World => u.cell? ⟨pu.w.heap.size, 1, none⟩ = some (.slice (some ⟨pb, po, none⟩) n1 c1) ∧ u.cell? ⟨pb, po + k * 2, none⟩ = some (.slice (some ⟨nb, no, none⟩) pnn pnc) ∧ u.cell? ⟨nb, no + m * 4 + 1, none⟩ = some (.slice nla y1 nlc) ∧ u.cell? ⟨nb, no + m * 4 + 3, none⟩ = some (.slice nva y3 nvc)) v.w) := Lib.hid (fun v => ⟨g1 v, z0 v, y1c v, y3c v⟩)
            refine wp_region_noPanic ?_
            refine wp_region_J (S := fun u : World => u.cell? ⟨pu.w.heap.size, 1, none⟩ = some (.slice (some ⟨pb, po, none⟩) n1 c1) ∧ u.cell? ⟨pb, po + k * 2, none⟩ = some (.slice (some ⟨nb, no, none⟩) pnn pnc) ∧ u.cell? ⟨nb, no + m * 4 + 1, none⟩ = some (.slice nla y1 nlc) ∧ u.cell? ⟨nb, no + m * 4 + 3, none⟩ = some (.slice nva y3 nvc)) (fun j => false) (by kernel_rfl) ?_
            obtain ⟨x5, hx5⟩ : ∃ x : Ext p1.w.heap.size p1.w, v.w.drew = x.w := ⟨⟨_, v.below.drew⟩, rfl⟩
            rw [hx5]
            clear hx5
            have hHeld := HSS.out x5
            refine Jt 0 ?_
            refine Jt 1 ?_
            refine Jt 2 ?_
            refine Jl 3 ?_
            refine Jt 4 ?_
            refine Jt 5 ?_
            refine Jt 6 ?_
            refine Jl 7 ?_
            refine Jt 8 ?_
            refine Jt 9 ?_
            refine Jt 10 ?_
            refine Jl 11 ?_
            refine Jt 12 ?_
            refine Jt 13 ?_
            refine Jt 14 ?_
            refine Jl 15 ?_
            refine Jt 16 ?_
            refine Jt 17 ?_
            refine Jt 18 ?_
            refine Jl 19 ?_
            refine Jt 20 ?_
            refine Jt 21 ?_
            refine Jt 22 ?_
            refine Jl 23 ?_
            refine Jr 24 fun KK hKK => ?_
            go_simp
            go_at_call 23
            refine (HWV.out x5).mono ?_
            rintro e w3 ⟨⟨q5, rfl⟩, hb3⟩
            obtain ⟨x6, hx6⟩ := ext_next x5 (Nat.le_refl _) hb3
            subst hx6
            clear hb3
            refine hKK _ _ (fun _ _ => HSS.out x6) ?_
            clear hKK KK hHeld
            have hHeld := HSS.out x6
            refine Jn ?_
            refine Jt 25 ?_
            refine Jt 26 ?_
            refine wpAnyJ_done (by kernel_rfl) ?_ _
            refine NoPanic.normal ?_
            clear hHeld HSS
            go_wp2_with fail
            go_roundw
            case rel => exact ⟨_, m + 1, _, rfl, by go_num, by omega, rfl⟩
            case measure => simp [intOf]; omega
           ·have hmo' : decide (N < 3000) = false := decide_eq_false hmo
            go_wp2_with fail
            go_meet
            exact ⟨_, _, rfl, rfl⟩
          ·have hlt' : ¬ (m : Int) < pnn := by omega
           go_wp2_with fail
           go_meet
           exact ⟨_, _, rfl, rfl⟩
        case rest =>
         obtain ⟨N, v, rfl, hwc⟩ := hcut
         subst hwc
         go_wp2_with fail
         go_loopw [3, 8] (fun nv iv wr => ∃ (N : Int) (m : Nat) (v : Ext p1.w.heap.size p1.w), nv = .int .i64 N ∧ iv = .int .i64 m ∧ m ≤ pen ∧ wr = v.w) (fun _ iv _ => pen - (intOf iv).toNat)
         case atStart => exact ⟨_, 0, _, rfl, rfl, Nat.zero_le _, rfl⟩
         case round =>
          obtain ⟨N, m, v, rfl, rfl, hk, rfl⟩ := hrel
          by_cases hlt : m < pen
          ·have hlt' : (m : Int) < pen := by omega
           have hk0 : (0 : Int) ≤ (m : Int) := by omega
           have hwk : IntKind.i64.wrap ((m : Int) + 1) = (m : Int) + 1 := IntWalk.i64_in _ (by omega)
           by_cases hmo : N < 3000
           ·have hmo' : decide (N < 3000) = true := decide_eq_true hmo
            obtain ⟨ed, hed⟩ := get_some (l := pes) (j := m) (by have := HPL.out.2; omega)
            have hwn := Nat.le_trans (sum_get wtEp hed) HPW.out.2
            obtain ⟨nb, no, ncs, rfl, hnb, -, hnc, hni⟩ := HEA.out m ed hed
            have hni1 := hni ⟨p1.w, Below.refl _ _⟩
            obtain ⟨nvr, nty, ndr, nks, nvs⟩ := ed
            obtain ⟨nka, nkc, nva, nvc, rfl, -, -, -, nsv, nrv⟩ := hni1
            simp only at hwn nsv nrv hnc
            obtain ⟨y2, hy2⟩ := nam nks.length
            obtain ⟨y3, hy3⟩ := nam nvs.length
            rw [hy2, hy3] at hnc
            have hwv := fun v : Ext p1.w.heap.size p1.w => weighAll_any nvs nva nvc B v.w 3000 ((show RowR (IsX B p1.w) 10 B p1.w nva nvs from nrv).below v.below HBP.out (fun _ _ h => IsX.below v.below HBP.out _ _ h)) (Nat.le_trans HBP.out v.below.size) (by unfold wtEp at hwn; simp only at hwn; omega)
            simp only [hy3] at hwv
            have HWV := Lib.hid hwv
            have y3c : ∀ v : Ext p1.w.heap.size p1.w, v.w.cell? ⟨nb, no + m * 5 + 4, none⟩ = some (.slice nva y3 nvc) := fun v => hnc v 4 _ rfl
            clear hed hwn hnb hnc hni nsv nrv hwv hy2 hy3
            go_wp2_with fail
            refine (HWV.out v).mono ?_
            rintro e w3 ⟨⟨q3, rfl⟩, hb3⟩
            obtain ⟨v3, hv3⟩ := ext_next v (Nat.le_refl _) hb3
            subst hv3
            clear hb3
            go_wp2_with fail
            go_roundw
            case rel => exact ⟨_, m + 1, _, rfl, by go_num, by omega, rfl⟩
            case measure => simp [intOf]; omega
           ·have hmo' : decide (N < 3000) = false := decide_eq_false hmo
            go_wp2_with fail
            go_roundw
            case rel => exact ⟨_, k + 1, _, rfl, by go_num, by omega, rfl⟩
            case measure => simp [intOf]; omega
          ·have hlt' : ¬ (m : Int) < pen := by omega
           go_wp2_with fail
           go_roundw
           case rel => exact ⟨_, k + 1, _, rfl, by go_num, by omega, rfl⟩
           case measure => simp [intOf]; omega
       ·have hmo' : decide (N < 3000) = false := decide_eq_false hmo
        go_wp2_with fail
        go_meet
        exact ⟨_, _, rfl, rfl⟩
      ·have hlt' : ¬ (k : Int) < n1 := by omega
       go_wp2_with fail
       go_meet
       exact ⟨_, _, rfl, rfl⟩
    case rest =>
     obtain ⟨N, v, rfl, hwc⟩ := hcut
     subst hwc
     go_upto_block 8 with fail
     go_cut [3] (fun nv wx => ∃ (N : Int) (v : Ext p1.w.heap.size p1.w), nv = .int .i64 N ∧ wx = v.w)
     case first =>
      exact Sg105119
     case rest =>
      obtain ⟨N, v, rfl, hwc⟩ := hcut
      subst hwc
      go_upto_block 10 with fail
      go_cut [3] (fun nv wx => ∃ (N : Int) (v : Ext p1.w.heap.size p1.w), nv = .int .i64 N ∧ wx = v.w)
      case first =>
       have z105119a := trivial
       exact Sg105119
      case rest =>
       obtain ⟨N, v, rfl, hwc⟩ := hcut
       subst hwc
       go_wp2_with fail
       go_loopw [3, 11] (fun nv iv wr => ∃ (N : Int) (k : Nat) (v : Ext p1.w.heap.size p1.w), nv = .int .i64 N ∧ iv = .int .i64 k ∧ k ≤ n10 ∧ wr = v.w) (fun _ iv _ => n10 - (intOf iv).toNat)
       case atStart => exact ⟨_, 0, _, rfl, rfl, Nat.zero_le _, rfl⟩
       case round =>
        obtain ⟨N, k, v, rfl, rfl, hk, rfl⟩ := hrel
        by_cases hlt : k < n10
        ·have hlt' : (k : Int) < n10 := by omega
         have hk0 : (0 : Int) ≤ (k : Int) := by omega
         have hwk : IntKind.i64.wrap ((k : Int) + 1) = (k : Int) + 1 := IntWalk.i64_in _ (by omega)
         by_cases hmo : N < 3000
         ·have hmo' : decide (N < 3000) = true := decide_eq_true hmo
          obtain ⟨it, hit⟩ := get_some (l := l10) (j := k) (by have := HNN.out.2.2.2; omega)
          have hwn := Nat.le_trans (sum_get wtSi hit) (HWW.out.2.2.2)
          obtain ⟨nb, no, ncs, rfl, hnb, -, hnc, hni⟩ := HR10.out k it hit
          have hni1 := hni ⟨p1.w, Below.refl _ _⟩
          obtain ⟨vr9, ke9, lb9, e9⟩ := it
          obtain ⟨xe9, rfl, hx9⟩ := hni1
          simp only at hwn hx9 hnc
          obtain ⟨op9, nm9, v9, ns9, az9⟩ := e9
          obtain ⟨k9, b9, i9, s9, l9, ks9, la9, lc9, ka9, kc9, na9, nc9, xa9, xc9, -, rfl, -⟩ := hx9.cells
          simp only [List.cons_append, List.nil_append] at hnc
          have hwv := fun v : Ext p1.w.heap.size p1.w => weigh_any _ _ B v.w 3000 (IsX.below v.below HBP.out _ _ (show IsX B p1.w _ _ from hx9)) (Nat.le_trans HBP.out v.below.size) (by unfold wtSi at hwn; simp only at hwn; omega)
          have d0 : ∀ v : Ext p1.w.heap.size p1.w, v.w.cell? ⟨nb, no + k * 13 + 3, none⟩ = some _ := fun v => hnc v 3 _ rfl
          have d1 : ∀ v : Ext p1.w.heap.size p1.w, v.w.cell? ⟨nb, no + k * 13 + 4, none⟩ = some _ := fun v => hnc v 4 _ rfl
          have d2 : ∀ v : Ext p1.w.heap.size p1.w, v.w.cell? ⟨nb, no + k * 13 + 5, none⟩ = some _ := fun v => hnc v 5 _ rfl
          have d3 : ∀ v : Ext p1.w.heap.size p1.w, v.w.cell? ⟨nb, no + k * 13 + 6, none⟩ = some _ := fun v => hnc v 6 _ rfl
          have d4 : ∀ v : Ext p1.w.heap.size p1.w, v.w.cell? ⟨nb, no + k * 13 + 7, none⟩ = some _ := fun v => hnc v 7 _ rfl
          have d5 : ∀ v : Ext p1.w.heap.size p1.w, v.w.cell? ⟨nb, no + k * 13 + 8, none⟩ = some _ := fun v => hnc v 8 _ rfl
          have d6 : ∀ v : Ext p1.w.heap.size p1.w, v.w.cell? ⟨nb, no + k * 13 + 9, none⟩ = some _ := fun v => hnc v 9 _ rfl
          have d7 : ∀ v : Ext p1.w.heap.size p1.w, v.w.cell? ⟨nb, no + k * 13 + 10, none⟩ = some _ := fun v => hnc v 10 _ rfl
          have d8 : ∀ v : Ext p1.w.heap.size p1.w, v.w.cell? ⟨nb, no + k * 13 + 11, none⟩ = some _ := fun v => hnc v 11 _ rfl
          have d9 : ∀ v : Ext p1.w.heap.size p1.w, v.w.cell? ⟨nb, no + k * 13 + 12, none⟩ = some _ := fun v => hnc v 12 _ rfl
          have HWV := Lib.hid hwv
          clear hit hwn hnb hnc hni hwv hx9
          generalize l9.length = y1 at *
          generalize ks9.length = y2 at *
          generalize ns9.length = y3 at *
          generalize az9.length = y4 at *
          go_wp2_with fail
          refine (HWV.out v).mono ?_
          rintro e w3 ⟨⟨q3, rfl⟩, hb3⟩
          obtain ⟨v3, hv3⟩ := ext_next v (Nat.le_refl _) hb3
          subst hv3
          clear hb3
          go_wp2_with fail
          go_roundw
          case rel => exact ⟨_, k + 1, _, rfl, by go_num, by omega, rfl⟩
          case measure => simp [intOf]; omega
         ·have z918268a := trivial
          exact Sg918268
        ·exact Sg918268
   ·have hmo' : decide (N < 3000) = false := decide_eq_false hmo
    go_wp2_with fail
    go_ret
    exact ⟨⟨_, rfl⟩, HBE.out _⟩
  ·have hlt' : ¬ (j : Int) < n := by omega
   go_wp2_with fail
   go_ret
   exact ⟨⟨_, rfl⟩, HBE.out _⟩
end Go.Proofs.YtndhpdclpgemfaaGreat

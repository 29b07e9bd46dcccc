/- Parts X40 of this seat (pruned, scripts that are alike kept once as default arguments: q1, q2, ..). Conditions: each says its own. -/
import Derived.Test.YtndhpdclpgemfaaGreatV14
namespace Go.Proofs.YtndhpdclpgemfaaGreat
open Go.RowKit
set_option linter.unusedSimpArgs false
set_option linter.unusedVariables false
set_option maxRecDepth 100000
theorem partsV_le (t : Vt) : partsV t ≤ wtV t := by
 refine t.down (p := fun t => partsV t ≤ wtV t) fun k b i s l ks ih => ?_
 have h : ∀ l : List Vt, (∀ (j : Nat) t, l[j]? = some t → partsV t ≤ wtV t) → partsVs l ≤ wtVs l := by
  intro l
  induction l with
  | nil => intro _; simp [partsVs, wtVs]
  | cons t ts ih2 =>
   intro h
   have h1 := h 0 t rfl
   have h2 := ih2 (fun j u hu => h (j + 1) u (by simpa using hu))
   simp only [partsVs, wtVs]
   omega
 have := h l ih
 simp only [partsV, wtV]
 omega
def WeighSaid (t : Ex) : Prop := ∀ (cs : List Value) (B : Nat) (w : World) (most : Int), IsX B w cs t → B ≤ w.heap.size → wtX t ≤ 1099511627776 →
  Calls Tryz.prog 22 #[.agg cs.toArray, .int .i64 most] w fun e w' => (∃ n, e = .returned (.int .i64 n)) ∧ Below w.heap.size w w'
theorem Sv117636 {P : Prop} (h : P := by
 obtain ⟨N, j, u, rfl, rfl, hj, rfl⟩ := hrel
 by_cases hlt : j < m
 ·have hlt' : (j : Int) < m := by omega
  have hj0 : (0 : Int) ≤ (j : Int) := by omega
  have hwi : IntKind.i64.wrap ((j : Int) + 1) = (j : Int) + 1 := IntWalk.i64_in _ (by omega)
  obtain ⟨t2, ht2⟩ := get_some (l := az) (j := j) (by have := HM.out; omega)
  obtain ⟨eb, eo, cs2, rfl, heb, hcs, hx2⟩ := HAT.out j t2 ht2
  first
  | (guard_hyp z117636a; have HIH2 := Lib.hid (fun (u : Ext w.heap.size w) mo => weigh_any t2 cs2 B u.w mo (hx2 u) (Nat.le_trans HB.out u.below.size) (HWT.out j t2 ht2)))
  | (have HIH2 := Lib.hid (fun u mo => HIH.out j t2 ht2 cs2 u mo (hx2 u)))
  obtain ⟨op2, nm2, v2, ns2, az2⟩ := t2
  obtain ⟨k2, b2, i2, s2, l2, ks2, la2, lc2, ka2, kc2, na2, nc2, xa2, xc2, -, rfl, -⟩ := (hx2 u).cells
  first
  | (guard_hyp z117636b; have g0 : ∀ u : Ext (w.heap.size + 1) W0, u.w.cell? ⟨eb, eo + j * 10, none⟩ = some (.int .i64 op2) := fun u => hcs u 0 _ rfl)
  | (have g0 : ∀ u : Ext w.heap.size w, u.w.cell? ⟨eb, eo + j * 10, none⟩ = some (.int .i64 op2) := fun u => hcs u 0 _ rfl)
  obtain ⟨g1, g2, g3, g4, g5, g6, g7, g8, g9⟩ := gf9 hcs
  clear hcs hx2 ht2
  generalize l2.length = y1 at *
  generalize ks2.length = y2 at *
  generalize ns2.length = y3 at *
  generalize az2.length = y4 at *
  by_cases hmo : N < most
  ·have hmo' : decide (N < most) = true := decide_eq_true hmo
   go_wp2_with fail
   refine (HIH2.out _ _).mono ?_
   rintro e w3 ⟨⟨q, rfl⟩, hb3⟩
   first
   | (guard_hyp z117636a; obtain ⟨u3, hu3⟩ := ext_next _ (Nat.le_refl _) hb3)
   | (obtain ⟨u3, hu3⟩ := ext_next _ HSZ.out hb3)
   subst hu3
   clear hb3
   go_wp2_with fail
   go_roundw
   case rel => exact ⟨_, j + 1, u3, rfl, by go_num, by omega, rfl⟩
   case measure => simp [intOf]; omega
  ·have hmo' : decide (N < most) = false := decide_eq_false hmo
   go_wp2_with fail
   go_ret
   first
   | (guard_hyp z117636b; exact ⟨⟨_, rfl⟩, HBE.out _⟩)
   | (exact ⟨⟨_, rfl⟩, u.below⟩)
 ·have hlt' : ¬ (j : Int) < m := by omega
  go_wp2_with fail
  go_ret
  first
  | (guard_hyp z117636b; exact ⟨⟨_, rfl⟩, HBE.out _⟩)
  | (exact ⟨⟨_, rfl⟩, u.below⟩)) : P := h
set_option maxHeartbeats 64000000 in
theorem weigh_any (t : Ex) : WeighSaid t := by
 refine t.down (p := WeighSaid) fun op nm v ns az ih => ?_
 intro cs B w most hX hB hw
 have hX0 := hX
 obtain ⟨k, b, i, s, l, ks, la, lc, ka, kc, na, nc, xa, xc, hv, rfl, hop, hV, hNA, hXA, hNS, hAZ⟩ := hX.cells
 clear hX
 have hn0 : nm.size ≤ 1099511627776 := by simp only [wtX] at hw; omega
 have hs0 : s.size ≤ 1099511627776 := by rw [hv] at hw; simp only [wtX, wtV] at hw; omega
 have hm0 : az.length ≤ 1099511627776 := by have := wtXs_len az; simp only [wtX] at hw; omega
 have hpv : partsV v ≤ 1099511627776 := by have h1 := partsV_le v; simp only [wtX] at hw; omega
 have HWT : Hid (∀ (j : Nat) (t : Ex), az[j]? = some t → wtX t ≤ 1099511627776) := Lib.hid (fun j t h => by have := wtX_args (op := op) (nm := nm) (v := v) (ns := ns) h; omega)
 obtain ⟨m, hm⟩ := nam az.length
 obtain ⟨n, hn⟩ := nam ns.length
 rw [hm] at hX0 hm0 ⊢
 rw [hn] at hX0 ⊢
 have HM := Lib.hid hm
 obtain ⟨W0, u0, hW0, hu0, hsz, hbe, hce⟩ := box_ext w [.int .i64 op, .string nm, .int .i64 k, .bool b, .int .i64 i, .string s, .slice la l.length lc, .slice ka ks.length kc, .slice na n nc, .slice xa m xc] 36
 obtain ⟨e0, e1, e2, e3, e4, e5, e6, e7, e8, e9⟩ := ge10 hce
 obtain ⟨x0, x1, x2, x3, x4, x5, x6, x7, x8, x9⟩ := gx10 hce u0
 rw [← hu0, ← hW0] at x0 x1 x2 x3 x4 x5 x6 x7 x8 x9
 have HPA := Lib.hid (fun u : Ext (w.heap.size + 1) W0 => ext_call u hsz (rparts_any v _ B u.w (IsV.below (hbe u) hB _ _ hV) (Nat.le_trans hB (hbe u).size) hpv))
 have HIH := Lib.hid (fun (j : Nat) (t : Ex) (ht : az[j]? = some t) (cs : List Value) (u : Ext (w.heap.size + 1) W0) (mo : Int) (h : IsX B u.w cs t) => ih j t ht cs B u.w mo h (Nat.le_trans hB (hbe u).size) (HWT.out j t ht))
 have HAT : Hid (∀ (j : Nat) t, az[j]? = some t → ∃ b off cs, xa = some ⟨b, off, none⟩ ∧ b < B ∧ (∀ (u : Ext (w.heap.size + 1) W0) (q : Nat) v, cs[q]? = some v → u.w.cell? ⟨b, off + j * 10 + q, none⟩ = some v) ∧ ∀ u : Ext (w.heap.size + 1) W0, IsX B u.w cs t) := Lib.hid (fun j t ht => hAZ.at_ext hB hbe ht)
 obtain ⟨PV, hPV⟩ := nam (partsV v)
 rw [hPV] at HPA hpv
 obtain ⟨HBE, HSZ, HW0, HU0⟩ := hd4 hbe hsz hW0 hu0
 clear hbe hW0 hu0 hsz hce hNS hm hn hv hV hNA hXA hAZ hX0 ih hw hop hPV
 go_enter Tryz.func22, Tryz.ntmps22
 go_upto_region 1 with fail
 rw [HW0.out, HU0.out]
 (refine wp_region_at _ (by kernel_rfl) (by kernel_rfl) ?_; (repeat (go_big_quiet_step (first | (with_reducible exact HPA.out _)))); refine wpQuiet_nil ?_; rintro w9 ⟨u9, rfl⟩)
 go_wp2_with fail
 go_loopw [5, 6] (fun nv iv wr => ∃ (N : Int) (j : Nat) (u : Ext (w.heap.size + 1) W0), nv = .int .i64 N ∧ iv = .int .i64 j ∧ j ≤ m ∧ wr = u.w) (fun _ iv _ => m - (intOf iv).toNat)
 case atStart => exact ⟨_, 0, _, rfl, rfl, Nat.zero_le _, rfl⟩
 case round =>
  have z117636b := trivial
  exact Sv117636
set_option maxHeartbeats 64000000 in
theorem weighAll_any (az : List Ex) (xa : Option Addr) (xc B : Nat) (w : World) (most : Int) (hR : RowR (IsX B w) 10 B w xa az) (hB : B ≤ w.heap.size) (hw : wtXs az ≤ 1099511627776) :
    Calls Tryz.prog 23 #[.slice xa az.length xc, .int .i64 most] w fun e w' => (∃ n, e = .returned (.int .i64 n)) ∧ Below w.heap.size w w' := by
 have HAT : Hid (∀ (j : Nat) t, az[j]? = some t → ∃ b off cs, xa = some ⟨b, off, none⟩ ∧ b < B ∧ (∀ (u : Ext w.heap.size w) (q : Nat) v, cs[q]? = some v → u.w.cell? ⟨b, off + j * 10 + q, none⟩ = some v) ∧ ∀ u : Ext w.heap.size w, IsX B u.w cs t) := Lib.hid (fun j t ht => by obtain ⟨b, off, cs, h1, h2, h3, h4, h5⟩ := hR.at_gen (R := fun v => IsX B v) (f := fun u : Ext w.heap.size w => u.w) hB (fun u => u.below) (fun u cs x h => IsX.below u.below hB _ _ h) ht; exact ⟨b, off, cs, h1, h2, h4, h5⟩)
 have hm0 : az.length ≤ 1099511627776 := by have := wtXs_len az; omega
 have HWT : Hid (∀ (j : Nat) (t : Ex), az[j]? = some t → wtX t ≤ 1099511627776) := Lib.hid (fun j t h => by have := wtXs_get h; omega)
 obtain ⟨m, hm⟩ := nam az.length
 rw [hm] at hm0 ⊢
 have HM := Lib.hid hm
 have HB := Lib.hid hB
 clear hR hB hw hm
 obtain ⟨u0, hu0⟩ := Ext.start w.heap.size w
 have HU0 := Lib.hid hu0
 clear hu0
 go_enter Tryz.func23, Tryz.ntmps23
 go_wp2_with fail
 go_loopw [5, 6] (fun nv iv wr => ∃ (N : Int) (j : Nat) (u : Ext w.heap.size w), nv = .int .i64 N ∧ iv = .int .i64 j ∧ j ≤ m ∧ wr = u.w) (fun _ iv _ => m - (intOf iv).toNat)
 case atStart => exact ⟨0, 0, u0, rfl, rfl, Nat.zero_le _, HU0.out⟩
 case round =>
  have z117636a := trivial
  exact Sv117636
end Go.Proofs.YtndhpdclpgemfaaGreat

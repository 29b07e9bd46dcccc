/- Parts X28, X29 of this seat (pruned, scripts that are alike kept once as default arguments: q1, q2, ..). Conditions: each says its own. -/
import Derived.Test.YteljlahcdipilaaGreatF18
namespace Go.Proofs.YteljlahcdipilaaGreat
open Go.RowKit Go.Shelf
set_option linter.unusedSimpArgs false
set_option linter.unusedVariables false
set_option maxRecDepth 100000
set_option maxHeartbeats 8000000 in
theorem of_si (az : List Sit) (kd : Int) (cb : Nat) (xa : Option Addr) (xc B : Nat) (w : World) (hSl : SlOk xa az.length xc) (hR : RowR (IsSi B w) 13 B w xa az) (hB : B ≤ w.heap.size) (hcb : w.cell? ⟨cb, 0, none⟩ = some (.int .i64 kd)) (hle : az.length ≤ 1048576) :
    Calls Tryz.prog 68 #[.slice xa az.length xc, .func (.func 69) #[] #[.pointer (some ⟨cb, 0, none⟩)]] w fun e w' => ∃ a c, e = .returned (.slice a az.length c) ∧ SlOk a az.length c ∧ PartOwn B w.heap.size w' a (az.map (fun s => Part.si s (kd == 6))) ∧ Below w.heap.size w w' := by
 obtain ⟨i0, hi, hz0, hz1, hz2⟩ := info_parts Tryz.infoPart
 have I0 := Lib.hid hi
 have I1 := Lib.hid hz0
 have I2 := Lib.hid hz1
 have I3 := Lib.hid hz2
 clear hi hz0 hz1 hz2
 have hcl := (World.block_lt_of_cell? w ⟨cb, 0, none⟩ hcb)
 have HCB : Hid (∀ v : World, Below w.heap.size w v → v.cell? ⟨cb, 0, none⟩ = some (.int .i64 kd)) := Lib.hid (fun v hb => by rw [hb.cell (by show cb < _; exact hcl)]; exact hcb)
 clear hcl hcb
 obtain ⟨n, hn⟩ := nam az.length
 rw [hn] at hSl hle ⊢
 have HN := Lib.hid hn
 have hsc := hSl.1
 have HAT : Hid (∀ (j : Nat) t, az[j]? = some t → ∃ bb off cs, xa = some ⟨bb, off, none⟩ ∧ bb < B ∧ (∀ (u : { v : World // Below w.heap.size w v }) (q : Nat) v, cs[q]? = some v → u.1.cell? ⟨bb, off + j * 13 + q, none⟩ = some v) ∧ IsSi B w cs t) := Lib.hid (fun j t ht => by obtain ⟨bb, off, cs, h1, h2, h3, h4, h5⟩ := hR.at_gen (U := { v : World // Below w.heap.size w v }) (f := fun u => u.1) (R := fun (_ : World) => IsSi B w) (C := w.heap.size) hB (fun u => u.2) (fun u cs x h => h) ht; exact ⟨bb, off, cs, h1, h2, h4, h5 ⟨w, Below.refl _ _⟩⟩)
 clear hR hSl hn
 go_enter Tryz.func68, Tryz.ntmps68
 go_wp2_with fail
 go_loopw [5, 10] (fun pv iv wr => ∃ (j : Nat) (vs : List Value), iv = .int .i64 j ∧ Hid (wr.ownsRow w.heap.size 105 1 pv j vs) ∧ j ≤ n ∧ Hid (∀ (i : Nat) x, i < j → az[i]? = some x → ∃ v, vs[i]? = some v ∧ IsPart B w v (.si x (kd == 6))) ∧ Hid (Below w.heap.size w wr)) (fun _ iv _ => n - (intOf iv).toNat)
 case atStart => exact ⟨0, [], rfl, Lib.hid (World.ownsRow_nil _ _ _ _), Nat.zero_le _, Lib.hid (fun i x hi => by omega), Lib.hid (Below.refl _ _)⟩
 case round =>
  obtain ⟨j, vs, rfl, HO, hj, HV, HB⟩ := hrel
  by_cases hlt : j < n
  ·have hlt' : (j : Int) < n := by omega
   have hj0 : (0 : Int) ≤ (j : Int) := by omega
   have hwi : IntKind.i64.wrap ((j : Int) + 1) = (j : Int) + 1 := IntWalk.i64_in _ (by omega)
   obtain ⟨t2, ht2⟩ := get_some (l := az) (j := j) (by have := HN.out; omega)
   obtain ⟨eb, eo, cs2, rfl, heb, hcs, hx2⟩ := HAT.out j t2 ht2
   have HT2 := Lib.hid ht2
   have HP : Hid (IsPart B w (.iface 145 (.agg (List.toArray (cs2 ++ [Value.bool (kd == 6)])))) (.si t2 (kd == 6))) := Lib.hid ⟨cs2, rfl, hx2⟩
   clear ht2
   obtain ⟨vr2, ke2, lb2, e2⟩ := t2
   obtain ⟨xe2, rfl, hxe⟩ := hx2
   obtain ⟨op2, nm2, v2, ns2, az2⟩ := e2
   obtain ⟨k2, b92, i2, s2, l2, ks2, la2, lc2, ka2, kc2, na2, nc2, xa2, xc2, -, rfl, -⟩ := hxe.cells
   simp only [List.cons_append, List.nil_append] at hcs HP
   have g0 : wr.cell? ⟨eb, eo + j * 13, none⟩ = _ := hcs ⟨wr, HB.out⟩ 0 _ rfl
   have g1 := hcs ⟨wr, HB.out⟩ 1 _ rfl
   have g2 := hcs ⟨wr, HB.out⟩ 2 _ rfl
   have g3 := hcs ⟨wr, HB.out⟩ 3 _ rfl
   have g4 := hcs ⟨wr, HB.out⟩ 4 _ rfl
   have g5 := hcs ⟨wr, HB.out⟩ 5 _ rfl
   have g6 := hcs ⟨wr, HB.out⟩ 6 _ rfl
   have g7 := hcs ⟨wr, HB.out⟩ 7 _ rfl
   have g8 := hcs ⟨wr, HB.out⟩ 8 _ rfl
   have g9 := hcs ⟨wr, HB.out⟩ 9 _ rfl
   have g10 := hcs ⟨wr, HB.out⟩ 10 _ rfl
   have g11 := hcs ⟨wr, HB.out⟩ 11 _ rfl
   have g12 := hcs ⟨wr, HB.out⟩ 12 _ rfl
   clear hcs
   clear hxe
   generalize l2.length = ll at *
   generalize ks2.length = kn at *
   generalize ns2.length = nn at *
   generalize az2.length = xn at *
   obtain ⟨W4, hW4⟩ : ∃ W4, wr.alloc (.cells #[.string vr2, .string ke2, .string lb2, .int .i64 op2, .string nm2, .int .i64 k2, .bool b92, .int .i64 i2, .string s2, .slice la2 ll lc2, .slice ka2 kn kc2, .slice na2 nn nc2, .slice xa2 xn xc2] 91) = W4 := ⟨_, rfl⟩
   have hb4 : Below wr.heap.size wr W4 := by rw [← hW4]; exact (Below.refl _ _).alloc (Nat.le_refl _) _
   have hx4 : Block W4 wr.heap.size [.string vr2, .string ke2, .string lb2, .int .i64 op2, .string nm2, .int .i64 k2, .bool b92, .int .i64 i2, .string s2, .slice la2 ll lc2, .slice ka2 kn kc2, .slice na2 nn nc2, .slice xa2 xn xc2] 91 := by rw [← hW4]; exact Block.new _ _ _
   have z0 := hx4.cell (i := 0) rfl
   have z1 := hx4.cell (i := 1) rfl
   have z2 := hx4.cell (i := 2) rfl
   have z3 := hx4.cell (i := 3) rfl
   have z4 := hx4.cell (i := 4) rfl
   have z5 := hx4.cell (i := 5) rfl
   have z6 := hx4.cell (i := 6) rfl
   have z7 := hx4.cell (i := 7) rfl
   have z8 := hx4.cell (i := 8) rfl
   have z9 := hx4.cell (i := 9) rfl
   have z10 := hx4.cell (i := 10) rfl
   have z11 := hx4.cell (i := 11) rfl
   have z12 := hx4.cell (i := 12) rfl
   rw [← hW4] at z0 z1 z2 z3 z4 z5 z6 z7 z8 z9 z10 z11 z12
   have HCL := Lib.hid (clo_si vr2 ke2 lb2 op2 nm2 k2 b92 i2 s2 la2 ll lc2 ka2 kn kc2 na2 nn nc2 xa2 xn xc2 kd cb W4 (HCB.out W4 (HB.out.trans (hb4.mono HB.out.size))))
   have HB4 := Lib.hid hb4
   have HW4 := Lib.hid hW4
   clear hb4 hx4 hW4
   go_wp2_with fail
   rw [HW4.out]
   refine HCL.out.mono ?_
   rintro e w2 ⟨rfl, hb2⟩
   have HB2 : Hid (Below w.heap.size w w2) := Lib.hid (HB.out.trans ((HB4.out.mono HB.out.size).trans (hb2.mono (Nat.le_trans HB.out.size HB4.out.size))))
   have HO2 : Hid (w2.ownsRow w.heap.size 105 1 u5 j vs) := Lib.hid (ownsRow_below HO.out (HB4.out.trans (hb2.mono HB4.out.size)))
   have hlv : vs.length = j := by have := HO.out.1; omega
   have hszw : w.heap.size ≤ w2.heap.size := HB2.out.size
   clear hb2
   go_wp2_with (at_builtin; refine wpList_append_own _ rfl _ _ 101 rfl w.heap.size 105 i0 .nilIface 1 16 Tryz.underlying101 I0.out I1.out I2.out I3.out rfl (by omega) u5 j vs rfl (HO2.out.alloc _) ⟨w2.heap.size, 0, none⟩ 1 1 [.iface 145 (.agg #[.string vr2, .string ke2, .string lb2, .int .i64 op2, .string nm2, .int .i64 k2, .bool b92, .int .i64 i2, .string s2, .slice la2 ll lc2, .slice ka2 kn kc2, .slice na2 nn nc2, .slice xa2 xn xc2, .bool (kd == 6)])] rfl rfl (World.news_of_block (cs := #[.iface 145 (.agg #[.string vr2, .string ke2, .string lb2, .int .i64 op2, .string nm2, .int .i64 k2, .bool b92, .int .i64 i2, .string s2, .slice la2 ll lc2, .slice ka2 kn kc2, .slice na2 nn nc2, .slice xa2 xn xc2, .bool (kd == 6)])]) (t := 105) (fr := (0, 0)) (heap_alloc_new _ _)) (by simp [Value.oneCell']) (by unfold maxLen; omega) (by omega) (by simp; omega) ?_)
   intro v1 w4 hown1 hgrow _
   have HO1 : Hid (w4.ownsRow w.heap.size 105 1 v1 (j + 1) (vs ++ [.iface 145 (.agg #[.string vr2, .string ke2, .string lb2, .int .i64 op2, .string nm2, .int .i64 k2, .bool b92, .int .i64 i2, .string s2, .slice la2 ll lc2, .slice ka2 kn kc2, .slice na2 nn nc2, .slice xa2 xn xc2, .bool (kd == 6)])])) := Lib.hid hown1
   have HBF : Hid (Below w.heap.size w w4) := Lib.hid (Below.grown (HB2.out.alloc (by omega) _) hgrow (by simp; omega) (fun k hk => (HO2.out.lt k hk).1))
   have HLV := Lib.hid hlv
   clear hown1 hgrow hlv
   go_wp2_with fail
   go_roundw
   case rel => exact ⟨j + 1, _, by go_num, HO1, by omega, Lib.hid (fun i y hi hy => (Nat.lt_or_ge i j).elim (fun h => by obtain ⟨v, h1, h2⟩ := HV.out i y h hy; exact ⟨v, by rw [List.getElem?_append_left (by have := HLV.out; omega)]; exact h1, h2⟩) (fun h => by rw [show i = j from by omega, HT2.out] at hy; rw [← Option.some.inj hy]; exact ⟨_, by rw [show i = j from by omega, List.getElem?_append_right (by have := HLV.out; omega), HLV.out]; simp, HP.out⟩)), HBF⟩
   case measure => simp [intOf]; omega
  ·have hlt' : ¬ (j : Int) < n := by omega
   have hjn : j = n := by omega
   obtain ⟨a, c, hpv, hs, hcell⟩ := own_cells HO.out
   have HPR : PartOwn B w.heap.size wr a (az.map (fun s => Part.si s (kd == 6))) := by
    exact Sq420623
   have HR : Hid (∃ a c, u5 = .slice a n c ∧ SlOk a n c ∧ PartOwn B w.heap.size wr a (az.map (fun s => Part.si s (kd == 6)))) := Lib.hid ⟨a, c, by rw [hpv, hjn], by rw [← hjn]; exact hs, HPR⟩
   clear HPR
   clear hpv hs hcell hjn
   go_wp2_with fail
   go_ret
   obtain ⟨a, c, h1, h2, h3⟩ := HR.out
   exact ⟨a, c, by rw [← h1]; rfl, h2, h3, HB.out⟩
def writesB (k : Int) : Bool := decide (4 ≤ k) && decide (k ≤ 8)
theorem pwrites_any (k : Int) (w : World) : Calls Tryz.prog 49 #[.int .i64 k] w fun e w' => e = .returned (.bool (writesB k)) ∧ w = w' := by
 unfold writesB
 by_cases h1 : 4 ≤ k
 ·rw [decide_eq_true h1]
  by_cases h2 : k ≤ 8
  ·rw [decide_eq_true h2]
   go_enter Tryz.func49, Tryz.ntmps49
   go_wp2_with fail
   go_ret
   exact ⟨by rfl, rfl⟩
  ·rw [decide_eq_false h2]
   go_enter Tryz.func49, Tryz.ntmps49
   go_wp2_with fail
   go_ret
   exact ⟨by rfl, rfl⟩
 ·rw [decide_eq_false h1]
  go_enter Tryz.func49, Tryz.ntmps49
  go_wp2_with fail
  go_ret
  exact ⟨by rfl, rfl⟩
def alikeB (a b : Clt) : Bool :=
  ((a.paths.length : Int) == b.paths.length) && (((a.whr.length : Int) == b.whr.length) && (((opX b.e != 0) || noneB a.e) && ((a.var.toList == b.var.toList) && (((a.items.length : Int) == b.items.length) && ((a.uniq == b.uniq) && (((a.order.length : Int) == b.order.length) && (((a.skip.length : Int) == b.skip.length) && (((a.limit.length : Int) == b.limit.length) && (((a.sets.length : Int) == b.sets.length) && (((a.vars.length : Int) == b.vars.length) && (a.detach == b.detach)))))))))))
theorem box_ext2 (w : World) (c1 c2 : List Value) (t1 t2 : TypeId) : ∃ (W0 : World) (u0 : Ext (w.heap.size + 2) W0), (w.alloc (.cells c1.toArray t1)).alloc (.cells c2.toArray t2) = W0 ∧ W0 = u0.w ∧ w.heap.size + 2 ≤ W0.heap.size ∧
    (∀ u : Ext (w.heap.size + 2) W0, Below w.heap.size w u.w) ∧ (∀ (u : Ext (w.heap.size + 2) W0) (i : Nat) v, c1[i]? = some v → u.w.cell? ⟨w.heap.size, i, none⟩ = some v) ∧ (∀ (u : Ext (w.heap.size + 2) W0) (i : Nat) v, c2[i]? = some v → u.w.cell? ⟨w.heap.size + 1, i, none⟩ = some v) := by
 obtain ⟨W1, hW1⟩ := nam (w.alloc (.cells c1.toArray t1))
 obtain ⟨W0, hW0⟩ := nam (W1.alloc (.cells c2.toArray t2))
 obtain ⟨u0, hu0⟩ := Ext.start (w.heap.size + 2) W0
 have hs1 : W1.heap.size = w.heap.size + 1 := by rw [← hW1]; simp
 have hb1 : Block W1 w.heap.size c1 t1 := by rw [← hW1]; exact Block.new w _ _
 have hb2 : Block W0 W1.heap.size c2 t2 := by rw [← hW0]; exact Block.new W1 _ _
 have hb1' : Block W0 w.heap.size c1 t1 := by rw [← hW0]; exact hb1.alloc _
 have hbb : Below w.heap.size w W0 := by rw [← hW0, ← hW1]; exact ((Below.refl _ _).alloc (Nat.le_refl _) _).alloc (by simp) _
 refine ⟨W0, u0, by rw [hW1, hW0], hu0, by rw [← hW0]; simp; omega, fun u => hbb.trans (u.below.mono (by omega)), fun u i v hv => u.cell (by show w.heap.size < _; omega) (hb1'.cell hv), fun u i v hv => u.cell (by show w.heap.size + 1 < _; omega) (by rw [← hs1]; exact hb2.cell hv)⟩
def AlikeSaid : Prop := ∀ (a c : Clt) (cs ds : List Value) (B : Nat) (w : World), IsCl B w cs a → IsCl B w ds c → B ≤ w.heap.size →
    Calls Tryz.prog 70 #[.agg cs.toArray, .agg ds.toArray] w fun e w' => e = .returned (.bool (alikeB a c)) ∧ Below w.heap.size w w'
end Go.Proofs.YteljlahcdipilaaGreat
